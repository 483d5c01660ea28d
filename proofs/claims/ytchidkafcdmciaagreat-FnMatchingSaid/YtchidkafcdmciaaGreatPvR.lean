/- Evaluation by rewriting: the equations by which code is run on an abstract state. -/
import Derived.Test.YtchidkafcdmciaaGreatPvQ
set_option linter.all false
namespace Go.Pv
open Go Go.RowKit

def sIc (st : St) (i : Ins) : Prop := match sI st i with | some (c, _) => c | none => False
def sIs (st : St) (i : Ins) : St := match sI st i with | some (_, s) => s | none => st
def Rest (P : Program) (r : List GI) (K : St → Prop) (st : St) : Prop := evG P r st K
def Then (P : Program) (ob : List Key) (c : C) (Q : Exit → St → Prop) (st : St) : Prop := evC P ob c Q st
/-- An instruction behind a test. -/
def evGd (P : Program) (v : PV) (s : Nat) (w : Bool) (i : RIns) (r : List GI) (st : St) (K : St → Prop) : Prop :=
  match v with
  | .bool b => (b = w → evG P (⟨none, i⟩ :: r) { st with t := put s (.bool w) st.t } K) ∧ (b = !w → evG P r { st with t := putO i.dst (.tuple []) (put s (.bool !w) st.t) } K)
  | .tuple [] => evG P r { st with t := putO i.dst (.tuple []) st.t } K
  | _ => False
def evCd (P : Program) (ob : List Key) (v : PV) (x : Opd) (t e : C) (Q : Exit → St → Prop) (st : St) : Prop :=
  match v with
  | .bool b => (b = true → evC P ob t Q (refineO st x true)) ∧ (b = false → evC P ob e Q (refineO st x false))
  | _ => False
def evF (P : Program) (v : PV) (d : Option Nat) (xs : List PV) (r : List GI) (st : St) (K : St → Prop) : Prop :=
  match v with
  | .func n caps => CallDo P n (stripL (xs ++ caps)) st d (Rest P r K)
  | _ => False

section
variable {P : Program} {ob : List Key} {st : St} {K : St → Prop} {r : List GI} {Q : Exit → St → Prop} {a b c t e : C}
theorem evG_nil : evG P [] st K = K st := rfl
theorem evG_s {i : Ins} : evG P (⟨none, .s i⟩ :: r) st K = (sIc st i ∧ evG P r (sIs st i) K) := by
  simp only [evG, ev1, sIc, sIs]
  cases sI st i with
  | none => simp
  | some x => rfl
theorem evG_call {d : Option Nat} {f : Opd} {xs : List Opd} : evG P (⟨none, .call d f xs⟩ :: r) st K = evF P (evalO st.t f) d (xs.map (evalO st.t)) r st K := by
  simp only [evG, ev1, evF]
  rfl
theorem evG_next {d : Nat} {x : Opd} : evG P (⟨none, .next d x⟩ :: r) st K = ev1n st d (evalO st.t x) (Rest P r K) := by
  simp only [evG, ev1]
  rfl
def Pub (P : Program) (ob : List Key) (c : C) (Q : Exit → St → Prop) : Option St → Prop
  | some st => evC P ob c Q st
  | none => False
theorem Pub_some : Pub P ob c Q (some st) = evC P ob c Q st := rfl
theorem evC_pub {s : Nat} : evC P ob (.pub s c) Q st = Pub P ob c Q (pubS st s) := by
  simp only [evC]
  cases pubS st s <;> rfl
theorem evC_pubB {s : Nat} : evC P ob (.pubB s c) Q st = Pub P ob c Q (pubBox st s) := by
  simp only [evC]
  cases pubBox st s <;> rfl
theorem evF_func {n : Nat} {caps : List PV} {d : Option Nat} {xs : List PV} : evF P (.func n caps) d xs r st K = CallDo P n (stripL (xs ++ caps)) st d (Rest P r K) := rfl
theorem evG_g {s : Nat} {w : Bool} {i : RIns} : evG P (⟨some (s, w), i⟩ :: r) st K = evGd P (get s st.t) s w i r st K := by
  simp only [evG, evGd]
  rfl
theorem put_same : ∀ (s : Nat) (l : List (Nat × PV)), get s l ≠ .junk → put s (get s l) l = l
  | s, [], h => by simp [get] at h
  | s, (i, p) :: r, h => by
    by_cases e : i = s
    · subst e; simp [get, put]
    · simp only [get, put, e, if_false] at h ⊢
      rw [put_same s r h]
theorem evGd_do {s : Nat} {b : Bool} {i : RIns} (hs : get s st.t = .bool b) : evGd P (.bool b) s b i r st K = evG P (⟨none, i⟩ :: r) st K := by
  have : put s (.bool b) st.t = st.t := by rw [← hs]; exact put_same s st.t (by rw [hs]; simp)
  simp only [evGd, this]
  cases b <;> simp
theorem evGd_tt {s : Nat} {i : RIns} : evGd P (.bool true) s true i r st K = evG P (⟨none, i⟩ :: r) { st with t := put s (.bool true) st.t } K := by simp [evGd]
theorem evGd_ff {s : Nat} {i : RIns} : evGd P (.bool false) s false i r st K = evG P (⟨none, i⟩ :: r) { st with t := put s (.bool false) st.t } K := by simp [evGd]
theorem evGd_tf {s : Nat} {i : RIns} : evGd P (.bool true) s false i r st K = evG P r { st with t := putO i.dst (.tuple []) (put s (.bool true) st.t) } K := by simp [evGd]
theorem evGd_ft {s : Nat} {i : RIns} : evGd P (.bool false) s true i r st K = evG P r { st with t := putO i.dst (.tuple []) (put s (.bool false) st.t) } K := by simp [evGd]
theorem evGd_no {s : Nat} {w : Bool} {i : RIns} : evGd P (.tuple []) s w i r st K = evG P r { st with t := putO i.dst (.tuple []) st.t } K := by simp [evGd]
theorem evGd_split {x : Bool} {s : Nat} {w : Bool} {i : RIns} (h1 : x = w → evG P (⟨none, i⟩ :: r) { st with t := put s (.bool w) st.t } K) (h2 : x = !w → evG P r { st with t := putO i.dst (.tuple []) (put s (.bool !w) st.t) } K) : evGd P (.bool x) s w i r st K := ⟨h1, h2⟩
theorem evC_assoc : evC P ob (.seq (.seq a b) c) Q st = evC P ob (.seq a (.seq b c)) Q st := by
  simp only [evC]
  congr 1
  funext e st'
  cases e <;> rfl
theorem evC_skip : evC P ob (.seq .skip c) Q st = evC P ob c Q st := rfl
theorem evC_ret : evC P ob (.seq .ret c) Q st = Q .ret st := rfl
theorem evC_exit {n : Nat} : evC P ob (.seq (.exit n) c) Q st = Q (.exit n) st := rfl
theorem evC_skip' : evC P ob .skip Q st = Q .normal st := rfl
theorem evC_ret' : evC P ob .ret Q st = Q .ret st := rfl
theorem evC_exit' {n : Nat} : evC P ob (.exit n) Q st = Q (.exit n) st := rfl
theorem evC_region {gs : List GI} : evC P ob (.seq (.region gs) c) Q st = evG P gs st (Then P ob c Q) := rfl
theorem evC_region' {gs : List GI} : evC P ob (.region gs) Q st = evG P gs st (Q .normal) := rfl
theorem evC_cond {x : Opd} : evC P ob (.seq (.cond x t e) c) Q st = evCd P ob (evalO st.t x) x (.seq t c) (.seq e c) Q st := by
  simp only [evC, evCd]
  rfl
theorem evC_cond' {x : Opd} : evC P ob (.cond x t e) Q st = evCd P ob (evalO st.t x) x t e Q st := by
  simp only [evC, evCd]
  rfl
theorem evCd_t {x : Opd} : evCd P ob (.bool true) x t e Q st = evC P ob t Q (refineO st x true) := by simp [evCd]
theorem evCd_f {x : Opd} : evCd P ob (.bool false) x t e Q st = evC P ob e Q (refineO st x false) := by simp [evCd]
theorem evCd_split {v : Bool} {x : Opd} (h1 : v = true → evC P ob t Q (refineO st x true)) (h2 : v = false → evC P ob e Q (refineO st x false)) : evCd P ob (.bool v) x t e Q st := ⟨h1, h2⟩
/-- A block, and what follows it. -/
def Bl (P : Program) (ob : List Key) (id : Nat) (c : C) (Q : Exit → St → Prop) (e : Exit) (st : St) : Prop :=
  match e with
  | .normal => evC P ob c Q st
  | .exit j => if j = id then evC P ob c Q st else Q (.exit j) st
  | e => Q e st
theorem evC_block {id : Nat} : evC P ob (.seq (.block id a) c) Q st = evC P ob a (Bl P ob id c Q) st := by
  simp only [evC]
  congr 1
  funext e st'
  cases e with
  | exit j => rfl
  | _ => rfl
theorem evC_block' {id : Nat} : evC P ob (.block id a) Q st = evC P ob a (Bl P ob id .skip Q) st := by
  simp only [evC]
  congr 1
  funext e st'
  cases e with
  | exit j =>
    simp only [Bl]
    by_cases hj : j = id <;> simp [hj, evC]
  | _ => rfl
theorem Bl_normal {id : Nat} : Bl P ob id c Q .normal st = Then P ob c Q st := rfl
theorem Bl_exit {id j : Nat} : Bl P ob id c Q (.exit j) st = if j = id then Then P ob c Q st else Q (.exit j) st := rfl
theorem Bl_ret {id : Nat} : Bl P ob id c Q .ret st = Q .ret st := rfl

/-- A loop: 'I k' is what is known at its head with at most k rounds to come. -/
def LoopQ (ob : List Key) (I : Nat → St → Prop) (k : Nat) (Q : Exit → St → Prop) (e : Exit) (st : St) : Prop :=
  match e with
  | .normal => ∃ k' s'', k' < k ∧ Weaker ob st s'' ∧ I k' s''
  | e => Q e st
theorem LoopQ_normal {I : Nat → St → Prop} {k : Nat} : LoopQ ob I k Q .normal st = ∃ k' s'', k' < k ∧ Weaker ob st s'' ∧ I k' s'' := rfl
theorem LoopQ_exit {I : Nat → St → Prop} {k n : Nat} : LoopQ ob I k Q (.exit n) st = Q (.exit n) st := rfl
theorem LoopQ_ret {I : Nat → St → Prop} {k : Nat} : LoopQ ob I k Q .ret st = Q .ret st := rfl
/-- The loop alone: its only way out is by an exit or a return. -/
theorem evC_loop (I : Nat → St → Prop) (m : Nat) (st0 : St) (hw : Weaker ob st st0) (h0 : I m st0) (h : ∀ k s, I k s → (∀ i, bndV (get i s.t)) → (∀ j cs, look j s.b = some cs → plainB cs = true → bndL cs) → evC P ob a (LoopQ ob I k Q) s) : evC P ob (.loop a) Q st := by
  simp only [evC]
  refine ⟨I, m, st0, hw, h0, fun k s h1 h2 h3 => ?_⟩
  have := h k s h1 h2 h3
  have hq : (LoopQ ob I k Q) = (fun e s' => match e with | .normal => ∃ k' s'', k' < k ∧ Weaker ob s' s'' ∧ I k' s'' | e => Q e s') := by
    funext e s'
    cases e <;> rfl
  rw [hq] at this
  exact this
end

/- Regions that draw their order. -/
def sDc (n0 : Nat) (st : St) (i : Ins) : Prop := match sIk (dKey n0 i) st.n (dKey n0 i :: st.o) st i with | some (c, _) => c | none => False
def sDs (n0 : Nat) (st : St) (i : Ins) : St := match sIk (dKey n0 i) st.n (dKey n0 i :: st.o) st i with | some (_, s) => s | none => st
def RestD (P : Program) (q : Bool) (nw : List Nat) (n0 : Nat) (r : List GI) (K : St → Prop) (st : St) : Prop := evD P q nw n0 r st K
def evDd (P : Program) (q : Bool) (nw : List Nat) (n0 : Nat) (v : PV) (s : Nat) (w : Bool) (i : RIns) (r : List GI) (st : St) (K : St → Prop) : Prop :=
  match v with
  | .bool b => (b = w → evD P q nw n0 (⟨none, i⟩ :: r) { st with t := put s (.bool w) st.t } K) ∧ (b = !w → evD P q nw n0 r { st with t := putO i.dst (.tuple []) (put s (.bool !w) st.t) } K)
  | .tuple [] => evD P q nw n0 r { st with t := putO i.dst (.tuple []) st.t } K
  | _ => False
def evDF (P : Program) (q : Bool) (nw : List Nat) (n0 : Nat) (v : PV) (d : Option Nat) (xs : List PV) (r : List GI) (st : St) (K : St → Prop) : Prop :=
  match v with
  | .func n caps => CallD P q nw n (stripL (xs ++ caps)) st d (RestD P q nw n0 r K)
  | _ => False
section
variable {P : Program} {ob : List Key} {st : St} {K : St → Prop} {r : List GI} {Q : Exit → St → Prop} {c : C} {q : Bool} {nw : List Nat} {n0 N : Nat}
theorem evD_nil : evD P q nw n0 [] st K = K st := rfl
theorem evD_s {i : Ins} : evD P q nw n0 (⟨none, .s i⟩ :: r) st K = (dCond q n0 st i ∧ sDc n0 st i ∧ evD P q nw n0 r (sDs n0 st i) K) := by
  simp only [evD, ev1d, sDc, sDs]
  cases sIk (dKey n0 i) st.n (dKey n0 i :: st.o) st i with
  | none => simp
  | some x => rfl
theorem evD_call {d : Option Nat} {f : Opd} {xs : List Opd} : evD P q nw n0 (⟨none, .call d f xs⟩ :: r) st K = evDF P q nw n0 (evalO st.t f) d (xs.map (evalO st.t)) r st K := by
  simp only [evD, ev1d, evDF]
  rfl
theorem evDF_func {n : Nat} {caps : List PV} {d : Option Nat} {xs : List PV} : evDF P q nw n0 (.func n caps) d xs r st K = CallD P q nw n (stripL (xs ++ caps)) st d (RestD P q nw n0 r K) := rfl
theorem evD_g {s : Nat} {w : Bool} {i : RIns} : evD P q nw n0 (⟨some (s, w), i⟩ :: r) st K = evDd P q nw n0 (get s st.t) s w i r st K := by
  simp only [evD, evDd]
  rfl
theorem evDd_tt {s : Nat} {i : RIns} : evDd P q nw n0 (.bool true) s true i r st K = evD P q nw n0 (⟨none, i⟩ :: r) { st with t := put s (.bool true) st.t } K := by simp [evDd]
theorem evDd_ff {s : Nat} {i : RIns} : evDd P q nw n0 (.bool false) s false i r st K = evD P q nw n0 (⟨none, i⟩ :: r) { st with t := put s (.bool false) st.t } K := by simp [evDd]
theorem evDd_tf {s : Nat} {i : RIns} : evDd P q nw n0 (.bool true) s false i r st K = evD P q nw n0 r { st with t := putO i.dst (.tuple []) (put s (.bool true) st.t) } K := by simp [evDd]
theorem evDd_ft {s : Nat} {i : RIns} : evDd P q nw n0 (.bool false) s true i r st K = evD P q nw n0 r { st with t := putO i.dst (.tuple []) (put s (.bool false) st.t) } K := by simp [evDd]
theorem evDd_no {s : Nat} {w : Bool} {i : RIns} : evDd P q nw n0 (.tuple []) s w i r st K = evD P q nw n0 r { st with t := putO i.dst (.tuple []) st.t } K := by simp [evDd]
theorem evDd_split {x : Bool} {s : Nat} {w : Bool} {i : RIns} (h1 : x = w → evD P q nw n0 (⟨none, i⟩ :: r) { st with t := put s (.bool w) st.t } K) (h2 : x = !w → evD P q nw n0 r { st with t := putO i.dst (.tuple []) (put s (.bool !w) st.t) } K) : evDd P q nw n0 (.bool x) s w i r st K := ⟨h1, h2⟩
theorem evC_drawn {gs : List GI} : evC P ob (.seq (.drawn q N gs) c) Q st = evD P q [] st.n gs st (DEnd (st.n + N) st.o (Then P ob c Q)) := rfl
theorem evC_drawn' {gs : List GI} : evC P ob (.drawn q N gs) Q st = evD P q [] st.n gs st (DEnd (st.n + N) st.o (Q .normal)) := rfl
theorem evC_drawnW {gs : List GI} : evC P ob (.seq (.drawnW nw N gs) c) Q st = ((∀ j ∈ nw, .obj j ∉ st.o) ∧ evD P false nw st.n gs st (DEnd (st.n + N) (nw.map Key.obj ++ st.o) (Then P ob c Q))) := rfl
theorem evC_drawnW' {gs : List GI} : evC P ob (.drawnW nw N gs) Q st = ((∀ j ∈ nw, .obj j ∉ st.o) ∧ evD P false nw st.n gs st (DEnd (st.n + N) (nw.map Key.obj ++ st.o) (Q .normal))) := rfl
/-- A call of a function of values in a drawn region. -/
theorem CallD.val {n : Nat} {args : List PV} {d : Option Nat} {r : PV} (hk : kinL (fun _ => False) args) (hf : FnV P n args r) (h : K { st with t := putO d r st.t }) : CallD P q nw n args st d K := by
  refine ⟨⟨[], []⟩, ⟨[], []⟩, r, none, fun k cs hk => by simp [look] at hk, fun k cs hk => by simp [look] at hk, objOnly_nil, objOnly_nil, ⟨fun k h => .inl h, fun k h => .inl h, fun k h => h, fun k h => h, fun k h => by cases h⟩, kinL_mono (fun _ h => h.elim) _ hk, hf, fun _ => ⟨rfl, rfl⟩, ?_⟩
  have : ({ after st ⟨[], []⟩ ⟨[], []⟩ d r with o := st.o } : St) = { st with t := putO d r st.t } := by
    simp [after, without_nil]
  rw [this]; exact h
end

section
variable {k : IntKind} {n : Int} {b : Bool} {s : List UInt8} {sz : Nat} {tag : Tag} {xs : List PV} {key : Key} {off f : Nat} {x : PV}
@[simp] theorem solid_int : solid (.int k n) = true := rfl
@[simp] theorem solid_bool : solid (.bool b) = true := rfl
@[simp] theorem solid_str : solid (.str s) = true := rfl
@[simp] theorem solid_slice : solid (.slice sz tag xs) = true := rfl
@[simp] theorem solid_agg : solid (.agg xs) = true := rfl
@[simp] theorem solid_ptr : solid (.ptr key off) = true := rfl
@[simp] theorem solid_eptr : solid (.eptr x) = true := rfl
@[simp] theorem solid_iface {t : Nat} : solid (.iface t x) = true := rfl
@[simp] theorem cells_iface {t : Nat} : cells (.iface t x) = [.iface t x] := rfl
@[simp] theorem solid_nilp : solid .nilp = true := rfl
@[simp] theorem solid_func : solid (.func f xs) = true := rfl
@[simp] theorem solid_gmap : solid (.gmap key) = true := rfl
@[simp] theorem solid_row {n : Nat} : solid (.row sz key n) = true := rfl
@[simp] theorem cells_row {n : Nat} : cells (.row sz key n) = [.row sz key n] := rfl
@[simp] theorem cells_int : cells (.int k n) = [.int k n] := rfl
@[simp] theorem cells_bool : cells (.bool b) = [.bool b] := rfl
@[simp] theorem cells_str : cells (.str s) = [.str s] := rfl
@[simp] theorem cells_slice : cells (.slice sz tag xs) = [.slice sz tag xs] := rfl
@[simp] theorem cells_agg : cells (.agg xs) = xs := rfl
@[simp] theorem cells_ptr : cells (.ptr key off) = [.ptr key off] := rfl
@[simp] theorem cells_eptr : cells (.eptr x) = [.eptr x] := rfl
@[simp] theorem cells_nilp : cells .nilp = [.nilp] := rfl
@[simp] theorem cells_func : cells (.func f xs) = [.func f xs] := rfl
@[simp] theorem cells_gmap : cells (.gmap key) = [.gmap key] := rfl
end
section
variable {b : List (Key × List PV)} {e : List (Key × Own)} {agg : Bool} {sz off : Nat} {k : Key} {p : PV} {cs xs vs : List PV} {ik : IntKind} {n i : Int} {m j : Nat} {tag : Tag} {s : List UInt8} {bo : Bool} {lo hi : Option PV}
@[simp] theorem loadV_rptr {sz' : Nat} {f : Nat} : loadV b e agg sz (.rptr sz' k m j f) = rowGet agg sz sz' m j f (look k e) := rfl
@[simp] theorem loadV_ptr : loadV b e agg sz (.ptr k off) = (match look k b with
    | some cs => if agg then some (plainB cs = true ∧ off + sz ≤ cs.length, .agg ((cs.drop off).take sz)) else (cs[off]?).map fun p => (plainB cs = true, p)
    | none => none) := rfl
@[simp] theorem loadV_eptr : loadV b e agg sz (.eptr p) = if agg then some (isAgg sz p, p) else some (solid p = true ∧ cells p = [p], p) := rfl
@[simp] theorem faddrV_ptr {o : Nat} : faddrV off agg sz (.ptr k o) = some (True, .ptr k (o + off)) := rfl
@[simp] theorem faddrV_rptr {sz' f : Nat} : faddrV off agg sz (.rptr sz' k m j f) = some (True, .rptr sz' k m j (f + off)) := rfl
@[simp] theorem faddrV_agg : faddrV off agg sz (.eptr (.agg cs)) = if agg then some (off + sz ≤ cs.length, .eptr (.agg ((cs.drop off).take sz))) else (cs[off]?).map fun p => (solid p = true ∧ cells p = [p], .eptr p) := rfl
@[simp] theorem fldV_agg : fldV off agg sz (.agg cs) = if agg then some (off + sz ≤ cs.length, .agg ((cs.drop off).take sz)) else (cs[off]?).map fun p => (True, p) := rfl
@[simp] theorem iaddrV_slice {sz' : Nat} : iaddrV sz (.slice sz' tag xs) (.int ik i) = if sz' = sz then some (0 ≤ i ∧ i < xs.length, .eptr (xs.getD i.toNat .junk)) else none := rfl
@[simp] theorem iaddrV_row {sz' : Nat} : iaddrV sz (.row sz' k m) (.int ik i) = if sz' = sz then some (0 ≤ i ∧ i < m, .rptr sz' k m i.toNat 0) else none := rfl
@[simp] theorem lenV_slice {sz' : Nat} : lenV (.slice sz' tag xs) = some (True, .int .i64 xs.length) := rfl
@[simp] theorem lenV_row {sz' : Nat} : lenV (.row sz' k m) = some (True, .int .i64 m) := rfl
@[simp] theorem slenV_str : slenV (.str s) = some (True, .int .i64 s.length) := rfl
@[simp] theorem extV_tuple : extV j (.tuple vs) = (vs[j]?).map fun p => (True, p) := rfl
@[simp] theorem nckV_ptr : nckV (.ptr k off) = some (True, .ptr k off) := rfl
@[simp] theorem nckV_eptr : nckV (.eptr p) = some (True, .eptr p) := rfl
@[simp] theorem nckV_func : nckV (.func j cs) = some (True, .func j cs) := rfl
@[simp] theorem notV_bool : notV (.bool bo) = some (True, .bool (!bo)) := rfl
@[simp] theorem sidxV_str : sidxV (.str s) (.int ik i) = some (0 ≤ i ∧ i < s.length, .int .u8 (s.getD i.toNat 0).toNat) := rfl
@[simp] theorem sslV_str : sslV (.str s) lo hi = (match optI 0 lo, optI s.length hi with
    | some l, some h => some (0 ≤ l ∧ l ≤ h ∧ h ≤ s.length, .str ((s.take h.toNat).drop l.toNat))
    | _, _ => none) := rfl
@[simp] theorem lslV_slice {sz' : Nat} : lslV sz (.slice sz' tag xs) lo hi = (if sz' = sz then match optI 0 lo, optI xs.length hi with
    | some l, some h => some (0 ≤ l ∧ l ≤ h ∧ h ≤ xs.length, .slice sz .no ((xs.take h.toNat).drop l.toNat))
    | _, _ => none else none) := rfl
theorem mgetV_map {f : Key → Option (List PV)} {ks : Bool} {z q : PV} {ok : Bool} : mgetV f ks z ok (.gmap k) q = (match f k with
    | some (.hdm _ _ :: kvs) => match mfind ks q kvs with
      | some (some v) => some (True, if ok then .tuple [v, .bool true] else v)
      | some none => some (True, if ok then .tuple [z, .bool false] else z)
      | none => none
    | _ => none) := rfl
theorem mlenV_map {f : Key → Option (List PV)} : mlenV f (.gmap k) = (match f k with
    | some (.hdm _ borns :: _) => some (True, .int .i64 borns.length)
    | _ => none) := rfl
theorem mentV_ptr {f : Key → Option (List PV)} : mentV f (.ptr k 0) = (match f k with
    | some [.hdi _ seen last, .gmap mk] => match f mk with
      | some (.hdm clock borns :: kvs) => match seen.getLast? with
        | some n => (mat n borns kvs).map fun p => (clock = last, p)
        | none => none
      | _ => none
    | _ => none) := rfl
@[simp] theorem rowGet_some {sz' f n' el sz'' : Nat} : rowGet agg sz sz' m j f (some ⟨n', el, sz'', some xs⟩) = (if n' = m ∧ sz'' = sz' then
      (match xs[j]? with
       | some p => if agg then some (solid p = true ∧ f + sz ≤ (cells p).length, .agg (((cells p).drop f).take sz)) else ((cells p)[f]?).map fun q => (solid p = true, q)
       | none => none) else none) := rfl
end
attribute [simp] evC_assoc evC_region evC_block evC_cond evC_skip evC_ret evC_exit evC_skip' evC_ret' evC_exit' evC_region' evC_block' evC_cond' Then Bl_normal Bl_exit Bl_ret LoopQ_exit LoopQ_ret evG_nil evG_s evG_call evF_func evG_g
  evGd_tt evGd_ff evGd_tf evGd_ft evGd_no evCd_t evCd_f sIc sIs sI vI slots evalO get put newKey keyFree nextN nextO upd        optI binV intV strV splice buildV pickV  negV    convV  minV
  look putO Ins.dst RIns.dst refineO Rest allSz stripL strip kin kinL
  evC_drawn evC_drawn' evC_drawnW evC_drawnW' evD_nil evD_s evD_call evDF_func evD_g evDd_tt evDd_ff evDd_tf evDd_ft evDd_no sDc sDs sIk dKey dCond freeAt VIns.loadO DEnd RestD isLocP plainB         appmV evG_next evC_pub evC_pubB Pub_some pubS pubRow pubBox   storeR rowPut  beqV maxV

end Go.Pv
