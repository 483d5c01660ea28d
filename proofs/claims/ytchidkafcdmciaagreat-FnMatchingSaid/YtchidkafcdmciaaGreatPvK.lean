/- The instructions of straight-line code but calls: abstract evaluation and soundness. -/
import Derived.Test.YtchidkafcdmciaaGreatPvJ
set_option linter.all false
namespace Go.Pv
open Go Go.RowKit

inductive Ins where
  | v (d : Nat) (i : VIns)
  | box (d : Nat) (key : Option Nat) (x : Opd)
  | alloc (d : Nat) (key : Option Nat) (zero : PV)
  | store (sz : Nat) (x y : Opd)
  | bsl (d : Nat) (sz el : Nat) (xs : List Opd)
  | app (d : Nat) (sz el : Nat) (x y : Opd)
  | bslm (d : Nat) (key : Option Nat) (sz el : Nat) (xs : List Opd)
  | appm (d : Nat) (key : Option Nat) (sz el : Nat) (x y : Opd)
  | mkmap (d : Nat) (key : Option Nat)
  | mput (ks : Bool) (x k v : Opd)
  | range (d : Nat) (key : Option Nat) (x : Opd)

/-- The name of a new box: the frame's next one, or an object's that the text has chosen. -/
def newKey (st : St) : Option Nat → Key
  | none => .loc st.n
  | some m => .obj m
def keyFree (st : St) : Option Nat → Prop
  | none => .loc st.n ∉ st.o
  | some m => .obj m ∉ st.o
def nextN (st : St) : Option Nat → Nat
  | none => st.n + 1
  | some _ => st.n
def nextO (st : St) : Option Nat → List Key
  | none => st.o
  | some m => .obj m :: st.o
theorem newKey_fresh {st : St} {key : Option Nat} (h : keyFree st key) : fresh st.n st.o (newKey st key) := by
  cases key <;> simp [newKey, fresh, keyFree] at h ⊢ <;> exact h
theorem next_fresh {st : St} {key : Option Nat} : ∀ j, fresh (nextN st key) (nextO st key) j → fresh st.n st.o j ∧ j ≠ newKey st key := by
  intro j hj
  cases key <;> cases j <;> simp [fresh, nextN, nextO, newKey] at hj ⊢
  · exact ⟨⟨by omega, hj.2⟩, by omega⟩
  · exact hj
  · exact hj
  · exact ⟨hj.2, hj.1⟩

def allSz (sz : Nat) : List PV → Prop
  | [] => True
  | p :: ps => (solid p = true ∧ (cells p).length = sz) ∧ allSz sz ps

def mputV (ks : Bool) (k v : PV) : List PV → Option (List PV)
  | .hdm clock borns :: kvs => match mset ks k v kvs with
    | some (some kvs') => some (.hdm clock borns :: kvs')
    | some none => some (.hdm (clock + 1) (borns ++ [clock]) :: (kvs ++ [k, v]))
    | none => none
  | _ => none
def rangeV (m : Key) : List PV → Option (List PV)
  | .hdm clock _ :: _ => some [.hdi clock [] clock, .gmap m]
  | _ => none
/-- append to a row that no one else knows (or to nothing). -/
def appmV (st : St) (sz el : Nat) (x y : PV) : Option ((Option (Key × List PV)) × List PV) :=
  match x, y with
  | .slice sz' .nil _, .slice sz'' _ ys => if sz' = sz ∧ sz'' = sz then some (none, ys) else none
  | .row sz' k n, .slice sz'' _ ys => if sz' = sz ∧ sz'' = sz then
      match look k st.e with
      | some ⟨n', el', sz3, some xs⟩ => if n' = n ∧ el' = el ∧ sz3 = sz then some (some (k, xs), ys) else none
      | _ => none
    else none
  | _, _ => none
/-- A part of an element that is set. -/
def rowPut : PV → Nat → List PV → PV
  | .agg ds, f, cs => .agg (splice ds f cs)
  | _, _, [q] => q
  | _, _, _ => .junk
/-- A store into a row that no one else knows. -/
def storeR (st : St) (sz : Nat) (p v : PV) : Option (Prop × St) :=
  match p with
  | .rptr sz' k n i f => match look k st.e with
    | some ⟨n', el, sz'', some xs⟩ => if n' = n ∧ sz'' = sz' then
        match xs[i]? with
        | some q => some (solid q = true ∧ solid v = true ∧ (cells v).length = sz ∧ f + sz ≤ (cells q).length ∧ 0 < sz, { st with e := upd k ⟨n', el, sz'', some (xs.set i (rowPut q f (cells v)))⟩ st.e })
        | none => none
      else none
    | _ => none
  | _ => none
def sI (st : St) : Ins → Option (Prop × St)
  | .bslm d key sz el xs => some (keyFree st key ∧ allSz sz (xs.map (evalO st.t)),
      { t := put d (.row sz (newKey st key) xs.length) st.t, b := st.b, e := upd (newKey st key) ⟨xs.length, el, sz, some (xs.map (evalO st.t))⟩ st.e, n := nextN st key, o := nextO st key })
  | .appm d key sz el x y => match appmV st sz el (evalO st.t x) (evalO st.t y) with
    | some (none, ys) => some (keyFree st key ∧ ys.length ≤ lim ∧ ys ≠ [],
        { t := put d (.row sz (newKey st key) ys.length) st.t, b := st.b, e := upd (newKey st key) ⟨ys.length, el, sz, some ys⟩ st.e, n := nextN st key, o := nextO st key })
    | some (some (k, xs), ys) => some (xs.length + ys.length ≤ lim, { st with t := put d (.row sz k (xs.length + ys.length)) st.t, e := upd k ⟨xs.length + ys.length, el, sz, some (xs ++ ys)⟩ st.e })
    | none => none
  | .mkmap d key => some (keyFree st key, { t := put d (.gmap (newKey st key)) st.t, b := upd (newKey st key) [.hdm 0 []] st.b, e := st.e, n := nextN st key, o := nextO st key })
  | .mput ks x k v => match evalO st.t x with
    | .gmap m => match look m st.b with
      | some cs => match mputV ks (evalO st.t k) (evalO st.t v) cs with
        | some cs' => some (True, { st with b := upd m cs' st.b })
        | none => none
      | none => none
    | _ => none
  | .range d key x => match evalO st.t x with
    | .gmap m => match look m st.b with
      | some cs => match rangeV m cs with
        | some cs' => some (keyFree st key, { t := put d (.ptr (newKey st key) 0) st.t, b := upd (newKey st key) cs' st.b, e := st.e, n := nextN st key, o := nextO st key })
        | none => none
      | none => none
    | _ => none
  | .v d i => match vI st i with
    | some (c, p) => some (c, { st with t := put d p st.t })
    | none => none
  | .box d key x => some (keyFree st key ∧ solid (evalO st.t x) = true,
      { t := put d (.ptr (newKey st key) 0) st.t, b := upd (newKey st key) (cells (evalO st.t x)) st.b, e := st.e, n := nextN st key, o := nextO st key })
  | .alloc d key z => some (keyFree st key, { t := put d (.ptr (newKey st key) 0) st.t, b := upd (newKey st key) (cells z) st.b, e := st.e, n := nextN st key, o := nextO st key })
  | .store sz x y => match evalO st.t x with
    | .ptr k off => match look k st.b with
      | some cs => some (plainB cs = true ∧ solid (evalO st.t y) = true ∧ (cells (evalO st.t y)).length = sz ∧ off + sz ≤ cs.length, { st with b := upd k (splice cs off (cells (evalO st.t y))) st.b })
      | none => none
    | p => storeR st sz p (evalO st.t y)
  | .bsl d sz el xs => some (keyFree st none ∧ allSz sz (xs.map (evalO st.t)),
      { st with t := put d (.slice sz (.own (.loc st.n)) (xs.map (evalO st.t))) st.t, e := upd (.loc st.n) ⟨xs.length, el, sz, none⟩ st.e, n := st.n + 1 })
  | .app d sz el x y => match evalO st.t x, evalO st.t y with
    | .slice sz' tag xs, .slice sz'' _ ys => if sz' = sz ∧ sz'' = sz then
        match tag with
        | .own k => match look k st.e with
          | some o => some (o.n = xs.length ∧ o.el = el ∧ o.sz = sz ∧ xs.length + ys.length ≤ lim,
              { st with t := put d (.slice sz (.own k) (xs ++ ys)) st.t, e := upd k ⟨xs.length + ys.length, el, sz, none⟩ st.e })
          | none => none
        | .nil => some (keyFree st none ∧ ys.length ≤ lim, { st with t := put d (.slice sz (.own (.loc st.n)) ys) st.t, e := upd (.loc st.n) ⟨ys.length, el, sz, none⟩ st.e, n := st.n + 1 })
        | .no => none
      else none
    | _, _ => none

/-- The same with a name κ for what is new, and what is free behind it. -/
def sIk (κ : Key) (n' : Nat) (o' : List Key) (st : St) : Ins → Option (Prop × St)
  | .bslm d _ sz el xs => some (allSz sz (xs.map (evalO st.t)),
      { t := put d (.row sz κ xs.length) st.t, b := st.b, e := upd κ ⟨xs.length, el, sz, some (xs.map (evalO st.t))⟩ st.e, n := n', o := o' })
  | .appm d _ sz el x y => match appmV st sz el (evalO st.t x) (evalO st.t y) with
    | some (none, ys) => some (ys.length ≤ lim ∧ ys ≠ [],
        { t := put d (.row sz κ ys.length) st.t, b := st.b, e := upd κ ⟨ys.length, el, sz, some ys⟩ st.e, n := n', o := o' })
    | some (some (k, xs), ys) => some (xs.length + ys.length ≤ lim, { st with t := put d (.row sz k (xs.length + ys.length)) st.t, e := upd k ⟨xs.length + ys.length, el, sz, some (xs ++ ys)⟩ st.e })
    | none => none
  | .mkmap d _ => some (True, { t := put d (.gmap κ) st.t, b := upd κ [.hdm 0 []] st.b, e := st.e, n := n', o := o' })
  | .mput ks x k v => match evalO st.t x with
    | .gmap m => match look m st.b with
      | some cs => match mputV ks (evalO st.t k) (evalO st.t v) cs with
        | some cs' => some (True, { st with b := upd m cs' st.b })
        | none => none
      | none => none
    | _ => none
  | .range d _ x => match evalO st.t x with
    | .gmap m => match look m st.b with
      | some cs => match rangeV m cs with
        | some cs' => some (True, { t := put d (.ptr κ 0) st.t, b := upd κ cs' st.b, e := st.e, n := n', o := o' })
        | none => none
      | none => none
    | _ => none
  | .v d i => match vI st i with
    | some (c, p) => some (c, { st with t := put d p st.t })
    | none => none
  | .box d _ x => some (solid (evalO st.t x) = true, { t := put d (.ptr κ 0) st.t, b := upd κ (cells (evalO st.t x)) st.b, e := st.e, n := n', o := o' })
  | .alloc d _ z => some (True, { t := put d (.ptr κ 0) st.t, b := upd κ (cells z) st.b, e := st.e, n := n', o := o' })
  | .store sz x y => match evalO st.t x with
    | .ptr k off => match look k st.b with
      | some cs => some (plainB cs = true ∧ solid (evalO st.t y) = true ∧ (cells (evalO st.t y)).length = sz ∧ off + sz ≤ cs.length, { st with b := upd k (splice cs off (cells (evalO st.t y))) st.b })
      | none => none
    | p => storeR st sz p (evalO st.t y)
  | .bsl d sz el xs => some (allSz sz (xs.map (evalO st.t)),
      { st with t := put d (.slice sz (.own κ) (xs.map (evalO st.t))) st.t, e := upd κ ⟨xs.length, el, sz, none⟩ st.e, n := n', o := o' })
  | .app d sz el x y => match evalO st.t x, evalO st.t y with
    | .slice sz' tag xs, .slice sz'' _ ys => if sz' = sz ∧ sz'' = sz then
        match tag with
        | .own k => match look k st.e with
          | some o => some (o.n = xs.length ∧ o.el = el ∧ o.sz = sz ∧ xs.length + ys.length ≤ lim,
              { st with t := put d (.slice sz (.own k) (xs ++ ys)) st.t, e := upd k ⟨xs.length + ys.length, el, sz, none⟩ st.e })
          | none => none
        | .nil => some (ys.length ≤ lim, { st with t := put d (.slice sz (.own κ) ys) st.t, e := upd κ ⟨ys.length, el, sz, none⟩ st.e, n := n', o := o' })
        | .no => none
      else none
    | _, _ => none

def opsOk : Nat → List Opd → List (Nat × Operand) → Bool
  | _, [], [] => true
  | i, x :: xs, (j, o) :: os => i == j && opOk x o && opsOk (i + 1) xs os
  | _, _, _ => false

def sOk (N : Nat) (tys : List (Nat × TF)) (i : Ins) (o : Oper) : Bool :=
  match i, o.op with
  | .mkmap d _, .makeMap _ none => o.dst == some d && decide (d < N)
  | .mput ks x k v, .mapUpdate t o1 o2 o3 => o.dst == none && (match tf tys t with | some ⟨_, _, .map kt _, _⟩ => keyTy tys ks kt | _ => false) && opOk x o1 && opOk k o2 && opOk v o3
  | .mput ks x k v, .insert t o1 o2 o3 => o.dst == none && (match tf tys t with | some ⟨_, _, .map kt _, _⟩ => keyTy tys ks kt | _ => false) && opOk x o1 && opOk k o2 && opOk v o3
  | .range d _ x, .range t o1 => o.dst == some d && decide (d < N) && (match tf tys t with | some ⟨_, _, .map _ _, _⟩ => true | _ => false) && opOk x o1
  | .v d i, op => o.dst == some d && decide (d < N) && vOk tys i op
  | .box d _ x, .box _ o' => o.dst == some d && decide (d < N) && opOk x o'
  | .alloc d _ z, .alloc el => o.dst == some d && decide (d < N) && (match tf tys el with | some f => zeroEq z f.zero | none => false)
  | .store sz x y, .store t o' o'' => o.dst == none && (match tf tys t with | some f => f.size == sz | none => false) && opOk x o' && opOk y o''
  | .bsl d sz el xs, .buildSlice t len parts => o.dst == some d && decide (d < N) && (match tf tys t with | some ⟨_, _, .slice el', _⟩ => el == el' | _ => false) && (match tf tys el with | some f => f.size == sz && decide (0 < sz) | none => false)
      && len == xs.length && decide (len * sz ≤ 16777216) && opsOk 0 xs parts.toList
  | .app d sz el x y, .call ⟨.builtin .append, ⟨[o', o'']⟩, ⟨[t, t']⟩⟩ => o.dst == some d && decide (d < N) && t == t' && (match tf tys t with | some ⟨_, _, .slice el', _⟩ => el == el' | _ => false)
      && (match tf tys el with | some f => f.size == sz && decide (0 < sz) && decide (f.bytes ≤ 2048) | none => false) && opOk x o' && opOk y o''
  | .bslm d _ sz el xs, .buildSlice t len parts => o.dst == some d && decide (d < N) && (match tf tys t with | some ⟨_, _, .slice el', _⟩ => el == el' | _ => false) && (match tf tys el with | some f => f.size == sz && decide (0 < sz) | none => false)
      && len == xs.length && decide (len * sz ≤ 16777216) && opsOk 0 xs parts.toList
  | .appm d _ sz el x y, .call ⟨.builtin .append, ⟨[o', o'']⟩, ⟨[t, t']⟩⟩ => o.dst == some d && decide (d < N) && t == t' && (match tf tys t with | some ⟨_, _, .slice el', _⟩ => el == el' | _ => false)
      && (match tf tys el with | some f => f.size == sz && decide (0 < sz) && decide (f.bytes ≤ 2048) | none => false) && opOk x o' && opOk y o''
  | _, _ => false

theorem run_fillS {w : World} {ν : Env} {C : Ctx} {st : St} {a : Act} (hr : Rel C st a w ν) {sz : Nat} :
    ∀ (xs : List Opd) (i : Nat) (os : List (Nat × Operand)) (pre : List PV) (us : Array Value) (vs : List Value), opsOk i xs os = true → allSz sz (xs.map (evalO st.t)) → us.toList.take (i * sz) = vs → repC w ν sz pre vs → i = pre.length → us.size = (i + xs.length) * sz →
    ∃ us' : Array Value, Instr.fill (fun i => some (i * sz, sz)) us (os.map fun (x : Nat × Operand) => (x.1, a.eval x.2)) = some us' ∧ repC w ν sz (pre ++ xs.map (evalO st.t)) us'.toList ∧ us'.size = us.size
  | [], i, [], pre, us, vs, _, _, hv, h, hi, hs => by
    refine ⟨us, by simp [Instr.fill], ?_, rfl⟩
    have hl := repC_length h
    have : us.toList.take (i * sz) = us.toList := List.take_of_length_le (by simp at hs ⊢; omega)
    rw [this] at hv
    simpa [hv] using h
  | [], _, _ :: _, _, _, _, hok, _, _, _, _, _ => by simp [opsOk] at hok
  | _ :: _, _, [], _, _, _, hok, _, _, _, _, _ => by simp [opsOk] at hok
  | x :: xs, i, (j, o) :: os, pre, us, vs, hok, ha, hv, h, hi, hs => by
    simp only [opsOk, Bool.and_eq_true, beq_iff_eq] at hok
    obtain ⟨⟨rfl, h1⟩, h2⟩ := hok
    simp only [List.map_cons, allSz] at ha
    obtain ⟨⟨hsol, hlen⟩, ha⟩ := ha
    have hx := opOk_rep hr h1
    have hcx := rep_cells hx hsol
    have hcl := repL_length hcx
    have hcs : (a.eval o).cells.size = sz := by rw [hlen] at hcl; simpa using hcl
    have hmul : i * sz + sz ≤ us.size := by
      rw [hs, List.length_cons, show i + (xs.length + 1) = (i + 1) + xs.length from by omega, Nat.add_mul, Nat.succ_mul]; omega
    have hsp := fill_splice (w := w) (ν := ν) (a.eval o).cells.toList 0 (i * sz) us (by simp [hcs]; omega)
    have hstep : repC w ν sz (pre ++ [evalO st.t x]) (vs ++ (a.eval o).cells.toList) := by
      refine repC_append h ?_
      simp only [repC]
      exact ⟨a.eval o, [], by simp, ⟨hx, hcs, repL_one hcx⟩, rfl⟩
    have hvl : vs.length = i * sz := by rw [← hv]; simp; omega
    obtain ⟨us', g1, g2, g3⟩ := run_fillS hr xs (i + 1) os (pre ++ [evalO st.t x]) (((a.eval o).cells.toList.zipIdx 0).foldl (fun cs (x : Value × Nat) => cs.setIfInBounds (i * sz + x.2) x.1) us) (vs ++ (a.eval o).cells.toList) h2 ha
      (by
        rw [hsp]
        simp only [Nat.add_zero]
        rw [hv]
        have : (vs ++ (a.eval o).cells.toList).length = (i + 1) * sz := by rw [List.length_append, hvl, Nat.succ_mul]; simp [hcs]
        rw [← this, List.take_append_of_le_length (Nat.le_refl _), List.take_length]) hstep (by simp [hi])
      (by
        have h0 := congrArg List.length hsp
        simp only [Array.length_toList, List.length_append, List.length_take, List.length_drop, hcs] at h0
        rw [h0, hs, List.length_cons, show i + (xs.length + 1) = i + 1 + xs.length from by omega]
        rw [hs, List.length_cons, show i + (xs.length + 1) = i + 1 + xs.length from by omega] at hmul
        omega)
    refine ⟨us', ?_, by simpa using g2, ?_⟩
    · simp only [List.map_cons, Instr.fill]
      rw [if_neg (by simp [hcs]; omega), ← g1]
      congr 1
      rw [← Array.foldl_toList]
      simp
    · rw [g3]
      have h0 := congrArg List.length hsp
      simp only [Array.length_toList, List.length_append, List.length_take, List.length_drop, hcs] at h0
      rw [h0]; omega

end Go.Pv
