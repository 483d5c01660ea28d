/- Regions that draw their order, I: abstract states as functions, effects, and what an instruction does to them. -/
import Derived.Test.YtchidkafcdmciaaGreatPvO
set_option linter.all false
namespace Go.Pv
open Go Go.RowKit

/-- An abstract state as functions. 'F': the names that are free. -/
structure AS where
  t : Nat → PV
  b : Key → Option (List PV)
  e : Key → Option Own
  F : Key → Prop

/-- What an instruction does: a slot, boxes and rows written, a name taken. -/
structure Ef where
  d : Option Nat
  p : PV
  bw : List (Key × List PV)
  ew : List (Key × Own)
  rm : Option Key

def fsets {α : Type} (l : List (Key × α)) (f : Key → Option α) : Key → Option α := fun k => match look k l with | some x => some x | none => f k
def AS.do (A : AS) (x : Ef) : AS :=
  { t := fun i => if x.d = some i then x.p else A.t i, b := fsets x.bw A.b, e := fsets x.ew A.e, F := fun k => A.F k ∧ x.rm ≠ some k }

/-- Two effects that touch nothing in common. -/
structure Ef.apart (x y : Ef) : Prop where
  d : ∀ i, x.d = some i → y.d ≠ some i
  b : ∀ k, (look k x.bw).isSome → look k y.bw = none
  e : ∀ k, (look k x.ew).isSome → look k y.ew = none

theorem AS.do_comm (A : AS) {x y : Ef} (h : x.apart y) : (A.do x).do y = (A.do y).do x := by
  simp only [AS.do, AS.mk.injEq]
  refine ⟨?_, ?_, ?_, ?_⟩
  · funext i
    by_cases h1 : x.d = some i
    · have := h.d i h1; simp [h1, this]
    · simp [h1]
  · funext k
    simp only [fsets]
    cases hx : look k x.bw with
    | none => cases look k y.bw <;> rfl
    | some u => rw [h.b k (by simp [hx])]
  · funext k
    simp only [fsets]
    cases hx : look k x.ew with
    | none => cases look k y.ew <;> rfl
    | some u => rw [h.e k (by simp [hx])]
  · funext k
    exact propext ⟨fun h => ⟨⟨h.1.1, h.2⟩, h.1.2⟩, fun h => ⟨⟨h.1.1, h.2⟩, h.1.2⟩⟩

def evalF (t : Nat → PV) : Opd → PV
  | .t i => t i
  | .c p => p
def loadF (b : Key → Option (List PV)) (e : Key → Option Own) (agg : Bool) (sz : Nat) : PV → Option (Prop × PV)
  | .rptr sz' k n i f => rowGet agg sz sz' n i f (e k)
  | .ptr k off =>
    match b k with
    | some cs => if agg then some (plainB cs = true ∧ off + sz ≤ cs.length, .agg ((cs.drop off).take sz)) else (cs[off]?).map fun p => (plainB cs = true, p)
    | none => none
  | .eptr p => if agg then some (isAgg sz p, p) else some (solid p = true ∧ cells p = [p], p)
  | _ => none
def buildF (t : Nat → PV) : List PV → List (Nat × Nat × Opd) → Option (Prop × List PV)
  | cs, [] => some (True, cs)
  | cs, (off, sz, x) :: r =>
    match buildF t (splice cs off (cells (evalF t x))) r with
    | some (c, cs') => some ((solid (evalF t x) = true ∧ (cells (evalF t x)).length = sz ∧ off + sz ≤ cs.length) ∧ c, cs')
    | none => none
def vIF (t : Nat → PV) (b : Key → Option (List PV)) (e : Key → Option Own) : VIns → Option (Prop × PV)
  | .mov x => some (True, evalF t x)
  | .pick c x y => pickV (evalF t c) (evalF t x) (evalF t y)
  | .load agg sz x => loadF b e agg sz (evalF t x)
  | .faddr off agg sz x => faddrV off agg sz (evalF t x)
  | .fld off agg sz x => fldV off agg sz (evalF t x)
  | .iaddr sz x i => iaddrV sz (evalF t x) (evalF t i)
  | .sidx x i => sidxV (evalF t x) (evalF t i)
  | .ssl x lo hi => sslV (evalF t x) (lo.map (evalF t)) (hi.map (evalF t))
  | .lsl sz x lo hi => lslV sz (evalF t x) (lo.map (evalF t)) (hi.map (evalF t))
  | .bin op wr x y => binV op wr (evalF t x) (evalF t y)
  | .notB x => notV (evalF t x)
  | .neg x => negV (evalF t x)
  | .conv k x => convV k (evalF t x)
  | .ext i x => extV i (evalF t x)
  | .len x => lenV (evalF t x)
  | .slen x => slenV (evalF t x)
  | .build zero parts => (buildF t zero parts).map fun (c, cs) => (c, .agg cs)
  | .nck x => nckV (evalF t x)
  | .min2 x y => minV (evalF t x) (evalF t y)
  | .mkf n xs => some (True, .func n (xs.map (evalF t)))
  | .mget ks zero ok x k => mgetV b ks zero ok (evalF t x) (evalF t k)
  | .ment x => mentV b (evalF t x)
  | .mlen x => mlenV b (evalF t x)
  | .beq neg x y => beqV neg (evalF t x) (evalF t y)
  | .max2 x y => maxV (evalF t x) (evalF t y)
  | .mkif n x => some (True, .iface n (evalF t x))

/-- The state as functions. -/
structure Like (st : St) (A : AS) : Prop where
  t : ∀ i, get i st.t = A.t i
  b : ∀ k, look k st.b = A.b k
  e : ∀ k, look k st.e = A.e k

theorem evalF_eq {st : St} {A : AS} (h : Like st A) (x : Opd) : evalO st.t x = evalF A.t x := by
  cases x
  · exact h.t _
  · rfl
theorem evalF_fun {st : St} {A : AS} (h : Like st A) : evalO st.t = evalF A.t := funext (evalF_eq h)
theorem loadF_eq {st : St} {A : AS} (h : Like st A) (agg : Bool) (sz : Nat) (p : PV) : loadV st.b st.e agg sz p = loadF A.b A.e agg sz p := by
  cases p <;> simp only [loadV, loadF]
  · rw [h.b]
    rfl
  · rw [h.e]
theorem buildF_eq {st : St} {A : AS} (h : Like st A) : ∀ (parts : List (Nat × Nat × Opd)) (cs : List PV), buildV st.t cs parts = buildF A.t cs parts
  | [], cs => rfl
  | (off, sz, x) :: r, cs => by
    simp only [buildV, buildF, evalF_eq h, buildF_eq h r]
    rfl
theorem vIF_eq {st : St} {A : AS} (h : Like st A) (i : VIns) : vI st i = vIF A.t A.b A.e i := by
  have hb : (fun k => look k st.b) = A.b := funext h.b
  cases i <;> simp only [vI, vIF, evalF_fun h, loadF_eq h, buildF_eq h, hb]

/-- The slots that an instruction looks at. -/
def opdS : Opd → List Nat
  | .t i => [i]
  | .c _ => []
def optS : Option Opd → List Nat
  | some x => opdS x
  | none => []
def VIns.looks : VIns → List Nat
  | .mov x | .load _ _ x | .faddr _ _ _ x | .fld _ _ _ x | .notB x | .neg x | .conv _ x | .ext _ x | .len x | .slen x | .nck x | .ment x | .mlen x | .mkif _ x => opdS x
  | .pick c x y => opdS c ++ opdS x ++ opdS y
  | .iaddr _ x i | .sidx x i => opdS x ++ opdS i
  | .ssl x lo hi | .lsl _ x lo hi => opdS x ++ optS lo ++ optS hi
  | .bin _ _ x y | .min2 x y | .max2 x y | .beq _ x y => opdS x ++ opdS y
  | .build _ ps => ps.flatMap fun p => opdS p.2.2
  | .mkf _ xs => xs.flatMap opdS
  | .mget _ _ _ x k => opdS x ++ opdS k
def Ins.looks : Ins → List Nat
  | .v _ i => i.looks
  | .box _ _ x => opdS x
  | .alloc _ _ _ => []
  | .store _ x y => opdS x ++ opdS y
  | .bsl _ _ _ xs => xs.flatMap opdS
  | .app _ _ _ x y => opdS x ++ opdS y
  | .bslm _ _ _ _ xs => xs.flatMap opdS
  | .appm _ _ _ _ x y => opdS x ++ opdS y
  | .mkmap _ _ => []
  | .mput _ x k y => opdS x ++ opdS k ++ opdS y
  | .range _ _ x => opdS x
def RIns.looks : RIns → List Nat
  | .s i => i.looks
  | .call _ f xs => opdS f ++ xs.flatMap opdS
  | .next _ x => opdS x
def GI.looks (g : GI) : List Nat := (match g.g with | some (s, _) => [s] | none => []) ++ g.i.looks

def agree (l : List Nat) (t t' : Nat → PV) : Prop := ∀ i ∈ l, t i = t' i
theorem evalF_agree {t t' : Nat → PV} {x : Opd} (h : agree (opdS x) t t') : evalF t x = evalF t' x := by
  cases x
  · exact h _ (by simp [opdS])
  · rfl
theorem agree_app {l l' : List Nat} {t t' : Nat → PV} (h : agree (l ++ l') t t') : agree l t t' ∧ agree l' t t' :=
  ⟨fun i hi => h i (by simp [hi]), fun i hi => h i (by simp [hi])⟩
theorem evalF_opt {t t' : Nat → PV} {x : Option Opd} (h : agree (optS x) t t') : x.map (evalF t) = x.map (evalF t') := by
  cases x
  · rfl
  · simp [evalF_agree h]
theorem buildF_agree {t t' : Nat → PV} : ∀ {parts : List (Nat × Nat × Opd)} {cs : List PV}, agree (parts.flatMap fun p => opdS p.2.2) t t' → buildF t cs parts = buildF t' cs parts
  | [], cs, _ => rfl
  | (off, sz, x) :: r, cs, h => by
    simp only [List.flatMap_cons] at h
    obtain ⟨h1, h2⟩ := agree_app h
    simp only [buildF, evalF_agree h1, buildF_agree h2]
theorem map_agree {t t' : Nat → PV} : ∀ {xs : List Opd}, agree (xs.flatMap opdS) t t' → xs.map (evalF t) = xs.map (evalF t')
  | [], _ => rfl
  | x :: xs, h => by
    simp only [List.flatMap_cons] at h
    obtain ⟨h1, h2⟩ := agree_app h
    simp [evalF_agree h1, map_agree h2]
def VIns.isLoad : VIns → Bool
  | .load _ _ _ => true
  | .mget _ _ _ _ _ => true
  | .ment _ => true
  | .mlen _ => true
  | _ => false
theorem vIF_agree {t t' : Nat → PV} {b b' : Key → Option (List PV)} {e e' : Key → Option Own} {i : VIns} (h : agree i.looks t t') (hb : i.isLoad = false) : vIF t b e i = vIF t' b' e' i := by
  cases i <;> simp only [VIns.looks] at h <;> simp only [vIF]
  case load agg sz x => simp [VIns.isLoad] at hb
  case pick c x y =>
    obtain ⟨h1, h3⟩ := agree_app h; obtain ⟨h1, h2⟩ := agree_app h1
    rw [evalF_agree h1, evalF_agree h2, evalF_agree h3]
  case iaddr => obtain ⟨h1, h2⟩ := agree_app h; rw [evalF_agree h1, evalF_agree h2]
  case sidx => obtain ⟨h1, h2⟩ := agree_app h; rw [evalF_agree h1, evalF_agree h2]
  case ssl => obtain ⟨h1, h3⟩ := agree_app h; obtain ⟨h1, h2⟩ := agree_app h1; rw [evalF_agree h1, evalF_opt h2, evalF_opt h3]
  case lsl => obtain ⟨h1, h3⟩ := agree_app h; obtain ⟨h1, h2⟩ := agree_app h1; rw [evalF_agree h1, evalF_opt h2, evalF_opt h3]
  case bin => obtain ⟨h1, h2⟩ := agree_app h; rw [evalF_agree h1, evalF_agree h2]
  case min2 => obtain ⟨h1, h2⟩ := agree_app h; rw [evalF_agree h1, evalF_agree h2]
  case build => rw [buildF_agree h]
  case mkf => rw [map_agree h]
  case mget => simp [VIns.isLoad] at hb
  case ment => simp [VIns.isLoad] at hb
  case mlen => simp [VIns.isLoad] at hb
  case max2 => obtain ⟨h1, h2⟩ := agree_app h; rw [evalF_agree h1, evalF_agree h2]
  case beq => obtain ⟨h1, h2⟩ := agree_app h; rw [evalF_agree h1, evalF_agree h2]
  all_goals rw [evalF_agree h]

end Go.Pv
