/- Soundness of the instructions that compute a value. -/
import Derived.Test.YtchidkafcdmciaaGreatPvD
set_option linter.all false
namespace Go.Pv
open Go Go.RowKit

theorem eqGuard_int (P : Program) (w : World) (op : BinOp) (t : TypeId) (x y : Operand) (k k' : IntKind) (m n : Int) : (eqGuard op t x y (.int k m) (.int k' n)).run P w = .ok () w := by
  cases op <;> rfl
theorem eqGuard_str (P : Program) (w : World) (op : BinOp) (t : TypeId) (x y : Operand) (m n : ByteArray) : (eqGuard op t x y (.string m) (.string n)).run P w = .ok () w := by
  cases op <;> rfl
theorem toList_mk (l : List UInt8) : (⟨l.toArray⟩ : ByteArray).toList = l := by simp
theorem append_mk (a b : List UInt8) : (⟨a.toArray⟩ : ByteArray) ++ (⟨b.toArray⟩ : ByteArray) = ⟨(a ++ b).toArray⟩ := by
  apply ByteArray.ext; simp
theorem extract_mk (a : List UInt8) (l h : Nat) : (⟨a.toArray⟩ : ByteArray).extract l h = ⟨((a.take h).drop l).toArray⟩ := by
  apply ByteArray.ext; simp [List.drop_take]
theorem size_mk (a : List UInt8) : (⟨a.toArray⟩ : ByteArray).size = a.length := by simp [ByteArray.size]

section
variable {P : Program} {w : World} {r : Sem Value}
theorem givesInt {k : IntKind} {x : Int} (h : r.run P w = .ok (.int k x) w) : ∃ v, r.run P w = .ok v w ∧ ∀ ν, rep w ν (.int k x) v := ⟨_, h, fun ν => by simp [rep]⟩
theorem givesBool {x : Bool} (h : r.run P w = .ok (.bool x) w) : ∃ v, r.run P w = .ok v w ∧ ∀ ν, rep w ν (.bool x) v := ⟨_, h, fun ν => by simp [rep]⟩
end

theorem intV_sound (P : Program) (w : World) {op : BinOp} {wr : Bool} {k : IntKind} {a b : Int} {c : Prop} {p : PV} (he : intV op wr k a b = some (c, p)) (hc : c) (t : TypeId) :
    ∃ v, (binOp op t (.int k a) (.int k b)).run P w = .ok v w ∧ ∀ ν, rep w ν p v := by
  cases op <;> simp only [intV] at he
  case add =>
    cases wr <;> simp only [if_true, Bool.false_eq_true, if_false] at he <;> cases he
    · obtain ⟨rfl, h⟩ := hc
      exact givesInt (by simp [binOp, Op.intArith, IntWalk.i64_in _ h])
    · exact givesInt (by simp [binOp, Op.intArith])
  case sub =>
    cases wr <;> simp only [if_true, Bool.false_eq_true, if_false] at he <;> cases he
    · obtain ⟨rfl, h⟩ := hc
      exact givesInt (by simp [binOp, Op.intArith, IntWalk.i64_in _ h])
    · exact givesInt (by simp [binOp, Op.intArith])
  case mul =>
    cases wr <;> simp only [if_true, Bool.false_eq_true, if_false] at he <;> cases he
    · obtain ⟨rfl, h⟩ := hc
      exact givesInt (by simp [binOp, Op.intArith, IntWalk.i64_in _ h])
    · exact givesInt (by simp [binOp, Op.intArith])
  case quo => cases he; exact givesInt (by simp [binOp, Op.intDiv, hc])
  case rem => cases he; exact givesInt (by simp [binOp, Op.intDiv, hc])
  case and => cases he; exact givesInt (by simp only [binOp, Op.intBits, ne_eq, not_true_eq_false, if_false, Sem.run_pure])
  case or => cases he; exact givesInt (by simp only [binOp, Op.intBits, ne_eq, not_true_eq_false, if_false, Sem.run_pure])
  case xor => cases he; exact givesInt (by simp only [binOp, Op.intBits, ne_eq, not_true_eq_false, if_false, Sem.run_pure])
  all_goals cases he
  all_goals exact givesBool (by simp only [binOp, Op.intCmp, ne_eq, not_true_eq_false, if_false, Sem.run_pure, gt_iff_lt, ge_iff_le])

theorem strV_sound (P : Program) (w : World) {op : BinOp} {a b : List UInt8} {c : Prop} {p : PV} (he : strV op a b = some (c, p)) (hc : c) (t : TypeId) :
    ∃ v, (binOp op t (.string ⟨a.toArray⟩) (.string ⟨b.toArray⟩)).run P w = .ok v w ∧ ∀ ν, rep w ν p v := by
  cases op <;> simp only [strV] at he
  case add =>
    cases he
    refine ⟨.string ⟨(a ++ b).toArray⟩, ?_, fun ν => by simp only [rep]; exact ⟨trivial, by simpa using hc⟩⟩
    have h1 : ¬ (((⟨a.toArray⟩ : ByteArray).size + (⟨b.toArray⟩ : ByteArray).size : Nat) : Int) > IntKind.i64.max := by
      have : IntKind.i64.max = 9223372036854775807 := by decide
      rw [this, size_mk, size_mk]
      simp only [lim] at hc
      omega
    simp only [binOp, Op.stringOp, h1, if_false, Sem.run_pure, append_mk]
  all_goals cases he
  all_goals exact givesBool (by simp only [binOp, Op.stringOp, toList_mk, Sem.run_pure])

theorem binV_sound (P : Program) (w : World) (ν : Env) {op : BinOp} {wr : Bool} {x y : PV} {c : Prop} {p : PV} (he : binV op wr x y = some (c, p)) (hc : c) (t : TypeId) {u v : Value} (hu : rep w ν x u) (hv : rep w ν y v) (o o' : Operand) :
    ∃ r, (do eqGuard op t o o' u v; binOp op t u v).run P w = .ok r w ∧ rep w ν p r := by
  unfold binV at he
  split at he
  · rename_i k a k' b
    simp only [rep] at hu hv
    subst hu; subst hv
    split at he
    · cases he
      refine ⟨_, ?_, by simp [rep]; rfl⟩
      simp [binOp, Op.shift, eqGuard_int, Int.not_lt.2 hc]
    · cases he
      refine ⟨_, ?_, by simp [rep]; rfl⟩
      simp [binOp, Op.shift, eqGuard_int, Int.not_lt.2 hc]
    · split at he
      · rename_i hk
        subst hk
        obtain ⟨r, h1, h2⟩ := intV_sound P w he hc t
        exact ⟨r, by simp [eqGuard_int, h1], h2 ν⟩
      · cases he
  · simp only [rep] at hu hv
    rw [hu.1, hv.1]
    obtain ⟨r, h1, h2⟩ := strV_sound P w he hc t
    exact ⟨r, by simp [eqGuard_str, h1], h2 ν⟩
  · cases he

theorem fill_splice {w : World} {ν : Env} : ∀ (v : List Value) (i off : Nat) (cs : Array Value), off + i + v.length ≤ cs.size →
    ((v.zipIdx i).foldl (fun cs (x : Value × Nat) => cs.setIfInBounds (off + x.2) x.1) cs).toList = cs.toList.take (off + i) ++ v ++ cs.toList.drop (off + i + v.length)
  | [], i, off, cs, _ => by simp
  | u :: v, i, off, cs, h => by
    simp only [List.zipIdx_cons, List.foldl_cons]
    rw [fill_splice (w := w) (ν := ν) v (i + 1) off _ (by simp at h ⊢; omega)]
    have hlt : off + i < cs.toList.length := by simp at h ⊢; omega
    simp only [Array.toList_setIfInBounds]
    have e1 : (cs.toList.set (off + i) u).take (off + (i + 1)) = cs.toList.take (off + i) ++ [u] := by
      rw [show off + (i + 1) = (off + i) + 1 from by omega, List.take_succ_eq_append_getElem (by simpa using hlt)]
      simp [List.take_set_of_le (Nat.le_refl _)]
    have e2 : (cs.toList.set (off + i) u).drop (off + (i + 1) + v.length) = cs.toList.drop (off + i + (u :: v).length) := by
      rw [List.drop_set_of_lt (by omega)]
      congr 1
      simp; omega
    rw [e1, e2]
    simp

theorem run_fill {w : World} {ν : Env} {C : Ctx} {st : St} {a : Act} (hr : Rel C st a w ν) {tys : List (Nat × TF)} {fs : List (Nat × Nat)} {places : List (Nat × Nat)}
    (hp : ∀ (i off t sz : Nat), fs[i]? = some (off, t) → (tf tys t).map (·.size) = some sz → places[i]? = some (off, sz)) :
    ∀ (parts : List (Nat × Nat × Opd)) (ps : List (Nat × Operand)) (cs : List PV) (us : Array Value) (c : Prop) (cs' : List PV), partsOk tys fs parts ps = true → repL w ν cs us.toList → buildV st.t cs parts = some (c, cs') → c →
    ∃ us' : Array Value, Instr.fill (places.toArray[·]?) us (ps.map fun (x : Nat × Operand) => (x.1, a.eval x.2)) = some us' ∧ repL w ν cs' us'.toList
  | [], [], cs, us, c, cs', _, h, he, hc => by
    simp only [buildV] at he
    cases he
    exact ⟨us, by simp [Instr.fill], h⟩
  | [], _ :: _, _, _, _, _, hok, _, _, _ => by simp [partsOk] at hok
  | _ :: _, [], _, _, _, _, hok, _, _, _ => by simp [partsOk] at hok
  | (off, sz, x) :: parts, (i, o) :: ps, cs, us, c, cs', hok, h, he, hc => by
    simp only [partsOk, Bool.and_eq_true] at hok
    obtain ⟨⟨h1, h2⟩, h3⟩ := hok
    split at h1
    · rename_i off' t hfi
      simp only [Bool.and_eq_true, beq_iff_eq] at h1
      obtain ⟨rfl, h1⟩ := h1
      have hpl := hp i off t sz hfi h1
      simp only [buildV] at he
      split at he
      · rename_i c' cs'' hb
        cases he
        obtain ⟨⟨hs, hl, hle⟩, hc'⟩ := hc
        have hx := opOk_rep hr h2
        have hcx := rep_cells hx hs
        have hlen := repL_length hcx
        have hul := repL_length h
        have hvs : (a.eval o).cells.size = sz := by
          have : (a.eval o).cells.toList.length = (cells (evalO st.t x)).length := hlen
          rw [hl] at this; simpa using this
        have hus : us.size = cs.length := by simpa using hul
        have hsp := fill_splice (w := w) (ν := ν) (a.eval o).cells.toList 0 off us (by simp [hvs, hus]; omega)
        have hrep : repL w ν (splice cs off (cells (evalO st.t x))) ((((a.eval o).cells.toList.zipIdx 0).foldl (fun cs (x : Value × Nat) => cs.setIfInBounds (off + x.2) x.1) us).toList) := by
          rw [hsp]
          unfold splice
          refine repL_append (repL_append (repL_take off h) hcx) ?_
          rw [Nat.add_zero, hlen]
          exact repL_drop _ h
        obtain ⟨us', g1, g2⟩ := run_fill hr hp parts ps _ _ c' cs' h3 hrep hb hc'
        refine ⟨us', ?_, g2⟩
        simp only [List.map_cons, Instr.fill, List.getElem?_toArray, hpl]
        rw [if_neg (by simp [hvs, hus]; omega)]
        rw [← g1]
        simp only [List.getElem?_toArray]
        congr 1
        rw [← Array.foldl_toList]
        simp
      · cases he
    · cases h1

end Go.Pv
