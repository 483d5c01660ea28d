/- What a new box, a store into a box, a new row and an append do to the relation. -/
import Derived.Test.YtchidkafcdmciaaGreatPvG
import Derived.ArgAppend
set_option linter.all false
namespace Go.Pv
open Go Go.RowKit

theorem cell_alloc {w : World} {o : Obj} {b i : Nat} (h : b < w.heap.size) : (w.alloc o).cell? ⟨b, i, none⟩ = w.cell? ⟨b, i, none⟩ := World.cell?_of_block (Below.heap_alloc w o b h)

def Env.withBox (ν : Env) (k : Key) (bl : Nat) : Env := { ν with bx := fun j => if j = k then some bl else ν.bx j }
def Env.withRow (ν : Env) (bl n : Nat) : Env := { ν with A := fun b o => ν.A b o ∨ (b = bl ∧ o < n) }
def Env.withOwn (ν : Env) (k : Key) (n : Nat) (v : Value) : Env := { ν with ow := fun j => if j = k then some (n, v) else ν.ow j }

theorem Rel.lookNone {C : Ctx} {st : St} {a : Act} {w : World} {ν : Env} (h : Rel C st a w ν) {k : Key} (hk : fresh st.n st.o k) : look k st.b = none ∧ look k st.e = none := by
  obtain ⟨h1, h2⟩ := h.new k hk
  constructor
  · cases hb : look k st.b with
    | none => rfl
    | some cs => obtain ⟨bl, us, el, g1, _⟩ := h.good.box _ _ hb; rw [h1] at g1; cases g1
  · cases hb : look k st.e with
    | none => rfl
    | some o => obtain ⟨v, us, g1, _⟩ := h.good.own _ _ hb; rw [h2] at g1; cases g1

theorem Good.ownLt {pr : Nat → Prop} {w : World} {ν : Env} {b : List (Key × List PV)} {e : List (Key × Own)} (h : Good pr w ν b e) {g : Key} {o : Own} (hg : look g e = some o) {n : Nat} {v : Value} (hv : ν.ow g = some (n, v)) {bl : Nat} (hb : v.ownBlock = some bl) : bl < w.heap.size := by
  obtain ⟨v', us, g1, g2, _⟩ := h.own g o hg
  rw [hv] at g1; cases g1
  exact (g2.lt bl hb).2
theorem Good.boxLt {pr : Nat → Prop} {w : World} {ν : Env} {b : List (Key × List PV)} {e : List (Key × Own)} (h : Good pr w ν b e) {k : Key} {cs : List PV} (hk : look k b = some cs) {bl : Nat} (hb : ν.bx k = some bl) : bl < w.heap.size := by
  obtain ⟨bl', us, el, g1, _, _, g4, _⟩ := h.box k cs hk
  rw [hb] at g1; cases g1
  exact (Array.getElem?_eq_some_iff.1 g4).1

/-- A new box. -/
theorem Rel.newBox {C : Ctx} {st : St} {a : Act} {w : World} {ν : Env} (h : Rel C st a w ν) {k0 : Key} (hk0 : ν.bx k0 = none ∧ ν.ow k0 = none) {n' : Nat} {o' : List Key} (hno : ∀ j, fresh n' o' j → fresh st.n st.o j ∧ j ≠ k0) {cs : List PV} {us : Array Value} (el : TypeId) (hc : repB w ν cs us.toList) :
    Rel C { st with b := upd k0 cs st.b, n := n', o := o' } a (w.alloc (objFrom cs us el)) (ν.withBox k0 w.heap.size) ∧
    rep (w.alloc (objFrom cs us el)) (ν.withBox k0 w.heap.size) (.ptr k0 0) (.pointer (some ⟨w.heap.size, 0, none⟩)) := by
  obtain ⟨hn1, hn2⟩ := hk0
  have ho : Over w ν (w.alloc (objFrom cs us el)) (ν.withBox k0 w.heap.size) := by
    refine ⟨fun b o hA => ⟨hA, cell_alloc (h.good.alt b o hA)⟩, fun k b _ hk => ?_, fun g n u _ hg => ⟨n, u, hg, .inl ⟨rfl, rfl⟩⟩⟩
    have : k ≠ k0 := fun e => by subst e; rw [hn1] at hk; cases hk
    simp [Env.withBox, this, hk]
  have hsz : (w.alloc (objFrom cs us el)).heap.size = w.heap.size + 1 := by simp
  have hbx : ∀ k, (look k (upd k0 cs st.b)).isSome → k = k0 ∨ (k ≠ k0 ∧ (look k st.b).isSome ∧ (ν.withBox k0 w.heap.size).bx k = ν.bx k) := by
    intro k hk
    by_cases e : k = k0
    · exact .inl e
    · rw [look_upd, if_neg (Ne.symm e)] at hk
      exact .inr ⟨e, hk, by simp [Env.withBox, e]⟩
  refine ⟨h.over ho rfl ⟨fun bl o hA => by rw [hsz]; have := h.good.alt bl o hA; omega, fun k ds hk => ?_, fun k k' bl hk hk' e1 e2 => ?_, fun g o hg => ?_, h.good.oinj, fun g k n v bl hg hk hv hb hx => ?_, fun k => ?_⟩
    ⟨h.fr.os, h.fr.tape, h.fr.output, by rw [hsz]; have := h.fr.size; omega, fun k hk hm => ?_, fun b o hA => ?_, h.fr.fresh, fun n b hb => ?_, h.fr.obn, h.fr.row, h.fr.obr⟩ (fun m hm => ?_), ?_⟩
  · simp only at hk
    rw [look_upd] at hk
    by_cases e : k0 = k
    · rw [if_pos e] at hk; cases hk
      subst e
      refine ⟨w.heap.size, us, el, by simp [Env.withBox], .inr h.fr.size, fun o hA => ?_, heap_alloc_new w _, repB_over ho hc⟩
      have := h.good.alt _ o hA; omega
    · rw [if_neg e] at hk
      obtain ⟨bl, us', el', g1, g2, g3, g4, g5⟩ := h.good.box k ds hk
      exact ⟨bl, us', el', ho.bx _ _ trivial g1, g2, g3, by rw [Below.heap_alloc w _ bl (Array.getElem?_eq_some_iff.1 g4).1]; exact g4, repB_over ho g5⟩
  · rcases hbx k hk with rfl | ⟨n1, n2, n3⟩ <;> rcases hbx k' hk' with rfl | ⟨m1, m2, m3⟩
    · rfl
    · exfalso
      simp only [Env.withBox, if_true, Option.some.injEq] at e1
      subst e1
      rw [m3] at e2
      obtain ⟨ds, hds⟩ := Option.isSome_iff_exists.1 m2
      have := h.good.boxLt hds e2; omega
    · exfalso
      simp only [Env.withBox, if_true, Option.some.injEq] at e2
      subst e2
      rw [n3] at e1
      obtain ⟨ds, hds⟩ := Option.isSome_iff_exists.1 n2
      have := h.good.boxLt hds e1; omega
    · rw [n3] at e1; rw [m3] at e2
      exact h.good.inj k k' bl n2 m2 e1 e2
  · obtain ⟨v, xs, g1, g2, g3, g4⟩ := h.good.own g o hg
    exact ⟨v, xs, g1, g2.alloc _, g3, rowC_over ho (fun _ _ _ h => h) g4⟩
  · rcases hbx k hk with rfl | ⟨n1, n2, n3⟩
    · simp only [Env.withBox, if_true, Option.some.injEq] at hx
      subst hx
      obtain ⟨o, ho'⟩ := Option.isSome_iff_exists.1 hg
      have := h.good.ownLt ho' hv hb; omega
    · rw [n3] at hx
      exact h.good.obx g k n v bl hg n2 hv hb hx
  · by_cases e : k = k0
    · subst e; exact .inr hn2
    · rcases h.good.one k with h1 | h1
      · exact .inl (by simp [Env.withBox, e, h1])
      · exact .inr h1
  · rw [Below.heap_alloc w _ k (by have := h.fr.size; omega)]; exact h.fr.block k hk hm
  · obtain ⟨k1, k2⟩ := h.fr.keep b o hA
    exact ⟨k1, (cell_alloc (h.good.alt b o k1)).trans k2⟩
  · exact ho.bx _ _ trivial (h.fr.obj n b hb)
  · obtain ⟨f1, f2⟩ := hno m hm
    obtain ⟨k1, k2⟩ := h.new m f1
    refine ⟨?_, k2⟩
    simp [Env.withBox, f2, k1]
  · simp [rep, Env.withBox]

/-- Something new in a box. -/
theorem Rel.setBox {C : Ctx} {st : St} {a : Act} {w w' : World} {ν : Env} (h : Rel C st a w ν) {k : Key} {cs cs' : List PV} (hk : look k st.b = some cs) {bl : Nat} (hb : ν.bx k = some bl) {us : Array Value} {el : TypeId}
    (hos : w'.os = w.os) (htape : w'.tape = w.tape) (hout : w'.output = w.output) (hoth : ∀ j, j ≠ bl → w'.heap[j]? = w.heap[j]?) (hsz : w'.heap.size = w.heap.size) (hnew : w'.heap[bl]? = some (objFrom cs' us el)) (hc : repB w ν cs' us.toList) :
    Rel C { st with b := upd k cs' st.b } a w' ν ∧ Over w ν w' ν := by
  obtain ⟨bl', us0, el0, g1, g2, g3, g4, g5⟩ := h.good.box k cs hk
  rw [hb] at g1; cases g1
  have ho : Over w ν w' ν := by
    refine ⟨fun b o hA => ⟨hA, World.cell?_of_block (hoth b fun e => ?_)⟩, fun _ _ _ h => h, fun g n u _ hg => ⟨n, u, hg, .inl ⟨rfl, rfl⟩⟩⟩
    subst e; exact g3 o hA
  have his : ∀ j, (look j (upd k cs' st.b)).isSome → (look j st.b).isSome := by
    intro j hj
    rw [look_upd] at hj
    by_cases e : k = j
    · subst e; simp [hk]
    · rwa [if_neg e] at hj
  refine ⟨h.over ho rfl ⟨fun b o hA => by rw [hsz]; exact h.good.alt b o hA, fun j ds hj => ?_, fun j j' b hj hj' => h.good.inj j j' b (his j hj) (his j' hj'), fun g o hg => ?_, h.good.oinj, fun g j n v b hg hj => h.good.obx g j n v b hg (his j hj), h.good.one⟩
    ⟨hos.trans h.fr.os, htape.trans h.fr.tape, hout.trans h.fr.output, by rw [hsz]; exact h.fr.size, fun j hj hm => ?_, fun b o hA => ?_, h.fr.fresh, h.fr.obj, h.fr.obn, h.fr.row, h.fr.obr⟩ h.new, ho⟩
  · simp only at hj
    rw [look_upd] at hj
    by_cases e : k = j
    · rw [if_pos e] at hj; cases hj
      subst e
      exact ⟨bl, us, el, hb, g2, g3, hnew, repB_over ho hc⟩
    · rw [if_neg e] at hj
      obtain ⟨b, us', el', e1, e2, e3, e4, e5⟩ := h.good.box j ds hj
      refine ⟨b, us', el', e1, e2, e3, ?_, repB_over ho e5⟩
      rw [hoth b fun e' => e (h.good.inj k j bl (by simp [hk]) (by simp [hj]) hb (by rw [← e']; exact e1))]
      exact e4
  · obtain ⟨v, xs, e1, e2, e3, e4⟩ := h.good.own g o hg
    refine ⟨v, xs, e1, ⟨e2.1, ?_⟩, e3, rowC_over ho (fun _ _ _ h => h) e4⟩
    rcases e2.2 with e2 | ⟨bb, cap, cur, f1, f2, f3, f4⟩
    · exact .inl e2
    · refine .inr ⟨bb, cap, cur, f1, f2, ?_, f4⟩
      rw [hoth bb fun e' => h.good.obx g k o.n v bl (by simp [hg]) (by simp [hk]) e1 (by rw [f1, ← e']; rfl) hb]
      exact f3
  · rw [hoth j fun e => by subst e; exact g2.elim hm (fun g2 => by omega)]
    exact h.fr.block j hj hm
  · obtain ⟨k1, k2⟩ := h.fr.keep b o hA
    exact ⟨k1, (ho.A b o k1).2.trans k2⟩

/-- A store into a box. -/
theorem Rel.storeBox {C : Ctx} {st : St} {a : Act} {w : World} {ν : Env} (h : Rel C st a w ν) {k : Key} {cs cs' : List PV} (hk : look k st.b = some cs) {bl : Nat} (hb : ν.bx k = some bl) (hp : plainB cs = true) {us : Array Value} (hc : repL w ν cs' us.toList) :
    Rel C { st with b := upd k cs' st.b } a (w.setRow bl us) ν := by
  obtain ⟨bl', us0, el, g1, g2, g3, g4, g5⟩ := h.good.box k cs hk
  rw [hb] at g1; cases g1
  rw [plain_obj hp] at g4
  have hp' := repL_plain hc
  exact (h.setBox (w' := w.setRow bl us) hk hb (us := us) (el := el) rfl rfl rfl (fun j hj => setRow_other w bl j us hj) (setRow_size w bl us) (by rw [plain_obj hp']; exact setRow_heap w bl us0 us el _ g4) (by rw [plain_repB hp']; exact hc)).1

end Go.Pv
