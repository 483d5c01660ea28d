/- Rows of the call's own: a new one, and one that is appended to in place. -/
import Derived.Test.YtchidkafcdmciaaGreatPvH
set_option linter.all false
namespace Go.Pv
open Go Go.RowKit

def Env.withRowOf (ν : Env) (k : Key) (v : Value) (n cells : Nat) : Env :=
  { A := fun b o => ν.A b o ∨ (v.ownBlock = some b ∧ o < cells), bx := ν.bx, ow := fun j => if j = k then some (n, v) else ν.ow j }

theorem laid_of {w : World} {A : Nat → Nat → Prop} {b : Nat} : ∀ (us : List Value) (off : Nat), (∀ j u, us[j]? = some u → A b (off + j) ∧ w.cell? ⟨b, off + j, none⟩ = some u) → laid w A b off us
  | [], _, _ => trivial
  | u :: us, off, h => ⟨h 0 u rfl, laid_of us (off + 1) fun j x hj => by have := h (j + 1) x (by simpa using hj); rwa [show off + (j + 1) = off + 1 + j from by omega] at this⟩

theorem cell_grown {w w' : World} (hg : w.grownBy w' none) {b i : Nat} (h : b < w.heap.size) : w'.cell? ⟨b, i, none⟩ = w.cell? ⟨b, i, none⟩ := World.cell?_of_block (hg.block b h (by simp))

/-- A new row that no one else knows, for a name that is new or whose row was shorter. -/
theorem Rel.newRowM {C : Ctx} {st : St} {a : Act} {w w' : World} {ν : Env} (h : Rel C st a w ν) {k : Key} {xs : List PV} (hk : (ν.bx k = none ∧ ν.ow k = none) ∨ ∃ o, look k st.e = some o ∧ o.n < xs.length) {el sz : Nat} {v : Value} {us : List Value}
    (hg : w.grownBy w' none) (hown : w'.ownsRow w.heap.size el sz v xs.length us) (hc : repC w ν sz xs us) (hlim : xs.length ≤ lim) {n' : Nat} {o' : List Key} (hno : ∀ j, fresh n' o' j → fresh st.n st.o j ∧ j ≠ k) :
    Rel C { st with e := upd k ⟨xs.length, el, sz, some xs⟩ st.e, n := n', o := o' } a w' (ν.withOwn k xs.length v) ∧
    ((∃ b cap, v = .slice (some ⟨b, 0, none⟩) xs.length cap) → rep w' (ν.withOwn k xs.length v) (.row sz k xs.length) v) := by
  have hblk : ∀ bl, v.ownBlock = some bl → w.heap.size ≤ bl ∧ bl < w'.heap.size := fun bl hb => hown.lt bl hb
  have ho : Over w ν w' (ν.withOwn k xs.length v) := by
    refine ⟨fun b o hA => ⟨hA, cell_grown hg (h.good.alt b o hA)⟩, fun j b _ hj => hj, fun g n u _ hgu => ?_⟩
    by_cases e : g = k
    · subst e
      rcases hk with hk | ⟨o, ho, hlt⟩
      · rw [hk.2] at hgu; cases hgu
      · obtain ⟨v0, us0, e1, _⟩ := h.good.own g o ho
        rw [e1] at hgu; cases hgu
        exact ⟨xs.length, v, by simp [Env.withOwn], .inr hlt⟩
    · exact ⟨n, u, by simp [Env.withOwn, e, hgu], .inl ⟨rfl, rfl⟩⟩
  have hlook : ∀ g, (look g (upd k ⟨xs.length, el, sz, some xs⟩ st.e)).isSome → g = k ∨ (g ≠ k ∧ (look g st.e).isSome ∧ (ν.withOwn k xs.length v).ow g = ν.ow g) := by
    intro g hgs
    by_cases e : g = k
    · exact .inl e
    · rw [look_upd, if_neg (Ne.symm e)] at hgs
      exact .inr ⟨e, hgs, by simp [Env.withOwn, e]⟩
  have hnoA : ∀ bl, v.ownBlock = some bl → ∀ j, ¬ν.A bl j := fun bl hb j hA => by
    have h1 := h.good.alt bl j hA; have := (hblk bl hb).1; omega
  refine ⟨h.over ho rfl ⟨fun bl o hA => ?_, fun j ds hj => ?_, h.good.inj, fun g o hgo => ?_, fun g g' n n' u u' bl h1 h2 h3 h4 h5 h6 => ?_, fun g j n u bl h1 h2 h3 h4 h5 => ?_, fun j => ?_⟩
    ⟨hg.os.trans h.fr.os, hg.tape.trans h.fr.tape, hg.output.trans h.fr.output, Nat.le_trans h.fr.size hg.size, fun j hj hm => ?_, fun b o hA => ?_, h.fr.fresh, h.fr.obj, h.fr.obn, fun m n u hm => row_trans (h.fr.row m n u hm) (fun n u => ho.ow _ n u trivial), h.fr.obr⟩ (fun m hm => ?_), ?_⟩
  · have := h.good.alt bl o hA; have := hg.size; omega
  · obtain ⟨bl, us', el', g1, g2, g3, g4, g5⟩ := h.good.box j ds hj
    have hlt := (Array.getElem?_eq_some_iff.1 g4).1
    exact ⟨bl, us', el', g1, g2, g3, by rw [hg.block bl hlt (by simp)]; exact g4, repB_over ho g5⟩
  · simp only at hgo
    rw [look_upd] at hgo
    by_cases e : k = g
    · rw [if_pos e] at hgo; cases hgo
      subst e
      refine ⟨v, us, by simp [Env.withOwn], ⟨hown.1, ?_⟩, fun bl hb => ⟨.inr (Nat.le_trans h.fr.size (hblk bl hb).1), fun j hA => absurd hA (hnoA bl hb j)⟩, fun ys hy => ?_⟩
      · rcases hown.2 with e1 | ⟨bb, cap, cur, f1, f2, f3⟩
        · exact .inl e1
        · exact .inr ⟨bb, cap, cur, f1, by omega, f3⟩
      · simp only [Option.some.injEq] at hy; subst hy
        exact ⟨rfl, repC_over ho hc, hnoA⟩
    · rw [if_neg e] at hgo
      obtain ⟨v0, us0, e1, e2, e3, e4⟩ := h.good.own g o hgo
      exact ⟨v0, us0, by simp [Env.withOwn, Ne.symm e, e1], e2.kept hg (by cases v0.ownBlock <;> simp), e3, rowC_over ho (fun _ _ _ h => h) e4⟩
  · rcases hlook g h1 with rfl | ⟨n1, n2, n3⟩ <;> rcases hlook g' h2 with rfl | ⟨m1, m2, m3⟩
    · rfl
    · exfalso
      simp only [Env.withOwn, if_true, Option.some.injEq, Prod.mk.injEq] at h3
      rw [m3] at h4
      obtain ⟨o, ho'⟩ := Option.isSome_iff_exists.1 m2
      have hl := h.good.ownLt ho' h4 h6
      have := (hblk bl (by rw [h3.2]; exact h5)).1; omega
    · exfalso
      simp only [Env.withOwn, if_true, Option.some.injEq, Prod.mk.injEq] at h4
      rw [n3] at h3
      obtain ⟨o, ho'⟩ := Option.isSome_iff_exists.1 n2
      have hl := h.good.ownLt ho' h3 h5
      have := (hblk bl (by rw [h4.2]; exact h6)).1; omega
    · rw [n3] at h3; rw [m3] at h4
      exact h.good.oinj g g' n n' u u' bl n2 m2 h3 h4 h5 h6
  · rcases hlook g h1 with rfl | ⟨n1, n2, n3⟩
    · simp only [Env.withOwn, if_true, Option.some.injEq, Prod.mk.injEq] at h3
      obtain ⟨ds, hds⟩ := Option.isSome_iff_exists.1 h2
      have hl := h.good.boxLt hds h5
      have := (hblk bl (by rw [h3.2]; exact h4)).1; omega
    · rw [n3] at h3
      exact h.good.obx g j n u bl n2 h2 h3 h4 h5
  · by_cases e : j = k
    · subst e
      rcases hk with hk | ⟨o, ho', _⟩
      · exact .inl hk.1
      · obtain ⟨v0, us0, e1, _⟩ := h.good.own j o ho'
        rcases h.good.one j with h1 | h1
        · exact .inl h1
        · rw [h1] at e1; cases e1
    · rcases h.good.one j with h1 | h1
      · exact .inl h1
      · exact .inr (by simp [Env.withOwn, e, h1])
  · rw [hg.block j (by have := h.fr.size; omega) (by simp)]; exact h.fr.block j hj hm
  · obtain ⟨k1, k2⟩ := h.fr.keep b o hA
    exact ⟨k1, (ho.A b o k1).2.trans k2⟩
  · obtain ⟨f1, f2⟩ := hno m hm
    obtain ⟨k1, k2⟩ := h.new m f1
    refine ⟨k1, ?_⟩
    simp [Env.withOwn, f2, k2]
  · intro hform
    simp only [rep]
    exact ⟨hform, hlim, xs.length, v, by simp [Env.withOwn], Nat.le_refl _, fun _ => rfl⟩

/-- What lies in a row may be known from now on: it changes no more. -/
theorem Rel.publish {C : Ctx} {st : St} {a : Act} {w : World} {ν : Env} (h : Rel C st a w ν) {k : Key} {o : Own} {xs : List PV} (hk : look k st.e = some o) (hx : o.xs = some xs) {v : Value} (hv : ν.ow k = some (o.n, v)) (hlim : xs.length ≤ lim) :
    Rel C { st with e := upd k ⟨o.n, o.el, o.sz, none⟩ st.e } a w (ν.withRowOf k v o.n (o.n * o.sz)) ∧
    rep w (ν.withRowOf k v o.n (o.n * o.sz)) (.slice o.sz (.own k) xs) v := by
  obtain ⟨v0, us, q1, q2, q3, q4⟩ := h.good.own k o hk
  rw [hv] at q1; cases q1
  obtain ⟨q5, q6, q7⟩ := q4 xs hx
  have how : ∀ g, (ν.withRowOf k v o.n (o.n * o.sz)).ow g = ν.ow g := fun g => by
    simp only [Env.withRowOf]
    split
    · rename_i e; subst e; exact hv.symm
    · rfl
  have ho : Over w ν w (ν.withRowOf k v o.n (o.n * o.sz)) :=
    ⟨fun b o hA => ⟨.inl hA, rfl⟩, fun j b _ hj => hj, fun g n u _ hgu => ⟨n, u, by rw [how]; exact hgu, .inl ⟨rfl, rfl⟩⟩⟩
  have hlook : ∀ g, (look g (upd k ⟨o.n, o.el, o.sz, none⟩ st.e)).isSome → (look g st.e).isSome := by
    intro g hgs
    by_cases e : k = g
    · subst e; simp [hk]
    · rwa [look_upd, if_neg e] at hgs
  refine ⟨h.over ho rfl ⟨fun bl i hA => ?_, fun j ds hj => ?_, h.good.inj, fun g o' hgo => ?_, fun g g' n n' u u' bl h1 h2 h3 h4 => h.good.oinj g g' n n' u u' bl (hlook g h1) (hlook g' h2) (by rwa [how] at h3) (by rwa [how] at h4), fun g j n u bl h1 h2 h3 => h.good.obx g j n u bl (hlook g h1) h2 (by rwa [how] at h3), fun j => ?_⟩
    ⟨h.fr.os, h.fr.tape, h.fr.output, h.fr.size, h.fr.block, fun b i hA => ⟨.inl (h.fr.keep b i hA).1, (h.fr.keep b i hA).2⟩, fun b i hA => ?_, h.fr.obj, h.fr.obn, fun m n u hm => row_trans (h.fr.row m n u hm) (fun n u => ho.ow _ n u trivial), h.fr.obr⟩ (fun m hm => ?_), ?_⟩
  · rcases hA with hA | ⟨hA, _⟩
    · exact h.good.alt bl i hA
    · exact (q2.lt bl hA).2
  · obtain ⟨bl, us', el', g1, g2, g3, g4, g5⟩ := h.good.box j ds hj
    refine ⟨bl, us', el', g1, g2, fun i hA => ?_, g4, repB_over ho g5⟩
    rcases hA with hA | ⟨hA, _⟩
    · exact g3 i hA
    · exact h.good.obx k j o.n v bl (by simp [hk]) (by simp [hj]) hv hA g1
  · simp only at hgo
    rw [look_upd] at hgo
    by_cases e : k = g
    · rw [if_pos e] at hgo; cases hgo
      subst e
      refine ⟨v, us, by rw [how]; exact hv, q2, fun bl hb => ⟨(q3 bl hb).1, fun j hA => ?_⟩, fun ys hy => by cases hy⟩
      rcases hA with hA | ⟨_, hA⟩
      · exact (q3 bl hb).2 j hA
      · exact hA
    · rw [if_neg e] at hgo
      obtain ⟨v0, us0, e1, e2, e3, e4⟩ := h.good.own g o' hgo
      have hAA : ∀ bl, v0.ownBlock = some bl → ∀ j, (ν.withRowOf k v o.n (o.n * o.sz)).A bl j → ν.A bl j := fun bl hb j hA => by
        rcases hA with hA | ⟨hA, _⟩
        · exact hA
        · exact absurd (h.good.oinj k g o.n o'.n v v0 bl (by simp [hk]) (by simp [hgo]) hv e1 hA hb) e
      exact ⟨v0, us0, by rw [how]; exact e1, e2, fun bl hb => ⟨(e3 bl hb).1, fun j hA => (e3 bl hb).2 j (hAA bl hb j hA)⟩, rowC_over ho hAA e4⟩
  · rcases h.good.one j with h1 | h1
    · exact .inl h1
    · exact .inr (by rw [how]; exact h1)
  · rcases hA with hA | ⟨hA, _⟩
    · exact h.fr.fresh b i hA
    · exact .inr (q3 b hA).1
  · obtain ⟨k1, k2⟩ := h.new m hm
    exact ⟨k1, by rw [how]; exact k2⟩
  · simp only [rep]
    refine ⟨?_, fun e => (by cases e), fun g e => ?_⟩
    · rcases q2.2 with ⟨e1, e2⟩ | ⟨bb, cap, cur, f1, f2, f3, f4, f5, f6, f7⟩
      · refine ⟨none, 0, by rw [e1, q5, e2], by omega, ⟨by simp [maxLen], hlim⟩, .inl (List.eq_nil_of_length_eq_zero (by omega))⟩
      · refine ⟨some ⟨bb, 0, none⟩, cap, by rw [f1, q5], by omega, ⟨f5, hlim⟩, .inr ⟨bb, 0, us, rfl, laid_of us 0 fun j u hj => ?_, repC_over ho q6⟩⟩
        have hvb : v.ownBlock = some bb := by rw [f1]; rfl
        have hjl : j < us.length := (List.getElem?_eq_some_iff.1 hj).1
        refine ⟨.inr ⟨hvb, by rw [q2.1] at hjl; omega⟩, ?_⟩
        have := q2.cells hvb j u hj
        rwa [add_mk] at this
    · cases e
      exact ⟨o.n, v, by rw [how]; exact hv, by omega, fun _ => rfl⟩

theorem upd_upd {α : Type} (k : Key) (p q : α) : ∀ l, upd k q (upd k p l) = upd k q l
  | [] => by simp [upd]
  | (i, r) :: l => by
    by_cases e : i = k
    · simp [upd, e]
    · simp [upd, e, upd_upd k p q l]

/-- A new row, for a name that is new or whose row was shorter. -/
theorem Rel.newRow {C : Ctx} {st : St} {a : Act} {w w' : World} {ν : Env} (h : Rel C st a w ν) {k : Key} {xs : List PV} (hk : (ν.bx k = none ∧ ν.ow k = none) ∨ ∃ o, look k st.e = some o ∧ o.n < xs.length) {el sz : Nat} {v : Value} {us : List Value}
    (hg : w.grownBy w' none) (hown : w'.ownsRow w.heap.size el sz v xs.length us) (hc : repC w ν sz xs us) (hlim : xs.length ≤ lim) {n' : Nat} {o' : List Key} (hno : ∀ j, fresh n' o' j → fresh st.n st.o j ∧ j ≠ k) :
    Rel C { st with e := upd k ⟨xs.length, el, sz, none⟩ st.e, n := n', o := o' } a w' ((ν.withOwn k xs.length v).withRowOf k v xs.length (xs.length * sz)) ∧
    rep w' ((ν.withOwn k xs.length v).withRowOf k v xs.length (xs.length * sz)) (.slice sz (.own k) xs) v := by
  have h1 := (h.newRowM hk hg hown hc hlim hno).1
  have h2 := h1.publish (k := k) (o := ⟨xs.length, el, sz, some xs⟩) (xs := xs) (v := v) (by simp [look_upd]) rfl (by simp [Env.withOwn]) hlim
  simpa only [upd_upd] using h2

/-- Something new in a row that no one else knows. -/
theorem Rel.setRowM {C : Ctx} {st : St} {a : Act} {w w' : World} {ν : Env} (h : Rel C st a w ν) {k : Key} {o : Own} {xs xs' : List PV} (hk : look k st.e = some o) (hx : o.xs = some xs) {bl : Nat} {v v' : Value} (hv : ν.ow k = some (o.n, v)) (hvb : v.ownBlock = some bl) (hvb' : v'.ownBlock = some bl)
    (hn : (xs'.length = o.n ∧ v' = v) ∨ o.n < xs'.length) {us : List Value} (hos : w'.os = w.os) (htape : w'.tape = w.tape) (hout : w'.output = w.output) (hoth : ∀ j, j ≠ bl → w'.heap[j]? = w.heap[j]?) (hsz : w'.heap.size = w.heap.size)
    (hown : w'.ownsRow 0 o.el o.sz v' xs'.length us) (hc : repC w ν o.sz xs' us) :
    Rel C { st with e := upd k ⟨xs'.length, o.el, o.sz, some xs'⟩ st.e } a w' (ν.withOwn k xs'.length v') ∧ Over w ν w' (ν.withOwn k xs'.length v') ∧ (xs'.length ≤ lim → rep w' (ν.withOwn k xs'.length v') (.row o.sz k xs'.length) v') := by
  obtain ⟨v0, us0, q1, q2, q3, q4⟩ := h.good.own k o hk
  rw [hv] at q1; cases q1
  obtain ⟨q5, q6, q7⟩ := q4 xs hx
  have ho : Over w ν w' (ν.withOwn k xs'.length v') := by
    refine ⟨fun b i hA => ⟨hA, World.cell?_of_block (hoth b fun e => by subst e; exact q7 b hvb i hA)⟩, fun j b _ hj => hj, fun g n u _ hgu => ?_⟩
    by_cases e : g = k
    · subst e
      rw [hv] at hgu; cases hgu
      refine ⟨xs'.length, v', by simp [Env.withOwn], ?_⟩
      rcases hn with ⟨h1, h2⟩ | h1
      · exact .inl ⟨h1, h2⟩
      · exact .inr h1
    · exact ⟨n, u, by simp [Env.withOwn, e, hgu], .inl ⟨rfl, rfl⟩⟩
  have hlook : ∀ g n u, (look g (upd k ⟨xs'.length, o.el, o.sz, some xs'⟩ st.e)).isSome → (ν.withOwn k xs'.length v').ow g = some (n, u) → ∀ b, u.ownBlock = some b → (look g st.e).isSome ∧ ∃ n u, ν.ow g = some (n, u) ∧ u.ownBlock = some b := by
    intro g n u hgs hgu b hb
    by_cases e : g = k
    · subst e
      simp only [Env.withOwn, if_true, Option.some.injEq, Prod.mk.injEq] at hgu
      rw [← hgu.2, hvb'] at hb; cases hb
      exact ⟨by simp [hk], o.n, v, hv, hvb⟩
    · rw [look_upd, if_neg (Ne.symm e)] at hgs
      simp only [Env.withOwn, e, if_false] at hgu
      exact ⟨hgs, n, u, hgu, hb⟩
  refine ⟨h.over ho rfl ⟨fun b i hA => by rw [hsz]; exact h.good.alt b i hA, fun j ds hj => ?_, h.good.inj, fun g o' hgo => ?_, fun g g' n n' u u' b h1 h2 h3 h4 h5 h6 => ?_, fun g j n u b h1 h2 h3 h4 h5 => ?_, fun j => ?_⟩
    ⟨hos.trans h.fr.os, htape.trans h.fr.tape, hout.trans h.fr.output, by rw [hsz]; exact h.fr.size, fun j hj hm => ?_, fun b i hA => ?_, h.fr.fresh, h.fr.obj, h.fr.obn, fun m n u hm => row_trans (h.fr.row m n u hm) (fun n u => ho.ow _ n u trivial), h.fr.obr⟩ (fun m hm => ?_), ho, ?_⟩
  · obtain ⟨b, us', el', g1, g2, g3, g4, g5⟩ := h.good.box j ds hj
    have hne : b ≠ bl := fun e => h.good.obx k j o.n _ bl (by simp [hk]) (by simp [hj]) hv hvb (by rw [← e]; exact g1)
    exact ⟨b, us', el', g1, g2, g3, by rw [hoth b hne]; exact g4, repB_over ho g5⟩
  · simp only at hgo
    rw [look_upd] at hgo
    by_cases e : k = g
    · rw [if_pos e] at hgo; cases hgo
      subst e
      refine ⟨v', us, by simp [Env.withOwn], hown, fun b hb => ?_, fun ys hy => ?_⟩
      · rw [hvb'] at hb; cases hb
        exact ⟨(q3 bl hvb).1, fun j hA => absurd hA (q7 bl hvb j)⟩
      · simp only [Option.some.injEq] at hy; subst hy
        exact ⟨rfl, repC_over ho hc, fun b hb => by rw [hvb'] at hb; cases hb; exact q7 bl hvb⟩
    · rw [if_neg e] at hgo
      obtain ⟨v0, us0, e1, e2, e3, e4⟩ := h.good.own g o' hgo
      have hne : ∀ b, v0.ownBlock = some b → b ≠ bl := fun b hb eb => e (h.good.oinj k g o.n o'.n _ v0 bl (by simp [hk]) (by simp [hgo]) hv e1 hvb (by rw [← eb]; exact hb))
      refine ⟨v0, us0, by simp [Env.withOwn, Ne.symm e, e1], ⟨e2.1, ?_⟩, e3, rowC_over ho (fun _ _ _ h => h) e4⟩
      rcases e2.2 with e2 | ⟨bb, cap', cur', f1, f2, f3, f4⟩
      · exact .inl e2
      · exact .inr ⟨bb, cap', cur', f1, f2, by rw [hoth bb (hne bb (by rw [f1]; rfl))]; exact f3, f4⟩
  · obtain ⟨a1, n1, u1, a2, a3⟩ := hlook g n u h1 h3 b h5
    obtain ⟨b1, n2, u2, b2, b3⟩ := hlook g' n' u' h2 h4 b h6
    exact h.good.oinj g g' n1 n2 u1 u2 b a1 b1 a2 b2 a3 b3
  · obtain ⟨a1, n1, u1, a2, a3⟩ := hlook g n u h1 h3 b h4
    exact h.good.obx g j n1 u1 b a1 h2 a2 a3 h5
  · by_cases e : j = k
    · subst e
      rcases h.good.one j with h1 | h1
      · exact .inl h1
      · rw [h1] at hv; cases hv
    · rcases h.good.one j with h1 | h1
      · exact .inl h1
      · exact .inr (by simp [Env.withOwn, e, h1])
  · rw [hoth j fun e => by subst e; exact (q3 j hvb).1.elim hm (fun g2 => by omega)]; exact h.fr.block j hj hm
  · obtain ⟨k1, k2⟩ := h.fr.keep b i hA
    exact ⟨k1, (ho.A b i k1).2.trans k2⟩
  · obtain ⟨k1, k2⟩ := h.new m hm
    refine ⟨k1, ?_⟩
    have : m ≠ k := fun e => by subst e; rw [k2] at hv; cases hv
    simp [Env.withOwn, this, k2]
  · intro hlim
    simp only [rep]
    obtain ⟨cap, hform⟩ := own_form hown hvb'
    exact ⟨⟨bl, cap, hform⟩, hlim, xs'.length, v', by simp [Env.withOwn], Nat.le_refl _, fun _ => rfl⟩

end Go.Pv
