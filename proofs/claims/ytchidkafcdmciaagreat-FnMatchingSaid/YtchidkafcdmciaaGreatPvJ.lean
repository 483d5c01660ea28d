/- append, in place or into a new row. -/
import Derived.Test.YtchidkafcdmciaaGreatPvI
set_option linter.all false
namespace Go.Pv
open Go Go.RowKit

/-- A row of the call's own that is appended to in place. -/
theorem Rel.inPlace {C : Ctx} {st : St} {a : Act} {w : World} {ν : Env} (h : Rel C st a w ν) {k : Key} {o : Own} (hk : look k st.e = some o) {bl cap : Nat} {cur : Array Value} (hv : ν.ow k = some (o.n, .slice (some ⟨bl, 0, none⟩) o.n cap))
    (hcur : w.heap[bl]? = some (.cells cur o.el (0, 0))) (hcap : cap ≤ maxLen) (hsz : cur.size = cap * o.sz) {xs ys : List PV} {us ns : List Value} (hxl : xs.length = o.n) (hus : cur.toList.take (o.n * o.sz) = us) (hc : repC w ν o.sz xs us) (hcn : repC w ν o.sz ys ns)
    (hpos : 0 < ys.length) (hroom : o.n + ys.length ≤ cap) (hlim : xs.length + ys.length ≤ lim) :
    Rel C { st with e := upd k ⟨o.n + ys.length, o.el, o.sz, none⟩ st.e } a (w.setRow bl (us ++ ns ++ cur.toList.drop (o.n * o.sz + ns.length)).toArray)
      (ν.withRowOf k (.slice (some ⟨bl, 0, none⟩) (o.n + ys.length) cap) (o.n + ys.length) ((o.n + ys.length) * o.sz)) ∧
    rep (w.setRow bl (us ++ ns ++ cur.toList.drop (o.n * o.sz + ns.length)).toArray) (ν.withRowOf k (.slice (some ⟨bl, 0, none⟩) (o.n + ys.length) cap) (o.n + ys.length) ((o.n + ys.length) * o.sz))
      (.slice o.sz (.own k) (xs ++ ys)) (.slice (some ⟨bl, 0, none⟩) (o.n + ys.length) cap) := by
  have hnl := repC_length hcn
  have hul := repC_length hc
  rw [hxl] at hul
  have hmul : (o.n + ys.length) * o.sz ≤ cap * o.sz := Nat.mul_le_mul_right _ hroom
  rw [Nat.add_mul] at hmul
  obtain ⟨v0, us0, q1, q2, q3, _⟩ := h.good.own k o hk
  rw [hv] at q1; cases q1
  obtain ⟨q4, q5⟩ := q3 bl rfl
  generalize hw' : w.setRow bl (us ++ ns ++ cur.toList.drop (o.n * o.sz + ns.length)).toArray = w'
  have hoth : ∀ j, j ≠ bl → w'.heap[j]? = w.heap[j]? := fun j hj => by rw [← hw']; exact setRow_other w bl j _ hj
  have hnew : w'.heap[bl]? = some (.cells (us ++ ns ++ cur.toList.drop (o.n * o.sz + ns.length)).toArray o.el (0, 0)) := by rw [← hw']; exact setRow_heap w bl cur _ o.el _ hcur
  have hsize : w'.heap.size = w.heap.size := by rw [← hw']; exact setRow_size w bl _
  have hcell : ∀ j, j < o.n * o.sz → w'.cell? ⟨bl, j, none⟩ = w.cell? ⟨bl, j, none⟩ := by
    intro j hj
    simp only [World.cell?, hnew, hcur, Option.isSome_none, Bool.false_eq_true, if_false]
    rw [List.getElem?_toArray, List.append_assoc, List.getElem?_append_left (by omega), ← hus, List.getElem?_take, if_pos hj]
    simp
  have ho : Over w ν w' (ν.withRowOf k (.slice (some ⟨bl, 0, none⟩) (o.n + ys.length) cap) (o.n + ys.length) ((o.n + ys.length) * o.sz)) := by
    refine ⟨fun b j hA => ⟨.inl hA, ?_⟩, fun j b _ hj => hj, fun g n u _ hgu => ?_⟩
    · by_cases e : b = bl
      · subst e; exact hcell j (q5 j hA)
      · exact World.cell?_of_block (hoth b e)
    · by_cases e : g = k
      · subst e
        rw [hv] at hgu; cases hgu
        exact ⟨o.n + ys.length, .slice (some ⟨bl, 0, none⟩) (o.n + ys.length) cap, by simp [Env.withRowOf], .inr (by omega)⟩
      · exact ⟨n, u, by simp [Env.withRowOf, e, hgu], .inl ⟨rfl, rfl⟩⟩
  have hlook : ∀ g, (look g (upd k ⟨o.n + ys.length, o.el, o.sz, none⟩ st.e)).isSome → g = k ∨ (g ≠ k ∧ (look g st.e).isSome ∧ (ν.withRowOf k (.slice (some ⟨bl, 0, none⟩) (o.n + ys.length) cap) (o.n + ys.length) ((o.n + ys.length) * o.sz)).ow g = ν.ow g) := by
    intro g hgs
    by_cases e : g = k
    · exact .inl e
    · rw [look_upd, if_neg (Ne.symm e)] at hgs
      exact .inr ⟨e, hgs, by simp [Env.withRowOf, e]⟩
  have hblt : bl < w.heap.size := (Array.getElem?_eq_some_iff.1 hcur).1
  have hcells : ∀ j u, (us ++ ns)[j]? = some u → w'.cell? ⟨bl, j, none⟩ = some u := by
    intro j u hj
    have hjl := (List.getElem?_eq_some_iff.1 hj).1
    simp only [World.cell?, hnew, Option.isSome_none, Bool.false_eq_true, if_false]
    rw [List.getElem?_toArray, List.getElem?_append_left hjl]
    exact hj
  refine ⟨h.over ho rfl ⟨fun b j hA => ?_, fun j ds hj => ?_, h.good.inj, fun g o' hgo => ?_, fun g g' n n' u u' b h1 h2 h3 h4 h5 h6 => ?_, fun g j n u b h1 h2 h3 h4 h5 => ?_, fun j => ?_⟩
    ⟨by rw [← hw']; exact h.fr.os, by rw [← hw']; exact h.fr.tape, by rw [← hw']; exact h.fr.output, by rw [hsize]; exact h.fr.size, fun j hj hm => ?_, fun b j hA => ?_, fun b j hA => ?_, h.fr.obj, h.fr.obn, fun m n u hm => row_trans (h.fr.row m n u hm) (fun n u => ho.ow _ n u trivial), h.fr.obr⟩ (fun m hm => ?_), ?_⟩
  · rw [hsize]
    rcases hA with hA | ⟨hA, _⟩
    · exact h.good.alt b j hA
    · simp only [Value.ownBlock, Option.some.injEq] at hA; omega
  · obtain ⟨b, us', el', g1, g2, g3, g4, g5⟩ := h.good.box j ds hj
    have hne : b ≠ bl := fun e => h.good.obx k j o.n _ bl (by simp [hk]) (by simp [hj]) hv rfl (by rw [← e]; exact g1)
    refine ⟨b, us', el', g1, g2, fun i hA => ?_, by rw [hoth b hne]; exact g4, repB_over ho g5⟩
    rcases hA with hA | ⟨hA, _⟩
    · exact g3 i hA
    · simp only [Value.ownBlock, Option.some.injEq] at hA; exact hne hA.symm
  · simp only at hgo
    rw [look_upd] at hgo
    by_cases e : k = g
    · rw [if_pos e] at hgo; cases hgo
      subst e
      refine ⟨.slice (some ⟨bl, 0, none⟩) (o.n + ys.length) cap, us ++ ns, by simp [Env.withRowOf], ⟨by rw [List.length_append, hul, hnl, Nat.add_mul], .inr ⟨bl, cap, _, rfl, Nat.zero_le _, hnew, hroom, hcap, ?_, ?_⟩⟩, fun b hb => ⟨?_, fun j hA => ?_⟩, fun ys hy => by cases hy⟩
      · simp only [List.size_toArray, List.length_append, List.length_drop, Array.length_toList]
        omega
      · have hl : (us ++ ns).length = (o.n + ys.length) * o.sz := by rw [List.length_append, hul, hnl, Nat.add_mul]
        simp only [← hl]
        rw [List.take_append_of_le_length (Nat.le_refl _), List.take_length]
      · simp only [Value.ownBlock, Option.some.injEq] at hb; subst hb; exact q4
      · simp only [Value.ownBlock, Option.some.injEq] at hb
        subst hb
        rcases hA with hA | ⟨_, hA⟩
        · have := q5 j hA; simp only; rw [Nat.add_mul]; omega
        · exact hA
    · rw [if_neg e] at hgo
      obtain ⟨v0, us0, e1, e2, e3, e4⟩ := h.good.own g o' hgo
      have hne : ∀ b, v0.ownBlock = some b → b ≠ bl := fun b hb eb => e (h.good.oinj k g o.n o'.n _ v0 bl (by simp [hk]) (by simp [hgo]) hv e1 rfl (by rw [← eb]; exact hb))
      have hAA : ∀ b, v0.ownBlock = some b → ∀ j, (ν.withRowOf k (.slice (some ⟨bl, 0, none⟩) (o.n + ys.length) cap) (o.n + ys.length) ((o.n + ys.length) * o.sz)).A b j → ν.A b j := fun b hb j hA => by
        rcases hA with hA | ⟨hA, _⟩
        · exact hA
        · simp only [Value.ownBlock, Option.some.injEq] at hA; exact absurd hA.symm (hne b hb)
      refine ⟨v0, us0, by simp [Env.withRowOf, Ne.symm e, e1], ⟨e2.1, ?_⟩, fun b hb => ⟨(e3 b hb).1, fun j hA => (e3 b hb).2 j (hAA b hb j hA)⟩, rowC_over ho hAA e4⟩
      rcases e2.2 with e2 | ⟨bb, cap', cur', f1, f2, f3, f4⟩
      · exact .inl e2
      · exact .inr ⟨bb, cap', cur', f1, f2, by rw [hoth bb (hne bb (by rw [f1]; rfl))]; exact f3, f4⟩
  · rcases hlook g h1 with rfl | ⟨n1, n2, n3⟩ <;> rcases hlook g' h2 with rfl | ⟨m1, m2, m3⟩
    · rfl
    · exfalso
      simp only [Env.withRowOf, if_true, Option.some.injEq, Prod.mk.injEq] at h3
      rw [m3] at h4
      rw [← h3.2] at h5
      simp only [Value.ownBlock, Option.some.injEq] at h5
      subst h5
      exact m1 (h.good.oinj g' g n' o.n u' _ bl m2 (by simp [hk]) h4 hv h6 rfl)
    · exfalso
      simp only [Env.withRowOf, if_true, Option.some.injEq, Prod.mk.injEq] at h4
      rw [n3] at h3
      rw [← h4.2] at h6
      simp only [Value.ownBlock, Option.some.injEq] at h6
      subst h6
      exact n1 (h.good.oinj g g' n o.n u _ bl n2 (by simp [hk]) h3 hv h5 rfl)
    · rw [n3] at h3; rw [m3] at h4
      exact h.good.oinj g g' n n' u u' b n2 m2 h3 h4 h5 h6
  · rcases hlook g h1 with rfl | ⟨n1, n2, n3⟩
    · simp only [Env.withRowOf, if_true, Option.some.injEq, Prod.mk.injEq] at h3
      rw [← h3.2] at h4
      simp only [Value.ownBlock, Option.some.injEq] at h4
      subst h4
      exact h.good.obx g j o.n _ bl (by simp [hk]) h2 hv rfl h5
    · rw [n3] at h3
      exact h.good.obx g j n u b n2 h2 h3 h4 h5
  · by_cases e : j = k
    · subst e
      rcases h.good.one j with h1 | h1
      · exact .inl h1
      · rw [h1] at hv; cases hv
    · rcases h.good.one j with h1 | h1
      · exact .inl h1
      · exact .inr (by simp [Env.withRowOf, e, h1])
  · rw [hoth j fun e => by subst e; exact q4.elim hm (fun g2 => by omega)]; exact h.fr.block j hj hm
  · obtain ⟨k1, k2⟩ := h.fr.keep b j hA
    exact ⟨.inl k1, (ho.A b j k1).2.trans k2⟩
  · rcases hA with hA | ⟨hA, _⟩
    · exact h.fr.fresh b j hA
    · simp only [Value.ownBlock, Option.some.injEq] at hA
      subst hA; exact .inr q4
  · obtain ⟨k1, k2⟩ := h.new m hm
    refine ⟨k1, ?_⟩
    have : m ≠ k := fun e => by subst e; rw [k2] at hv; cases hv
    simp [Env.withRowOf, this, k2]
  · simp only [rep]
    refine ⟨⟨some ⟨bl, 0, none⟩, cap, by simp [hxl], by simp; omega, ⟨hcap, by simpa using hlim⟩, .inr ⟨bl, 0, us ++ ns, rfl, laid_of _ 0 fun j u hj => ?_, repC_append (repC_over ho hc) (repC_over ho hcn)⟩⟩, fun e => (by cases e), fun g e => ?_⟩
    · have hjl := (List.getElem?_eq_some_iff.1 hj).1
      rw [Nat.zero_add]
      refine ⟨.inr ⟨rfl, ?_⟩, hcells j u hj⟩
      rw [List.length_append, hul, hnl] at hjl
      rw [Nat.add_mul]; exact hjl
    · cases e
      exact ⟨o.n + ys.length, .slice (some ⟨bl, 0, none⟩) (o.n + ys.length) cap, by simp [Env.withRowOf], by simp [hxl], fun _ => rfl⟩

/-- append of nothing. -/
theorem run_append_empty {P : Program} {w : World} {t ty e : TypeId} {i : TypeInfo} (ht : P.underlying t = some (.slice e)) (hi : P.info? e = some i) (b : Option Addr) (n cap : Nat) (hn : n ≤ cap) (x : Option Addr) (c : Nat) :
    (Builtin.append_ #[t, t] ty #[.slice b n cap, .slice x 0 c]).run P w = .ok (.slice b n cap) w := by
  cases b <;> cases x <;> simp [Builtin.append_, run_underlying ht, sizeOf, typeInfo, hi, Builtin.lenOf, hn, Builtin.firstCells, loadCells, loadCellsFrom, storeCells]

end Go.Pv
