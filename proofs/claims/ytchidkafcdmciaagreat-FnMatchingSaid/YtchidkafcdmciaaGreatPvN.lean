/- A call, by its contract. -/
import Derived.Test.YtchidkafcdmciaaGreatPvM
set_option linter.all false
namespace Go.Pv
open Go Go.RowKit

def inObs (s : Obs) (k : Key) : Prop := (look k s.b).isSome = true ∨ (look k s.e).isSome = true
/-- What is left of a list of names when those of another are taken away. -/
def without {α β : Type} (s : List (Key × β)) : List (Key × α) → List (Key × α)
  | [] => []
  | (k, x) :: r => match look k s with
    | some _ => without s r
    | none => (k, x) :: without s r
theorem look_without {α β : Type} (s : List (Key × β)) (k : Key) : ∀ l : List (Key × α), look k (without s l) = if (look k s).isSome then none else look k l
  | [] => by simp [without, look]
  | (i, x) :: r => by
    simp only [without]
    by_cases e : i = k
    · subst e
      cases h : look i s with
      | some y => simp [look_without s i r, h]
      | none => simp [look]
    · cases h : look i s with
      | some y => simp [look_without s k r, look, e]
      | none => simp [look, e, look_without s k r]
theorem look_append {α : Type} (k : Key) : ∀ l l' : List (Key × α), look k (l ++ l') = match look k l with | some x => some x | none => look k l'
  | [], l' => by simp [look]
  | (i, x) :: r, l' => by
    by_cases e : i = k
    · simp [look, e]
    · simp [look, e, look_append k r l']

/-- The state behind a call that was handed s and handed back s'. -/
def after (st : St) (s s' : Obs) (d : Option Nat) (r : PV) : St :=
  { t := putO d r st.t, b := without s.b st.b ++ s'.b, e := without s.e st.e ++ s'.e, n := st.n, o := st.o ++ obsIds s' }

section
open Classical
noncomputable def Env.join (ν ν' : Env) (s s' : Obs) : Env :=
  { A := ν'.A, bx := fun k => if (look k s.b).isSome ∨ (look k s'.b).isSome then ν'.bx k else ν.bx k, ow := fun k => if (look k s.e).isSome ∨ (look k s'.e).isSome then ν'.ow k else ν.ow k }
end

theorem Rel.call {C : Ctx} {st : St} {a : Act} {w w' : World} {ν ν' : Env} (h : Rel C st a w ν) {s s' : Obs} (hb : subB (inObs s) s.b st.b) (he : subE (inObs s) s.e st.e) (hob : objOnly s)
    (hg : Good (fun bl => blocksOf (ν.cut (inObs s)) s bl ∨ w.heap.size ≤ bl) w' ν' s'.b s'.e) (hx : exactE ν' s') (hob' : objOnly s') (hf : Fr ⟨w, ν.cut (inObs s), blocksOf (ν.cut (inObs s)) s, 0, obsIds s⟩ w' ν')
    (hnb : ∀ m, (look (.obj m) s'.b).isSome → (look (.obj m) s.b).isSome ∨ .obj m ∉ st.o) (hne : ∀ m, (look (.obj m) s'.e).isSome → (look (.obj m) s.e).isSome ∨ .obj m ∉ st.o) (d : Option Nat) (hd : dstOk C.N d = true) {r : PV} {v : Value} (hr : rep w' ν' r v) :
    Rel C (after st s s' d r) (a.put d v) w' (ν.join ν' s s') := by
  have hsb : ∀ k, (look k s.b).isSome → (look k st.b).isSome := fun k hk => by
    obtain ⟨cs, hcs⟩ := Option.isSome_iff_exists.1 hk
    simp [(hb k cs hcs).1]
  have hse : ∀ k, (look k s.e).isSome → (look k st.e).isSome := fun k hk => by
    obtain ⟨cs, hcs⟩ := Option.isSome_iff_exists.1 hk
    simp [(he k cs hcs).1]
  have hnewb : ∀ k, (look k s'.b).isSome → ¬(look k s.b).isSome → ν.bx k = none := fun k hk hn => by
    cases k with
    | loc m => rw [hob'.1 m] at hk; cases hk
    | obj m => exact (h.new (.obj m) ⟨trivial, (hnb m hk).resolve_left hn⟩).1
  have hnewe : ∀ k, (look k s'.e).isSome → ¬(look k s.e).isSome → ν.ow k = none := fun k hk hn => by
    cases k with
    | loc m => rw [hob'.2 m] at hk; cases hk
    | obj m => exact (h.new (.obj m) ⟨trivial, (hne m hk).resolve_left hn⟩).2
  have jbs : ∀ k, (look k s.b).isSome → (ν.join ν' s s').bx k = ν'.bx k := fun k hk => by simp [Env.join, hk]
  have jbn : ∀ k, (look k s'.b).isSome → (ν.join ν' s s').bx k = ν'.bx k := fun k hk => by simp [Env.join, hk]
  have jbo : ∀ k, ν.bx k ≠ none → ¬(look k s.b).isSome → (ν.join ν' s s').bx k = ν.bx k := fun k h1 h2 => by
    have h3 : ¬(look k s'.b).isSome := fun h3 => h1 (hnewb k h3 h2)
    simp [Env.join, h2, h3]
  have jes : ∀ k, (look k s.e).isSome → (ν.join ν' s s').ow k = ν'.ow k := fun k hk => by simp [Env.join, hk]
  have jen : ∀ k, (look k s'.e).isSome → (ν.join ν' s s').ow k = ν'.ow k := fun k hk => by simp [Env.join, hk]
  have jeo : ∀ k, ν.ow k ≠ none → ¬(look k s.e).isSome → (ν.join ν' s s').ow k = ν.ow k := fun k h1 h2 => by
    have h3 : ¬(look k s'.e).isSome := fun h3 => h1 (hnewe k h3 h2)
    simp [Env.join, h2, h3]
  have xb : ∀ k b, ν'.bx k = some b → (look k s'.b).isSome := fun k b hk => by
    cases hl : look k s'.b with
    | some _ => rfl
    | none => rw [(hx k).1 hl] at hk; cases hk
  have xe : ∀ k b, ν'.ow k = some b → (look k s'.e).isSome := fun k b hk => by
    cases hl : look k s'.e with
    | some _ => rfl
    | none => rw [(hx k).2 hl] at hk; cases hk
  have ho : Over w ν w' (ν.join ν' s s') := by
    refine ⟨fun b o hA => hf.keep b o hA, fun k b _ hk => ?_, fun g n u _ hg => ?_⟩
    · by_cases hs : (look k s.b).isSome
      · rw [jbs k hs]
        cases k with
        | loc m => rw [hob.1 m] at hs; cases hs
        | obj m => exact hf.obj m b (by rw [Env.cut_bx (.inl hs)]; exact hk)
      · rw [jbo k (by rw [hk]; simp) hs]; exact hk
    · by_cases hs : (look g s.e).isSome
      · rw [jes g hs]
        cases g with
        | loc m => rw [hob.2 m] at hs; cases hs
        | obj m => exact hf.row m n u (by rw [Env.cut_ow (.inr hs)]; exact hg)
      · rw [jeo g (by rw [hg]; simp) hs]; exact ⟨n, u, hg, .inl ⟨rfl, rfl⟩⟩
  have ho' : Over w' ν' w' (ν.join ν' s s') :=
    ⟨fun b o hA => ⟨hA, rfl⟩, fun k b _ hk => by rw [jbn k (xb k b hk)]; exact hk, fun g n u _ hk => ⟨n, u, by rw [jen g (xe g _ hk)]; exact hk, .inl ⟨rfl, rfl⟩⟩⟩
  have hblk : ∀ bl, blocksOf (ν.cut (inObs s)) s bl → C.pr bl ∧ bl < w.heap.size := by
    intro bl hbl
    rcases hbl with ⟨k, h1, h2⟩ | ⟨g, n, u, h1, h2, h3⟩
    · have h4 := (Env.cut_some h2).2
      obtain ⟨cs, hcs⟩ := Option.isSome_iff_exists.1 (hsb k h1)
      obtain ⟨bl', us, el, g1, g2, _⟩ := h.good.box k cs hcs
      rw [h4] at g1; cases g1
      exact ⟨g2, h.good.boxLt hcs h4⟩
    · have h4 := (Env.cut_someO h2).2
      obtain ⟨o, ho2⟩ := Option.isSome_iff_exists.1 (hse g h1)
      obtain ⟨v', us, g1, g2, g3, _⟩ := h.good.own g o ho2
      rw [h4] at g1; cases g1
      exact ⟨(g3 bl h3).1, h.good.ownLt ho2 h4 h3⟩
  have hpr' : ∀ bl, blocksOf (ν.cut (inObs s)) s bl ∨ w.heap.size ≤ bl → C.pr bl := fun bl hbl => by
    rcases hbl with hbl | hbl
    · exact (hblk bl hbl).1
    · exact .inr (Nat.le_trans h.fr.size hbl)
  -- blocks of what was not handed on stay
  have hstayb : ∀ k cs bl, look k st.b = some cs → ¬(look k s.b).isSome → ν.bx k = some bl → ¬blocksOf (ν.cut (inObs s)) s bl := by
    intro k cs bl h1 h2 h3 h4
    rcases h4 with ⟨k', a1, a2⟩ | ⟨g, n, u, a1, a2, a3⟩
    · have := h.good.inj k k' bl (by simp [h1]) (hsb k' a1) h3 (Env.cut_some a2).2
      subst this; exact h2 a1
    · exact h.good.obx g k n u bl (hse g a1) (by simp [h1]) (Env.cut_someO a2).2 a3 h3
  have hstaye : ∀ g o n u bl, look g st.e = some o → ¬(look g s.e).isSome → ν.ow g = some (n, u) → u.ownBlock = some bl → ¬blocksOf (ν.cut (inObs s)) s bl := by
    intro g o n u bl h1 h2 h3 h4 h5
    rcases h5 with ⟨k', a1, a2⟩ | ⟨g', n', u', a1, a2, a3⟩
    · exact h.good.obx g k' n u bl (by simp [h1]) (hsb k' a1) h3 h4 (Env.cut_some a2).2
    · have := h.good.oinj g g' n n' u u' bl (by simp [h1]) (hse g' a1) h3 (Env.cut_someO a2).2 h4 a3
      subst this; exact h2 a1
  have casesB : ∀ k cs, look k (without s.b st.b ++ s'.b) = some cs → (¬(look k s.b).isSome ∧ look k st.b = some cs) ∨ look k s'.b = some cs := by
    intro k cs hk
    rw [look_append, look_without] at hk
    by_cases hs : (look k s.b).isSome
    · simp only [hs, if_true] at hk; exact .inr hk
    · simp only [hs] at hk
      cases hl : look k st.b with
      | some x => simp [hl] at hk; subst hk; exact .inl ⟨hs, rfl⟩
      | none => simp [hl] at hk; exact .inr hk
  have casesE : ∀ k cs, look k (without s.e st.e ++ s'.e) = some cs → (¬(look k s.e).isSome ∧ look k st.e = some cs) ∨ look k s'.e = some cs := by
    intro k cs hk
    rw [look_append, look_without] at hk
    by_cases hs : (look k s.e).isSome
    · simp only [hs, if_true] at hk; exact .inr hk
    · simp only [hs] at hk
      cases hl : look k st.e with
      | some x => simp [hl] at hk; subst hk; exact .inl ⟨hs, rfl⟩
      | none => simp [hl] at hk; exact .inr hk
  have sizeB : ∀ bl, blocksOf (ν.cut (inObs s)) s bl ∨ w.heap.size ≤ bl → ∀ bl', bl' < w.heap.size → ¬blocksOf (ν.cut (inObs s)) s bl' → bl ≠ bl' := by
    intro bl h1 bl' h2 h3 e
    subst e
    rcases h1 with h1 | h1
    · exact h3 h1
    · omega
  have keepB : ∀ bl, bl < w.heap.size → ¬blocksOf (ν.cut (inObs s)) s bl → w'.heap[bl]? = w.heap[bl]? := fun bl h1 h2 => hf.block bl h1 h2
  -- facts of one name
  have isB : ∀ k bl, (look k (without s.b st.b ++ s'.b)).isSome → (ν.join ν' s s').bx k = some bl → (¬(look k s.b).isSome ∧ (look k st.b).isSome ∧ ν.bx k = some bl) ∨ ((look k s'.b).isSome ∧ ν'.bx k = some bl) := by
    intro k bl hk hbx
    obtain ⟨cs, hcs⟩ := Option.isSome_iff_exists.1 hk
    rcases casesB k cs hcs with ⟨h1, h2⟩ | h1
    · obtain ⟨bl', us, el, g1, _⟩ := h.good.box k cs h2
      rw [jbo k (by rw [g1]; simp) h1] at hbx
      exact .inl ⟨h1, by simp [h2], hbx⟩
    · rw [jbn k (by simp [h1])] at hbx
      exact .inr ⟨by simp [h1], hbx⟩
  have isE : ∀ k x, (look k (without s.e st.e ++ s'.e)).isSome → (ν.join ν' s s').ow k = some x → (¬(look k s.e).isSome ∧ (look k st.e).isSome ∧ ν.ow k = some x) ∨ ((look k s'.e).isSome ∧ ν'.ow k = some x) := by
    intro k x hk hbx
    obtain ⟨cs, hcs⟩ := Option.isSome_iff_exists.1 hk
    rcases casesE k cs hcs with ⟨h1, h2⟩ | h1
    · obtain ⟨v', us, g1, _⟩ := h.good.own k cs h2
      rw [jeo k (by rw [g1]; simp) h1] at hbx
      exact .inl ⟨h1, by simp [h2], hbx⟩
    · rw [jen k (by simp [h1])] at hbx
      exact .inr ⟨by simp [h1], hbx⟩
  have boxOld : ∀ k bl, ¬(look k s.b).isSome → (look k st.b).isSome → ν.bx k = some bl → bl < w.heap.size ∧ ¬blocksOf (ν.cut (inObs s)) s bl := by
    intro k bl h1 h2 h3
    obtain ⟨cs, hcs⟩ := Option.isSome_iff_exists.1 h2
    exact ⟨h.good.boxLt hcs h3, hstayb k cs bl hcs h1 h3⟩
  have rowOld : ∀ k n u bl, ¬(look k s.e).isSome → (look k st.e).isSome → ν.ow k = some (n, u) → u.ownBlock = some bl → bl < w.heap.size ∧ ¬blocksOf (ν.cut (inObs s)) s bl := by
    intro k n u bl h1 h2 h3 h4
    obtain ⟨cs, hcs⟩ := Option.isSome_iff_exists.1 h2
    exact ⟨h.good.ownLt hcs h3 h4, hstaye k cs n u bl hcs h1 h3 h4⟩
  have boxNew : ∀ k bl, (look k s'.b).isSome → ν'.bx k = some bl → blocksOf (ν.cut (inObs s)) s bl ∨ w.heap.size ≤ bl := by
    intro k bl h1 h2
    obtain ⟨cs, hcs⟩ := Option.isSome_iff_exists.1 h1
    obtain ⟨bl', us, el, g1, g2, _⟩ := hg.box k cs hcs
    rw [h2] at g1; cases g1; exact g2
  have rowNew : ∀ k n u bl, (look k s'.e).isSome → ν'.ow k = some (n, u) → u.ownBlock = some bl → blocksOf (ν.cut (inObs s)) s bl ∨ w.heap.size ≤ bl := by
    intro k n u bl h1 h2 h3
    obtain ⟨cs, hcs⟩ := Option.isSome_iff_exists.1 h1
    obtain ⟨v', us, g1, g2, g3, _⟩ := hg.own k cs hcs
    rw [h2] at g1; cases g1; exact (g3 bl h3).1
  have hA : ∀ bl o, ν'.A bl o → bl < w.heap.size → ¬blocksOf (ν.cut (inObs s)) s bl → ν.A bl o := by
    intro bl o h1 h2 h3
    rcases hf.fresh bl o h1 with h4 | h4 | h4
    · exact h4
    · exact absurd h4 h3
    · simp only at h4; omega
  have hrel : Rel C { t := st.t, b := without s.b st.b ++ s'.b, e := without s.e st.e ++ s'.e, n := st.n, o := st.o ++ obsIds s' } a w' (ν.join ν' s s') := by
    refine h.over ho rfl ⟨hg.alt, fun k cs hk => ?_, fun k k' bl h1 h2 h3 h4 => ?_, fun g o hgo => ?_, fun g g' n n' u u' bl h1 h2 h3 h4 h5 h6 => ?_, fun g k n u bl h1 h2 h3 h4 h5 => ?_, fun k => ?_⟩
      ⟨hf.os.trans h.fr.os, hf.tape.trans h.fr.tape, hf.output.trans h.fr.output, Nat.le_trans h.fr.size hf.size, fun k hk hm => ?_, fun b o hA0 => ?_, fun b o hA0 => ?_, fun n b hn => ho.bx _ _ trivial (h.fr.obj n b hn), h.fr.obn,
        fun m n u hm => row_trans (h.fr.row m n u hm) (fun n u => ho.ow _ n u trivial), h.fr.obr⟩ (fun k hk => ?_)
    · rcases casesB k cs hk with ⟨h1, h2⟩ | h1
      · obtain ⟨bl, us, el, g1, g2, g3, g4, g5⟩ := h.good.box k cs h2
        obtain ⟨b1, b2⟩ := boxOld k bl h1 (by simp [h2]) g1
        exact ⟨bl, us, el, ho.bx _ _ trivial g1, g2, fun o hA0 => g3 o (hA bl o hA0 b1 b2), by rw [keepB bl b1 b2]; exact g4, repB_over ho g5⟩
      · obtain ⟨bl, us, el, g1, g2, g3, g4, g5⟩ := hg.box k cs h1
        exact ⟨bl, us, el, ho'.bx _ _ trivial g1, hpr' bl g2, g3, g4, repB_over ho' g5⟩
    · rcases isB k bl h1 h3 with ⟨a1, a2, a3⟩ | ⟨a1, a2⟩ <;> rcases isB k' bl h2 h4 with ⟨b1, b2, b3⟩ | ⟨b1, b2⟩
      · exact h.good.inj k k' bl a2 b2 a3 b3
      · obtain ⟨c1, c2⟩ := boxOld k bl a1 a2 a3
        exact absurd rfl (sizeB bl (boxNew k' bl b1 b2) bl c1 c2)
      · obtain ⟨c1, c2⟩ := boxOld k' bl b1 b2 b3
        exact absurd rfl (sizeB bl (boxNew k bl a1 a2) bl c1 c2)
      · exact hg.inj k k' bl a1 b1 a2 b2
    · rcases casesE g o hgo with ⟨h1, h2⟩ | h1
      · obtain ⟨u, us, g1, g2, g3, g4⟩ := h.good.own g o h2
        refine ⟨u, us, by rw [jeo g (by rw [g1]; simp) h1]; exact g1, ⟨g2.1, ?_⟩, fun bl hbl => ?_, rowC_over ho (fun bl hbl j hA0 => ?_) g4⟩
        · rcases g2.2 with e2 | ⟨bb, cap, cur, f1, f2, f3, f4⟩
          · exact .inl e2
          · obtain ⟨b1, b2⟩ := rowOld g _ u bb h1 (by simp [h2]) g1 (by rw [f1]; rfl)
            exact .inr ⟨bb, cap, cur, f1, f2, by rw [keepB bb b1 b2]; exact f3, f4⟩
        · obtain ⟨b1, b2⟩ := rowOld g _ u bl h1 (by simp [h2]) g1 hbl
          exact ⟨(g3 bl hbl).1, fun j hA0 => (g3 bl hbl).2 j (hA bl j hA0 b1 b2)⟩
        · obtain ⟨b1, b2⟩ := rowOld g _ u bl h1 (by simp [h2]) g1 hbl
          exact hA bl j hA0 b1 b2
      · obtain ⟨u, us, g1, g2, g3, g4⟩ := hg.own g o h1
        exact ⟨u, us, by rw [jen g (by simp [h1])]; exact g1, g2, fun bl hbl => ⟨hpr' bl (g3 bl hbl).1, (g3 bl hbl).2⟩, rowC_over ho' (fun _ _ _ h => h) g4⟩
    · rcases isE g _ h1 h3 with ⟨a1, a2, a3⟩ | ⟨a1, a2⟩ <;> rcases isE g' _ h2 h4 with ⟨b1, b2, b3⟩ | ⟨b1, b2⟩
      · exact h.good.oinj g g' n n' u u' bl a2 b2 a3 b3 h5 h6
      · obtain ⟨c1, c2⟩ := rowOld g n u bl a1 a2 a3 h5
        exact absurd rfl (sizeB bl (rowNew g' n' u' bl b1 b2 h6) bl c1 c2)
      · obtain ⟨c1, c2⟩ := rowOld g' n' u' bl b1 b2 b3 h6
        exact absurd rfl (sizeB bl (rowNew g n u bl a1 a2 h5) bl c1 c2)
      · exact hg.oinj g g' n n' u u' bl a1 b1 a2 b2 h5 h6
    · rcases isE g _ h1 h3 with ⟨a1, a2, a3⟩ | ⟨a1, a2⟩ <;> rcases isB k bl h2 h5 with ⟨b1, b2, b3⟩ | ⟨b1, b2⟩
      · exact h.good.obx g k n u bl a2 b2 a3 h4 b3
      · obtain ⟨c1, c2⟩ := rowOld g n u bl a1 a2 a3 h4
        exact absurd rfl (sizeB bl (boxNew k bl b1 b2) bl c1 c2)
      · obtain ⟨c1, c2⟩ := boxOld k bl b1 b2 b3
        exact absurd rfl (sizeB bl (rowNew g n u bl a1 a2 h4) bl c1 c2)
      · exact hg.obx g k n u bl a1 b1 a2 h4 b2
    · -- a name is a box's or a row's
      cases hbx : (ν.join ν' s s').bx k with
      | none => exact .inl rfl
      | some bl =>
        right
        cases hox : (ν.join ν' s s').ow k with
        | none => rfl
        | some x =>
          exfalso
          have e1 : (ν.bx k = some bl ∧ ¬(look k s.b).isSome ∧ ¬(look k s'.b).isSome) ∨ ν'.bx k = some bl := by
            by_cases hs : (look k s.b).isSome ∨ (look k s'.b).isSome
            · right; simpa [Env.join, hs] using hbx
            · left; simp only [not_or] at hs; exact ⟨by simpa [Env.join, hs.1, hs.2] using hbx, hs.1, hs.2⟩
          have e2 : (ν.ow k = some x ∧ ¬(look k s.e).isSome ∧ ¬(look k s'.e).isSome) ∨ ν'.ow k = some x := by
            by_cases hs : (look k s.e).isSome ∨ (look k s'.e).isSome
            · right; simpa [Env.join, hs] using hox
            · left; simp only [not_or] at hs; exact ⟨by simpa [Env.join, hs.1, hs.2] using hox, hs.1, hs.2⟩
          rcases e1 with ⟨a1, a2, a3⟩ | a1 <;> rcases e2 with ⟨b1, b2, b3⟩ | b1
          · rcases h.good.one k with hh | hh
            · rw [hh] at a1; cases a1
            · rw [hh] at b1; cases b1
          · have hke := xe k x b1
            have hss : (look k s.e).isSome := by
              cases k with
              | loc m => rw [hob'.2 m] at hke; cases hke
              | obj m => rcases hne m hke with hh | hh
                         · exact hh
                         · rw [(h.new (.obj m) ⟨trivial, hh⟩).1] at a1; cases a1
            obtain ⟨o, ho2⟩ := Option.isSome_iff_exists.1 (hse k hss)
            obtain ⟨v', us, g1, _⟩ := h.good.own k o ho2
            rcases h.good.one k with hh | hh
            · rw [hh] at a1; cases a1
            · rw [hh] at g1; cases g1
          · have hkb := xb k bl a1
            have hss : (look k s.b).isSome := by
              cases k with
              | loc m => rw [hob'.1 m] at hkb; cases hkb
              | obj m => rcases hnb m hkb with hh | hh
                         · exact hh
                         · rw [(h.new (.obj m) ⟨trivial, hh⟩).2] at b1; cases b1
            obtain ⟨cs, hcs⟩ := Option.isSome_iff_exists.1 (hsb k hss)
            obtain ⟨bl', us, el, g1, _⟩ := h.good.box k cs hcs
            rcases h.good.one k with hh | hh
            · rw [hh] at g1; cases g1
            · rw [hh] at b1; cases b1
          · rcases hg.one k with hh | hh
            · rw [hh] at a1; cases a1
            · rw [hh] at b1; cases b1
    · have hlt : k < w.heap.size := Nat.lt_of_lt_of_le hk h.fr.size
      rw [keepB k hlt fun hbl => by
        rcases (hblk k hbl).1 with h1 | h1
        · exact hm h1
        · omega]
      exact h.fr.block k hk hm
    · obtain ⟨k1, k2⟩ := h.fr.keep b o hA0
      obtain ⟨k3, k4⟩ := hf.keep b o k1
      exact ⟨k3, k4.trans k2⟩
    · rcases hf.fresh b o hA0 with h4 | h4 | h4
      · exact h.fr.fresh b o h4
      · exact .inr (hblk b h4).1
      · exact .inr (.inr (Nat.le_trans h.fr.size h4))
    · -- free names
      simp only at hk
      cases k with
      | loc m =>
        obtain ⟨n1, n2⟩ := h.new (.loc m) (fresh_mono (Nat.le_refl _) (fun _ h => List.mem_append_left _ h) hk)
        exact ⟨by simp [Env.join, hob.1 m, hob'.1 m, n1], by simp [Env.join, hob.2 m, hob'.2 m, n2]⟩
      | obj m =>
        simp only [fresh, List.mem_append, not_or, true_and] at hk
        obtain ⟨n1, n2⟩ := h.new (.obj m) ⟨trivial, hk.1⟩
        have q1 : ¬(look (.obj m) s'.b).isSome := fun hh => hk.2 (obsIds_of (.inl hh))
        have q2 : ¬(look (.obj m) s'.e).isSome := fun hh => hk.2 (obsIds_of (.inr hh))
        have q3 : ¬(look (.obj m) s.b).isSome := fun hh => by
          obtain ⟨cs, hcs⟩ := Option.isSome_iff_exists.1 (hsb _ hh)
          obtain ⟨bl', us, el, g1, _⟩ := h.good.box _ cs hcs
          rw [n1] at g1; cases g1
        have q4 : ¬(look (.obj m) s.e).isSome := fun hh => by
          obtain ⟨cs, hcs⟩ := Option.isSome_iff_exists.1 (hse _ hh)
          obtain ⟨v', us, g1, _⟩ := h.good.own _ cs hcs
          rw [n2] at g1; cases g1
        exact ⟨by simp [Env.join, q1, q3, n1], by simp [Env.join, q2, q4, n2]⟩
  exact hrel.put hd (rep_over ho' hr)

end Go.Pv
