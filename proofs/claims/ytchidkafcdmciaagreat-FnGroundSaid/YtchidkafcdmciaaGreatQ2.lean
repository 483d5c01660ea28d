/- A call, by its contract. -/
import Derived.Deep.LoopGhost
import Derived.Test.YtchidkafcdmciaaGreatQ1
set_option linter.all false
namespace Go.Pv
open Go Go.RowKit

def inObs (s : Obs) (k : Key) : Prop := (look k s.b).isSome = true ∨ (look k s.e).isSome = true
/-- What is left of a list of names when those of another are taken away. -/
def without {α β : Type} (s : List (Key × β)) : List (Key × α) → List (Key × α)
  | [] => []
  | (k, x) :: r => match look k s with
    | some _ => without s r
    | none => (k, x) :: without s r
theorem look_without {α β : Type} (s : List (Key × β)) (k : Key) : ∀ l : List (Key × α), look k (without s l) = if (look k s).isSome then none else look k l
  | [] => by simp [without, look]
  | (i, x) :: r => by
    simp only [without]
    by_cases e : i = k
    · subst e
      cases h : look i s with
      | some y => simp [look_without s i r, h]
      | none => simp [look]
    · cases h : look i s with
      | some y => simp [look_without s k r, look, e]
      | none => simp [look, e, look_without s k r]
theorem look_append {α : Type} (k : Key) : ∀ l l' : List (Key × α), look k (l ++ l') = match look k l with | some x => some x | none => look k l'
  | [], l' => by simp [look]
  | (i, x) :: r, l' => by
    by_cases e : i = k
    · simp [look, e]
    · simp [look, e, look_append k r l']

/-- The state behind a call that was handed s and handed back s'. -/
def after (st : St) (s s' : Obs) (d : Option Nat) (r : PV) : St :=
  { t := putO d r st.t, b := without s.b st.b ++ s'.b, e := without s.e st.e ++ s'.e, n := st.n, o := st.o ++ obsIds s' }

section
open Classical
noncomputable def Env.join (ν ν' : Env) (s s' : Obs) : Env :=
  { A := ν'.A, bx := fun k => if (look k s.b).isSome ∨ (look k s'.b).isSome then ν'.bx k else ν.bx k, ow := fun k => if (look k s.e).isSome ∨ (look k s'.e).isSome then ν'.ow k else ν.ow k }
end

theorem Rel.call {C : Ctx} {st : St} {a : Act} {w w' : World} {ν ν' : Env} (h : Rel C st a w ν) {s s' : Obs} (hb : subB (inObs s) s.b st.b) (he : subE (inObs s) s.e st.e) (hob : objOnly s)
    (hg : Good (fun bl => blocksOf (ν.cut (inObs s)) s bl ∨ w.heap.size ≤ bl) w' ν' s'.b s'.e) (hx : exactE ν' s') (hob' : objOnly s') (hf : Fr ⟨w, ν.cut (inObs s), blocksOf (ν.cut (inObs s)) s, 0, obsIds s⟩ w' ν')
    (hnb : ∀ m, (look (.obj m) s'.b).isSome → (look (.obj m) s.b).isSome ∨ .obj m ∉ st.o) (hne : ∀ m, (look (.obj m) s'.e).isSome → (look (.obj m) s.e).isSome ∨ .obj m ∉ st.o) (d : Option Nat) (hd : dstOk C.N d = true) {r : PV} {v : Value} (hr : rep w' ν' r v) :
    Rel C (after st s s' d r) (a.put d v) w' (ν.join ν' s s') := by
  have hsb : ∀ k, (look k s.b).isSome → (look k st.b).isSome := fun k hk => by
    obtain ⟨cs, hcs⟩ := Option.isSome_iff_exists.1 hk
    simp [(hb k cs hcs).1]
  have hse : ∀ k, (look k s.e).isSome → (look k st.e).isSome := fun k hk => by
    obtain ⟨cs, hcs⟩ := Option.isSome_iff_exists.1 hk
    simp [(he k cs hcs).1]
  have hnewb : ∀ k, (look k s'.b).isSome → ¬(look k s.b).isSome → ν.bx k = none := fun k hk hn => by
    cases k with
    | loc m => rw [hob'.1 m] at hk; cases hk
    | obj m => exact (h.new (.obj m) ⟨trivial, (hnb m hk).resolve_left hn⟩).1
  have hnewe : ∀ k, (look k s'.e).isSome → ¬(look k s.e).isSome → ν.ow k = none := fun k hk hn => by
    cases k with
    | loc m => rw [hob'.2 m] at hk; cases hk
    | obj m => exact (h.new (.obj m) ⟨trivial, (hne m hk).resolve_left hn⟩).2
  have jbs : ∀ k, (look k s.b).isSome → (ν.join ν' s s').bx k = ν'.bx k := fun k hk => by simp [Env.join, hk]
  have jbn : ∀ k, (look k s'.b).isSome → (ν.join ν' s s').bx k = ν'.bx k := fun k hk => by simp [Env.join, hk]
  have jbo : ∀ k, ν.bx k ≠ none → ¬(look k s.b).isSome → (ν.join ν' s s').bx k = ν.bx k := fun k h1 h2 => by
    have h3 : ¬(look k s'.b).isSome := fun h3 => h1 (hnewb k h3 h2)
    simp [Env.join, h2, h3]
  have jes : ∀ k, (look k s.e).isSome → (ν.join ν' s s').ow k = ν'.ow k := fun k hk => by simp [Env.join, hk]
  have jen : ∀ k, (look k s'.e).isSome → (ν.join ν' s s').ow k = ν'.ow k := fun k hk => by simp [Env.join, hk]
  have jeo : ∀ k, ν.ow k ≠ none → ¬(look k s.e).isSome → (ν.join ν' s s').ow k = ν.ow k := fun k h1 h2 => by
    have h3 : ¬(look k s'.e).isSome := fun h3 => h1 (hnewe k h3 h2)
    simp [Env.join, h2, h3]
  have xb : ∀ k b, ν'.bx k = some b → (look k s'.b).isSome := fun k b hk => by
    cases hl : look k s'.b with
    | some _ => rfl
    | none => rw [(hx k).1 hl] at hk; cases hk
  have xe : ∀ k b, ν'.ow k = some b → (look k s'.e).isSome := fun k b hk => by
    cases hl : look k s'.e with
    | some _ => rfl
    | none => rw [(hx k).2 hl] at hk; cases hk
  have ho : Over w ν w' (ν.join ν' s s') := by
    refine ⟨fun b o hA => hf.keep b o hA, fun k b _ hk => ?_, fun g n u _ hg => ?_⟩
    · by_cases hs : (look k s.b).isSome
      · rw [jbs k hs]
        cases k with
        | loc m => rw [hob.1 m] at hs; cases hs
        | obj m => exact hf.obj m b (by rw [Env.cut_bx (.inl hs)]; exact hk)
      · rw [jbo k (by rw [hk]; simp) hs]; exact hk
    · by_cases hs : (look g s.e).isSome
      · rw [jes g hs]
        cases g with
        | loc m => rw [hob.2 m] at hs; cases hs
        | obj m => exact hf.row m n u (by rw [Env.cut_ow (.inr hs)]; exact hg)
      · rw [jeo g (by rw [hg]; simp) hs]; exact ⟨n, u, hg, .inl ⟨rfl, rfl⟩⟩
  have ho' : Over w' ν' w' (ν.join ν' s s') :=
    ⟨fun b o hA => ⟨hA, rfl⟩, fun k b _ hk => by rw [jbn k (xb k b hk)]; exact hk, fun g n u _ hk => ⟨n, u, by rw [jen g (xe g _ hk)]; exact hk, .inl ⟨rfl, rfl⟩⟩⟩
  have hblk : ∀ bl, blocksOf (ν.cut (inObs s)) s bl → C.pr bl ∧ bl < w.heap.size := by
    intro bl hbl
    rcases hbl with ⟨k, h1, h2⟩ | ⟨g, n, u, h1, h2, h3⟩
    · have h4 := (Env.cut_some h2).2
      obtain ⟨cs, hcs⟩ := Option.isSome_iff_exists.1 (hsb k h1)
      obtain ⟨bl', us, el, g1, g2, _⟩ := h.good.box k cs hcs
      rw [h4] at g1; cases g1
      exact ⟨g2, h.good.boxLt hcs h4⟩
    · have h4 := (Env.cut_someO h2).2
      obtain ⟨o, ho2⟩ := Option.isSome_iff_exists.1 (hse g h1)
      obtain ⟨v', us, g1, g2, g3, _⟩ := h.good.own g o ho2
      rw [h4] at g1; cases g1
      exact ⟨(g3 bl h3).1, h.good.ownLt ho2 h4 h3⟩
  have hpr' : ∀ bl, blocksOf (ν.cut (inObs s)) s bl ∨ w.heap.size ≤ bl → C.pr bl := fun bl hbl => by
    rcases hbl with hbl | hbl
    · exact (hblk bl hbl).1
    · exact .inr (Nat.le_trans h.fr.size hbl)
  -- blocks of what was not handed on stay
  have hstayb : ∀ k cs bl, look k st.b = some cs → ¬(look k s.b).isSome → ν.bx k = some bl → ¬blocksOf (ν.cut (inObs s)) s bl := by
    intro k cs bl h1 h2 h3 h4
    rcases h4 with ⟨k', a1, a2⟩ | ⟨g, n, u, a1, a2, a3⟩
    · have := h.good.inj k k' bl (by simp [h1]) (hsb k' a1) h3 (Env.cut_some a2).2
      subst this; exact h2 a1
    · exact h.good.obx g k n u bl (hse g a1) (by simp [h1]) (Env.cut_someO a2).2 a3 h3
  have hstaye : ∀ g o n u bl, look g st.e = some o → ¬(look g s.e).isSome → ν.ow g = some (n, u) → u.ownBlock = some bl → ¬blocksOf (ν.cut (inObs s)) s bl := by
    intro g o n u bl h1 h2 h3 h4 h5
    rcases h5 with ⟨k', a1, a2⟩ | ⟨g', n', u', a1, a2, a3⟩
    · exact h.good.obx g k' n u bl (by simp [h1]) (hsb k' a1) h3 h4 (Env.cut_some a2).2
    · have := h.good.oinj g g' n n' u u' bl (by simp [h1]) (hse g' a1) h3 (Env.cut_someO a2).2 h4 a3
      subst this; exact h2 a1
  have casesB : ∀ k cs, look k (without s.b st.b ++ s'.b) = some cs → (¬(look k s.b).isSome ∧ look k st.b = some cs) ∨ look k s'.b = some cs := by
    intro k cs hk
    rw [look_append, look_without] at hk
    by_cases hs : (look k s.b).isSome
    · simp only [hs, if_true] at hk; exact .inr hk
    · simp only [hs] at hk
      cases hl : look k st.b with
      | some x => simp [hl] at hk; subst hk; exact .inl ⟨hs, rfl⟩
      | none => simp [hl] at hk; exact .inr hk
  have casesE : ∀ k cs, look k (without s.e st.e ++ s'.e) = some cs → (¬(look k s.e).isSome ∧ look k st.e = some cs) ∨ look k s'.e = some cs := by
    intro k cs hk
    rw [look_append, look_without] at hk
    by_cases hs : (look k s.e).isSome
    · simp only [hs, if_true] at hk; exact .inr hk
    · simp only [hs] at hk
      cases hl : look k st.e with
      | some x => simp [hl] at hk; subst hk; exact .inl ⟨hs, rfl⟩
      | none => simp [hl] at hk; exact .inr hk
  have sizeB : ∀ bl, blocksOf (ν.cut (inObs s)) s bl ∨ w.heap.size ≤ bl → ∀ bl', bl' < w.heap.size → ¬blocksOf (ν.cut (inObs s)) s bl' → bl ≠ bl' := by
    intro bl h1 bl' h2 h3 e
    subst e
    rcases h1 with h1 | h1
    · exact h3 h1
    · omega
  have keepB : ∀ bl, bl < w.heap.size → ¬blocksOf (ν.cut (inObs s)) s bl → w'.heap[bl]? = w.heap[bl]? := fun bl h1 h2 => hf.block bl h1 h2
  -- facts of one name
  have isB : ∀ k bl, (look k (without s.b st.b ++ s'.b)).isSome → (ν.join ν' s s').bx k = some bl → (¬(look k s.b).isSome ∧ (look k st.b).isSome ∧ ν.bx k = some bl) ∨ ((look k s'.b).isSome ∧ ν'.bx k = some bl) := by
    intro k bl hk hbx
    obtain ⟨cs, hcs⟩ := Option.isSome_iff_exists.1 hk
    rcases casesB k cs hcs with ⟨h1, h2⟩ | h1
    · obtain ⟨bl', us, el, g1, _⟩ := h.good.box k cs h2
      rw [jbo k (by rw [g1]; simp) h1] at hbx
      exact .inl ⟨h1, by simp [h2], hbx⟩
    · rw [jbn k (by simp [h1])] at hbx
      exact .inr ⟨by simp [h1], hbx⟩
  have isE : ∀ k x, (look k (without s.e st.e ++ s'.e)).isSome → (ν.join ν' s s').ow k = some x → (¬(look k s.e).isSome ∧ (look k st.e).isSome ∧ ν.ow k = some x) ∨ ((look k s'.e).isSome ∧ ν'.ow k = some x) := by
    intro k x hk hbx
    obtain ⟨cs, hcs⟩ := Option.isSome_iff_exists.1 hk
    rcases casesE k cs hcs with ⟨h1, h2⟩ | h1
    · obtain ⟨v', us, g1, _⟩ := h.good.own k cs h2
      rw [jeo k (by rw [g1]; simp) h1] at hbx
      exact .inl ⟨h1, by simp [h2], hbx⟩
    · rw [jen k (by simp [h1])] at hbx
      exact .inr ⟨by simp [h1], hbx⟩
  have boxOld : ∀ k bl, ¬(look k s.b).isSome → (look k st.b).isSome → ν.bx k = some bl → bl < w.heap.size ∧ ¬blocksOf (ν.cut (inObs s)) s bl := by
    intro k bl h1 h2 h3
    obtain ⟨cs, hcs⟩ := Option.isSome_iff_exists.1 h2
    exact ⟨h.good.boxLt hcs h3, hstayb k cs bl hcs h1 h3⟩
  have rowOld : ∀ k n u bl, ¬(look k s.e).isSome → (look k st.e).isSome → ν.ow k = some (n, u) → u.ownBlock = some bl → bl < w.heap.size ∧ ¬blocksOf (ν.cut (inObs s)) s bl := by
    intro k n u bl h1 h2 h3 h4
    obtain ⟨cs, hcs⟩ := Option.isSome_iff_exists.1 h2
    exact ⟨h.good.ownLt hcs h3 h4, hstaye k cs n u bl hcs h1 h3 h4⟩
  have boxNew : ∀ k bl, (look k s'.b).isSome → ν'.bx k = some bl → blocksOf (ν.cut (inObs s)) s bl ∨ w.heap.size ≤ bl := by
    intro k bl h1 h2
    obtain ⟨cs, hcs⟩ := Option.isSome_iff_exists.1 h1
    obtain ⟨bl', us, el, g1, g2, _⟩ := hg.box k cs hcs
    rw [h2] at g1; cases g1; exact g2
  have rowNew : ∀ k n u bl, (look k s'.e).isSome → ν'.ow k = some (n, u) → u.ownBlock = some bl → blocksOf (ν.cut (inObs s)) s bl ∨ w.heap.size ≤ bl := by
    intro k n u bl h1 h2 h3
    obtain ⟨cs, hcs⟩ := Option.isSome_iff_exists.1 h1
    obtain ⟨v', us, g1, g2, g3, _⟩ := hg.own k cs hcs
    rw [h2] at g1; cases g1; exact (g3 bl h3).1
  have hA : ∀ bl o, ν'.A bl o → bl < w.heap.size → ¬blocksOf (ν.cut (inObs s)) s bl → ν.A bl o := by
    intro bl o h1 h2 h3
    rcases hf.fresh bl o h1 with h4 | h4 | h4
    · exact h4
    · exact absurd h4 h3
    · simp only at h4; omega
  have hrel : Rel C { t := st.t, b := without s.b st.b ++ s'.b, e := without s.e st.e ++ s'.e, n := st.n, o := st.o ++ obsIds s' } a w' (ν.join ν' s s') := by
    refine h.over ho rfl ⟨hg.alt, fun k cs hk => ?_, fun k k' bl h1 h2 h3 h4 => ?_, fun g o hgo => ?_, fun g g' n n' u u' bl h1 h2 h3 h4 h5 h6 => ?_, fun g k n u bl h1 h2 h3 h4 h5 => ?_, fun k => ?_⟩
      ⟨hf.os.trans h.fr.os, hf.tape.trans h.fr.tape, hf.output.trans h.fr.output, Nat.le_trans h.fr.size hf.size, fun k hk hm => ?_, fun b o hA0 => ?_, fun b o hA0 => ?_, fun n b hn => ho.bx _ _ trivial (h.fr.obj n b hn), h.fr.obn,
        fun m n u hm => row_trans (h.fr.row m n u hm) (fun n u => ho.ow _ n u trivial), h.fr.obr⟩ (fun k hk => ?_)
    · rcases casesB k cs hk with ⟨h1, h2⟩ | h1
      · obtain ⟨bl, us, el, g1, g2, g3, g4, g5⟩ := h.good.box k cs h2
        obtain ⟨b1, b2⟩ := boxOld k bl h1 (by simp [h2]) g1
        exact ⟨bl, us, el, ho.bx _ _ trivial g1, g2, fun o hA0 => g3 o (hA bl o hA0 b1 b2), by rw [keepB bl b1 b2]; exact g4, repB_over ho g5⟩
      · obtain ⟨bl, us, el, g1, g2, g3, g4, g5⟩ := hg.box k cs h1
        exact ⟨bl, us, el, ho'.bx _ _ trivial g1, hpr' bl g2, g3, g4, repB_over ho' g5⟩
    · rcases isB k bl h1 h3 with ⟨a1, a2, a3⟩ | ⟨a1, a2⟩ <;> rcases isB k' bl h2 h4 with ⟨b1, b2, b3⟩ | ⟨b1, b2⟩
      · exact h.good.inj k k' bl a2 b2 a3 b3
      · obtain ⟨c1, c2⟩ := boxOld k bl a1 a2 a3
        exact absurd rfl (sizeB bl (boxNew k' bl b1 b2) bl c1 c2)
      · obtain ⟨c1, c2⟩ := boxOld k' bl b1 b2 b3
        exact absurd rfl (sizeB bl (boxNew k bl a1 a2) bl c1 c2)
      · exact hg.inj k k' bl a1 b1 a2 b2
    · rcases casesE g o hgo with ⟨h1, h2⟩ | h1
      · obtain ⟨u, us, g1, g2, g3, g4⟩ := h.good.own g o h2
        refine ⟨u, us, by rw [jeo g (by rw [g1]; simp) h1]; exact g1, ⟨g2.1, ?_⟩, fun bl hbl => ?_, rowC_over ho (fun bl hbl j hA0 => ?_) g4⟩
        · rcases g2.2 with e2 | ⟨bb, cap, cur, f1, f2, f3, f4⟩
          · exact .inl e2
          · obtain ⟨b1, b2⟩ := rowOld g _ u bb h1 (by simp [h2]) g1 (by rw [f1]; rfl)
            exact .inr ⟨bb, cap, cur, f1, f2, by rw [keepB bb b1 b2]; exact f3, f4⟩
        · obtain ⟨b1, b2⟩ := rowOld g _ u bl h1 (by simp [h2]) g1 hbl
          exact ⟨(g3 bl hbl).1, fun j hA0 => (g3 bl hbl).2 j (hA bl j hA0 b1 b2)⟩
        · obtain ⟨b1, b2⟩ := rowOld g _ u bl h1 (by simp [h2]) g1 hbl
          exact hA bl j hA0 b1 b2
      · obtain ⟨u, us, g1, g2, g3, g4⟩ := hg.own g o h1
        exact ⟨u, us, by rw [jen g (by simp [h1])]; exact g1, g2, fun bl hbl => ⟨hpr' bl (g3 bl hbl).1, (g3 bl hbl).2⟩, rowC_over ho' (fun _ _ _ h => h) g4⟩
    · rcases isE g _ h1 h3 with ⟨a1, a2, a3⟩ | ⟨a1, a2⟩ <;> rcases isE g' _ h2 h4 with ⟨b1, b2, b3⟩ | ⟨b1, b2⟩
      · exact h.good.oinj g g' n n' u u' bl a2 b2 a3 b3 h5 h6
      · obtain ⟨c1, c2⟩ := rowOld g n u bl a1 a2 a3 h5
        exact absurd rfl (sizeB bl (rowNew g' n' u' bl b1 b2 h6) bl c1 c2)
      · obtain ⟨c1, c2⟩ := rowOld g' n' u' bl b1 b2 b3 h6
        exact absurd rfl (sizeB bl (rowNew g n u bl a1 a2 h5) bl c1 c2)
      · exact hg.oinj g g' n n' u u' bl a1 b1 a2 b2 h5 h6
    · rcases isE g _ h1 h3 with ⟨a1, a2, a3⟩ | ⟨a1, a2⟩ <;> rcases isB k bl h2 h5 with ⟨b1, b2, b3⟩ | ⟨b1, b2⟩
      · exact h.good.obx g k n u bl a2 b2 a3 h4 b3
      · obtain ⟨c1, c2⟩ := rowOld g n u bl a1 a2 a3 h4
        exact absurd rfl (sizeB bl (boxNew k bl b1 b2) bl c1 c2)
      · obtain ⟨c1, c2⟩ := boxOld k bl b1 b2 b3
        exact absurd rfl (sizeB bl (rowNew g n u bl a1 a2 h4) bl c1 c2)
      · exact hg.obx g k n u bl a1 b1 a2 h4 b2
    · -- a name is a box's or a row's
      cases hbx : (ν.join ν' s s').bx k with
      | none => exact .inl rfl
      | some bl =>
        right
        cases hox : (ν.join ν' s s').ow k with
        | none => rfl
        | some x =>
          exfalso
          have e1 : (ν.bx k = some bl ∧ ¬(look k s.b).isSome ∧ ¬(look k s'.b).isSome) ∨ ν'.bx k = some bl := by
            by_cases hs : (look k s.b).isSome ∨ (look k s'.b).isSome
            · right; simpa [Env.join, hs] using hbx
            · left; simp only [not_or] at hs; exact ⟨by simpa [Env.join, hs.1, hs.2] using hbx, hs.1, hs.2⟩
          have e2 : (ν.ow k = some x ∧ ¬(look k s.e).isSome ∧ ¬(look k s'.e).isSome) ∨ ν'.ow k = some x := by
            by_cases hs : (look k s.e).isSome ∨ (look k s'.e).isSome
            · right; simpa [Env.join, hs] using hox
            · left; simp only [not_or] at hs; exact ⟨by simpa [Env.join, hs.1, hs.2] using hox, hs.1, hs.2⟩
          rcases e1 with ⟨a1, a2, a3⟩ | a1 <;> rcases e2 with ⟨b1, b2, b3⟩ | b1
          · rcases h.good.one k with hh | hh
            · rw [hh] at a1; cases a1
            · rw [hh] at b1; cases b1
          · have hke := xe k x b1
            have hss : (look k s.e).isSome := by
              cases k with
              | loc m => rw [hob'.2 m] at hke; cases hke
              | obj m => rcases hne m hke with hh | hh
                         · exact hh
                         · rw [(h.new (.obj m) ⟨trivial, hh⟩).1] at a1; cases a1
            obtain ⟨o, ho2⟩ := Option.isSome_iff_exists.1 (hse k hss)
            obtain ⟨v', us, g1, _⟩ := h.good.own k o ho2
            rcases h.good.one k with hh | hh
            · rw [hh] at a1; cases a1
            · rw [hh] at g1; cases g1
          · have hkb := xb k bl a1
            have hss : (look k s.b).isSome := by
              cases k with
              | loc m => rw [hob'.1 m] at hkb; cases hkb
              | obj m => rcases hnb m hkb with hh | hh
                         · exact hh
                         · rw [(h.new (.obj m) ⟨trivial, hh⟩).2] at b1; cases b1
            obtain ⟨cs, hcs⟩ := Option.isSome_iff_exists.1 (hsb k hss)
            obtain ⟨bl', us, el, g1, _⟩ := h.good.box k cs hcs
            rcases h.good.one k with hh | hh
            · rw [hh] at g1; cases g1
            · rw [hh] at b1; cases b1
          · rcases hg.one k with hh | hh
            · rw [hh] at a1; cases a1
            · rw [hh] at b1; cases b1
    · have hlt : k < w.heap.size := Nat.lt_of_lt_of_le hk h.fr.size
      rw [keepB k hlt fun hbl => by
        rcases (hblk k hbl).1 with h1 | h1
        · exact hm h1
        · omega]
      exact h.fr.block k hk hm
    · obtain ⟨k1, k2⟩ := h.fr.keep b o hA0
      obtain ⟨k3, k4⟩ := hf.keep b o k1
      exact ⟨k3, k4.trans k2⟩
    · rcases hf.fresh b o hA0 with h4 | h4 | h4
      · exact h.fr.fresh b o h4
      · exact .inr (hblk b h4).1
      · exact .inr (.inr (Nat.le_trans h.fr.size h4))
    · -- free names
      simp only at hk
      cases k with
      | loc m =>
        obtain ⟨n1, n2⟩ := h.new (.loc m) (fresh_mono (Nat.le_refl _) (fun _ h => List.mem_append_left _ h) hk)
        exact ⟨by simp [Env.join, hob.1 m, hob'.1 m, n1], by simp [Env.join, hob.2 m, hob'.2 m, n2]⟩
      | obj m =>
        simp only [fresh, List.mem_append, not_or, true_and] at hk
        obtain ⟨n1, n2⟩ := h.new (.obj m) ⟨trivial, hk.1⟩
        have q1 : ¬(look (.obj m) s'.b).isSome := fun hh => hk.2 (obsIds_of (.inl hh))
        have q2 : ¬(look (.obj m) s'.e).isSome := fun hh => hk.2 (obsIds_of (.inr hh))
        have q3 : ¬(look (.obj m) s.b).isSome := fun hh => by
          obtain ⟨cs, hcs⟩ := Option.isSome_iff_exists.1 (hsb _ hh)
          obtain ⟨bl', us, el, g1, _⟩ := h.good.box _ cs hcs
          rw [n1] at g1; cases g1
        have q4 : ¬(look (.obj m) s.e).isSome := fun hh => by
          obtain ⟨cs, hcs⟩ := Option.isSome_iff_exists.1 (hse _ hh)
          obtain ⟨v', us, g1, _⟩ := h.good.own _ cs hcs
          rw [n2] at g1; cases g1
        exact ⟨by simp [Env.join, q1, q3, n1], by simp [Env.join, q2, q4, n2]⟩
  exact hrel.put hd (rep_over ho' hr)

end Go.Pv
/- Regions in the order of their text; code; functions. -/
set_option linter.all false
namespace Go.Pv
open Go Go.RowKit

inductive RIns where
  | s (i : Ins)
  | call (d : Option Nat) (f : Opd) (xs : List Opd)
  | next (d : Nat) (x : Opd)
structure GI where
  g : Option (Nat × Bool)
  i : RIns

def Ins.dst : Ins → Option Nat
  | .v d _ | .box d _ _ | .alloc d _ _ | .bsl d _ _ _ | .app d _ _ _ _ | .bslm d _ _ _ _ | .appm d _ _ _ _ _ | .mkmap d _ | .range d _ _ => some d
  | .store _ _ _ | .mput _ _ _ _ | .storeE _ _ _ => none
def RIns.dst : RIns → Option Nat
  | .s i => i.dst
  | .call d _ _ => d
  | .next d _ => some d

/-- A call: some of the state's objects are handed on, the contract tells what comes back. -/
def CallDo (P : Program) (n : Nat) (args : List PV) (st : St) (d : Option Nat) (K : St → Prop) : Prop :=
  ∃ s Q, subB (inObs s) s.b st.b ∧ subE (inObs s) s.e st.e ∧ objOnly s ∧ kinL (inObs s) args ∧ FnG P n args s Q ∧
    ∀ r s', Q r s' → ((∀ m, (look (.obj m) s'.b).isSome → (look (.obj m) s.b).isSome ∨ .obj m ∉ st.o) ∧ (∀ m, (look (.obj m) s'.e).isSome → (look (.obj m) s.e).isSome ∨ .obj m ∉ st.o)) ∧ K (after st s s' d r)

/-- A step of an iterator: over, or any entry that is left. -/
def nextDo (st : St) (d : Nat) (ik mk : Key) (since : Nat) (seen : List Nat) (last clock : Nat) (borns : List Nat) (kvs : List PV) (K : St → Prop) : Prop :=
  (since = clock ∧ last = clock) ∧ ((∀ b ∈ borns, b ∈ seen) → K { st with t := put d (.tuple [.bool false]) st.t }) ∧
  (∀ b k v, mat b borns kvs = some (.tuple [k, v]) → b ∉ seen → K { st with t := put d (.tuple [.bool true, k, v]) st.t, b := upd ik [.hdi since (seen ++ [b]) last, .gmap mk] st.b })
def ev1n (st : St) (d : Nat) (v : PV) (K : St → Prop) : Prop :=
  match v with
  | .ptr ik 0 => match look ik st.b with
    | some [.hdi since seen last, .gmap mk] => match look mk st.b with
      | some (.hdm clock borns :: kvs) => nextDo st d ik mk since seen last clock borns kvs K
      | _ => False
    | _ => False
  | _ => False

def ev1 (P : Program) (st : St) (K : St → Prop) : RIns → Prop
  | .next d x => ev1n st d (evalO st.t x) K
  | .s i => match sI st i with
    | some (c, st') => c ∧ K st'
    | none => False
  | .call d f xs => match evalO st.t f with
    | .func n caps => CallDo P n (stripL (xs.map (evalO st.t) ++ caps)) st d K
    | _ => False

def evG (P : Program) : List GI → St → (St → Prop) → Prop
  | [], st, K => K st
  | ⟨none, i⟩ :: r, st, K => ev1 P st (fun st' => evG P r st' K) i
  | ⟨some (s, want), i⟩ :: r, st, K => match get s st.t with
    | .bool b => (b = want → ev1 P { st with t := put s (.bool want) st.t } (fun st' => evG P r st' K) i) ∧ (b = !want → evG P r { st with t := putO i.dst (.tuple []) (put s (.bool !want) st.t) } K)
    | .tuple [] => evG P r { st with t := putO i.dst (.tuple []) st.t } K
    | _ => False

def rOk (N : Nat) (tys : List (Nat × TF)) (i : RIns) (o : Oper) : Bool :=
  match i with
  | .s i => sOk N tys i o
  | .next d x => match o.op with
    | .next it false => o.dst == some d && decide (d < N) && opOk x it
    | _ => false
  | .call d f xs => match o.op with
    | .call ⟨.value f', args, _⟩ => o.dst == d && dstOk N d && opOk f f' && opsOk' xs args.toList
    | _ => false
def gOk (N : Nat) (tys : List (Nat × TF)) (ops : List Oper) (g : GI) (o : Oper) : Bool :=
  (match g.g, o.guard with
   | none, none => true
   | some (s, b), some (j, b') => b == b' && ((ops[j]?).bind (·.dst)) == some s && decide (s < N) && o.dst == g.i.dst && dstOk N g.i.dst
   | _, _ => false) && rOk N tys g.i o
def gsOk (N : Nat) (tys : List (Nat × TF)) (ops : List Oper) : List GI → List Oper → Bool
  | [], [] => true
  | g :: gs, o :: os => gOk N tys ops g o && gsOk N tys ops gs os
  | _, _ => false

theorem repT_append {w : World} {ν : Env} : ∀ {ps qs : List PV} {vs us : List Value}, repT w ν ps vs → repT w ν qs us → repT w ν (ps ++ qs) (vs ++ us)
  | [], qs, vs, us, h, h' => by simp only [repT] at h; subst h; simpa using h'
  | p :: ps, qs, vs, us, h, h' => by
    simp only [repT] at h
    obtain ⟨u, us', rfl, h1, h2⟩ := h
    simp only [List.cons_append, repT]
    exact ⟨u, _, rfl, h1, repT_append h2 h'⟩

theorem call_sound {P : Program} {C : Ctx} {st : St} {a : Act} {w : World} {ν : Env} (hr : Rel C st a w ν) {o : Oper} {f' : Operand} {args : Array Operand} {ts : Array TypeId} (hop : o.op = .call ⟨.value f', args, ts⟩) {d : Option Nat} (hd : o.dst = d) (hdok : dstOk C.N d = true)
    {n : Nat} {caps : List PV} (hf : rep w ν (.func n caps) (a.eval f')) {ps : List PV} (hargs : repT w ν ps (args.toList.map a.eval)) {K : St → Prop} (hc : CallDo P n (stripL (ps ++ caps)) st d K)
    {K' : Act → World → Prop} {Q : Exit → Act → World → Prop} (hK : ∀ st' a' w' ν', K st' → Rel C st' a' w' ν' → K' a' w') : o.wp P a w K' Q := by
  obtain ⟨s, Q', c1, c2, c3, c4, c5, c6⟩ := hc
  simp only [rep] at hf
  obtain ⟨us, hv, hu⟩ := hf
  have hrep : repT w (ν.cut (inObs s)) (stripL (ps ++ caps)) ((args.map a.eval) ++ us).toList := by
    refine repT_overS (OverS.cut _ w ν) _ _ c4 (repT_strip _ _ ?_)
    simpa using repT_append hargs hu
  have hgood : Good (blocksOf (ν.cut (inObs s)) s) w (ν.cut (inObs s)) s.b s.e := hr.good.cut c1 c2 (fun bl _ h => h)
  have hex : exactE (ν.cut (inObs s)) s := by
    intro k
    constructor
    · intro hl
      by_cases hs : inObs s k
      · rw [Env.cut_bx hs]
        rcases hs with hs | hs
        · rw [hl] at hs; cases hs
        · obtain ⟨x, hx⟩ := Option.isSome_iff_exists.1 hs
          obtain ⟨v', us', e1, _⟩ := hr.good.own k x (c2 k x hx).1
          rcases hr.good.one k with h1 | h1
          · exact h1
          · rw [h1] at e1; cases e1
      · exact (Env.cut_no hs).1
    · intro hl
      by_cases hs : inObs s k
      · rw [Env.cut_ow hs]
        rcases hs with hs | hs
        · obtain ⟨x, hx⟩ := Option.isSome_iff_exists.1 hs
          obtain ⟨bl, us', el, e1, _⟩ := hr.good.box k x (c1 k x hx).1
          rcases hr.good.one k with h1 | h1
          · rw [h1] at e1; cases e1
          · exact h1
        · rw [hl] at hs; cases hs
      · exact (Env.cut_no hs).2
  rcases c5 w (ν.cut (inObs s)) ((args.map a.eval) ++ us) hgood hex hrep with ⟨⟨fn, g1, g2, g3⟩, c5⟩ | ⟨v, w', c5, hp⟩
  · obtain ⟨code, hcode⟩ := Option.isSome_iff_exists.1 g2
    have hrun : (execOp a.eval o).run P w = .ok (.enter n ((args.map a.eval) ++ us)) w := by
      obtain ⟨dst, op, ty, pos, aft, gd⟩ := o
      simp only at hop
      subst hop
      simp only [execOp, resolve, hv, Deferred.ofValue, Sem.run_bind, Sem.run_pure, Result.andThen_ok, invoke, callFunc, run_program, g1, g3, hcode]
      simp
    unfold Oper.wp
    rw [hrun]
    simp only [Oper.upon]
    refine c5.mono fun e w' hp => ?_
    obtain ⟨v, r, s', ν', rfl, hq, q1, q2, q3, q4, q5⟩ := hp
    obtain ⟨⟨n1, n2⟩, hk⟩ := c6 r s' hq
    rw [hd]
    exact hK _ _ _ _ hk (hr.call c1 c2 c3 q2 q3 q4 q5 n1 n2 d hdok q1)
  · have hrun : (execOp a.eval o).run P w = .ok (.value v) w' := by
      obtain ⟨dst, op, ty, pos, aft, gd⟩ := o
      simp only at hop
      subst hop
      simp only [execOp, resolve, hv, Deferred.ofValue, Sem.run_bind, Sem.run_pure, Result.andThen_ok, invoke]
      simpa using c5
    obtain ⟨v2, r, s', ν', hvv, hq, q1, q2, q3, q4, q5⟩ := hp
    cases hvv
    obtain ⟨⟨n1, n2⟩, hk⟩ := c6 r s' hq
    refine wp_value hrun ?_
    rw [hd]
    exact hK _ _ _ _ hk (hr.call c1 c2 c3 q2 q3 q4 q5 n1 n2 d hdok q1)

theorem Rel.drawn {C : Ctx} {st : St} {a : Act} {w : World} {ν : Env} (hr : Rel C st a w ν) (n : Nat) : Rel C st a { w with drawn := n } ν := by
  have hov : Over w ν { w with drawn := n } ν := ⟨fun _ _ h => ⟨h, rfl⟩, fun _ _ _ h => h, fun _ n u _ h => ⟨n, u, h, .inl ⟨rfl, rfl⟩⟩⟩
  refine hr.over hov rfl ⟨hr.good.alt, fun k cs hk => ?_, hr.good.inj, fun g o hg => ?_, hr.good.oinj, hr.good.obx, hr.good.one⟩ ⟨hr.fr.os, hr.fr.tape, hr.fr.output, hr.fr.size, hr.fr.block, hr.fr.keep, hr.fr.fresh, hr.fr.obj, hr.fr.obn, hr.fr.row, hr.fr.obr⟩ hr.new
  · obtain ⟨bl, us, el, h1, h2, h3, h4, h5⟩ := hr.good.box k cs hk
    exact ⟨bl, us, el, h1, h2, h3, h4, repB_over hov h5⟩
  · obtain ⟨v, us, h1, h2, h3, h4⟩ := hr.good.own g o hg
    exact ⟨v, us, h1, h2, h3, rowC_over hov (fun _ _ _ h => h) h4⟩

theorem filter_none {α : Type} {l : List α} {p : α → Bool} (h : ∀ x ∈ l, p x = false) : l.filter p = [] := by
  rw [List.filter_eq_nil_iff]; intro x hx; simp [h x hx]
theorem filter_all {α : Type} {l : List α} {p : α → Bool} (h : ∀ x ∈ l, p x = true) : l.filter p = l := List.filter_eq_self.2 h

def nextC (r m since clock : Nat) (seen : Array Nat) (cands : Array (Option MapEntry)) : Sem Value := do
  match cands[← choose (.mapNext cands.size)]? with
  | some (some e) =>
    setObj r (.mapIter (some m) since (seen.push e.born) clock)
    pure (.tuple #[.bool true, e.key, e.val])
  | some none => pure (.tuple #[.bool false])
  | none => stuck "Next: no such candidate"

theorem run_nextC {P : Program} {w : World} (r m since clock : Nat) (seen : Array Nat) (l : List (Option MapEntry)) (hl : l ≠ []) : ∃ n x, x ∈ l ∧ (nextC r m since clock seen l.toArray).run P w =
    (match x with | some e => (do setObj r (.mapIter (some m) since (seen.push e.born) clock); pure (.tuple #[.bool true, e.key, e.val]) : Sem Value) | none => pure (.tuple #[.bool false])).run P { w with drawn := n } := by
  have hpos : 0 < l.length := List.length_pos_iff.2 hl
  unfold nextC
  have key : ∀ i, i < l.length → ∀ w', ((do match (l.toArray[i]? : Option (Option MapEntry)) with
      | some (some e) => setObj r (.mapIter (some m) since (seen.push e.born) clock); pure (.tuple #[.bool true, e.key, e.val])
      | some none => pure (.tuple #[.bool false])
      | none => stuck "Next: no such candidate" : Sem Value)).run P w' = ((match l[i]! with | some e => (do setObj r (.mapIter (some m) since (seen.push e.born) clock); pure (.tuple #[.bool true, e.key, e.val]) : Sem Value) | none => pure (.tuple #[.bool false]))).run P w' := by
    intro i hi w'
    have h1 : l.toArray[i]? = some l[i]! := by simp [hi]
    rw [h1]
    cases l[i]! <;> rfl
  by_cases hf : (Question.mapNext l.length).forced = true
  · refine ⟨w.drawn, l[0]!, by simp [hpos], ?_⟩
    rw [← key 0 hpos]
    have hc : (choose (.mapNext l.length) : Sem Nat).run P w = .ok 0 w := by simp [hf]
    simp only [List.size_toArray, Sem.run_bind, hc, Result.andThen_ok]
  · refine ⟨w.drawn + 1, l[(w.tape w.drawn (.mapNext l.length)) % l.length]!, by simp [Nat.mod_lt _ hpos], ?_⟩
    rw [← key _ (Nat.mod_lt _ hpos)]
    have hc : (choose (.mapNext l.length) : Sem Nat).run P w = .ok ((w.tape w.drawn (.mapNext l.length)) % l.length) { w with drawn := w.drawn + 1 } := by simp [hf, Question.cut]
    simp only [List.size_toArray, Sem.run_bind, hc, Result.andThen_ok]

theorem run_next {P : Program} {w : World} {bl mb : Nat} {seen : List Nat} {es : List MapEntry} {clock : Nat} {ty : TypeId} (h1 : w.heap[bl]? = some (.mapIter (some mb) clock seen.toArray clock)) (h2 : w.heap[mb]? = some (.map es.toArray clock)) (hlt : ∀ e ∈ es, e.born < clock) :
    ∃ n, ((∀ e ∈ es, e.born ∈ seen) ∧ (Instr.next (.pointer (some ⟨bl, 0, none⟩)) false ty).run P w = .ok (.tuple #[.bool false]) { w with drawn := n }) ∨
      ∃ e ∈ es, e.born ∉ seen ∧ (Instr.next (.pointer (some ⟨bl, 0, none⟩)) false ty).run P w = .ok (.tuple #[.bool true, e.key, e.val]) { w with drawn := n, heap := w.heap.setIfInBounds bl (.mapIter (some mb) clock (seen ++ [e.born]).toArray clock) } := by
  have hbad : (!seen.toArray.isEmpty && !es.toArray.isEmpty && es.toArray.all (fun e => decide (e.born ≥ clock))) = false := by
    cases es with
    | nil => simp
    | cons e r =>
      have := hlt e (by simp)
      simp
      intro _ h
      omega
  generalize hL : (es.filter fun e => !seen.contains e.born) = left
  have hleft : (es.toArray.filter fun e => !seen.toArray.contains e.born) = left.toArray := by rw [← hL]; simp
  have hmem : ∀ e ∈ left, e ∈ es ∧ e.born ∉ seen := fun e he => by
    rw [← hL] at he
    have := List.mem_filter.1 he
    exact ⟨this.1, by simpa using this.2⟩
  have hold : (left.toArray.filter fun e => decide (e.born < clock)) = left.toArray := by
    rw [List.filter_toArray, filter_all]
    intro e he
    have := hlt e (hmem e he).1
    simp [this]
  have hnew : (left.toArray.filter fun e => decide (e.born ≥ clock)) = #[] := by
    rw [List.filter_toArray, filter_none]
    intro e he
    have := hlt e (hmem e he).1
    simp; omega
  have hrun : (Instr.next (.pointer (some ⟨bl, 0, none⟩)) false ty).run P w = (nextC bl mb clock clock seen.toArray ((if left.toArray.isEmpty then #[none] else #[]) ++ (left.toArray ++ #[]).map some)).run P w := by
    unfold Instr.next nextC
    simp only [Sem.run_bind, run_getObj' h1, run_getObj' h2, Result.andThen_ok, hbad, hleft, hold, hnew, Bool.false_eq_true, if_false]
    rfl
  rw [hrun]
  by_cases hl0 : left = []
  · subst hl0
    obtain ⟨n, x, g1, g2⟩ := run_nextC (P := P) (w := w) bl mb clock clock seen.toArray [none] (by simp)
    refine ⟨n, .inl ⟨fun e he => ?_, ?_⟩⟩
    · have := List.filter_eq_nil_iff.1 hL e he
      simpa using this
    · simp only [List.mem_singleton] at g1
      subst g1
      have hc : ((if (([] : List MapEntry).toArray).isEmpty then #[none] else #[]) ++ (([] : List MapEntry).toArray ++ #[]).map some) = [none].toArray := by simp
      rw [hc, g2]
      rfl
  · have hc : ((if left.toArray.isEmpty then #[none] else #[]) ++ (left.toArray ++ #[]).map some) = (left.map some).toArray := by simp [hl0]
    obtain ⟨n, x, g1, g2⟩ := run_nextC (P := P) (w := w) bl mb clock clock seen.toArray (left.map some) (by simpa using hl0)
    simp only [List.mem_map] at g1
    obtain ⟨e, he, rfl⟩ := g1
    refine ⟨n, .inr ⟨e, (hmem e he).1, (hmem e he).2, ?_⟩⟩
    rw [hc, g2]
    simp only [Sem.run_bind]
    rw [run_setObj' (w := { w with drawn := n }) (o := .mapIter (some mb) clock seen.toArray clock) h1]
    simp

theorem ents_born : ∀ {borns : List Nat} {us : List Value} {e : MapEntry}, e ∈ ents borns us → e.born ∈ borns
  | [], us, e, h => by simp [ents] at h
  | b :: bs, [], e, h => by simp [ents] at h
  | b :: bs, [_], e, h => by simp [ents] at h
  | b :: bs, k :: v :: us, e, h => by
    simp only [ents, List.mem_cons] at h
    rcases h with rfl | h
    · simp
    · exact List.mem_cons_of_mem _ (ents_born h)
theorem ents_of_born : ∀ {borns : List Nat} {kvs : List PV} {us : List Value}, kvs.length = 2 * borns.length → us.length = kvs.length → ∀ {b : Nat}, b ∈ borns → ∃ e ∈ ents borns us, e.born = b
  | [], _, _, _, _, b, hb => by simp at hb
  | b' :: bs, kvs, [], h1, h2, b, hb => by rw [h1] at h2; simp at h2
  | b' :: bs, kvs, [_], h1, h2, b, hb => by rw [h1] at h2; simp at h2; omega
  | b' :: bs, kvs, k :: v :: us, h1, h2, b, hb => by
    rcases List.mem_cons.1 hb with rfl | hb
    · exact ⟨⟨k, v, b⟩, by simp [ents], rfl⟩
    · obtain ⟨e, g1, g2⟩ := ents_of_born (kvs := kvs.drop 2) (us := us) (borns := bs) (by simp at h1 ⊢; omega) (by simp at h1 h2 ⊢; omega) hb
      exact ⟨e, by simp [ents, g1], g2⟩
theorem mat_of_ents {w : World} {ν : Env} : ∀ {borns : List Nat} {kvs : List PV} {us : List Value}, kvs.length = 2 * borns.length → borns.Pairwise (· < ·) → repT w ν kvs us → ∀ {e : MapEntry}, e ∈ ents borns us → ∃ k v, mat e.born borns kvs = some (.tuple [k, v]) ∧ rep w ν k e.key ∧ rep w ν v e.val
  | [], _, _, _, _, _, e, h => by simp [ents] at h
  | b :: bs, [], us, h1, _, _, e, _ => by simp at h1
  | b :: bs, [_], us, h1, _, _, e, _ => by simp at h1; omega
  | b :: bs, k :: v :: kvs, us, h1, h2, h3, e, h => by
    simp only [repT] at h3
    obtain ⟨u1, us1, rfl, r1, u2, us2, rfl, r2, r3⟩ := h3
    simp only [ents, List.mem_cons] at h
    rw [List.pairwise_cons] at h2
    rcases h with rfl | h
    · exact ⟨k, v, by simp [mat], r1, r2⟩
    · obtain ⟨k', v', g1, g2, g3⟩ := mat_of_ents (by simp at h1; omega) h2.2 r3 h
      have hne : b ≠ e.born := Nat.ne_of_lt (h2.1 _ (ents_born h))
      exact ⟨k', v', by simp [mat, hne, g1], g2, g3⟩

theorem next_sound {P : Program} {C : Ctx} {st : St} {a : Act} {w : World} {ν : Env} (hr : Rel C st a w ν) {o : Oper} {it : Operand} (hop : o.op = .next it false) {d : Nat} (hd : o.dst = some d) (hdok : dstOk C.N (some d) = true) {v : PV} (hv : rep w ν v (a.eval it)) {K : St → Prop} (he : ev1n st d v K)
    {K' : Act → World → Prop} {Q : Exit → Act → World → Prop} (hK : ∀ st' a' w' ν', K st' → Rel C st' a' w' ν' → K' a' w') : o.wp P a w K' Q := by
  unfold ev1n at he
  split at he
  · rename_i ik
    split at he
    · rename_i since seen last mk hik
      split at he
      · rename_i clock borns kvs hmk
        obtain ⟨⟨rfl, rfl⟩, he1, he2⟩ := he
        simp only [rep] at hv
        obtain ⟨bl, b1, b2⟩ := hv
        obtain ⟨bl', us, el, q1, q2, q3, q4, q5⟩ := hr.good.box ik _ hik
        rw [b1] at q1; cases q1
        obtain ⟨mb, ms, mel, m1, m2, m3, m4, m5⟩ := hr.good.box mk _ hmk
        simp only [repB, repT] at q5
        obtain ⟨u, us', hu, ⟨mb', r1, rfl⟩, rfl⟩ := q5
        rw [m1] at r1; cases r1
        simp only [objFrom, hu] at q4
        simp only [objFrom] at m4
        simp only [repB] at m5
        obtain ⟨n, hcase⟩ := run_next (P := P) (ty := o.type) q4 m4 (fun e he => m5.2.lt _ (ents_born he))
        have hexec : ∀ v' w', (Instr.next (.pointer (some ⟨bl, 0, none⟩)) false o.type).run P w = .ok v' w' → (execOp a.eval o).run P w = .ok (.value v') w' := by
          intro v' w' hrun
          obtain ⟨dst, op, ty, pos, aft, gd⟩ := o
          simp only at hop hrun
          subst hop
          simp only [execOp, b2]
          exact val_ok_w hrun
        rcases hcase with ⟨h1, h2⟩ | ⟨e, h1, h2, h3⟩
        · refine wp_value (hexec _ _ h2) ?_
          rw [hd]
          refine hK _ _ _ _ (he1 fun b hb => ?_) ((hr.drawn n).put hdok (p := .tuple [.bool false]) (by simp [rep, repT]))
          obtain ⟨e, f1, f2⟩ := ents_of_born m5.2.len (repT_len m5.1) hb
          rw [← f2]; exact h1 e f1
        · obtain ⟨k, v, f1, f2, f3⟩ := mat_of_ents m5.2.len m5.2.inc m5.1 h1
          refine wp_value (hexec _ _ h3) ?_
          rw [hd]
          have hset := ((hr.drawn n).setBox (w' := { w with drawn := n, heap := w.heap.setIfInBounds bl (.mapIter (some mb) last (seen ++ [e.born]).toArray last) }) hik b1 (cs' := [.hdi last (seen ++ [e.born]) last, .gmap mk]) (us := us) (el := el) rfl rfl rfl
            (fun j hj => Array.getElem?_setIfInBounds_ne (Ne.symm hj)) (by simp) (by simp [objFrom, hu, (Array.getElem?_eq_some_iff.1 q4).1]) (by simp only [repB, repT]; exact ⟨_, _, hu, by simp only [rep]; exact ⟨mb, m1, rfl⟩, rfl⟩))
          refine hK _ _ _ _ (he2 e.born k v f1 h2) (hset.1.put hdok (p := .tuple [.bool true, k, v]) ?_)
          simp only [rep]
          refine ⟨_, rfl, ?_⟩
          simp only [repT]
          have hov : Over w ν { w with drawn := n } ν := ⟨fun _ _ h => ⟨h, rfl⟩, fun _ _ _ h => h, fun _ n u _ h => ⟨n, u, h, .inl ⟨rfl, rfl⟩⟩⟩
          exact ⟨_, _, rfl, by simp [rep], _, _, rfl, rep_over hset.2 (rep_over hov f2), _, _, rfl, rep_over hset.2 (rep_over hov f3), rfl⟩
      · exact he.elim
    · exact he.elim
  · exact he.elim

theorem ev1_sound {P : Program} {tys : List (Nat × TF)} (ht : tysOk P tys = true) {C : Ctx} {st : St} {a : Act} {w : World} {ν : Env} (hr : Rel C st a w ν) {i : RIns} {o : Oper} (ho : rOk C.N tys i o = true) {K : St → Prop} (he : ev1 P st K i)
    {K' : Act → World → Prop} {Q : Exit → Act → World → Prop} (hK : ∀ st' a' w' ν', K st' → Rel C st' a' w' ν' → K' a' w') : o.wp P a w K' Q := by
  cases i with
  | s i =>
    simp only [ev1] at he
    split at he
    · rename_i c st' hs
      exact sI_sound ht hr (by simpa only [rOk] using ho) hs he.1 fun a' w' ν' h => hK _ _ _ _ he.2 h
    · exact he.elim
  | next d x =>
    simp only [ev1] at he
    simp only [rOk] at ho
    split at ho
    · rename_i it hop
      simp only [Bool.and_eq_true, beq_iff_eq, decide_eq_true_eq] at ho
      obtain ⟨⟨h1, h2⟩, h3⟩ := ho
      exact next_sound hr hop h1 (by simpa [dstOk] using h2) (opOk_rep hr h3) he hK
    · cases ho
  | call d f xs =>
    simp only [ev1] at he
    simp only [rOk] at ho
    split at ho
    · rename_i f' args ts hop
      simp only [Bool.and_eq_true, beq_iff_eq] at ho
      obtain ⟨⟨⟨h1, h2⟩, h3⟩, h4⟩ := ho
      split at he
      · rename_i n caps hf
        have := opOk_rep hr h3
        rw [hf] at this
        exact call_sound hr hop h1 h2 this (repT_args hr h4) he hK
      · exact he.elim
    · cases ho

theorem refineSlot {C : Ctx} {st : St} {a : Act} {w : World} {ν : Env} (h : Rel C st a w ν) {s : Nat} {b : Bool} (hs : get s st.t = .bool b) : Rel C { st with t := put s (.bool b) st.t } a w ν := by
  refine ⟨h.good, h.fr, h.defers, h.size, fun i => ?_, h.new⟩
  have := h.slot i
  simp only [get_put]
  split
  · rename_i e; subst e; rw [← hs]; exact this
  · exact this

theorem yielded_of {C : Ctx} {st : St} {a : Act} {w : World} {ν : Env} (h : Rel C st a w ν) {ops : Array Oper} {j s : Nat} (hj : (ops.toList[j]?).bind (·.dst) = some s) (hs : s < C.N) :
    (∀ b, get s st.t = .bool b → yielded ops a.tmps j = some b) ∧ (get s st.t = .tuple [] → yielded ops a.tmps j = none) := by
  have hlt : s < a.tmps.size := by rw [h.size]; exact hs
  have hslot := h.slot s
  have hget : a.tmps.getD s undef = a.tmps[s] := by simp [Array.getD, hlt]
  rw [hget] at hslot
  have hy : yielded ops a.tmps j = match a.tmps[s] with | .bool b => some b | _ => none := by
    unfold yielded
    rw [Array.getElem?_toList] at hj
    rw [hj]
    simp only [Option.bind_some, Array.getElem?_eq_getElem hlt]
    cases a.tmps[s] <;> rfl
  constructor
  · intro b hb
    rw [hb] at hslot
    simp only [rep] at hslot
    rw [hy, hslot]
  · intro hb
    rw [hb] at hslot
    simp only [rep, repT] at hslot
    obtain ⟨us, e1, e2⟩ := hslot
    rw [hy, e1]

theorem evG_sound {P : Program} {tys : List (Nat × TF)} (ht : tysOk P tys = true) {C : Ctx} {ops : Array Oper} {K : St → Prop} {Q : Exit → Act → World → Prop} (hQ : ∀ st' a' w' ν', K st' → Rel C st' a' w' ν' → Q .normal a' w') :
    ∀ (gs : List GI) (os : List Oper) (k : Nat), (∀ j, os[j]? = ops[k + j]?) → gsOk C.N tys ops.toList gs os = true → ∀ (st : St) (a : Act) (w : World) (ν : Env), evG P gs st K → Rel C st a w ν → wpOps P ops Q (List.range' k gs.length) a w
  | [], [], k, _, _, st, a, w, ν, he, hr => by
    simp only [List.length_nil, List.range'_zero, wpOps]
    exact hQ _ _ _ _ he hr
  | [], _ :: _, _, _, hk, _, _, _, _, _, _ => by simp [gsOk] at hk
  | _ :: _, [], _, _, hk, _, _, _, _, _, _ => by simp [gsOk] at hk
  | g :: gs, o :: os, k, hos, hk, st, a, w, ν, he, hr => by
    simp only [gsOk, Bool.and_eq_true] at hk
    have h0 : ops[k]? = some o := by simpa using (hos 0).symm
    have hrest : ∀ j, os[j]? = ops[k + 1 + j]? := fun j => by have := hos (j + 1); simpa [Nat.add_assoc, Nat.add_comm 1 j] using this
    simp only [List.length_cons, List.range'_succ, wpOps, h0]
    have ih : ∀ st' a' w' ν', evG P gs st' K → Rel C st' a' w' ν' → wpOps P ops Q (List.range' (k + 1) gs.length) a' w' := fun st' a' w' ν' h1 h2 => evG_sound ht hQ gs os (k + 1) hrest hk.2 st' a' w' ν' h1 h2
    obtain ⟨gg, gi⟩ := g
    have hg := hk.1
    simp only [gOk, Bool.and_eq_true] at hg
    obtain ⟨hg1, hg2⟩ := hg
    cases gg with
    | none =>
      cases hgo : o.guard with
      | some x => simp [hgo] at hg1
      | none =>
        have hw : Region.wanted o (yielded ops a.tmps) = true := by simp [Region.wanted, hgo]
        rw [if_pos hw]
        simp only [evG] at he
        exact .inl (ev1_sound ht hr hg2 he ih)
    | some sw =>
      obtain ⟨s, want⟩ := sw
      cases hgo : o.guard with
      | none => simp [hgo] at hg1
      | some x =>
        obtain ⟨j, b'⟩ := x
        simp only [hgo, Bool.and_eq_true, beq_iff_eq, decide_eq_true_eq] at hg1
        obtain ⟨⟨⟨⟨rfl, h2⟩, h3⟩, h4⟩, h5⟩ := hg1
        obtain ⟨y1, y2⟩ := yielded_of hr h2 h3
        simp only [evG] at he
        split at he
        · rename_i b hb
          have hy := y1 b hb
          by_cases e : b = want
          · subst e
            have hw : Region.wanted o (yielded ops a.tmps) = true := by simp [Region.wanted, hgo, hy]
            rw [if_pos hw]
            exact .inl (ev1_sound ht (refineSlot hr hb) hg2 (he.1 rfl) ih)
          · have hw : ¬(Region.wanted o (yielded ops a.tmps) = true) := by simp [Region.wanted, hgo, hy, e]
            rw [if_neg hw]
            have hb' : b = !want := by cases b <;> cases want <;> simp at e ⊢
            have hr2 : Rel C { st with t := put s (.bool !want) st.t } a w ν := refineSlot hr (by rw [hb, hb'])
            rw [h4]
            exact ih _ _ _ _ (he.2 hb') (hr2.put h5 (by simp [rep, repT, undef]))
        · rename_i hb
          have hy := y2 hb
          have hw : ¬(Region.wanted o (yielded ops a.tmps) = true) := by simp [Region.wanted, hgo, hy]
          rw [if_neg hw, h4]
          exact ih _ _ _ _ he (hr.put h5 (by simp [rep, repT, undef]))
        · exact he.elim

end Go.Pv
/- Regions that draw their order, I: abstract states as functions, effects, and what an instruction does to them. -/
set_option linter.all false
namespace Go.Pv
open Go Go.RowKit

/-- An abstract state as functions. 'F': the names that are free. -/
structure AS where
  t : Nat → PV
  b : Key → Option (List PV)
  e : Key → Option Own
  F : Key → Prop

/-- What an instruction does: a slot, boxes and rows written, a name taken. -/
structure Ef where
  d : Option Nat
  p : PV
  bw : List (Key × List PV)
  ew : List (Key × Own)
  rm : Option Key

def fsets {α : Type} (l : List (Key × α)) (f : Key → Option α) : Key → Option α := fun k => match look k l with | some x => some x | none => f k
def AS.do (A : AS) (x : Ef) : AS :=
  { t := fun i => if x.d = some i then x.p else A.t i, b := fsets x.bw A.b, e := fsets x.ew A.e, F := fun k => A.F k ∧ x.rm ≠ some k }

/-- Two effects that touch nothing in common. -/
structure Ef.apart (x y : Ef) : Prop where
  d : ∀ i, x.d = some i → y.d ≠ some i
  b : ∀ k, (look k x.bw).isSome → look k y.bw = none
  e : ∀ k, (look k x.ew).isSome → look k y.ew = none

theorem AS.do_comm (A : AS) {x y : Ef} (h : x.apart y) : (A.do x).do y = (A.do y).do x := by
  simp only [AS.do, AS.mk.injEq]
  refine ⟨?_, ?_, ?_, ?_⟩
  · funext i
    by_cases h1 : x.d = some i
    · have := h.d i h1; simp [h1, this]
    · simp [h1]
  · funext k
    simp only [fsets]
    cases hx : look k x.bw with
    | none => cases look k y.bw <;> rfl
    | some u => rw [h.b k (by simp [hx])]
  · funext k
    simp only [fsets]
    cases hx : look k x.ew with
    | none => cases look k y.ew <;> rfl
    | some u => rw [h.e k (by simp [hx])]
  · funext k
    exact propext ⟨fun h => ⟨⟨h.1.1, h.2⟩, h.1.2⟩, fun h => ⟨⟨h.1.1, h.2⟩, h.1.2⟩⟩

def evalF (t : Nat → PV) : Opd → PV
  | .t i => t i
  | .c p => p
def loadF (b : Key → Option (List PV)) (e : Key → Option Own) (agg : Bool) (sz : Nat) : PV → Option (Prop × PV)
  | .rptr sz' k n i f => rowGet agg sz sz' n i f (e k)
  | .ptr k off =>
    match b k with
    | some cs => if agg then some (plainB cs = true ∧ off + sz ≤ cs.length, .agg ((cs.drop off).take sz)) else (cs[off]?).map fun p => (plainB cs = true, p)
    | none => none
  | .eptr p => if agg then some (isAgg sz p, p) else some (solid p = true ∧ cells p = [p], p)
  | _ => none
def buildF (t : Nat → PV) : List PV → List (Nat × Nat × Opd) → Option (Prop × List PV)
  | cs, [] => some (True, cs)
  | cs, (off, sz, x) :: r =>
    match buildF t (splice cs off (cells (evalF t x))) r with
    | some (c, cs') => some ((solid (evalF t x) = true ∧ (cells (evalF t x)).length = sz ∧ off + sz ≤ cs.length) ∧ c, cs')
    | none => none
def vIF (t : Nat → PV) (b : Key → Option (List PV)) (e : Key → Option Own) : VIns → Option (Prop × PV)
  | .mov x => some (True, evalF t x)
  | .pick c x y => pickV (evalF t c) (evalF t x) (evalF t y)
  | .load agg sz x => loadF b e agg sz (evalF t x)
  | .faddr off agg sz x => faddrV off agg sz (evalF t x)
  | .fld off agg sz x => fldV off agg sz (evalF t x)
  | .iaddr sz x i => iaddrV sz (evalF t x) (evalF t i)
  | .sidx x i => sidxV (evalF t x) (evalF t i)
  | .ssl x lo hi => sslV (evalF t x) (lo.map (evalF t)) (hi.map (evalF t))
  | .lsl sz x lo hi => lslV sz (evalF t x) (lo.map (evalF t)) (hi.map (evalF t))
  | .bin op wr x y => binV op wr (evalF t x) (evalF t y)
  | .notB x => notV (evalF t x)
  | .neg x => negV (evalF t x)
  | .conv k x => convV k (evalF t x)
  | .ext i x => extV i (evalF t x)
  | .len x => lenV (evalF t x)
  | .slen x => slenV (evalF t x)
  | .build zero parts => (buildF t zero parts).map fun (c, cs) => (c, .agg cs)
  | .nck x => nckV (evalF t x)
  | .min2 x y => minV (evalF t x) (evalF t y)
  | .mkf n xs => some (True, .func n (xs.map (evalF t)))
  | .mget ks zero ok x k => mgetV b ks zero ok (evalF t x) (evalF t k)
  | .ment x => mentV b (evalF t x)
  | .mlen x => mlenV b (evalF t x)
  | .beq neg x y => beqV neg (evalF t x) (evalF t y)
  | .max2 x y => maxV (evalF t x) (evalF t y)
  | .mkif n x => some (True, .iface n (evalF t x))
  | .loadB agg sz x => loadF b (fun _ => none) agg sz (evalF t x)

/-- The state as functions. -/
structure Like (st : St) (A : AS) : Prop where
  t : ∀ i, get i st.t = A.t i
  b : ∀ k, look k st.b = A.b k
  e : ∀ k, look k st.e = A.e k

theorem evalF_eq {st : St} {A : AS} (h : Like st A) (x : Opd) : evalO st.t x = evalF A.t x := by
  cases x
  · exact h.t _
  · rfl
theorem evalF_fun {st : St} {A : AS} (h : Like st A) : evalO st.t = evalF A.t := funext (evalF_eq h)
theorem loadF_eq {st : St} {A : AS} (h : Like st A) (agg : Bool) (sz : Nat) (p : PV) : loadV st.b st.e agg sz p = loadF A.b A.e agg sz p := by
  cases p <;> simp only [loadV, loadF]
  · rw [h.b]
    rfl
  · rw [h.e]
theorem loadF_eqB {st : St} {A : AS} (h : Like st A) (agg : Bool) (sz : Nat) (p : PV) : loadV st.b [] agg sz p = loadF A.b (fun _ => none) agg sz p := by
  cases p <;> simp only [loadV, loadF]
  · rw [h.b]
    rfl
  · rfl
theorem buildF_eq {st : St} {A : AS} (h : Like st A) : ∀ (parts : List (Nat × Nat × Opd)) (cs : List PV), buildV st.t cs parts = buildF A.t cs parts
  | [], cs => rfl
  | (off, sz, x) :: r, cs => by
    simp only [buildV, buildF, evalF_eq h, buildF_eq h r]
    rfl
theorem vIF_eq {st : St} {A : AS} (h : Like st A) (i : VIns) : vI st i = vIF A.t A.b A.e i := by
  have hb : (fun k => look k st.b) = A.b := funext h.b
  cases i <;> simp only [vI, vIF, evalF_fun h, loadF_eq h, loadF_eqB h, buildF_eq h, hb]

/-- The slots that an instruction looks at. -/
def opdS : Opd → List Nat
  | .t i => [i]
  | .c _ => []
def optS : Option Opd → List Nat
  | some x => opdS x
  | none => []
def VIns.looks : VIns → List Nat
  | .mov x | .load _ _ x | .loadB _ _ x | .faddr _ _ _ x | .fld _ _ _ x | .notB x | .neg x | .conv _ x | .ext _ x | .len x | .slen x | .nck x | .ment x | .mlen x | .mkif _ x => opdS x
  | .pick c x y => opdS c ++ opdS x ++ opdS y
  | .iaddr _ x i | .sidx x i => opdS x ++ opdS i
  | .ssl x lo hi | .lsl _ x lo hi => opdS x ++ optS lo ++ optS hi
  | .bin _ _ x y | .min2 x y | .max2 x y | .beq _ x y => opdS x ++ opdS y
  | .build _ ps => ps.flatMap fun p => opdS p.2.2
  | .mkf _ xs => xs.flatMap opdS
  | .mget _ _ _ x k => opdS x ++ opdS k
def Ins.looks : Ins → List Nat
  | .v _ i => i.looks
  | .box _ _ x => opdS x
  | .alloc _ _ _ => []
  | .store _ x y => opdS x ++ opdS y
  | .storeE _ x y => opdS x ++ opdS y
  | .bsl _ _ _ xs => xs.flatMap opdS
  | .app _ _ _ x y => opdS x ++ opdS y
  | .bslm _ _ _ _ xs => xs.flatMap opdS
  | .appm _ _ _ _ x y => opdS x ++ opdS y
  | .mkmap _ _ => []
  | .mput _ x k y => opdS x ++ opdS k ++ opdS y
  | .range _ _ x => opdS x
def RIns.looks : RIns → List Nat
  | .s i => i.looks
  | .call _ f xs => opdS f ++ xs.flatMap opdS
  | .next _ x => opdS x
def GI.looks (g : GI) : List Nat := (match g.g with | some (s, _) => [s] | none => []) ++ g.i.looks

def agree (l : List Nat) (t t' : Nat → PV) : Prop := ∀ i ∈ l, t i = t' i
theorem evalF_agree {t t' : Nat → PV} {x : Opd} (h : agree (opdS x) t t') : evalF t x = evalF t' x := by
  cases x
  · exact h _ (by simp [opdS])
  · rfl
theorem agree_app {l l' : List Nat} {t t' : Nat → PV} (h : agree (l ++ l') t t') : agree l t t' ∧ agree l' t t' :=
  ⟨fun i hi => h i (by simp [hi]), fun i hi => h i (by simp [hi])⟩
theorem evalF_opt {t t' : Nat → PV} {x : Option Opd} (h : agree (optS x) t t') : x.map (evalF t) = x.map (evalF t') := by
  cases x
  · rfl
  · simp [evalF_agree h]
theorem buildF_agree {t t' : Nat → PV} : ∀ {parts : List (Nat × Nat × Opd)} {cs : List PV}, agree (parts.flatMap fun p => opdS p.2.2) t t' → buildF t cs parts = buildF t' cs parts
  | [], cs, _ => rfl
  | (off, sz, x) :: r, cs, h => by
    simp only [List.flatMap_cons] at h
    obtain ⟨h1, h2⟩ := agree_app h
    simp only [buildF, evalF_agree h1, buildF_agree h2]
theorem map_agree {t t' : Nat → PV} : ∀ {xs : List Opd}, agree (xs.flatMap opdS) t t' → xs.map (evalF t) = xs.map (evalF t')
  | [], _ => rfl
  | x :: xs, h => by
    simp only [List.flatMap_cons] at h
    obtain ⟨h1, h2⟩ := agree_app h
    simp [evalF_agree h1, map_agree h2]
def VIns.isLoad : VIns → Bool
  | .load _ _ _ => true
  | .loadB _ _ _ => true
  | .mget _ _ _ _ _ => true
  | .ment _ => true
  | .mlen _ => true
  | _ => false
theorem vIF_agree {t t' : Nat → PV} {b b' : Key → Option (List PV)} {e e' : Key → Option Own} {i : VIns} (h : agree i.looks t t') (hb : i.isLoad = false) : vIF t b e i = vIF t' b' e' i := by
  cases i <;> simp only [VIns.looks] at h <;> simp only [vIF]
  case load agg sz x => simp [VIns.isLoad] at hb
  case loadB agg sz x => simp [VIns.isLoad] at hb
  case pick c x y =>
    obtain ⟨h1, h3⟩ := agree_app h; obtain ⟨h1, h2⟩ := agree_app h1
    rw [evalF_agree h1, evalF_agree h2, evalF_agree h3]
  case iaddr => obtain ⟨h1, h2⟩ := agree_app h; rw [evalF_agree h1, evalF_agree h2]
  case sidx => obtain ⟨h1, h2⟩ := agree_app h; rw [evalF_agree h1, evalF_agree h2]
  case ssl => obtain ⟨h1, h3⟩ := agree_app h; obtain ⟨h1, h2⟩ := agree_app h1; rw [evalF_agree h1, evalF_opt h2, evalF_opt h3]
  case lsl => obtain ⟨h1, h3⟩ := agree_app h; obtain ⟨h1, h2⟩ := agree_app h1; rw [evalF_agree h1, evalF_opt h2, evalF_opt h3]
  case bin => obtain ⟨h1, h2⟩ := agree_app h; rw [evalF_agree h1, evalF_agree h2]
  case min2 => obtain ⟨h1, h2⟩ := agree_app h; rw [evalF_agree h1, evalF_agree h2]
  case build => rw [buildF_agree h]
  case mkf => rw [map_agree h]
  case mget => simp [VIns.isLoad] at hb
  case ment => simp [VIns.isLoad] at hb
  case mlen => simp [VIns.isLoad] at hb
  case max2 => obtain ⟨h1, h2⟩ := agree_app h; rw [evalF_agree h1, evalF_agree h2]
  case beq => obtain ⟨h1, h2⟩ := agree_app h; rw [evalF_agree h1, evalF_agree h2]
  all_goals rw [evalF_agree h]

end Go.Pv
/- Regions that draw their order, II: what an instruction does, as an effect; which pairs may change places. -/
set_option linter.all false
namespace Go.Pv
open Go Go.RowKit

def sameKeys (s s' : Obs) : Prop := (∀ k, (look k s'.b).isSome → (look k s.b).isSome) ∧ (∀ k, (look k s'.e).isSome → (look k s.e).isSome) ∧ (∀ k, (look k s.b).isSome → (look k s'.b).isSome) ∧ (∀ k, (look k s.e).isSome → (look k s'.e).isSome)
/-- The names behind a call: those ahead of it, and at most one that is new. -/
def newKeys (A : AS) (s s' : Obs) (rm : Option Key) : Prop := (∀ k, (look k s'.b).isSome → (look k s.b).isSome ∨ rm = some k) ∧ (∀ k, (look k s'.e).isSome → (look k s.e).isSome ∨ rm = some k) ∧ (∀ k, (look k s.b).isSome → (look k s'.b).isSome) ∧ (∀ k, (look k s.e).isSome → (look k s'.e).isSome) ∧
  (∀ k, rm = some k → (∃ j, k = .obj j) ∧ A.F k ∧ A.b k = none ∧ A.e k = none ∧ ((look k s'.b).isSome ∨ (look k s'.e).isSome))
/-- A call of a function whose answer is known. -/
def CallF (P : Program) (n : Nat) (args : List PV) (A : AS) (d : Option Nat) (x : Ef) : Prop :=
  ∃ s s' r rm, (∀ k cs, look k s.b = some cs → A.b k = some cs ∧ kinL (inObs s) cs) ∧ (∀ k o, look k s.e = some o → A.e k = some o ∧ kinO (inObs s) o) ∧ objOnly s ∧ objOnly s' ∧ newKeys A s s' rm ∧ kinL (inObs s) args ∧
    FnG P n args s (fun r' t' => r' = r ∧ t' = s') ∧ x = ⟨d, r, s'.b, s'.e, rm⟩

def isLocP : PV → Bool
  | .ptr (.loc _) _ => true
  | .eptr _ => true
  | _ => false
def VIns.isB : VIns → Bool
  | .loadB _ _ _ => true
  | _ => false
def VIns.ptrOf (t : Nat → PV) : VIns → PV
  | .load _ _ x => evalF t x
  | .loadB _ _ x => evalF t x
  | _ => .junk

/-- What an instruction may do at a state. 'q': no call is handed an object (then a load may be of one). -/
def G1 (P : Program) (q : Bool) (n0 : Nat) : RIns → AS → Ef → Prop
  | .s (.v d i), A, x => ∃ c p, vIF A.t A.b A.e i = some (c, p) ∧ c ∧ (i.isLoad = true → i.isB = true ∨ q = true ∨ isLocP (i.ptrOf A.t) = true) ∧ x = ⟨some d, p, [], [], none⟩
  | .s (.box d none v), A, x => (A.F (.loc (n0 + d)) ∧ A.b (.loc (n0 + d)) = none ∧ A.e (.loc (n0 + d)) = none) ∧ solid (evalF A.t v) = true ∧ x = ⟨some d, .ptr (.loc (n0 + d)) 0, [(.loc (n0 + d), cells (evalF A.t v))], [], some (.loc (n0 + d))⟩
  | .s (.alloc d none z), A, x => (A.F (.loc (n0 + d)) ∧ A.b (.loc (n0 + d)) = none ∧ A.e (.loc (n0 + d)) = none) ∧ x = ⟨some d, .ptr (.loc (n0 + d)) 0, [(.loc (n0 + d), cells z)], [], some (.loc (n0 + d))⟩
  | .s (.store sz u v), A, x => ∃ k off cs, evalF A.t u = .ptr k off ∧ A.b k = some cs ∧ (plainB cs = true ∧ solid (evalF A.t v) = true ∧ (cells (evalF A.t v)).length = sz ∧ off + sz ≤ cs.length) ∧ x = ⟨none, .junk, [(k, splice cs off (cells (evalF A.t v)))], [], none⟩
  | .s (.bsl d sz el xs), A, x => (A.F (.loc (n0 + d)) ∧ A.b (.loc (n0 + d)) = none ∧ A.e (.loc (n0 + d)) = none) ∧ allSz sz (xs.map (evalF A.t)) ∧ x = ⟨some d, .slice sz (.own (.loc (n0 + d))) (xs.map (evalF A.t)), [], [(.loc (n0 + d), ⟨xs.length, el, sz, none⟩)], some (.loc (n0 + d))⟩
  | .s (.app d sz el u v), A, x => ∃ tag xs tag' ys, evalF A.t u = .slice sz tag xs ∧ evalF A.t v = .slice sz tag' ys ∧
      ((∃ k o, tag = .own k ∧ A.e k = some o ∧ (o.xs = none ∧ o.n = xs.length ∧ o.el = el ∧ o.sz = sz ∧ xs.length + ys.length ≤ lim) ∧ x = ⟨some d, .slice sz (.own k) (xs ++ ys), [], [(k, ⟨xs.length + ys.length, el, sz, none⟩)], none⟩) ∨
       (tag = .nil ∧ ys.length ≤ lim ∧ (A.F (.loc (n0 + d)) ∧ A.b (.loc (n0 + d)) = none ∧ A.e (.loc (n0 + d)) = none) ∧ x = ⟨some d, .slice sz (.own (.loc (n0 + d))) ys, [], [(.loc (n0 + d), ⟨ys.length, el, sz, none⟩)], some (.loc (n0 + d))⟩))
  | .s (.appm d _ sz el u v), A, x => ∃ k n xs tag' ys, evalF A.t u = .row sz k n ∧ evalF A.t v = .slice sz tag' ys ∧ A.e k = some ⟨n, el, sz, some xs⟩ ∧ xs.length + ys.length ≤ lim ∧ x = ⟨some d, .row sz k (xs.length + ys.length), [], [(k, ⟨xs.length + ys.length, el, sz, some (xs ++ ys)⟩)], none⟩
  | .s (.storeE sz u v), A, x => ∃ k n i f el sz' xs q, evalF A.t u = .rptr sz' k n i f ∧ A.e k = some ⟨n, el, sz', some xs⟩ ∧ xs[i]? = some q ∧ (solid q = true ∧ solid (evalF A.t v) = true ∧ (cells (evalF A.t v)).length = sz ∧ f + sz ≤ (cells q).length ∧ 0 < sz) ∧ x = ⟨none, .junk, [], [(k, ⟨n, el, sz', some (xs.set i (rowPut q f (cells (evalF A.t v))))⟩)], none⟩
  | .call d f xs, A, x => ∃ n caps, evalF A.t f = .func n caps ∧ CallF P n (stripL (xs.map (evalF A.t) ++ caps)) A d x ∧ (q = true → x.bw = [] ∧ x.ew = [])
  | _, _, _ => False

inductive Mode where
  | v | l | n | s | w | a | c | m | r
  deriving DecidableEq
def RIns.mode : RIns → Mode
  | .s (.v _ (.loadB _ _ _)) => .m
  | .s (.v _ i) => if i.isLoad then .l else .v
  | .s (.storeE _ _ _) => .r
  | .s (.box _ _ _) => .n
  | .s (.alloc _ _ _) => .n
  | .s (.store _ _ _) => .w
  | .s (.bsl _ _ _ _) => .s
  | .s (.app _ _ _ _ _) => .a
  | .s (.bslm _ _ _ _ _) => .w
  | .s (.appm _ _ _ _ _ _) => .r
  | .s (.mkmap _ _) => .w
  | .s (.mput _ _ _ _) => .w
  | .s (.range _ _ _) => .w
  | .call _ _ _ => .c
  | .next _ _ => .w

/-- What the effect of an instruction touches, by its kind. -/
structure Touch (q : Bool) (n0 : Nat) (m : Mode) (dst : Option Nat) (A : AS) (x : Ef) : Prop where
  d : x.d = dst
  b : ∀ k, (look k x.bw).isSome → (m = .n ∧ ∃ d, dst = some d ∧ k = .loc (n0 + d) ∧ A.b k = none ∧ A.e k = none) ∨ m = .w ∨ (m = .c ∧ (∃ j, k = .obj j) ∧ q = false)
  e : ∀ k, (look k x.ew).isSome → (m = .s ∧ ∃ d, dst = some d ∧ k = .loc (n0 + d) ∧ A.b k = none ∧ A.e k = none) ∨ (m = .a ∧ (A.e k ≠ none ∨ ∃ d, dst = some d ∧ k = .loc (n0 + d) ∧ A.b k = none ∧ A.e k = none)) ∨ (m = .c ∧ (∃ j, k = .obj j) ∧ q = false) ∨ (m = .r ∧ ∃ o, A.e k = some o ∧ o.xs ≠ none)
  r : ∀ k, x.rm = some k → (∃ d, dst = some d ∧ k = .loc (n0 + d)) ∨ (m = .c ∧ (∃ j, k = .obj j) ∧ ((look k x.bw).isSome ∨ (look k x.ew).isSome))
  ex : m = .a → ∀ k o, (look k x.ew).isSome → A.e k = some o → o.xs = none
  xn : m = .a ∨ m = .s → ∀ k o, look k x.ew = some o → o.xs = none

theorem look_one {α : Type} {k k' : Key} {x : α} (h : (look k [(k', x)]).isSome) : k = k' := by
  simp only [look] at h
  split at h
  · rename_i e; exact e.symm
  · cases h

theorem look_xs {k k' : Key} {n el sz : Nat} {o : Own} (h : look k [(k', (⟨n, el, sz, none⟩ : Own))] = some o) : o.xs = none := by
  simp only [look] at h
  split at h
  · cases h; rfl
  · cases h
theorem touch_of {P : Program} {q : Bool} {n0 : Nat} {i : RIns} {A : AS} {x : Ef} (h : G1 P q n0 i A x) : Touch q n0 i.mode i.dst A x := by
  cases i with
  | s i =>
    cases i with
    | v d i =>
      simp only [G1] at h
      obtain ⟨c, p, _, _, _, rfl⟩ := h
      exact ⟨rfl, fun k hk => by simp [look] at hk, fun k hk => by simp [look] at hk, fun k hk => by simp at hk, fun _ k o hk => by simp [look] at hk, fun _ k o hk => by simp [look] at hk⟩
    | box d key v =>
      cases key with
      | some m => simp only [G1] at h
      | none =>
        simp only [G1] at h
        obtain ⟨⟨_, h2, h3⟩, _, rfl⟩ := h
        exact ⟨rfl, fun k hk => by obtain rfl := look_one hk; exact .inl ⟨rfl, d, rfl, rfl, h2, h3⟩, fun k hk => by simp [look] at hk, fun k hk => by simp at hk; exact .inl ⟨d, rfl, hk.symm⟩, fun _ k o hk => by simp [look] at hk, fun _ k o hk => by simp [look] at hk⟩
    | alloc d key z =>
      cases key with
      | some m => simp only [G1] at h
      | none =>
        simp only [G1] at h
        obtain ⟨⟨_, h2, h3⟩, rfl⟩ := h
        exact ⟨rfl, fun k hk => by obtain rfl := look_one hk; exact .inl ⟨rfl, d, rfl, rfl, h2, h3⟩, fun k hk => by simp [look] at hk, fun k hk => by simp at hk; exact .inl ⟨d, rfl, hk.symm⟩, fun _ k o hk => by simp [look] at hk, fun _ k o hk => by simp [look] at hk⟩
    | store sz u v =>
      simp only [G1] at h
      obtain ⟨k, off, cs, _, _, _, rfl⟩ := h
      exact ⟨rfl, fun k hk => .inr (.inl rfl), fun k hk => by simp [look] at hk, fun k hk => by simp at hk, fun _ k o hk => by simp [look] at hk, fun _ k o hk => by simp [look] at hk⟩
    | bsl d sz el xs =>
      simp only [G1] at h
      obtain ⟨⟨_, h2, h3⟩, _, rfl⟩ := h
      exact ⟨rfl, fun k hk => by simp [look] at hk, fun k hk => by obtain rfl := look_one hk; exact .inl ⟨rfl, d, rfl, rfl, h2, h3⟩, fun k hk => by simp at hk; exact .inl ⟨d, rfl, hk.symm⟩, fun e => by simp [RIns.mode] at e, fun _ k o hk => look_xs hk⟩
    | app d sz el u v =>
      simp only [G1] at h
      obtain ⟨tag, xs, tag', ys, _, _, h⟩ := h
      rcases h with ⟨k, o, _, h1, ⟨hxs, _⟩, rfl⟩ | ⟨_, _, ⟨_, h2, h3⟩, rfl⟩
      · exact ⟨rfl, fun k hk => by simp [look] at hk, fun k hk => by obtain rfl := look_one hk; exact .inr (.inl ⟨rfl, .inl (by rw [h1]; simp)⟩), fun k hk => by simp at hk, fun _ k' o' hk ho => by obtain rfl := look_one hk; rw [h1] at ho; cases ho; exact hxs, fun _ k o hk => look_xs hk⟩
      · exact ⟨rfl, fun k hk => by simp [look] at hk, fun k hk => by obtain rfl := look_one hk; exact .inr (.inl ⟨rfl, .inr ⟨d, rfl, rfl, h2, h3⟩⟩), fun k hk => by simp at hk; exact .inl ⟨d, rfl, hk.symm⟩, fun _ k' o' hk ho => (by obtain rfl := look_one hk; rw [h3] at ho; cases ho), fun _ k o hk => look_xs hk⟩
    | bslm d key sz el xs => simp only [G1] at h
    | appm d key sz el u v =>
      simp only [G1] at h
      obtain ⟨k, n, xs, tag', ys, _, _, h1, _, rfl⟩ := h
      exact ⟨rfl, fun k hk => by simp [look] at hk, fun k hk => by obtain rfl := look_one hk; exact .inr (.inr (.inr ⟨rfl, _, h1, by simp⟩)), fun k hk => by simp at hk, fun e => by simp [RIns.mode] at e, fun e => by simp [RIns.mode] at e⟩
    | storeE sz u v =>
      simp only [G1] at h
      obtain ⟨k, n, i, f, el, sz', xs, q, _, h1, _, _, rfl⟩ := h
      exact ⟨rfl, fun k hk => by simp [look] at hk, fun k hk => by obtain rfl := look_one hk; exact .inr (.inr (.inr ⟨rfl, _, h1, by simp⟩)), fun k hk => by simp at hk, fun e => by simp [RIns.mode] at e, fun e => by simp [RIns.mode] at e⟩
    | mkmap d key => simp only [G1] at h
    | mput ks x k v => simp only [G1] at h
    | range d key x => simp only [G1] at h
  | next d x => simp only [G1] at h
  | call d f xs =>
    simp only [G1] at h
    obtain ⟨n, caps, _, ⟨s, s', r, rm, _, _, _, ho, hnk, _, _, rfl⟩, hq⟩ := h
    refine ⟨rfl, fun k hk => .inr (.inr ⟨rfl, ?_, ?_⟩), fun k hk => .inr (.inr (.inl ⟨rfl, ?_, ?_⟩)), fun k hk => .inr ⟨rfl, (hnk.2.2.2.2 k hk).1, (hnk.2.2.2.2 k hk).2.2.2.2⟩, fun e => by simp [RIns.mode] at e, fun e => by simp [RIns.mode] at e⟩
    · cases k with
      | loc m => rw [ho.1 m] at hk; cases hk
      | obj m => exact ⟨m, rfl⟩
    · cases q with
      | false => rfl
      | true => rw [(hq rfl).1] at hk; simp [look] at hk
    · cases k with
      | loc m => rw [ho.2 m] at hk; cases hk
      | obj m => exact ⟨m, rfl⟩
    · cases q with
      | false => rfl
      | true => rw [(hq rfl).2] at hk; simp [look] at hk

/-- An instruction does the same at a state that is alike where it looks. -/
theorem G1_move {P : Program} {q : Bool} {n0 : Nat} {i : RIns} {A A' : AS} {x : Ef} (h : G1 P q n0 i A x) (ht : agree i.looks A.t A'.t)
    (hl : i.mode = .l → ∀ k, (q = true ∨ ∃ m, k = .loc m) → A.b k ≠ none → A'.b k = A.b k) (hlB : i.mode = .m → ∀ k, A.b k ≠ none → A'.b k = A.b k)
    (hrw : i.mode = .l → q = true → ∀ k o, A.e k = some o → o.xs ≠ none → A'.e k = some o)
    (hn : ∀ d, i.dst = some d → (i.mode = .n ∨ i.mode = .s ∨ i.mode = .a) → (A.F (.loc (n0 + d)) ∧ A.b (.loc (n0 + d)) = none ∧ A.e (.loc (n0 + d)) = none) → (A'.F (.loc (n0 + d)) ∧ A'.b (.loc (n0 + d)) = none ∧ A'.e (.loc (n0 + d)) = none))
    (ha : i.mode = .a → ∀ k o, A.e k = some o → A'.e k = some o) (hw : i.mode = .w → ∀ k, A'.b k = A.b k) (hrr : i.mode = .r → ∀ k o, A.e k = some o → o.xs ≠ none → A'.e k = some o)
    (hc : i.mode = .c → ∀ m, A'.b (.obj m) = A.b (.obj m) ∧ A'.e (.obj m) = A.e (.obj m) ∧ (A.F (.obj m) → A'.F (.obj m))) : G1 P q n0 i A' x := by
  cases i with
  | s i =>
    cases i with
    | v d i =>
      simp only [G1] at h ⊢
      obtain ⟨c, p, h1, h2, h3, h4⟩ := h
      by_cases hB : ∃ agg sz y, i = .loadB agg sz y
      · obtain ⟨agg, sz, y, rfl⟩ := hB
        simp only [RIns.looks, Ins.looks, VIns.looks] at ht
        have hev := evalF_agree ht
        refine ⟨c, p, ?_, h2, fun _ => .inl rfl, h4⟩
        rw [← h1]
        simp only [vIF, ← hev]
        have hm := hlB (by simp [RIns.mode])
        simp only [vIF] at h1
        cases hp : evalF A.t y <;> simp only [loadF]
        rename_i key off
        rw [hp] at h1
        simp only [loadF] at h1
        cases hb : A.b key with
        | none => simp [hb] at h1
        | some cs =>
          have : A'.b key = A.b key := hm key (by rw [hb]; simp)
          rw [this, hb]
      replace h3 : i.isLoad = true → q = true ∨ isLocP (i.ptrOf A.t) = true := fun hld => (h3 hld).resolve_left (fun hb => by cases i <;> simp [VIns.isB] at hb; exact hB ⟨_, _, _, rfl⟩)
      have hmode : i.isLoad = true → (RIns.s (.v d i)).mode = .l := by
        intro hld
        cases i <;> simp only [VIns.isLoad] at hld <;> first | (cases hld; done) | (simp [RIns.mode, VIns.isLoad]; done) | exact absurd ⟨_, _, _, rfl⟩ hB
      by_cases hld : i.isLoad = true
      · have hq : ∀ (hp : isLocP (i.ptrOf A.t) = false), ∀ k, A.b k ≠ none → A'.b k = A.b k := fun hp k hk => hl (hmode hld) k (.inl ((h3 hld).resolve_right (by rw [hp]; simp))) hk
        cases i <;> simp only [VIns.isLoad] at hld <;> try (cases hld; done)
        case mget ks zero ok y z =>
          simp only [RIns.looks, Ins.looks, VIns.looks] at ht
          obtain ⟨t1, t2⟩ := agree_app ht
          refine ⟨c, p, ?_, h2, fun _ => .inr (h3 rfl), h4⟩
          simp only [vIF] at h1 ⊢
          rw [← evalF_agree t1, ← evalF_agree t2]
          exact mgetV_congr (hq rfl) h1
        case ment y =>
          simp only [RIns.looks, Ins.looks, VIns.looks] at ht
          refine ⟨c, p, ?_, h2, fun _ => .inr (h3 rfl), h4⟩
          simp only [vIF] at h1 ⊢
          rw [← evalF_agree ht]
          exact mentV_congr (hq rfl) h1
        case mlen y =>
          simp only [RIns.looks, Ins.looks, VIns.looks] at ht
          refine ⟨c, p, ?_, h2, fun _ => .inr (h3 rfl), h4⟩
          simp only [vIF] at h1 ⊢
          rw [← evalF_agree ht]
          exact mlenV_congr (hq rfl) h1
        case loadB agg sz y => exact absurd ⟨_, _, _, rfl⟩ hB
        rename_i agg sz y
        simp only [RIns.looks, Ins.looks, VIns.looks] at ht
        have hev := evalF_agree ht
        refine ⟨c, p, ?_, h2, fun _ => .inr (by have := h3 rfl; simpa only [VIns.ptrOf, ← hev] using this), h4⟩
        rw [← h1]
        simp only [vIF, ← hev]
        have hm := hl (by simp [RIns.mode, VIns.isLoad])
        simp only [vIF] at h1
        have h3' := h3 rfl
        simp only [VIns.ptrOf] at h3'
        cases hp : evalF A.t y <;> simp only [loadF]
        · rename_i key off
          rw [hp] at h1 h3'
          simp only [loadF] at h1
          cases hb : A.b key with
          | none => simp [hb] at h1
          | some cs =>
            have : A'.b key = A.b key := hm key (by rcases h3' with h | h; exact .inl h; cases key; exact .inr ⟨_, rfl⟩; simp [isLocP] at h) (by rw [hb]; simp)
            rw [this, hb]
        · rename_i sz' key n i f
          rw [hp] at h1 h3'
          simp only [loadF] at h1
          have hq1 : q = true := h3'.resolve_right (by simp [isLocP])
          unfold rowGet at h1
          split at h1
          · rename_i n' el sz'' xs he
            rw [he, hrw (by simp [RIns.mode, VIns.isLoad]) hq1 key _ he (by simp)]
          · cases h1
      · have hld : i.isLoad = false := by simpa using hld
        refine ⟨c, p, ?_, h2, (fun e => by rw [hld] at e; cases e), h4⟩
        rw [← h1]
        exact (vIF_agree (by simpa only [RIns.looks, Ins.looks] using ht) hld).symm
    | box d key v =>
      cases key with
      | some m => simp only [G1] at h
      | none =>
        simp only [G1, RIns.looks, Ins.looks] at h ht ⊢
        obtain ⟨h1, h2, h3⟩ := h
        rw [← evalF_agree ht]
        exact ⟨hn d rfl (.inl rfl) h1, h2, h3⟩
    | alloc d key z =>
      cases key with
      | some m => simp only [G1] at h
      | none =>
        simp only [G1] at h ⊢
        exact ⟨hn d rfl (.inl rfl) h.1, h.2⟩
    | store sz u v =>
      simp only [G1, RIns.looks, Ins.looks] at h ht ⊢
      obtain ⟨h1, h2⟩ := agree_app ht
      rw [← evalF_agree h1, ← evalF_agree h2]
      obtain ⟨k, off, cs, g1, g2, g3, g4⟩ := h
      exact ⟨k, off, cs, g1, by rw [hw rfl]; exact g2, g3, g4⟩
    | bsl d sz el xs =>
      simp only [G1, RIns.looks, Ins.looks] at h ht ⊢
      rw [← map_agree ht]
      exact ⟨hn d rfl (.inr (.inl rfl)) h.1, h.2⟩
    | app d sz el u v =>
      simp only [G1, RIns.looks, Ins.looks] at h ht ⊢
      obtain ⟨h1, h2⟩ := agree_app ht
      rw [← evalF_agree h1, ← evalF_agree h2]
      obtain ⟨tag, xs, tag', ys, g1, g2, h⟩ := h
      refine ⟨tag, xs, tag', ys, g1, g2, ?_⟩
      rcases h with ⟨k, o, e1, e2, e3⟩ | ⟨e1, e2, e3, e4⟩
      · exact .inl ⟨k, o, e1, ha rfl k o e2, e3⟩
      · exact .inr ⟨e1, e2, hn d rfl (.inr (.inr rfl)) e3, e4⟩
    | bslm d key sz el xs => simp only [G1] at h
    | appm d key sz el u v =>
      simp only [G1, RIns.looks, Ins.looks] at h ht ⊢
      obtain ⟨h1, h2⟩ := agree_app ht
      rw [← evalF_agree h1, ← evalF_agree h2]
      obtain ⟨k, n, xs, tag', ys, g1, g2, g3, g4, g5⟩ := h
      exact ⟨k, n, xs, tag', ys, g1, g2, hrr rfl k _ g3 (by simp), g4, g5⟩
    | storeE sz u v =>
      simp only [G1, RIns.looks, Ins.looks] at h ht ⊢
      obtain ⟨h1, h2⟩ := agree_app ht
      rw [← evalF_agree h1, ← evalF_agree h2]
      obtain ⟨k, n, i, f, el, sz', xs, q, g1, g2, g3⟩ := h
      exact ⟨k, n, i, f, el, sz', xs, q, g1, hrr rfl k _ g2 (by simp), g3⟩
    | mkmap d key => simp only [G1] at h
    | mput ks x k v => simp only [G1] at h
    | range d key x => simp only [G1] at h
  | next d x => simp only [G1] at h
  | call d f xs =>
    simp only [G1, RIns.looks] at h ht ⊢
    obtain ⟨h1, h2⟩ := agree_app ht
    rw [← evalF_agree h1, ← map_agree h2]
    obtain ⟨n, caps, g1, ⟨s, s', r, rm, c1, c2, c3, c4, c5, c6⟩, g3⟩ := h
    refine ⟨n, caps, g1, ⟨s, s', r, rm, fun k cs hk => ?_, fun k o hk => ?_, c3, c4, ⟨c5.1, c5.2.1, c5.2.2.1, c5.2.2.2.1, fun k hk => ?_⟩, c6⟩, g3⟩
    · cases k with
      | loc m => rw [c3.1 m] at hk; cases hk
      | obj m => rw [(hc rfl m).1]; exact c1 _ _ hk
    · cases k with
      | loc m => rw [c3.2 m] at hk; cases hk
      | obj m => rw [(hc rfl m).2.1]; exact c2 _ _ hk
    · obtain ⟨⟨j, rfl⟩, d2, d3, d4, d5⟩ := c5.2.2.2.2 k hk
      exact ⟨⟨j, rfl⟩, (hc rfl j).2.2 d2, by rw [(hc rfl j).1]; exact d3, by rw [(hc rfl j).2.1]; exact d4, d5⟩

end Go.Pv
/- Regions that draw their order, III: pairs that may change places; every order comes to the same. -/
set_option linter.all false
namespace Go.Pv
open Go Go.RowKit

def skipEf (d : Option Nat) : Ef := ⟨d, .tuple [], [], [], none⟩
/-- An instruction behind its guard. -/
def GG (P : Program) (q : Bool) (n0 : Nat) (g : GI) (A : AS) (x : Ef) : Prop :=
  match g.g with
  | none => G1 P q n0 g.i A x
  | some (s, w) => match A.t s with
    | .bool b => (b = w ∧ G1 P q n0 g.i A x) ∨ (b = !w ∧ x = skipEf g.i.dst)
    | .tuple [] => x = skipEf g.i.dst
    | _ => False

def mOk : Mode → Mode → Bool
  | .v, _ => true
  | _, .v => true
  | .l, .l | .l, .n | .l, .s | .l, .a | .l, .c => true
  | .n, .n | .n, .s | .n, .a | .n, .c => true
  | .s, .l | .s, .n | .s, .s | .s, .c => true
  | .a, .l | .a, .n | .a, .s => true
  | .c, .l | .c, .n | .c, .s => true
  | .l, .m | .m, .l | .m, .m | .m, .n | .m, .s | .m, .a | .s, .m | .a, .m => true
  | .m, .r | .r, .m | .r, .n | .r, .s | .n, .r | .s, .r | .r, .w | .w, .r => true
  | _, _ => false
def GI.dst (g : GI) : Option Nat := g.i.dst
def gComm (g h : GI) : Bool :=
  (match g.i.dst with | some d => !(h.looks.contains d) && h.i.dst != some d | none => true) && (match h.i.dst with | some d => !(g.looks.contains d) | none => true) && mOk g.i.mode h.i.mode

theorem touch_skip (q : Bool) (n0 : Nat) (m : Mode) (d : Option Nat) (A : AS) : Touch q n0 m d A (skipEf d) :=
  ⟨rfl, fun k hk => by simp [skipEf, look] at hk, fun k hk => by simp [skipEf, look] at hk, fun k hk => by simp [skipEf] at hk, fun _ k o hk => by simp [skipEf, look] at hk, fun _ k o hk => by simp [skipEf, look] at hk⟩
theorem touch_GG {P : Program} {q : Bool} {n0 : Nat} {g : GI} {A : AS} {x : Ef} (h : GG P q n0 g A x) : Touch q n0 g.i.mode g.i.dst A x := by
  unfold GG at h
  split at h
  · exact touch_of h
  · split at h
    · rcases h with ⟨_, h⟩ | ⟨_, rfl⟩
      · exact touch_of h
      · exact touch_skip _ _ _ _ _
    · subst h; exact touch_skip _ _ _ _ _
    · exact h.elim

theorem do_b {A : AS} {x : Ef} {k : Key} (h : look k x.bw = none) : (A.do x).b k = A.b k := by simp [AS.do, fsets, h]
theorem do_e {A : AS} {x : Ef} {k : Key} (h : look k x.ew = none) : (A.do x).e k = A.e k := by simp [AS.do, fsets, h]
theorem do_b_none {A : AS} {x : Ef} {k : Key} (h : (A.do x).b k = none) : A.b k = none := by
  simp only [AS.do, fsets] at h
  split at h
  · cases h
  · exact h
theorem do_e_none {A : AS} {x : Ef} {k : Key} (h : (A.do x).e k = none) : A.e k = none := by
  simp only [AS.do, fsets] at h
  split at h
  · cases h
  · exact h
theorem none_of {α : Type} {o : Option α} (h : ¬o.isSome) : o = none := by cases o <;> simp at h ⊢

theorem GG_move {P : Program} {q : Bool} {n0 : Nat} {g : GI} {A A' : AS} {x : Ef} (h : GG P q n0 g A x) (ht : agree g.looks A.t A'.t) (hm : G1 P q n0 g.i A x → G1 P q n0 g.i A' x) : GG P q n0 g A' x := by
  unfold GG at h ⊢
  cases hg : g.g with
  | none => simp only [hg] at h ⊢; exact hm h
  | some sw =>
    obtain ⟨s, w⟩ := sw
    have : A.t s = A'.t s := ht s (by simp [GI.looks, hg])
    simp only [hg, this] at h ⊢
    split at h
    · rcases h with ⟨h1, h2⟩ | h
      · exact .inl ⟨h1, hm h2⟩
      · exact .inr h
    · exact h
    · exact h

theorem swap {P : Program} {q : Bool} {n0 : Nat} {g h : GI} (hgh : gComm g h = true) {A : AS} {x y : Ef} (hx : GG P q n0 g A x) (hy : GG P q n0 h (A.do x) y) :
    GG P q n0 h A y ∧ GG P q n0 g (A.do y) x ∧ x.apart y := by
  simp only [gComm, Bool.and_eq_true] at hgh
  obtain ⟨⟨hd1, hd2⟩, hm⟩ := hgh
  have tx := touch_GG hx
  have hne : ∀ d d', g.i.dst = some d → h.i.dst = some d' → d ≠ d' := by
    intro d d' e1 e2 e
    simp only [e1, Bool.and_eq_true, bne_iff_ne] at hd1
    exact hd1.2 (by rw [e2, e])
  have hag : agree h.looks (A.do x).t A.t := by
    intro i hi
    simp only [AS.do]
    rw [if_neg]
    intro e
    rw [tx.d] at e
    simp only [e, Bool.and_eq_true, Bool.not_eq_true', List.contains_eq_mem, decide_eq_false_iff_not] at hd1
    exact hd1.1 hi
  have hlb : ∀ k, (look k x.bw).isSome → _ := tx.b
  have hle : ∀ k, (look k x.ew).isSome → _ := tx.e
  have key1 : GG P q n0 h A y := by
    refine GG_move hy hag fun hG => G1_move hG (fun i hi => hag i (by simp [GI.looks, hi])) (fun e k hk hb => ?_) (fun e k hb => ?_) (fun e hq k o ho hxs => ?_) (fun d hd hmm hcond => ?_) (fun e k o ho => ?_) (fun e k => ?_) (fun e k o ho hxs => ?_) (fun e m => ?_)
    · rw [do_b (none_of fun hs => ?_)]
      rcases hlb k hs with ⟨e1, _⟩ | e1 | ⟨e1, ⟨j, e2⟩, e3⟩
      · rw [e, e1] at hm; simp [mOk] at hm
      · rw [e, e1] at hm; simp [mOk] at hm
      · rcases hk with hk | ⟨m, hk⟩
        · rw [hk] at e3; cases e3
        · rw [hk] at e2; cases e2
    · rw [do_b (none_of fun hs => ?_)]
      rcases hlb k hs with ⟨e1, _⟩ | e1 | ⟨e1, _⟩ <;> (rw [e, e1] at hm; simp [mOk] at hm)
    · rw [e] at hm
      cases hlk : look k x.ew with
      | none => rw [do_e hlk] at ho; exact ho
      | some o' =>
        exfalso
        have hoo : (A.do x).e k = some o' := by simp [AS.do, fsets, hlk]
        rw [hoo] at ho; cases ho
        rcases hle k (by simp [hlk]) with ⟨e1, _⟩ | ⟨e1, _⟩ | ⟨e1, _, e3⟩ | ⟨e1, _⟩
        · exact hxs (tx.xn (.inr e1) k _ hlk)
        · exact hxs (tx.xn (.inl e1) k _ hlk)
        · rw [hq] at e3; cases e3
        · rw [e1] at hm; simp [mOk] at hm
    · exact ⟨hcond.1.1, do_b_none hcond.2.1, do_e_none hcond.2.2⟩
    · rw [do_e (none_of fun hs => ?_)] at ho
      · exact ho
      · rw [e] at hm
        rcases hle k hs with ⟨e1, _⟩ | ⟨e1, _⟩ | ⟨e1, _⟩ | ⟨e1, _⟩ <;> (rw [e1] at hm; simp [mOk] at hm)
    · rw [do_b (none_of fun hs => ?_)]
      rw [e] at hm
      rcases hlb k hs with ⟨e1, _⟩ | e1 | ⟨e1, _⟩ <;> (rw [e1] at hm; simp [mOk] at hm)
    · rw [e] at hm
      cases hlk : look k x.ew with
      | none => rw [do_e hlk] at ho; exact ho
      | some o' =>
        exfalso
        have hoo : (A.do x).e k = some o' := by simp [AS.do, fsets, hlk]
        rw [hoo] at ho; cases ho
        rcases hle k (by simp [hlk]) with ⟨e1, _⟩ | ⟨e1, _⟩ | ⟨e1, _⟩ | ⟨e1, _⟩
        · exact hxs (tx.xn (.inr e1) k _ hlk)
        · rw [e1] at hm; simp [mOk] at hm
        · rw [e1] at hm; simp [mOk] at hm
        · rw [e1] at hm; simp [mOk] at hm
    · rw [e] at hm
      refine ⟨?_, ?_, fun hF => hF.1⟩
      · rw [do_b (none_of fun hs => ?_)]
        rcases hlb _ hs with ⟨e1, d, _, e2, _⟩ | e1 | ⟨e1, _⟩
        · cases e2
        · rw [e1] at hm; simp [mOk] at hm
        · rw [e1] at hm; simp [mOk] at hm
      · rw [do_e (none_of fun hs => ?_)]
        rcases hle _ hs with ⟨e1, d, _, e2, _⟩ | ⟨e1, _⟩ | ⟨e1, _⟩ | ⟨e1, _⟩
        · cases e2
        · rw [e1] at hm; simp [mOk] at hm
        · rw [e1] at hm; simp [mOk] at hm
        · rw [e1] at hm; simp [mOk] at hm
  have ty := touch_GG key1
  have hag2 : agree g.looks A.t (A.do y).t := by
    intro i hi
    simp only [AS.do]
    rw [if_neg]
    intro e
    rw [ty.d] at e
    simp only [e, Bool.not_eq_true', List.contains_eq_mem, decide_eq_false_iff_not] at hd2
    exact hd2 hi
  refine ⟨key1, ?_, ?_⟩
  · refine GG_move hx hag2 fun hG => G1_move hG (fun i hi => hag2 i (by simp [GI.looks, hi])) (fun e k hk hb => ?_) (fun e k hb => ?_) (fun e hq k o ho hxs => ?_) (fun d hd hmm hcond => ?_) (fun e k o ho => ?_) (fun e k => ?_) (fun e k o ho hxs => ?_) (fun e m => ?_)
    · refine do_b (none_of fun hs => ?_)
      rcases ty.b k hs with ⟨e1, d, _, _, e2, _⟩ | e1 | ⟨e1, ⟨j, e2⟩, e3⟩
      · exact hb e2
      · rw [e, e1] at hm; simp [mOk] at hm
      · rcases hk with hk | ⟨m, hk⟩
        · rw [hk] at e3; cases e3
        · rw [hk] at e2; cases e2
    · refine do_b (none_of fun hs => ?_)
      rcases ty.b k hs with ⟨e1, d, _, _, e2, _⟩ | e1 | ⟨e1, _⟩
      · exact hb e2
      · rw [e, e1] at hm; simp [mOk] at hm
      · rw [e, e1] at hm; simp [mOk] at hm
    · rw [do_e (none_of fun hs => ?_)]
      · exact ho
      · rcases ty.e k hs with ⟨e1, d, _, _, _, e2⟩ | ⟨e1, e2⟩ | ⟨e1, _, e3⟩ | ⟨e1, _⟩
        · rw [e2] at ho; cases ho
        · exact hxs (ty.ex e1 k o hs ho)
        · rw [hq] at e3; cases e3
        · rw [e, e1] at hm; simp [mOk] at hm
    · refine ⟨⟨hcond.1, fun er => ?_⟩, ?_, ?_⟩
      · rcases ty.r _ er with ⟨d', e1, e2⟩ | ⟨_, ⟨j, e2⟩, _⟩
        · simp only [Key.loc.injEq] at e2
          exact hne d d' hd e1 (by omega)
        · cases e2
      · rw [do_b (none_of fun hs => ?_)]
        · exact hcond.2.1
        · rcases ty.b _ hs with ⟨e1, d', e2, e3, _⟩ | e1 | ⟨e1, ⟨j, e2⟩, _⟩
          · simp only [Key.loc.injEq] at e3
            exact hne d d' hd e2 (by omega)
          · rcases hmm with e2 | e2 | e2 <;> (rw [e1, e2] at hm; simp [mOk] at hm)
          · cases e2
      · rw [do_e (none_of fun hs => ?_)]
        · exact hcond.2.2
        · rcases ty.e _ hs with ⟨e1, d', e2, e3, _⟩ | ⟨e1, e2⟩ | ⟨e1, ⟨j, e2⟩, _⟩ | ⟨e1, o, e2, _⟩
          · simp only [Key.loc.injEq] at e3
            exact hne d d' hd e2 (by omega)
          · rcases e2 with e2 | ⟨d', e2, e3, _⟩
            · exact e2 hcond.2.2
            · simp only [Key.loc.injEq] at e3
              exact hne d d' hd e2 (by omega)
          · cases e2
          · rw [hcond.2.2] at e2; cases e2
    · rw [do_e (none_of fun hs => ?_)]
      · exact ho
      · rw [e] at hm
        rcases ty.e k hs with ⟨e1, d, _, _, _, e2⟩ | ⟨e1, _⟩ | ⟨e1, _⟩ | ⟨e1, _⟩
        · rw [e2] at ho; cases ho
        · rw [e1] at hm; simp [mOk] at hm
        · rw [e1] at hm; simp [mOk] at hm
        · rw [e1] at hm; simp [mOk] at hm
    · refine do_b (none_of fun hs => ?_)
      rw [e] at hm
      rcases ty.b k hs with ⟨e1, _⟩ | e1 | ⟨e1, _⟩ <;> (rw [e1] at hm; simp [mOk] at hm)
    · rw [do_e (none_of fun hs => ?_)]
      · exact ho
      · rw [e] at hm
        rcases ty.e k hs with ⟨e1, d, _, _, _, e2⟩ | ⟨e1, _⟩ | ⟨e1, _⟩ | ⟨e1, _⟩
        · rw [e2] at ho; cases ho
        · rw [e1] at hm; simp [mOk] at hm
        · rw [e1] at hm; simp [mOk] at hm
        · rw [e1] at hm; simp [mOk] at hm
    · rw [e] at hm
      refine ⟨?_, ?_, fun hF => ⟨hF, fun er => ?_⟩⟩
      rotate_left 2
      · rcases ty.r _ er with ⟨d', _, e2⟩ | ⟨e2, _⟩
        · cases e2
        · rw [e2] at hm; simp [mOk] at hm
      · refine do_b (none_of fun hs => ?_)
        rcases ty.b _ hs with ⟨e1, d, _, e2, _⟩ | e1 | ⟨e1, _⟩
        · cases e2
        · rw [e1] at hm; simp [mOk] at hm
        · rw [e1] at hm; simp [mOk] at hm
      · refine do_e (none_of fun hs => ?_)
        rcases ty.e _ hs with ⟨e1, d, _, e2, _⟩ | ⟨e1, _⟩ | ⟨e1, _⟩ | ⟨e1, _⟩
        · cases e2
        · rw [e1] at hm; simp [mOk] at hm
        · rw [e1] at hm; simp [mOk] at hm
        · rw [e1] at hm; simp [mOk] at hm
  · refine ⟨fun i hi e => ?_, fun k hk => none_of fun hs => ?_, fun k hk => none_of fun hs => ?_⟩
    · rw [tx.d] at hi
      rw [ty.d] at e
      exact hne i i hi e rfl
    · rcases hlb k hk with ⟨a1, d, a2, a3, _⟩ | a1 | ⟨a1, ⟨j, a2⟩, _⟩ <;> rcases ty.b k hs with ⟨b1, d', b2, b3, _⟩ | b1 | ⟨b1, ⟨j', b2⟩, _⟩
      · rw [a3] at b3; simp only [Key.loc.injEq] at b3; exact hne d d' a2 b2 (by omega)
      · rw [a1, b1] at hm; simp [mOk] at hm
      · rw [a3] at b2; cases b2
      · rw [a1, b1] at hm; simp [mOk] at hm
      · rw [a1, b1] at hm; simp [mOk] at hm
      · rw [a1, b1] at hm; simp [mOk] at hm
      · rw [a2] at b3; cases b3
      · rw [a1, b1] at hm; simp [mOk] at hm
      · rw [a1, b1] at hm; simp [mOk] at hm
    · rcases hle k hk with ⟨a1, d, a2, a3, _, a4⟩ | ⟨a1, a2⟩ | ⟨a1, ⟨j, a2⟩, _⟩ | ⟨a1, o1, a2, _⟩ <;> rcases ty.e k hs with ⟨b1, d', b2, b3, _, b4⟩ | ⟨b1, b2⟩ | ⟨b1, ⟨j', b2⟩, _⟩ | ⟨b1, o2, b2, _⟩
      · rw [a3] at b3; simp only [Key.loc.injEq] at b3; exact hne d d' a2 b2 (by omega)
      · rw [a1, b1] at hm; simp [mOk] at hm
      · rw [a3] at b2; cases b2
      · rw [a4] at b2; cases b2
      · rcases a2 with a2 | ⟨d, a2, a3, _⟩
        · exact a2 b4
        · rw [a3] at b3; simp only [Key.loc.injEq] at b3; exact hne d d' a2 b2 (by omega)
      · rw [a1, b1] at hm; simp [mOk] at hm
      · rw [a1, b1] at hm; simp [mOk] at hm
      · rw [a1, b1] at hm; simp [mOk] at hm
      · rw [a2] at b3; cases b3
      · rw [a1, b1] at hm; simp [mOk] at hm
      · rw [a1, b1] at hm; simp [mOk] at hm
      · rw [a1, b1] at hm; simp [mOk] at hm
      · rw [b4] at a2; cases a2
      · rw [a1, b1] at hm; simp [mOk] at hm
      · rw [a1, b1] at hm; simp [mOk] at hm
      · rw [a1, b1] at hm; simp [mOk] at hm

end Go.Pv
/- Regions that draw their order, IV: soundness of effects; every order comes to the same. -/
set_option linter.all false
namespace Go.Pv
open Go Go.RowKit

def RelA (C : Ctx) (A : AS) (a : Act) (w : World) : Prop := ∃ st ν, Like st A ∧ (∀ k, A.F k → fresh st.n st.o k) ∧ Rel C st a w ν

theorem like_v {st : St} {A : AS} (h : Like st A) (d : Nat) (p : PV) : Like { st with t := put d p st.t } (A.do ⟨some d, p, [], [], none⟩) := by
  refine ⟨fun i => ?_, fun k => ?_, fun k => ?_⟩
  · simp only [AS.do, get_put, Option.some.injEq, h.t]
  · simpa [AS.do, fsets, look] using h.b k
  · simpa [AS.do, fsets, look] using h.e k
theorem like_box {st : St} {A : AS} (h : Like st A) (d : Nat) (p : PV) (κ : Key) (cs : List PV) (n' : Nat) (o' : List Key) (rm : Option Key) : Like ⟨put d p st.t, upd κ cs st.b, st.e, n', o'⟩ (A.do ⟨some d, p, [(κ, cs)], [], rm⟩) := by
  refine ⟨fun i => ?_, fun k => ?_, fun k => ?_⟩
  · simp only [AS.do, get_put, Option.some.injEq, h.t]
  · simp only [AS.do, fsets, look, look_upd, h.b]
    by_cases e : κ = k <;> simp [e]
  · simpa [AS.do, fsets, look] using h.e k
theorem like_store {st : St} {A : AS} (h : Like st A) (κ : Key) (cs : List PV) (p : PV) : Like { st with b := upd κ cs st.b } (A.do ⟨none, p, [(κ, cs)], [], none⟩) := by
  refine ⟨fun i => ?_, fun k => ?_, fun k => ?_⟩
  · simpa [AS.do] using h.t i
  · simp only [AS.do, fsets, look, look_upd, h.b]
    by_cases e : κ = k <;> simp [e]
  · simpa [AS.do, fsets, look] using h.e k
theorem like_row {st : St} {A : AS} (h : Like st A) (d : Nat) (p : PV) (κ : Key) (o : Own) (n' : Nat) (o' : List Key) (rm : Option Key) : Like ⟨put d p st.t, st.b, upd κ o st.e, n', o'⟩ (A.do ⟨some d, p, [], [(κ, o)], rm⟩) := by
  refine ⟨fun i => ?_, fun k => ?_, fun k => ?_⟩
  · simp only [AS.do, get_put, Option.some.injEq, h.t]
  · simpa [AS.do, fsets, look] using h.b k
  · simp only [AS.do, fsets, look, look_upd, h.e]
    by_cases e : κ = k <;> simp [e]

theorem like_rowS {st : St} {A : AS} (h : Like st A) (κ : Key) (o : Own) (p : PV) : Like { st with e := upd κ o st.e } (A.do ⟨none, p, [], [(κ, o)], none⟩) := by
  refine ⟨fun i => ?_, fun k => ?_, fun k => ?_⟩
  · simpa [AS.do] using h.t i
  · simpa [AS.do, fsets, look] using h.b k
  · simp only [AS.do, fsets, look, look_upd]
    by_cases e : κ = k <;> simp [e, h.e]
theorem mem_look {α : Type} {k : Key} : ∀ {l : List (Key × α)}, k ∈ l.map (·.1) → (look k l).isSome
  | [], h => by simp at h
  | (i, x) :: r, h => by
    simp only [look]
    split
    · rfl
    · rename_i e
      simp only [List.map_cons, List.mem_cons] at h
      rcases h with h | h
      · exact absurd h.symm e
      · exact mem_look h

theorem fresh_cons {n : Nat} {o : List Key} {κ : Key} : ∀ j, fresh n (κ :: o) j → fresh n o j ∧ j ≠ κ := by
  intro j hj
  simp only [fresh, List.mem_cons, not_or] at hj ⊢
  exact ⟨⟨hj.1, hj.2.2⟩, hj.2.1⟩
theorem fresh_cons' {n : Nat} {o : List Key} {κ j : Key} (h : fresh n o j) (hj : some κ ≠ some j) : fresh n (κ :: o) j := by
  simp only [fresh, List.mem_cons, not_or] at h ⊢
  exact ⟨h.1, fun e => hj (by rw [e]), h.2⟩

theorem G1_sound {P : Program} {tys : List (Nat × TF)} (ht : tysOk P tys = true) {C : Ctx} {q : Bool} {n0 : Nat} {i : RIns} {o : Oper} (ho : rOk C.N tys i o = true) {A : AS} {x : Ef} (hx : G1 P q n0 i A x) {a : Act} {w : World} (hr : RelA C A a w)
    {K : Act → World → Prop} {Q : Exit → Act → World → Prop} (hK : ∀ a' w', RelA C (A.do x) a' w' → K a' w') : o.wp P a w K Q := by
  obtain ⟨st, ν, hl, hF, hr⟩ := hr
  have hF0 : ∀ (t : List (Nat × PV)) (b : List (Key × List PV)) (e : List (Key × Own)) (d : Option Nat) (p : PV) (bw : List (Key × List PV)) (ew : List (Key × Own)), ∀ k, (A.do ⟨d, p, bw, ew, none⟩).F k → fresh st.n st.o k := fun t b e d p bw ew k hk => hF k hk.1
  have hF1 : ∀ (d : Option Nat) (p : PV) (bw : List (Key × List PV)) (ew : List (Key × Own)) (κ : Key), ∀ k, (A.do ⟨d, p, bw, ew, some κ⟩).F k → fresh st.n (κ :: st.o) k := fun d p bw ew κ k hk => fresh_cons' (hF k hk.1) hk.2
  cases i with
  | s i =>
    have ho' : sOk C.N tys i o = true := by simpa only [rOk] using ho
    cases i with
    | v d i =>
      simp only [G1] at hx
      obtain ⟨c, p, h1, h2, _, rfl⟩ := hx
      rw [← vIF_eq hl] at h1
      refine sIk_sound (κ := .loc 0) (n' := 0) (o₁ := []) ht hr ho' (fun h => by simp [Ins.makes] at h) (fun h => by simp [Ins.makes] at h) (st' := { st with t := put d p st.t }) (by simp only [sIk, h1]) h2 fun a' w' ν' h' => hK _ _ ⟨_, ν', like_v hl d p, fun k hk => hF k hk.1, h'⟩
    | box d key v =>
      cases key with
      | some m => simp only [G1] at hx
      | none =>
        simp only [G1] at hx
        obtain ⟨⟨h1, _⟩, h2, rfl⟩ := hx
        rw [← evalF_eq hl] at h2
        refine sIk_sound (κ := .loc (n0 + d)) (n' := st.n) (o₁ := .loc (n0 + d) :: st.o) ht hr ho' (fun _ => hF _ h1) (fun _ => fresh_cons) (st' := ⟨put d (.ptr (.loc (n0 + d)) 0) st.t, upd (.loc (n0 + d)) (cells (evalO st.t v)) st.b, st.e, st.n, .loc (n0 + d) :: st.o⟩) (by simp only [sIk]) h2 fun a' w' ν' h' => hK _ _ ⟨_, ν', ?_, hF1 _ _ _ _ _, h'⟩
        rw [evalF_eq hl]
        exact like_box hl d _ _ _ _ _ _
    | alloc d key z =>
      cases key with
      | some m => simp only [G1] at hx
      | none =>
        simp only [G1] at hx
        obtain ⟨⟨h1, _⟩, rfl⟩ := hx
        refine sIk_sound (κ := .loc (n0 + d)) (n' := st.n) (o₁ := .loc (n0 + d) :: st.o) ht hr ho' (fun _ => hF _ h1) (fun _ => fresh_cons) (st' := ⟨put d (.ptr (.loc (n0 + d)) 0) st.t, upd (.loc (n0 + d)) (cells z) st.b, st.e, st.n, .loc (n0 + d) :: st.o⟩) (by simp only [sIk]) trivial fun a' w' ν' h' => hK _ _ ⟨_, ν', like_box hl d _ _ _ _ _ _, hF1 _ _ _ _ _, h'⟩
    | store sz u v =>
      simp only [G1] at hx
      obtain ⟨k, off, cs, h1, h2, h3, rfl⟩ := hx
      rw [← evalF_eq hl] at h1 h3
      rw [← hl.b] at h2
      refine sIk_sound (κ := .loc 0) (n' := 0) (o₁ := []) ht hr ho' (fun h => by simp [Ins.makes] at h) (fun h => by simp [Ins.makes] at h) (st' := { st with b := upd k (splice cs off (cells (evalO st.t v))) st.b }) (by simp only [sIk, h1, h2]) h3 fun a' w' ν' h' => hK _ _ ⟨{ st with b := upd k (splice cs off (cells (evalO st.t v))) st.b }, ν', by rw [evalF_eq hl]; exact like_store hl k _ _, fun k hk => hF k hk.1, h'⟩
    | bsl d sz el xs =>
      simp only [G1] at hx
      obtain ⟨⟨h1, _⟩, h2, rfl⟩ := hx
      rw [← evalF_fun hl] at h2
      refine sIk_sound (κ := .loc (n0 + d)) (n' := st.n) (o₁ := .loc (n0 + d) :: st.o) ht hr ho' (fun _ => hF _ h1) (fun _ => fresh_cons) (st' := ⟨put d (.slice sz (.own (.loc (n0 + d))) (xs.map (evalO st.t))) st.t, st.b, upd (.loc (n0 + d)) ⟨xs.length, el, sz, none⟩ st.e, st.n, .loc (n0 + d) :: st.o⟩) (by simp only [sIk]) h2 fun a' w' ν' h' => hK _ _ ⟨_, ν', ?_, hF1 _ _ _ _ _, h'⟩
      rw [evalF_fun hl]
      exact like_row hl d _ _ _ _ _ _
    | app d sz el u v =>
      simp only [G1] at hx
      obtain ⟨tag, xs, tag', ys, h1, h2, hx⟩ := hx
      rw [← evalF_eq hl] at h1 h2
      rcases hx with ⟨k, ow, rfl, h3, h4, rfl⟩ | ⟨rfl, h3, ⟨h4, _⟩, rfl⟩
      · rw [← hl.e] at h3
        refine sIk_sound (κ := .loc 0) (n' := 0) (o₁ := []) ht hr ho' (fun h => by simp [Ins.makes, h1] at h) (fun h => by simp [Ins.makes, h1] at h) (st' := ⟨put d (.slice sz (.own k) (xs ++ ys)) st.t, st.b, upd k ⟨xs.length + ys.length, el, sz, none⟩ st.e, st.n, st.o⟩) (by simp only [sIk, h1, h2, h3, and_self, if_true]) h4.2 fun a' w' ν' h' => hK _ _ ⟨_, ν', like_row hl d _ _ _ _ _ _, fun k hk => hF k hk.1, h'⟩
      · refine sIk_sound (κ := .loc (n0 + d)) (n' := st.n) (o₁ := .loc (n0 + d) :: st.o) ht hr ho' (fun _ => hF _ h4) (fun _ => fresh_cons) (st' := ⟨put d (.slice sz (.own (.loc (n0 + d))) ys) st.t, st.b, upd (.loc (n0 + d)) ⟨ys.length, el, sz, none⟩ st.e, st.n, .loc (n0 + d) :: st.o⟩) (by simp only [sIk, h1, h2, and_self, if_true]) h3 fun a' w' ν' h' => hK _ _ ⟨_, ν', like_row hl d _ _ _ _ _ _, hF1 _ _ _ _ _, h'⟩
    | bslm d key sz el xs => simp only [G1] at hx
    | appm d key sz el u v =>
      simp only [G1] at hx
      obtain ⟨k, n, xs, tag', ys, h1, h2, h3, h4, rfl⟩ := hx
      rw [← evalF_eq hl] at h1 h2
      rw [← hl.e] at h3
      refine sIk_sound (κ := .loc 0) (n' := 0) (o₁ := []) ht hr ho' (fun h => by simp [Ins.makes, h1] at h) (fun h => by simp [Ins.makes, h1] at h) (st' := ⟨put d (.row sz k (xs.length + ys.length)) st.t, st.b, upd k ⟨xs.length + ys.length, el, sz, some (xs ++ ys)⟩ st.e, st.n, st.o⟩) (by simp only [sIk, appmV, h1, h2, h3, and_self, if_true]) h4 fun a' w' ν' h' => hK _ _ ⟨_, ν', like_row hl d _ _ _ _ _ _, fun k hk => hF k hk.1, h'⟩
    | storeE sz u v =>
      simp only [G1] at hx
      obtain ⟨k, n, i, f, el, sz', xs, q, h1, h2, h3, h4, rfl⟩ := hx
      rw [← evalF_eq hl] at h1 h4
      rw [← hl.e] at h2
      refine sIk_sound (κ := .loc 0) (n' := 0) (o₁ := []) ht hr ho' (fun h => by simp [Ins.makes] at h) (fun h => by simp [Ins.makes] at h) (st' := { st with e := upd k ⟨n, el, sz', some (xs.set i (rowPut q f (cells (evalO st.t v))))⟩ st.e }) (by simp only [sIk, storeR, h1, h2, h3, and_self, if_true]) h4 fun a' w' ν' h' => hK _ _ ⟨{ st with e := upd k ⟨n, el, sz', some (xs.set i (rowPut q f (cells (evalO st.t v))))⟩ st.e }, ν', by rw [evalF_eq hl]; exact like_rowS hl k _ _, fun k hk => hF k hk.1, h'⟩
    | mkmap d key => simp only [G1] at hx
    | mput ks x k v => simp only [G1] at hx
    | range d key x => simp only [G1] at hx
  | next d x => simp only [G1] at hx
  | call d f xs =>
    simp only [G1] at hx
    obtain ⟨n, caps, h1, ⟨s, s', r, rm, c1, c2, c3, c4, c5, c6, c7, rfl⟩, _⟩ := hx
    rw [← evalF_eq hl] at h1
    rw [← evalF_fun hl] at c6 c7
    simp only [rOk] at ho
    split at ho
    · rename_i f' args ts hop
      simp only [Bool.and_eq_true, beq_iff_eq] at ho
      obtain ⟨⟨⟨e1, e2⟩, e3⟩, e4⟩ := ho
      have hfr := opOk_rep hr e3
      rw [h1] at hfr
      obtain ⟨k1, k2, k3, k4, k5⟩ := c5
      refine call_sound hr hop e1 e2 hfr (repT_args hr e4) (K := fun st' => st' = after st s s' d r) ⟨s, _, fun k cs hk => ⟨by rw [hl.b]; exact (c1 k cs hk).1, .inl (by simp [hk]), (c1 k cs hk).2⟩, fun k o' hk => ⟨by rw [hl.e]; exact (c2 k o' hk).1, .inr (by simp [hk]), (c2 k o' hk).2⟩, c3, c6, c7, ?_⟩ ?_
      · rintro r' s'' ⟨rfl, rfl⟩
        refine ⟨⟨fun m hm => ?_, fun m hm => ?_⟩, rfl⟩
        · rcases k1 _ hm with h | h
          · exact .inl h
          · exact .inr (hF _ (k5 _ h).2.1).2
        · rcases k2 _ hm with h | h
          · exact .inl h
          · exact .inr (hF _ (k5 _ h).2.1).2
      · rintro st' a' w' ν' rfl h'
        refine hK _ _ ⟨_, ν', ⟨fun i => ?_, fun k => ?_, fun k => ?_⟩, fun k hk => ?_, h'⟩
        · simp only [after, AS.do]
          cases d with
          | none => simpa [putO] using hl.t i
          | some d => simp only [putO, get_put, Option.some.injEq, hl.t]
        · simp only [after, AS.do, fsets, look_append, look_without]
          by_cases hs : (look k s.b).isSome
          · have := k3 k hs
            obtain ⟨y, hy⟩ := Option.isSome_iff_exists.1 this
            simp [hs, hy]
          · cases hn : look k s'.b with
            | none => simp only [hs, hl.b]; cases A.b k <;> simp
            | some y =>
              rcases k1 k (by simp [hn]) with h | h
              · exact absurd h hs
              · have := k5 k h
                simp [hs, hl.b, this]
        · simp only [after, AS.do, fsets, look_append, look_without]
          by_cases hs : (look k s.e).isSome
          · have := k4 k hs
            obtain ⟨y, hy⟩ := Option.isSome_iff_exists.1 this
            simp [hs, hy]
          · cases hn : look k s'.e with
            | none => simp only [hs, hl.e]; cases A.e k <;> simp
            | some y =>
              rcases k2 k (by simp [hn]) with h | h
              · exact absurd h hs
              · have := k5 k h
                simp [hs, hl.e, this]
        · have hfk := hF k hk.1
          have hnone := hr.lookNone hfk
          simp only [after]
          refine ⟨hfk.1, fun hmem => ?_⟩
          rcases List.mem_append.1 hmem with hmem | hmem
          · exact hfk.2 hmem
          · rcases List.mem_append.1 hmem with hmem | hmem
            · rcases k1 k (mem_look hmem) with h | h
              · obtain ⟨y, hy⟩ := Option.isSome_iff_exists.1 h
                have := (c1 k y hy).1
                rw [← hl.b, hnone.1] at this; cases this
              · exact hk.2 h
            · rcases k2 k (mem_look hmem) with h | h
              · obtain ⟨y, hy⟩ := Option.isSome_iff_exists.1 h
                have := (c2 k y hy).1
                rw [← hl.e, hnone.2] at this; cases this
              · exact hk.2 h
    · cases ho

theorem GG_sound {P : Program} {tys : List (Nat × TF)} (ht : tysOk P tys = true) {C : Ctx} {q : Bool} {n0 : Nat} {ops : Array Oper} {g : GI} {o : Oper} {j : Nat} (hj : ops[j]? = some o) (ho : gOk C.N tys ops.toList g o = true) {A : AS} {x : Ef} (hx : GG P q n0 g A x) {a : Act} {w : World} (hr : RelA C A a w)
    {K : Act → World → Prop} {Q : Exit → Act → World → Prop} (hK : ∀ a' w', RelA C (A.do x) a' w' → K a' w') : wpOp P ops Q j K a w := by
  unfold wpOp
  rw [hj]
  simp only
  simp only [gOk, Bool.and_eq_true] at ho
  obtain ⟨hg1, hg2⟩ := ho
  unfold GG at hx
  cases hgg : g.g with
  | none =>
    cases hgo : o.guard with
    | some x => simp [hgo, hgg] at hg1
    | none =>
      have hw : Region.wanted o (yielded ops a.tmps) = true := by simp [Region.wanted, hgo]
      rw [if_pos hw]
      simp only [hgg] at hx
      exact .inl (G1_sound ht hg2 hx hr hK)
  | some sw =>
    obtain ⟨s, want⟩ := sw
    cases hgo : o.guard with
    | none => simp [hgo, hgg] at hg1
    | some xx =>
      obtain ⟨jj, b'⟩ := xx
      simp only [hgo, hgg, Bool.and_eq_true, beq_iff_eq, decide_eq_true_eq] at hg1
      obtain ⟨⟨⟨⟨rfl, h2⟩, h3⟩, h4⟩, h5⟩ := hg1
      obtain ⟨st, ν, hl, hF, hr'⟩ := id hr
      obtain ⟨y1, y2⟩ := yielded_of hr' h2 h3
      simp only [hgg] at hx
      have hskip : ∀ (h : x = skipEf g.i.dst), K (a.put o.dst undef) w := by
        rintro rfl
        rw [h4]
        refine hK _ _ ⟨_, ν, ?_, fun k hk => ?_, hr'.put h5 (p := .tuple []) (by simp [rep, repT, undef])⟩
        · refine ⟨fun i => ?_, fun k => ?_, fun k => ?_⟩
          · simp only [AS.do, skipEf]
            cases g.i.dst with
            | none => simpa [putO] using hl.t i
            | some d => simp only [putO, get_put, Option.some.injEq, hl.t]
          · simpa [AS.do, fsets, look, skipEf] using hl.b k
          · simpa [AS.do, fsets, look, skipEf] using hl.e k
        · exact hF k hk.1
      split at hx
      · rename_i b hb
        have hy := y1 b (by rw [hl.t]; exact hb)
        rcases hx with ⟨rfl, hx⟩ | ⟨rfl, hx⟩
        · have hw : Region.wanted o (yielded ops a.tmps) = true := by simp [Region.wanted, hgo, hy]
          rw [if_pos hw]
          exact .inl (G1_sound ht hg2 hx hr hK)
        · have hw : ¬(Region.wanted o (yielded ops a.tmps) = true) := by simp [Region.wanted, hgo, hy]
          rw [if_neg hw]
          exact hskip hx
      · rename_i hb
        have hy := y2 (by rw [hl.t]; exact hb)
        have hw : ¬(Region.wanted o (yielded ops a.tmps) = true) := by simp [Region.wanted, hgo, hy]
        rw [if_neg hw]
        exact hskip hx
      · exact hx.elim

/-- What is done in the order of a list. -/
def ch (P : Program) (q : Bool) (n0 : Nat) (K : AS → Prop) : List (Nat × GI) → AS → Prop
  | [], A => K A
  | (_, g) :: r, A => ∃ x, GG P q n0 g A x ∧ ch P q n0 K r (A.do x)

theorem bubble {P : Program} {q : Bool} {n0 : Nat} {K : AS → Prop} {i : Nat} {g : GI} : ∀ (L1 L2 : List (Nat × GI)) (A : AS), (∀ x ∈ L1, gComm x.2 g = true) → ch P q n0 K (L1 ++ (i, g) :: L2) A → ∃ x, GG P q n0 g A x ∧ ch P q n0 K (L1 ++ L2) (A.do x)
  | [], L2, A, _, h => h
  | (j, gj) :: L1, L2, A, hc, h => by
    simp only [List.cons_append, ch] at h
    obtain ⟨y, hy, h⟩ := h
    obtain ⟨x, hx, h⟩ := bubble L1 L2 (A.do y) (fun z hz => hc z (List.mem_cons_of_mem _ hz)) h
    obtain ⟨s1, s2, s3⟩ := swap (hc _ (List.mem_cons_self ..)) hy hx
    refine ⟨x, s1, y, s2, ?_⟩
    rw [← AS.do_comm A s3]
    exact h

/-- What is still to be done. -/
def rem (listed : Array Bool) : Nat → List GI → List (Nat × GI)
  | _, [] => []
  | k, g :: r => if listed.getD k false then rem listed (k + 1) r else (k, g) :: rem listed (k + 1) r

theorem rem_congr {l l' : Array Bool} : ∀ (gs : List GI) (k : Nat), (∀ j, k ≤ j → l.getD j false = l'.getD j false) → rem l k gs = rem l' k gs
  | [], _, _ => rfl
  | g :: r, k, h => by
    simp only [rem, h k (Nat.le_refl _), rem_congr r (k + 1) fun j hj => h j (by omega)]
theorem getD_set {l : Array Bool} {i j : Nat} (h : i < l.size) : (l.setIfInBounds i true).getD j false = if i = j then true else l.getD j false := by
  simp only [Array.getD_eq_getD_getElem?]
  by_cases e : i = j
  · subst e; simp [h]
  · simp [e]
theorem rem_split {l : Array Bool} {i : Nat} (hi : i < l.size) (hn : l.getD i false = false) : ∀ (gs : List GI) (k : Nat), k ≤ i → i < k + gs.length → ∃ L1 L2 g, gs[i - k]? = some g ∧ rem l k gs = L1 ++ (i, g) :: L2 ∧ rem (l.setIfInBounds i true) k gs = L1 ++ L2 ∧
    ∀ x ∈ L1, gs[x.1 - k]? = some x.2 ∧ k ≤ x.1 ∧ x.1 < i ∧ l.getD x.1 false = false
  | [], k, h1, h2 => by simp at h2; omega
  | g :: r, k, h1, h2 => by
    by_cases e : k = i
    · subst e
      refine ⟨[], rem l (k + 1) r, g, by simp, by simp [rem, hn], ?_, fun x hx => by simp at hx⟩
      simp only [rem, getD_set hi, if_true, List.nil_append]
      exact rem_congr r (k + 1) fun j hj => by rw [getD_set hi, if_neg (by omega)]
    · obtain ⟨L1, L2, g', e1, e2, e3, e4⟩ := rem_split hi hn r (k + 1) (by omega) (by simp at h2; omega)
      have hik : i - k = (i - (k + 1)) + 1 := by omega
      have hget : (l.setIfInBounds i true).getD k false = l.getD k false := by rw [getD_set hi, if_neg (by omega)]
      by_cases hk : l.getD k false = true
      · refine ⟨L1, L2, g', by rw [hik]; simpa using e1, by simp only [rem, hk, if_true, e2], by simp only [rem, hget, hk, if_true, e3], fun x hx => ?_⟩
        obtain ⟨f1, f2, f3, f4⟩ := e4 x hx
        refine ⟨?_, by omega, f3, f4⟩
        have : x.1 - k = (x.1 - (k + 1)) + 1 := by omega
        rw [this]; simpa using f1
      · have hk : l.getD k false = false := by simpa using hk
        refine ⟨(k, g) :: L1, L2, g', by rw [hik]; simpa using e1, by simp [rem, hk, e2], by simp [rem, hget, hk, e3], fun x hx => ?_⟩
        rcases List.mem_cons.1 hx with rfl | hx
        · exact ⟨by simp, Nat.le_refl _, by simp; omega, hk⟩
        · obtain ⟨f1, f2, f3, f4⟩ := e4 x hx
          refine ⟨?_, by omega, f3, f4⟩
          have : x.1 - k = (x.1 - (k + 1)) + 1 := by omega
          rw [this]; simpa using f1

end Go.Pv
/- Regions that draw their order, V: the static check, every order. -/
set_option linter.all false
namespace Go.Pv
open Go Go.RowKit

/-- Which operations come before one in every order: a mask. -/
def mask1 (acc : List Nat) : List Edge → Nat
  | [] => 0
  | e :: r => if Region.binds .any e then (2 ^ e.on) ||| (acc.getD e.on 0) ||| mask1 acc r else mask1 acc r
def masks (acc : List Nat) : List Oper → List Nat
  | [] => acc
  | o :: os => masks (acc ++ [mask1 acc o.after.toList]) os
def rowOk (m : Nat) (h : GI) : Nat → List GI → Bool
  | _, [] => true
  | i, g :: r => (m.testBit i || gComm g h) && rowOk m h (i + 1) r
def pairsOk : List GI → List GI → List Nat → Bool
  | _, [], _ => true
  | pre, h :: r, m :: ms => rowOk m h 0 pre && pairsOk (pre ++ [h]) r ms
  | _, _, [] => false
def edgesBack : Nat → List Oper → Bool
  | _, [] => true
  | k, o :: os => o.after.toList.all (fun e => !Region.binds .any e || decide (e.on < k)) && edgesBack (k + 1) os
def anyOk (gs : List GI) (ops : List Oper) : Bool := edgesBack 0 ops && pairsOk [] gs (masks [] ops)

theorem mask1_spec {acc : List Nat} {j : Nat} : ∀ {es : List Edge}, (mask1 acc es).testBit j = true → ∃ e ∈ es, Region.binds .any e = true ∧ (j = e.on ∨ (acc.getD e.on 0).testBit j = true)
  | [], h => by simp [mask1] at h
  | e :: r, h => by
    simp only [mask1] at h
    split at h
    · rename_i hb
      simp only [Nat.testBit_or, Bool.or_eq_true] at h
      rcases h with (h | h) | h
      · refine ⟨e, by simp, hb, .inl ?_⟩
        rw [Nat.testBit_two_pow] at h
        have h' : e.on = j := by simpa using h
        exact h'.symm
      · exact ⟨e, by simp, hb, .inr h⟩
      · obtain ⟨e', h1, h2⟩ := mask1_spec h
        exact ⟨e', by simp [h1], h2⟩
    · obtain ⟨e', h1, h2⟩ := mask1_spec h
      exact ⟨e', by simp [h1], h2⟩

theorem masks_pre : ∀ (os : List Oper) (acc : List Nat) (k : Nat), k < acc.length → (masks acc os)[k]? = acc[k]?
  | [], acc, k, _ => rfl
  | o :: os, acc, k, h => by
    simp only [masks]
    rw [masks_pre os _ k (by simp; omega), List.getElem?_append_left h]
theorem masks_at : ∀ (os : List Oper) (acc : List Nat) (k : Nat) (o : Oper), os[k]? = some o → ∃ acc', (masks acc os)[acc.length + k]? = some (mask1 acc' o.after.toList) ∧ acc'.length = acc.length + k ∧ ∀ i, i < acc'.length → acc'[i]? = (masks acc os)[i]?
  | [], acc, k, o, h => by simp at h
  | o' :: os, acc, 0, o, h => by
    simp only [List.getElem?_cons_zero, Option.some.injEq] at h
    subst h
    refine ⟨acc, ?_, by simp, fun i hi => ?_⟩
    · simp only [masks, Nat.add_zero]
      rw [masks_pre os _ _ (by simp)]
      simp
    · simp only [masks]
      rw [masks_pre os _ i (by simp; omega), List.getElem?_append_left hi]
  | o' :: os, acc, k + 1, o, h => by
    simp only [List.getElem?_cons_succ] at h
    obtain ⟨acc', h1, h2, h3⟩ := masks_at os (acc ++ [mask1 acc o'.after.toList]) k o h
    refine ⟨acc', ?_, by rw [h2]; simp; omega, fun i hi => by rw [h3 i hi]; rfl⟩
    simp only [masks]
    rw [show acc.length + (k + 1) = (acc ++ [mask1 acc o'.after.toList]).length + k from by simp; omega]
    exact h1

/-- Whatever is listed has all that comes before it listed. -/
def Dn (ops : Array Oper) (listed : Array Bool) : Prop := ∀ k o, ops[k]? = some o → listed.getD k false = true → ∀ e ∈ o.after.toList, Region.binds .any e = true → listed.getD e.on false = true

theorem mask_listed {ops : Array Oper} {listed : Array Bool} (hd : Dn ops listed) : ∀ (k : Nat) (o : Oper), ops[k]? = some o → (∀ e ∈ o.after.toList, Region.binds .any e = true → listed.getD e.on false = true) → ∀ j, ((masks [] ops.toList).getD k 0).testBit j = true → listed.getD j false = true := by
  intro k
  induction k using Nat.strongRecOn with
  | _ k ih =>
    intro o ho hl j hj
    obtain ⟨acc', h1, h2, h3⟩ := masks_at ops.toList [] k o (by simpa using ho)
    simp only [List.length_nil, Nat.zero_add] at h1 h2
    rw [List.getD_eq_getElem?_getD, h1] at hj
    obtain ⟨e, he, hb, hh⟩ := mask1_spec hj
    rcases hh with rfl | hh
    · exact hl e he hb
    · by_cases hlt : e.on < acc'.length
      · have hm : acc'.getD e.on 0 = (masks [] ops.toList).getD e.on 0 := by rw [List.getD_eq_getElem?_getD, h3 _ hlt, List.getD_eq_getElem?_getD]
        have hk : k < ops.size := (Array.getElem?_eq_some_iff.1 ho).1
        have ho' : ops[e.on]? = some ops[e.on] := Array.getElem?_eq_getElem (by omega)
        rw [hm] at hh
        exact ih e.on (by omega) _ ho' (fun e' he' hb' => hd e.on _ ho' (hl e he hb) e' he' hb') j hh
      · rw [List.getD_eq_getElem?_getD, List.getElem?_eq_none (by omega)] at hh
        simp at hh

theorem rowOk_spec {m : Nat} {h : GI} : ∀ {gs : List GI} {i0 : Nat}, rowOk m h i0 gs = true → ∀ i g, gs[i]? = some g → m.testBit (i0 + i) = true ∨ gComm g h = true
  | [], i0, _, i, g, hg => by simp at hg
  | g' :: r, i0, hr, 0, g, hg => by
    simp only [rowOk, Bool.and_eq_true, Bool.or_eq_true] at hr
    simp only [List.getElem?_cons_zero, Option.some.injEq] at hg
    subst hg
    simpa using hr.1
  | g' :: r, i0, hr, i + 1, g, hg => by
    simp only [rowOk, Bool.and_eq_true] at hr
    have := rowOk_spec hr.2 i g (by simpa using hg)
    rwa [show i0 + 1 + i = i0 + (i + 1) from by omega] at this
theorem pairsOk_spec : ∀ {gs pre : List GI} {ms : List Nat}, pairsOk pre gs ms = true → ∀ j h, gs[j]? = some h → ∀ i g, i < pre.length + j → (pre ++ gs)[i]? = some g → (ms.getD j 0).testBit i = true ∨ gComm g h = true
  | [], pre, ms, _, j, h, hj, _, _, _, _ => by simp at hj
  | h' :: r, pre, [], hp, j, h, hj, _, _, _, _ => by simp [pairsOk] at hp
  | h' :: r, pre, m :: ms, hp, j, h, hj, i, g, hi, hg => by
    simp only [pairsOk, Bool.and_eq_true] at hp
    cases j with
    | zero =>
      simp only [List.getElem?_cons_zero, Option.some.injEq] at hj
      subst hj
      rw [List.getElem?_append_left (by omega)] at hg
      simpa using rowOk_spec hp.1 i g hg
    | succ j =>
      have := pairsOk_spec hp.2 j h (by simpa using hj) i g (by simp; omega) (by simpa using hg)
      simpa using this
theorem edgesBack_spec : ∀ {os : List Oper} {k : Nat}, edgesBack k os = true → ∀ i o, os[i]? = some o → ∀ e ∈ o.after.toList, Region.binds .any e = true → e.on < k + i
  | [], k, _, i, o, ho, _, _, _ => by simp at ho
  | o' :: os, k, h, 0, o, ho, e, he, hb => by
    simp only [edgesBack, Bool.and_eq_true, List.all_eq_true] at h
    simp only [List.getElem?_cons_zero, Option.some.injEq] at ho
    subst ho
    have := h.1 e he
    simpa [hb] using this
  | o' :: os, k, h, i + 1, o, ho, e, he, hb => by
    simp only [edgesBack, Bool.and_eq_true] at h
    have := edgesBack_spec h.2 i o (by simpa using ho) e he hb
    omega

theorem gsOk_at {N : Nat} {tys : List (Nat × TF)} {ops : List Oper} : ∀ {gs : List GI} {os : List Oper}, gsOk N tys ops gs os = true → ∀ (i : Nat) (g : GI), gs[i]? = some g → ∃ o, os[i]? = some o ∧ gOk N tys ops g o = true
  | [], [], _, i, g, h => by simp at h
  | [], _ :: _, h, _, _, _ => by simp [gsOk] at h
  | _ :: _, [], h, _, _, _ => by simp [gsOk] at h
  | g' :: gs, o :: os, h, 0, g, hg => by
    simp only [gsOk, Bool.and_eq_true] at h
    simp only [List.getElem?_cons_zero, Option.some.injEq] at hg
    subst hg
    exact ⟨o, by simp, h.1⟩
  | g' :: gs, o :: os, h, i + 1, g, hg => by
    simp only [gsOk, Bool.and_eq_true] at h
    obtain ⟨o', h1, h2⟩ := gsOk_at h.2 i g (by simpa using hg)
    exact ⟨o', by simpa using h1, h2⟩
theorem gsOk_len {N : Nat} {tys : List (Nat × TF)} {ops : List Oper} : ∀ {gs : List GI} {os : List Oper}, gsOk N tys ops gs os = true → gs.length = os.length
  | [], [], _ => rfl
  | [], _ :: _, h => by simp [gsOk] at h
  | _ :: _, [], h => by simp [gsOk] at h
  | g :: gs, o :: os, h => by
    simp only [gsOk, Bool.and_eq_true] at h
    simp [gsOk_len h.2]

/-- The first of what is left. -/
theorem rem_first {l : Array Bool} : ∀ (gs : List GI) (k : Nat), rem l k gs = [] ∨ ∃ i g, i < gs.length ∧ gs[i]? = some g ∧ l.getD (k + i) false = false ∧ ∀ j, j < i → l.getD (k + j) false = true
  | [], _ => .inl rfl
  | g :: r, k => by
    by_cases h : l.getD k false = true
    · rcases rem_first (l := l) r (k + 1) with h1 | ⟨i, g', h1, h2, h3, h4⟩
      · left; simp only [rem, h, if_true, h1]
      · refine .inr ⟨i + 1, g', by simp; omega, by simpa using h2, by rw [show k + (i + 1) = k + 1 + i from by omega]; exact h3, fun j hj => ?_⟩
        cases j with
        | zero => simpa using h
        | succ j => rw [show k + (j + 1) = k + 1 + j from by omega]; exact h4 j (by omega)
    · exact .inr ⟨0, g, by simp, by simp, by simpa using h, fun j hj => by omega⟩

theorem any_sound {P : Program} {tys : List (Nat × TF)} (ht : tysOk P tys = true) {C : Ctx} {q : Bool} {n0 : Nat} {ops : Array Oper} {gs : List GI} (hgs : gsOk C.N tys ops.toList gs ops.toList = true) (hany : anyOk gs ops.toList = true) {K : AS → Prop} {Q : Exit → Act → World → Prop}
    (hQ : ∀ A a w, K A → RelA C A a w → Q .normal a w) : ∀ (fuel : Nat) (listed : Array Bool) (A : AS) (a : Act) (w : World), listed.size = ops.size → Dn ops listed → (rem listed 0 gs).length ≤ fuel → ch P q n0 K (rem listed 0 gs) A → RelA C A a w → wpAny P .any ops Q fuel listed a w := by
  simp only [anyOk, Bool.and_eq_true] at hany
  obtain ⟨hback, hpairs⟩ := hany
  have hlen : gs.length = ops.size := by simpa using gsOk_len hgs
  have hdone : ∀ (listed : Array Bool) (A : AS) (a : Act) (w : World), listed.size = ops.size → ch P q n0 K (rem listed 0 gs) A → RelA C A a w → Region.ready .any ops listed = [] → Q .normal a w := by
    intro listed A a w hsz hch hr hready
    rcases rem_first (l := listed) gs 0 with h | ⟨i, g, h1, h2, h3, h4⟩
    · rw [h] at hch; exact hQ A a w hch hr
    · exfalso
      have hi : i < ops.size := by omega
      have hmem : i ∈ Region.ready .any ops listed := by
        unfold Region.ready
        simp only [List.mem_filter, List.mem_range, Bool.and_eq_true, Bool.not_eq_true']
        refine ⟨hi, ?_, ?_⟩
        · rw [Nat.zero_add] at h3
          simp only [Array.getD_eq_getD_getElem?] at h3 ⊢
          rw [Array.getElem?_eq_getElem (by omega)] at h3 ⊢
          simpa using h3
        · rw [Array.getElem?_eq_getElem hi]
          simp only [Option.map_some, Option.getD_some]
          rw [← Array.all_toList, List.all_eq_true]
          intro e he
          by_cases hb : Region.binds .any e = true
          · have hlt := edgesBack_spec hback i ops[i] (by simp [hi]) e he hb
            have := h4 e.on (by omega)
            rw [Nat.zero_add] at this
            simp [this]
          · simp [hb]
      rw [hready] at hmem
      simp at hmem
  intro fuel
  induction fuel with
  | zero =>
    intro listed A a w hsz hd hf hch hr
    have hnil : rem listed 0 gs = [] := List.eq_nil_of_length_eq_zero (by omega)
    have hready : Region.ready .any ops listed = [] := by
      rw [List.eq_nil_iff_forall_not_mem]
      intro i hi
      unfold Region.ready at hi
      simp only [List.mem_filter, List.mem_range, Bool.and_eq_true, Bool.not_eq_true'] at hi
      obtain ⟨h1, h2, _⟩ := hi
      have hn : listed.getD i false = false := by
        simp only [Array.getD_eq_getD_getElem?] at h2 ⊢
        rw [Array.getElem?_eq_getElem (by omega)] at h2 ⊢
        simpa using h2
      obtain ⟨L1, L2, g, _, e2, _⟩ := rem_split (by omega) hn gs 0 (by omega) (by omega)
      rw [hnil] at e2
      simp at e2
    exact ⟨hready, hdone listed A a w hsz hch hr hready⟩
  | succ fuel ih =>
    intro listed A a w hsz hd hf hch hr
    refine ⟨hdone listed A a w hsz hch hr, fun i hi => ?_⟩
    unfold Region.ready at hi
    simp only [List.mem_filter, List.mem_range, Bool.and_eq_true, Bool.not_eq_true'] at hi
    obtain ⟨h1, h2, h3⟩ := hi
    have hn : listed.getD i false = false := by
      simp only [Array.getD_eq_getD_getElem?] at h2 ⊢
      rw [Array.getElem?_eq_getElem (by omega)] at h2 ⊢
      simpa using h2
    have ho : ops[i]? = some ops[i] := Array.getElem?_eq_getElem h1
    have hedges : ∀ e ∈ ops[i].after.toList, Region.binds .any e = true → listed.getD e.on false = true := by
      rw [ho] at h3
      simp only [Option.map_some, Option.getD_some] at h3
      rw [← Array.all_toList, List.all_eq_true] at h3
      intro e he hb
      simpa [hb] using h3 e he
    obtain ⟨L1, L2, g, e1, e2, e3, e4⟩ := rem_split (by omega) hn gs 0 (by omega) (by omega)
    simp only [Nat.sub_zero] at e1 e4
    rw [e2] at hch
    obtain ⟨x, hx, hch'⟩ := bubble L1 L2 A (fun y hy => by
      obtain ⟨f1, f2, f3, f4⟩ := e4 y hy
      rcases pairsOk_spec hpairs i g e1 y.1 y.2 (by simpa using f3) (by simpa using f1) with h | h
      · have := mask_listed hd i ops[i] ho hedges y.1 h
        rw [f4] at this; cases this
      · exact h) hch
    obtain ⟨o', g1, g2⟩ := gsOk_at hgs i g e1
    have : o' = ops[i] := by
      rw [Array.getElem?_toList, ho] at g1
      exact (Option.some.inj g1).symm
    subst this
    refine GG_sound ht ho g2 hx hr fun a' w' hr' => ?_
    refine ih (listed.setIfInBounds i true) (A.do x) a' w' (by simpa using hsz) ?_ ?_ (by rw [e3]; exact hch') hr'
    · intro k o hk hl e he hb
      rw [getD_set (by omega)] at hl ⊢
      split
      · rfl
      · by_cases hik : i = k
        · subst hik
          rw [ho] at hk; cases hk
          exact hedges e he hb
        · rw [if_neg hik] at hl
          exact hd k o hk hl e he hb
    · rw [e3]
      rw [e2] at hf
      simp at hf ⊢
      omega

end Go.Pv
/- Regions that draw their order, VI: evaluation in the order of the text, with names by slots. -/
set_option linter.all false
namespace Go.Pv
open Go Go.RowKit

def freeAt (n0 d : Nat) (st : St) : Prop := .loc (n0 + d) ∉ st.o ∧ look (.loc (n0 + d)) st.b = none ∧ look (.loc (n0 + d)) st.e = none
def VIns.loadO (q : Bool) (t : List (Nat × PV)) : VIns → Prop
  | .load _ _ x => q = true ∨ isLocP (evalO t x) = true
  | .loadB _ _ _ => True
  | .mget _ _ _ _ _ => q = true
  | .ment _ => q = true
  | .mlen _ => q = true
  | _ => True
def dCond (q : Bool) (n0 : Nat) (st : St) : Ins → Prop
  | .v _ i => i.loadO q st.t
  | .box d none _ => freeAt n0 d st
  | .alloc d none _ => freeAt n0 d st
  | .box _ (some _) _ => False
  | .alloc _ (some _) _ => False
  | .store _ x _ => match evalO st.t x with | .ptr _ _ => True | _ => False
  | .bslm _ _ _ _ _ => False
  | .appm _ _ _ _ x _ => match evalO st.t x with | .row _ _ _ => True | _ => False
  | .storeE _ _ _ => True
  | .mkmap _ _ => False
  | .mput _ _ _ _ => False
  | .range _ _ _ => False
  | .bsl d _ _ _ => freeAt n0 d st
  | .app d _ _ x _ => match evalO st.t x with
    | .slice _ .nil _ => freeAt n0 d st
    | .slice _ (.own k) _ => (look k st.e).bind (·.xs) = none
    | _ => True
def dKey (n0 : Nat) : Ins → Key
  | .v d _ | .box d _ _ | .alloc d _ _ | .bsl d _ _ _ | .app d _ _ _ _ | .bslm d _ _ _ _ | .appm d _ _ _ _ _ | .mkmap d _ | .range d _ _ => .loc (n0 + d)
  | .store _ _ _ | .mput _ _ _ _ | .storeE _ _ _ => .loc n0

/-- The names behind a call in a region: those ahead of it, and at most one that was put by for it. -/
def keysD (nw : List Nat) (st : St) (s s' : Obs) (rm : Option Key) : Prop := (∀ k, (look k s'.b).isSome → (look k s.b).isSome ∨ rm = some k) ∧ (∀ k, (look k s'.e).isSome → (look k s.e).isSome ∨ rm = some k) ∧ (∀ k, (look k s.b).isSome → (look k s'.b).isSome) ∧ (∀ k, (look k s.e).isSome → (look k s'.e).isSome) ∧
  (∀ k, rm = some k → (∃ j, j ∈ nw ∧ k = .obj j) ∧ look k st.b = none ∧ look k st.e = none ∧ ((look k s'.b).isSome ∨ (look k s'.e).isSome))
def CallD (P : Program) (q : Bool) (nw : List Nat) (n : Nat) (args : List PV) (st : St) (d : Option Nat) (K : St → Prop) : Prop :=
  ∃ s s' r rm, subB (inObs s) s.b st.b ∧ subE (inObs s) s.e st.e ∧ objOnly s ∧ objOnly s' ∧ keysD nw st s s' rm ∧ kinL (inObs s) args ∧ FnG P n args s (fun r' t' => r' = r ∧ t' = s') ∧ (q = true → s'.b = [] ∧ s'.e = []) ∧ K { after st s s' d r with o := st.o }

def ev1d (P : Program) (q : Bool) (nw : List Nat) (n0 : Nat) (st : St) (K : St → Prop) : RIns → Prop
  | .s i => match sIk (dKey n0 i) st.n (dKey n0 i :: st.o) st i with
    | some (c, st') => dCond q n0 st i ∧ c ∧ K st'
    | none => False
  | .call d f xs => match evalO st.t f with
    | .func n caps => CallD P q nw n (stripL (xs.map (evalO st.t) ++ caps)) st d K
    | _ => False
  | .next _ _ => False

def evD (P : Program) (q : Bool) (nw : List Nat) (n0 : Nat) : List GI → St → (St → Prop) → Prop
  | [], st, K => K st
  | ⟨none, i⟩ :: r, st, K => ev1d P q nw n0 st (fun st' => evD P q nw n0 r st' K) i
  | ⟨some (s, want), i⟩ :: r, st, K => match get s st.t with
    | .bool b => (b = want → ev1d P q nw n0 { st with t := put s (.bool want) st.t } (fun st' => evD P q nw n0 r st' K) i) ∧ (b = !want → evD P q nw n0 r { st with t := putO i.dst (.tuple []) (put s (.bool !want) st.t) } K)
    | .tuple [] => evD P q nw n0 r { st with t := putO i.dst (.tuple []) st.t } K
    | _ => False

/-- What is kept along the evaluation. -/
structure Along (nw : List Nat) (n0 N : Nat) (o0 : List Key) (st : St) (A : AS) : Prop where
  like : Like st A
  n : st.n = n0
  F : ∀ k, fresh n0 st.o k → (∀ j ∈ nw, k ≠ .obj j) → A.F k
  o : ∀ k ∈ st.o, k ∈ o0 ∨ ∃ d, d < N ∧ k = .loc (n0 + d)

/-- What was put by is free as long as nothing lies there. -/
def NwF (nw : List Nat) (A : AS) : Prop := ∀ j ∈ nw, A.b (.obj j) = none → A.e (.obj j) = none → A.F (.obj j)
theorem NwF.do {P : Program} {q : Bool} {n0 : Nat} {nw : List Nat} {A : AS} (h : NwF nw A) {g : GI} {x : Ef} (hx : GG P q n0 g A x) : NwF nw (A.do x) := by
  intro j hj hb he
  refine ⟨h j hj (do_b_none hb) (do_e_none he), fun er => ?_⟩
  rcases (touch_GG hx).r _ er with ⟨d, _, e⟩ | ⟨_, _, hs⟩
  · cases e
  · rcases hs with hs | hs
    · obtain ⟨y, hy⟩ := Option.isSome_iff_exists.1 hs
      simp [AS.do, fsets, hy] at hb
    · obtain ⟨y, hy⟩ := Option.isSome_iff_exists.1 hs
      simp [AS.do, fsets, hy] at he
theorem ev1d_ch {P : Program} {q : Bool} {nw : List Nat} {n0 N : Nat} {o0 : List Key} {i : RIns} (hd : ∀ d, i.dst = some d → d < N) {st : St} {A : AS} (h : Along nw n0 N o0 st A) (hN : NwF nw A) {K : St → Prop} (he : ev1d P q nw n0 st K i) : ∃ x st', G1 P q n0 i A x ∧ K st' ∧ Along nw n0 N o0 st' (A.do x) := by
  have hl := h.like
  have hfree : ∀ d, freeAt n0 d st → (A.F (.loc (n0 + d)) ∧ A.b (.loc (n0 + d)) = none ∧ A.e (.loc (n0 + d)) = none) := fun d hf => ⟨h.F _ ⟨by simp, hf.1⟩ (fun _ _ e => by cases e), by rw [← hl.b]; exact hf.2.1, by rw [← hl.e]; exact hf.2.2⟩
  have hF1 : ∀ (d : Option Nat) (p : PV) (bw : List (Key × List PV)) (ew : List (Key × Own)) (κ : Key), ∀ k, fresh n0 (κ :: st.o) k → (∀ j ∈ nw, k ≠ .obj j) → (A.do ⟨d, p, bw, ew, some κ⟩).F k := fun d p bw ew κ k hk hj => ⟨h.F k (fresh_cons k hk).1 hj, fun e => (fresh_cons k hk).2 (Option.some.inj e).symm⟩
  have hF0 : ∀ (d : Option Nat) (p : PV) (bw : List (Key × List PV)) (ew : List (Key × Own)), ∀ k, fresh n0 st.o k → (∀ j ∈ nw, k ≠ .obj j) → (A.do ⟨d, p, bw, ew, none⟩).F k := fun d p bw ew k hk hj => ⟨h.F k hk hj, by simp⟩
  have ho1 : ∀ d, d < N → ∀ k ∈ Key.loc (n0 + d) :: st.o, k ∈ o0 ∨ ∃ d, d < N ∧ k = .loc (n0 + d) := fun d hd k hk => by
    rcases List.mem_cons.1 hk with rfl | hk
    · exact .inr ⟨d, hd, rfl⟩
    · exact h.o k hk
  cases i with
  | s i =>
    cases i with
    | v d i =>
      simp only [ev1d, sIk] at he
      cases hv : vI st i with
      | none => simp [hv] at he
      | some cp =>
        obtain ⟨c, p⟩ := cp
        simp only [hv] at he
        obtain ⟨h1, h2, h3⟩ := he
        refine ⟨⟨some d, p, [], [], none⟩, _, ⟨c, p, by rw [← vIF_eq hl]; exact hv, h2, fun hld => ?_, rfl⟩, h3, like_v hl d p, h.n, hF0 _ _ _ _, h.o⟩
        cases i <;> simp only [VIns.isLoad] at hld <;> try (cases hld; done)
        case mget => exact .inr (.inl h1)
        case ment => exact .inr (.inl h1)
        case mlen => exact .inr (.inl h1)
        case loadB => exact .inl rfl
        simp only [dCond, VIns.loadO, evalF_eq hl] at h1
        exact .inr (by simpa only [VIns.ptrOf] using h1)
    | box d key v =>
      cases key with
      | some m => simp only [ev1d, sIk, dCond, false_and] at he
      | none =>
        simp only [ev1d, sIk, dCond, dKey] at he
        obtain ⟨h1, h2, h3⟩ := he
        rw [evalF_eq hl] at h2
        refine ⟨_, _, ⟨hfree d h1, h2, rfl⟩, h3, ?_, h.n, hF1 _ _ _ _ _, ho1 d (hd d rfl)⟩
        rw [evalF_eq hl]
        exact like_box hl d _ _ _ _ _ _
    | alloc d key z =>
      cases key with
      | some m => simp only [ev1d, sIk, dCond, false_and] at he
      | none =>
        simp only [ev1d, sIk, dCond, dKey] at he
        obtain ⟨h1, h2, h3⟩ := he
        exact ⟨_, _, ⟨hfree d h1, rfl⟩, h3, like_box hl d _ _ _ _ _ _, h.n, hF1 _ _ _ _ _, ho1 d (hd d rfl)⟩
    | store sz u v =>
      simp only [ev1d, sIk] at he
      cases hu : evalO st.t u with
      | ptr k off =>
        cases hb : look k st.b with
        | none => simp [hu, hb] at he
        | some cs =>
          simp only [hu, hb] at he
          obtain ⟨h1, h2, h3⟩ := he
          rw [evalF_eq hl] at h2 hu
          refine ⟨⟨none, .junk, [(k, splice cs off (cells (evalF A.t v)))], [], none⟩, _, ⟨k, off, cs, hu, by rw [← hl.b]; exact hb, h2, rfl⟩, h3, ?_, h.n, hF0 _ _ _ _, h.o⟩
          rw [evalF_eq hl]
          exact like_store hl k _ _
      | _ =>
        exfalso
        simp only [hu] at he
        split at he
        · have := he.1; simp [dCond, hu] at this
        · exact he
    | bsl d sz el xs =>
      simp only [ev1d, sIk, dCond, dKey] at he
      obtain ⟨h1, h2, h3⟩ := he
      rw [evalF_fun hl] at h2
      refine ⟨_, _, ⟨hfree d h1, h2, rfl⟩, h3, ?_, h.n, hF1 _ _ _ _ _, ho1 d (hd d rfl)⟩
      rw [evalF_fun hl]
      exact like_row hl d _ _ _ _ _ _
    | app d sz el u v =>
      simp only [ev1d, sIk] at he
      cases hu : evalO st.t u with
      | slice sz' tag xs =>
        cases hv : evalO st.t v with
        | slice sz'' tag' ys =>
          simp only [hu, hv] at he
          by_cases hss : sz' = sz ∧ sz'' = sz
          · obtain ⟨rfl, rfl⟩ := hss
            rw [evalF_eq hl] at hu hv
            cases tag with
            | no => simp at he
            | nil =>
              simp only [and_self, if_true, dCond, evalF_eq hl, hu, dKey] at he
              obtain ⟨h1, h2, h3⟩ := he
              exact ⟨_, _, ⟨.nil, xs, tag', ys, hu, hv, .inr ⟨rfl, h2, hfree d h1, rfl⟩⟩, h3, like_row hl d _ _ _ _ _ _, h.n, hF1 _ _ _ _ _, ho1 d (hd d rfl)⟩
            | own k =>
              cases hk : look k st.e with
              | none => simp [hk] at he
              | some o =>
                simp only [and_self, if_true, hk] at he
                obtain ⟨h1, h2, h3⟩ := he
                exact ⟨_, _, ⟨.own k, xs, tag', ys, hu, hv, .inl ⟨k, o, rfl, by rw [← hl.e]; exact hk, ⟨by simpa [dCond, evalF_eq hl, hu, hk] using h1, h2⟩, rfl⟩⟩, h3, like_row hl d _ _ _ _ _ _, h.n, hF0 _ _ _ _, h.o⟩
          · simp [hss] at he
        | _ => simp [hu, hv] at he
      | _ => simp [hu] at he
    | bslm d key sz el xs => simp only [ev1d, sIk, dCond, false_and] at he
    | appm d key sz el u v =>
      simp only [ev1d, sIk] at he
      cases hu : evalO st.t u with
      | row sz' k n =>
        cases hv : evalO st.t v with
        | slice sz'' tag' ys =>
          simp only [hu, hv, appmV] at he
          by_cases hss : sz' = sz ∧ sz'' = sz
          · obtain ⟨rfl, rfl⟩ := hss
            rw [evalF_eq hl] at hu hv
            simp only [and_self, if_true] at he
            cases hk : look k st.e with
            | none => simp [hk] at he
            | some o =>
              obtain ⟨n', el', sz3, ox⟩ := o
              cases ox with
              | none => simp [hk] at he
              | some xs =>
                simp only [hk] at he
                by_cases hc3 : n' = n ∧ el' = el ∧ sz3 = sz''
                · obtain ⟨rfl, rfl, rfl⟩ := hc3
                  simp only [and_self, if_true] at he
                  obtain ⟨h1, h2, h3⟩ := he
                  exact ⟨_, _, ⟨k, n', xs, tag', ys, hu, hv, by rw [← hl.e]; exact hk, h2, rfl⟩, h3, like_row hl d _ _ _ _ _ _, h.n, hF0 _ _ _ _, h.o⟩
                · simp [hc3] at he
          · simp [hss] at he
        | _ => simp [hu, hv, appmV] at he
      | slice sz' tag xs =>
        exfalso
        simp only [hu] at he
        split at he
        · have := he.1; simp [dCond, hu] at this
        · exact he
      | _ => simp [hu, appmV] at he
    | storeE sz u v =>
      simp only [ev1d, sIk] at he
      cases hu : evalO st.t u with
      | rptr sz' k n i f =>
        cases hk : look k st.e with
        | none => simp [hu, storeR, hk] at he
        | some o =>
          obtain ⟨n', el, sz3, ox⟩ := o
          cases ox with
          | none => simp [hu, storeR, hk] at he
          | some xs =>
            simp only [hu, storeR, hk] at he
            by_cases hc3 : n' = n ∧ sz3 = sz'
            · obtain ⟨rfl, rfl⟩ := hc3
              simp only [and_self, if_true] at he
              cases hq : xs[i]? with
              | none => simp [hq] at he
              | some q =>
                simp only [hq] at he
                obtain ⟨h1, h2, h3⟩ := he
                rw [evalF_eq hl] at h2 hu
                refine ⟨⟨none, .junk, [], [(k, ⟨n', el, sz3, some (xs.set i (rowPut q f (cells (evalF A.t v))))⟩)], none⟩, _, ⟨k, n', i, f, el, sz3, xs, q, hu, by rw [← hl.e]; exact hk, hq, h2, rfl⟩, h3, ?_, h.n, hF0 _ _ _ _, h.o⟩
                rw [evalF_eq hl]
                exact like_rowS hl k _ _
            · simp [hc3] at he
      | _ => simp [hu, storeR] at he
    | mkmap d key => simp only [ev1d, sIk, dCond, false_and] at he
    | mput ks x k v =>
      simp only [ev1d, dCond, false_and] at he
      split at he <;> exact he.elim
    | range d key x =>
      simp only [ev1d, dCond, false_and] at he
      split at he <;> exact he.elim
  | next d x => simp only [ev1d] at he
  | call d f xs =>
    simp only [ev1d] at he
    cases hf : evalO st.t f with
    | func n caps =>
      simp only [hf] at he
      obtain ⟨s, s', r, rm, c1, c2, c3, c4, c5, c6, c7, c8, c9⟩ := he
      rw [evalF_eq hl] at hf
      rw [evalF_fun hl] at c6 c7
      obtain ⟨k1, k2, k3, k4, k5⟩ := c5
      refine ⟨⟨d, r, s'.b, s'.e, rm⟩, _, ⟨n, caps, hf, ⟨s, s', r, rm, fun k cs hk => ⟨by rw [← hl.b]; exact (c1 k cs hk).1, (c1 k cs hk).2.2⟩, fun k o hk => ⟨by rw [← hl.e]; exact (c2 k o hk).1, (c2 k o hk).2.2⟩, c3, c4, ⟨k1, k2, k3, k4, fun k hk => ?_⟩, c6, c7, rfl⟩, c8⟩, c9, ⟨fun i => ?_, fun k => ?_, fun k => ?_⟩, h.n, fun k hk hj => ⟨h.F k hk hj, fun er => ?_⟩, h.o⟩
      · obtain ⟨⟨j, hj, rfl⟩, e2, e3, e4⟩ := k5 k hk
        rw [hl.b] at e2
        rw [hl.e] at e3
        exact ⟨⟨j, rfl⟩, hN j hj e2 e3, e2, e3, e4⟩
      · simp only [after, AS.do]
        cases d with
        | none => simpa [putO] using hl.t i
        | some d => simp only [putO, get_put, Option.some.injEq, hl.t]
      · simp only [after, AS.do, fsets, look_append, look_without]
        by_cases hs : (look k s.b).isSome
        · have := k3 k hs
          obtain ⟨y, hy⟩ := Option.isSome_iff_exists.1 this
          simp [hs, hy]
        · cases hn : look k s'.b with
          | none => simp only [hs, hl.b]; cases A.b k <;> simp
          | some y =>
            rcases k1 k (by simp [hn]) with h | h
            · exact absurd h hs
            · have := k5 k h
              simp [hs, this]
      · simp only [after, AS.do, fsets, look_append, look_without]
        by_cases hs : (look k s.e).isSome
        · have := k4 k hs
          obtain ⟨y, hy⟩ := Option.isSome_iff_exists.1 this
          simp [hs, hy]
        · cases hn : look k s'.e with
          | none => simp only [hs, hl.e]; cases A.e k <;> simp
          | some y =>
            rcases k2 k (by simp [hn]) with h | h
            · exact absurd h hs
            · have := k5 k h
              simp [hs, this]
      · obtain ⟨⟨j, hj', rfl⟩, _⟩ := k5 k er
        exact hj j hj' rfl
    | _ => simp [hf] at he

def dstsOk (N : Nat) : List GI → Bool
  | [] => true
  | g :: r => dstOk N g.i.dst && dstsOk N r
def zipI : Nat → List GI → List (Nat × GI)
  | _, [] => []
  | k, g :: r => (k, g) :: zipI (k + 1) r

theorem along_refine {nw : List Nat} {n0 N : Nat} {o0 : List Key} {st : St} {A : AS} (h : Along nw n0 N o0 st A) {s : Nat} {p : PV} (hs : get s st.t = p) : Along nw n0 N o0 { st with t := put s p st.t } A := by
  refine ⟨⟨fun i => ?_, h.like.b, h.like.e⟩, h.n, h.F, h.o⟩
  simp only [get_put]
  split
  · rename_i e; subst e; rw [← hs]; exact h.like.t _
  · exact h.like.t i
theorem along_skip {nw : List Nat} {n0 N : Nat} {o0 : List Key} {st : St} {A : AS} (h : Along nw n0 N o0 st A) (d : Option Nat) : Along nw n0 N o0 { st with t := putO d (.tuple []) st.t } (A.do (skipEf d)) := by
  refine ⟨⟨fun i => ?_, fun k => ?_, fun k => ?_⟩, h.n, fun k hk hj => ⟨h.F k hk hj, by simp [skipEf]⟩, h.o⟩
  · simp only [AS.do, skipEf]
    cases d with
    | none => simpa [putO] using h.like.t i
    | some d => simp only [putO, get_put, Option.some.injEq, h.like.t]
  · simpa [AS.do, fsets, look, skipEf] using h.like.b k
  · simpa [AS.do, fsets, look, skipEf] using h.like.e k

theorem evD_ch {P : Program} {q : Bool} {nw : List Nat} {n0 N : Nat} {o0 : List Key} {K : St → Prop} : ∀ (gs : List GI) (k : Nat), dstsOk N gs = true → ∀ (st : St) (A : AS), Along nw n0 N o0 st A → NwF nw A → evD P q nw n0 gs st K → ch P q n0 (fun A' => ∃ st', K st' ∧ Along nw n0 N o0 st' A') (zipI k gs) A
  | [], k, _, st, A, h, _, he => ⟨st, he, h⟩
  | ⟨gg, i⟩ :: r, k, hd, st, A, h, hN, he => by
    simp only [dstsOk, Bool.and_eq_true] at hd
    have hdd : ∀ d, i.dst = some d → d < N := fun d e => by have := hd.1; rw [e] at this; simpa [dstOk] using this
    simp only [zipI, ch]
    cases gg with
    | none =>
      simp only [evD] at he
      obtain ⟨x, st', h1, h2, h3⟩ := ev1d_ch hdd h hN he
      have hg : GG P q n0 ⟨none, i⟩ A x := h1
      exact ⟨x, hg, evD_ch r (k + 1) hd.2 st' _ h3 (hN.do hg) h2⟩
    | some sw =>
      obtain ⟨s, want⟩ := sw
      simp only [evD] at he
      split at he
      · rename_i b hb
        by_cases e : b = want
        · subst e
          obtain ⟨x, st', h1, h2, h3⟩ := ev1d_ch hdd (along_refine h hb) hN (he.1 rfl)
          have hg : GG P q n0 ⟨some (s, b), i⟩ A x := by
            unfold GG
            simp only [← h.like.t, hb]
            exact .inl ⟨trivial, h1⟩
          exact ⟨x, hg, evD_ch r (k + 1) hd.2 st' _ h3 (hN.do hg) h2⟩
        · have hb' : b = !want := by cases b <;> cases want <;> simp at e ⊢
          subst hb'
          have hg : GG P q n0 ⟨some (s, want), i⟩ A (skipEf i.dst) := by
            unfold GG
            simp only [← h.like.t, hb]
            exact .inr ⟨trivial, trivial⟩
          exact ⟨skipEf i.dst, hg, evD_ch r (k + 1) hd.2 _ _ (along_skip (along_refine h hb) i.dst) (hN.do hg) (he.2 rfl)⟩
      · rename_i hb
        have hg : GG P q n0 ⟨some (s, want), i⟩ A (skipEf i.dst) := by
          unfold GG
          simp only [← h.like.t, hb]
        exact ⟨skipEf i.dst, hg, evD_ch r (k + 1) hd.2 _ _ (along_skip h i.dst) (hN.do hg) he⟩
      · exact he.elim

theorem rem_none : ∀ (gs : List GI) (l : Array Bool) (k : Nat), (∀ j, l.getD j false = false) → rem l k gs = zipI k gs
  | [], _, _, _ => rfl
  | g :: r, l, k, h => by simp only [rem, h k, zipI, rem_none r l (k + 1) h]; simp

/-- The state behind a drawn region. -/
def DEnd (n : Nat) (o : List Key) (K : St → Prop) (st : St) : Prop := K { st with n := n, o := o }

theorem Good.like {pr : Nat → Prop} {w : World} {ν : Env} {b b' : List (Key × List PV)} {e e' : List (Key × Own)} (h : Good pr w ν b e) (hb : ∀ k, look k b' = look k b) (he : ∀ k, look k e' = look k e) : Good pr w ν b' e' :=
  ⟨h.alt, fun k cs hk => h.box k cs (by rw [← hb]; exact hk), fun k k' bl h1 h2 => h.inj k k' bl (by rw [← hb]; exact h1) (by rw [← hb]; exact h2), fun g o hg => h.own g o (by rw [← he]; exact hg),
   fun g g' n n' v v' bl h1 h2 => h.oinj g g' n n' v v' bl (by rw [← he]; exact h1) (by rw [← he]; exact h2), fun g k n v bl h1 h2 => h.obx g k n v bl (by rw [← he]; exact h1) (by rw [← hb]; exact h2), h.one⟩

theorem evD_sound {P : Program} (hm : P.follows .mixedOrders = true) {tys : List (Nat × TF)} (ht : tysOk P tys = true) {C : Ctx} {q : Bool} {nw : List Nat} {id : Nat} {ops : Array Oper} {gs : List GI} (hgs : gsOk C.N tys ops.toList gs ops.toList = true) (hany : anyOk gs ops.toList = true) (hds : dstsOk C.N gs = true)
    {K : St → Prop} {Q : Exit → Act → World → Prop} (hQ : ∀ st' a' w' ν', K st' → Rel C st' a' w' ν' → Q .normal a' w') {st : St} {a : Act} {w : World} {ν : Env} (hnw : ∀ j ∈ nw, .obj j ∉ st.o) (he : evD P q nw st.n gs st (DEnd (st.n + C.N) (nw.map Key.obj ++ st.o) K)) (hr : Rel C st a w ν) : (Code.region id ops true).wp P Q a w := by
  refine wp_region_any hm ?_
  have hr' : Rel C st a { w with drawn := w.drawn + 1 } ν := hr.drawn _
  let A : AS := ⟨fun i => get i st.t, fun k => look k st.b, fun k => look k st.e, fresh st.n st.o⟩
  have hal : Along nw st.n C.N st.o st A := ⟨⟨fun _ => rfl, fun _ => rfl, fun _ => rfl⟩, rfl, fun k hk _ => hk, fun k hk => .inl hk⟩
  have hch := evD_ch gs 0 hds st A hal (fun j hj _ _ => ⟨trivial, hnw j hj⟩) he
  have hnone : ∀ j, (Array.replicate ops.size false).getD j false = false := fun j => by simp [Array.getD_eq_getD_getElem?, Array.getElem?_replicate]; split <;> rfl
  refine any_sound ht hgs hany (q := q) (n0 := st.n) (K := fun A' => ∃ st', DEnd (st.n + C.N) (nw.map Key.obj ++ st.o) K st' ∧ Along nw st.n C.N st.o st' A') ?_ ops.size _ A a _ (by simp) ?_ ?_ (by rw [rem_none gs _ 0 hnone]; exact hch) ⟨st, ν, hal.like, fun k hk => hk, hr'⟩
  · rintro A' a' w' ⟨st', hk, ha⟩ ⟨st2, ν', hl2, hF2, hr2⟩
    refine hQ _ a' w' ν' hk ⟨hr2.good.like (fun k => by rw [hl2.b, ← ha.like.b]) (fun k => by rw [hl2.e, ← ha.like.e]), hr2.fr, hr2.defers, hr2.size, fun i => ?_, fun k hkf => ?_⟩
    · have := hr2.slot i
      rw [hl2.t, ← ha.like.t] at this
      exact this
    · refine hr2.new k (hF2 k (ha.F k ?_ fun j hj e => hkf.2 (by subst e; exact List.mem_append_left _ (List.mem_map_of_mem hj))))
      simp only at hkf
      refine ⟨(fresh_mono (Nat.le_add_right st.n C.N) (fun _ h => h) hkf).1, fun hmem => ?_⟩
      rcases ha.o k hmem with h | ⟨d, hd, rfl⟩
      · exact hkf.2 (List.mem_append_right _ h)
      · have := hkf.1
        simp at this
        omega
  · intro k o hk hl
    rw [hnone] at hl; cases hl
  · rw [rem_none gs _ 0 hnone]
    have : ∀ (gs : List GI) k, (zipI k gs).length = gs.length := by
      intro gs
      induction gs with
      | nil => intro k; rfl
      | cons g r ih => intro k; simp [zipI, ih]
    rw [this]
    have := gsOk_len hgs
    simp at this
    omega

end Go.Pv
/- Code and functions. -/
set_option linter.all false
namespace Go.Pv
open Go Go.RowKit

/-- What every reading gives: strings and slices are not too long. -/
def bndL : List PV → Prop
  | [] => True
  | p :: ps => (match p with | .slice _ _ xs => xs.length ≤ lim | .str s => s.length ≤ lim | _ => True) ∧ bndL ps
def bndV : PV → Prop
  | .slice _ _ xs => xs.length ≤ lim
  | .str s => s.length ≤ lim
  | .agg cs => bndL cs
  | _ => True
def bndT : List (Nat × PV) → Prop
  | [] => True
  | (_, p) :: r => bndV p ∧ bndT r
def bndB : List (Key × List PV) → Prop
  | [] => True
  | (_, cs) :: r => bndL cs ∧ bndB r
def bndA : List PV → Prop
  | [] => True
  | p :: r => bndV p ∧ bndA r

theorem repL_bnd {w : World} {ν : Env} : ∀ {cs : List PV} {us : List Value}, repL w ν cs us → bndL cs
  | [], _, _ => trivial
  | c :: cs, us, h => by
    simp only [repL] at h
    obtain ⟨u, us', _, h1, h2⟩ := h
    refine ⟨?_, repL_bnd h2⟩
    cases c <;> simp only <;> have h3 := h1.1 <;> simp only [rep] at h3
    · exact h3.2
    · obtain ⟨⟨a, cap, _, _, h4, _⟩, _⟩ := h3; exact h4.2
theorem repB_bnd {w : World} {ν : Env} {cs : List PV} {us : List Value} (h : repB w ν cs us) : plainB cs = true → bndL cs := fun hp => by
  rw [plain_repB hp] at h; exact repL_bnd h
theorem rep_bnd {w : World} {ν : Env} {p : PV} {v : Value} (h : rep w ν p v) : bndV p := by
  cases p <;> simp only [bndV] <;> simp only [rep] at h
  · exact h.2
  · obtain ⟨⟨a, cap, _, _, h4, _⟩, _⟩ := h; exact h4.2
  · obtain ⟨us, _, h2⟩ := h; exact repL_bnd h2
theorem repT_bnd {w : World} {ν : Env} : ∀ {cs : List PV} {us : List Value}, repT w ν cs us → bndA cs
  | [], _, _ => trivial
  | c :: cs, us, h => by
    simp only [repT] at h
    obtain ⟨u, us', _, h1, h2⟩ := h
    exact ⟨rep_bnd h1, repT_bnd h2⟩

inductive C where
  | skip
  | region (gs : List GI)
  | drawn (q : Bool) (N : Nat) (gs : List GI)
  | drawnW (nw : List Nat) (N : Nat) (gs : List GI)
  | seq (a b : C)
  | cond (x : Opd) (t e : C)
  | block (id : Nat) (c : C)
  | loop (c : C)
  | exit (id : Nat)
  | ret
  | pub (s : Nat) (c : C)
  | pubB (s : Nat) (c : C)
  | fg (inn : Bool) (s : Nat) (c : C)
  | no

/-- From here on the row in a slot is known. -/
def pubRow (st : St) : PV → Option (PV × List (Key × Own))
  | .row sz k n => match look k st.e with
    | some ⟨n', el, sz', some xs⟩ => if n' = n ∧ sz' = sz then some (.slice sz (.own k) xs, upd k ⟨n, el, sz, none⟩ st.e) else none
    | _ => none
  | _ => none
def pubS (st : St) (s : Nat) : Option St :=
  match pubRow st (get s st.t) with
  | some (p, e) => some { st with t := put s p st.t, e := e }
  | none => none
/-- The same of the row in a variable behind a slot. -/
def pubBox (st : St) (s : Nat) : Option St :=
  match get s st.t with
  | .ptr k off => match look k st.b with
    | some cs => match cs[off]? with
      | some p => match pubRow st p with
        | some (p', e) => if plainB cs then some { st with b := upd k (cs.set off p') st.b, e := e } else none
        | none => none
      | none => none
    | none => none
  | _ => none

theorem relRefine {C : Ctx} {st : St} {a : Act} {w : World} {ν : Env} (h : Rel C st a w ν) {s : Nat} {p : PV} (hs : rep w ν p (a.tmps.getD s undef)) : Rel C { st with t := put s p st.t } a w ν := by
  refine ⟨h.good, h.fr, h.defers, h.size, fun i => ?_, h.new⟩
  have := h.slot i
  simp only [get_put]
  split
  · rename_i e; subst e; exact hs
  · exact this
theorem pubRow_sound {C : Ctx} {st : St} {a : Act} {w : World} {ν : Env} (h : Rel C st a w ν) {p p' : PV} {e : List (Key × Own)} {v : Value} (hp : rep w ν p v) (he : pubRow st p = some (p', e)) :
    ∃ ν', Rel C { st with e := e } a w ν' ∧ rep w ν' p' v ∧ Over w ν w ν' := by
  unfold pubRow at he
  split at he
  · rename_i sz k n
    split at he
    · rename_i n' el sz' xs hk
      split at he
      · rename_i hc
        obtain ⟨rfl, rfl⟩ := hc
        cases he
        simp only [rep] at hp
        obtain ⟨_, hl, n0, u, h1, h2, h3⟩ := hp
        obtain ⟨v0, us0, q1, q2, q3, q4⟩ := h.good.own k _ hk
        rw [h1] at q1
        simp only [Option.some.injEq, Prod.mk.injEq] at q1
        obtain ⟨rfl, rfl⟩ := q1
        have hv : v = u := h3 rfl
        subst hv
        obtain ⟨q5, _, _⟩ := q4 xs rfl
        simp only at q5
        obtain ⟨g1, g2⟩ := h.publish hk rfl h1 (by rw [q5]; exact hl)
        refine ⟨_, g1, g2, ⟨fun b o hA => ⟨.inl hA, rfl⟩, fun j b _ hj => hj, fun g n u _ hgu => ⟨n, u, ?_, .inl ⟨rfl, rfl⟩⟩⟩⟩
        simp only [Env.withRowOf]
        split
        · rename_i e; subst e; rw [h1] at hgu; exact hgu
        · exact hgu
      · cases he
    · cases he
  · cases he
/-- What is known of a slice besides its elements is forgotten; 'inn': of its elements alone. -/
def fgV (inn : Bool) : PV → PV
  | .slice sz tag xs => .slice sz (if inn then tag else .no) (stripL xs)
  | p => strip p
theorem fgV_rep {w : World} {ν : Env} {inn : Bool} {p : PV} {v : Value} (h : rep w ν p v) : rep w ν (fgV inn p) v := by
  have h1 := rep_strip p v h
  cases p with
  | slice sz tag xs =>
    simp only [fgV]
    cases inn with
    | false => simpa only [Bool.false_eq_true, if_false, strip] using h1
    | true =>
      simp only [if_true]
      simp only [rep, strip] at h h1 ⊢
      refine ⟨h1.1, fun e => h.2.1 e, fun g e => ?_⟩
      obtain ⟨n, u, e1, e2, e3⟩ := h.2.2 g e
      exact ⟨n, u, e1, by rw [stripL_length]; exact e2, by rw [stripL_length]; exact e3⟩
  | _ => exact h1
theorem pubS_sound {C : Ctx} {st st' : St} {a : Act} {w : World} {ν : Env} (h : Rel C st a w ν) {s : Nat} (he : pubS st s = some st') : ∃ ν', Rel C st' a w ν' := by
  unfold pubS at he
  split at he
  · rename_i p e hp
    cases he
    obtain ⟨ν', h1, h2, _⟩ := pubRow_sound h (h.slot s) hp
    exact ⟨_, relRefine h1 h2⟩
  · cases he
theorem repL_set {w : World} {ν : Env} : ∀ {cs : List PV} {us : List Value} {i : Nat} {p q : PV} {v : Value}, repL w ν cs us → cs[i]? = some p → us[i]? = some v → rep w ν q v → repL w ν (cs.set i q) us
  | [], _, _, _, _, _, _, h, _, _ => by simp at h
  | c :: cs, us, 0, p, q, v, h, _, hv, hq => by
    simp only [repL] at h
    obtain ⟨u, us', rfl, h1, h2⟩ := h
    simp only [List.getElem?_cons_zero, Option.some.injEq] at hv
    subst hv
    simp only [List.set_cons_zero, repL]
    exact ⟨_, _, rfl, ⟨hq, h1.2⟩, h2⟩
  | c :: cs, us, i + 1, p, q, v, h, hp, hv, hq => by
    simp only [repL] at h
    obtain ⟨u, us', rfl, h1, h2⟩ := h
    simp only [List.set_cons_succ, repL]
    exact ⟨_, _, rfl, h1, repL_set h2 (by simpa using hp) (by simpa using hv) hq⟩
theorem pubBox_sound {C : Ctx} {st st' : St} {a : Act} {w : World} {ν : Env} (h : Rel C st a w ν) {s : Nat} (he : pubBox st s = some st') : ∃ ν', Rel C st' a w ν' := by
  unfold pubBox at he
  split at he
  · rename_i k off hk
    split at he
    · rename_i cs hcs
      split at he
      · rename_i p hp
        split at he
        · rename_i p' e hpp
          split at he
          · rename_i hpl
            cases he
            obtain ⟨bl, us, el, g1, g2, g3, g4, g5⟩ := h.good.box k cs hcs
            rw [plain_repB hpl] at g5
            have hlt : off < us.toList.length := by rw [repL_length g5]; exact (List.getElem?_eq_some_iff.1 hp).1
            obtain ⟨v, hv⟩ : ∃ v, us.toList[off]? = some v := ⟨_, List.getElem?_eq_getElem hlt⟩
            have hrp : rep w ν p v := by
              have := repL_drop off g5
              rw [List.drop_eq_getElem_cons (List.getElem?_eq_some_iff.1 hp).1, List.drop_eq_getElem_cons hlt] at this
              simp only [repL] at this
              obtain ⟨u, us', e1, e2, _⟩ := this
              rw [(List.getElem?_eq_some_iff.1 hp).2] at e2
              rw [(List.getElem?_eq_some_iff.1 hv).2] at e1
              cases e1
              exact e2.1
            obtain ⟨ν', h1, h2, h3⟩ := pubRow_sound h hrp hpp
            have hset : repL w ν' (cs.set off p') us.toList := repL_set (repL_over h3 g5) hp hv h2
            have hpl' := repL_plain hset
            refine ⟨ν', ⟨h1.good.alt, fun j ds hj => ?_, fun j j' b hj hj' => h1.good.inj j j' b ?_ ?_, h1.good.own, h1.good.oinj, fun g j n v b hg hj => h1.good.obx g j n v b hg ?_, h1.good.one⟩, h1.fr, h1.defers, h1.size, h1.slot, h1.new⟩
            · simp only at hj
              rw [look_upd] at hj
              split at hj
              · rename_i e; subst e
                cases hj
                obtain ⟨bl', us', el', f1, f2, f3, f4, f5⟩ := h1.good.box k cs hcs
                have : bl' = bl := by have := h3.bx k bl trivial g1; rw [this] at f1; cases f1; rfl
                subst this
                rw [plain_obj hpl] at g4 f4
                rw [g4] at f4
                injection f4 with f4; injection f4 with f4 f6 f7
                refine ⟨bl', us, el, f1, f2, f3, by rw [plain_obj hpl']; exact g4, by rw [plain_repB hpl']; exact hset⟩
              · exact h1.good.box j ds hj
            · simp only at hj; rw [look_upd] at hj; split at hj
              · rename_i e; subst e; simp [hcs]
              · exact hj
            · simp only at hj'; rw [look_upd] at hj'; split at hj'
              · rename_i e; subst e; simp [hcs]
              · exact hj'
            · simp only at hj; rw [look_upd] at hj; split at hj
              · rename_i e; subst e; simp [hcs]
              · exact hj
          · cases he
        · cases he
      · cases he
    · cases he
  · cases he

def refineO (st : St) (x : Opd) (b : Bool) : St := match x with
  | .t i => { st with t := put i (.bool b) st.t }
  | .c _ => st

def evC (P : Program) (ob : List Key) : C → (Exit → St → Prop) → St → Prop
  | .skip, Q, st => Q .normal st
  | .region gs, Q, st => evG P gs st (Q .normal)
  | .drawn q N gs, Q, st => evD P q [] st.n gs st (DEnd (st.n + N) st.o (Q .normal))
  | .drawnW nw N gs, Q, st => (∀ j ∈ nw, .obj j ∉ st.o) ∧ evD P false nw st.n gs st (DEnd (st.n + N) (nw.map Key.obj ++ st.o) (Q .normal))
  | .seq a b, Q, st => evC P ob a (fun e st' => match e with | .normal => evC P ob b Q st' | e => Q e st') st
  | .cond x t e, Q, st => match evalO st.t x with
    | .bool b => (b = true → evC P ob t Q (refineO st x true)) ∧ (b = false → evC P ob e Q (refineO st x false))
    | _ => False
  | .block id c, Q, st => evC P ob c (fun e st' => match e with | .exit j => if j = id then Q .normal st' else Q (.exit j) st' | e => Q e st') st
  | .loop c, Q, st => ∃ (I : Nat → St → Prop) (m : Nat) (st0 : St), Weaker ob st st0 ∧ I m st0 ∧
      ∀ k s, I k s → (∀ i, bndV (get i s.t)) → (∀ j cs, look j s.b = some cs → plainB cs = true → bndL cs) → evC P ob c (fun e s' => match e with | .normal => ∃ k' s'', k' < k ∧ Weaker ob s' s'' ∧ I k' s'' | e => Q e s') s
  | .exit id, Q, st => Q (.exit id) st
  | .ret, Q, st => Q .ret st
  | .pub s c, Q, st => match pubS st s with
    | some st' => evC P ob c Q st'
    | none => False
  | .pubB s c, Q, st => match pubBox st s with
    | some st' => evC P ob c Q st'
    | none => False
  | .fg inn s c, Q, st => evC P ob c Q { st with t := put s (fgV inn (get s st.t)) st.t }
  | .no, _, _ => False

def cOkC (N : Nat) (tys : List (Nat × TF)) : C → Code → Bool
  | .skip, .skip => true
  | .region gs, .region _ ops false => gsOk N tys ops.toList gs ops.toList
  | .drawn _ N' gs, .region _ ops true => N' == N && gsOk N tys ops.toList gs ops.toList && anyOk gs ops.toList && dstsOk N gs
  | .drawnW _ N' gs, .region _ ops true => N' == N && gsOk N tys ops.toList gs ops.toList && anyOk gs ops.toList && dstsOk N gs
  | .seq a b, .seq x y => cOkC N tys a x && cOkC N tys b y
  | .cond x t e, .cond o t' e' => opOk x o && cOkC N tys t t' && cOkC N tys e e'
  | .block id c, .block id' c' => id == id' && cOkC N tys c c'
  | .loop c, .loop c' => cOkC N tys c c'
  | .exit id, .exit id' => id == id'
  | .ret, .ret => true
  | .pub _ c, c' => cOkC N tys c c'
  | .pubB _ c, c' => cOkC N tys c c'
  | .fg _ _ c, c' => cOkC N tys c c'
  | .no, _ => true
  | _, _ => false

theorem gsOk_length {N : Nat} {tys : List (Nat × TF)} {ops : List Oper} : ∀ {gs : List GI} {os : List Oper}, gsOk N tys ops gs os = true → gs.length = os.length
  | [], [], _ => rfl
  | [], _ :: _, h => by simp [gsOk] at h
  | _ :: _, [], h => by simp [gsOk] at h
  | g :: gs, o :: os, h => by
    simp only [gsOk, Bool.and_eq_true] at h
    simp [gsOk_length h.2]

/-- The state's description of code. -/
def EW (P : Program) (C : Ctx) (c : Code) (Q : Exit → St → Prop) (st : St) : Prop := ∀ a w ν, Rel C st a w ν → c.wp P (fun e a' w' => ∃ st' ν', Q e st' ∧ Rel C st' a' w' ν') a w

theorem evC_sound {P : Program} (hm : P.follows .mixedOrders = true) {tys : List (Nat × TF)} (ht : tysOk P tys = true) {X : Ctx} : ∀ (c : C) (code : Code) (Q : Exit → St → Prop) (st : St), cOkC X.N tys c code = true → evC P X.ob c Q st → EW P X code Q st
  | .skip, code, Q, st, ho, he => by
    cases code <;> simp only [cOkC] at ho <;> try cases ho
    intro a w ν hr
    exact wp_skip ⟨st, ν, he, hr⟩
  | .region gs, code, Q, st, ho, he => by
    cases code <;> try (simp [cOkC] at ho; done)
    rename_i id ops draw
    cases draw <;> simp only [cOkC] at ho
    · intro a w ν hr
      refine wp_region ?_
      have hl : gs.length = ops.size := by simpa using gsOk_length ho
      rw [List.range_eq_range', ← hl]
      exact evG_sound ht (K := Q .normal) (fun st' a' w' ν' h1 h2 => ⟨st', ν', h1, h2⟩) gs ops.toList 0 (by simp) ho st a w ν he hr
    · cases ho
  | .drawn q N gs, code, Q, st, ho, he => by
    cases code <;> try (simp [cOkC] at ho; done)
    rename_i id ops draw
    cases draw <;> simp only [cOkC] at ho
    · cases ho
    · simp only [Bool.and_eq_true, beq_iff_eq] at ho
      obtain ⟨⟨⟨rfl, h1⟩, h2⟩, h3⟩ := ho
      intro a w ν hr
      exact evD_sound hm ht h1 h2 h3 (nw := []) (K := Q .normal) (fun st' a' w' ν' h1 h2 => ⟨st', ν', h1, h2⟩) (by simp) he hr
  | .drawnW nw N gs, code, Q, st, ho, he => by
    cases code <;> try (simp [cOkC] at ho; done)
    rename_i id ops draw
    cases draw <;> simp only [cOkC] at ho
    · cases ho
    · simp only [Bool.and_eq_true, beq_iff_eq] at ho
      obtain ⟨⟨⟨rfl, h1⟩, h2⟩, h3⟩ := ho
      intro a w ν hr
      exact evD_sound hm ht h1 h2 h3 (nw := nw) (K := Q .normal) (fun st' a' w' ν' h1 h2 => ⟨st', ν', h1, h2⟩) he.1 he.2 hr
  | .seq x y, code, Q, st, ho, he => by
    cases code <;> try (simp [cOkC] at ho; done)
    rename_i cx cy
    simp only [cOkC, Bool.and_eq_true] at ho
    intro a w ν hr
    refine wp_seq ?_
    have h1 := evC_sound hm ht x cx _ st ho.1 he a w ν hr
    refine wp_mono h1 fun e a' w' hh => ?_
    obtain ⟨st', ν', hq, hr'⟩ := hh
    cases e with
    | normal => exact evC_sound hm ht y cy Q st' ho.2 hq a' w' ν' hr'
    | _ => exact ⟨st', ν', hq, hr'⟩
  | .cond x t e, code, Q, st, ho, he => by
    cases code <;> try (simp [cOkC] at ho; done)
    rename_i o ct ce
    simp only [cOkC, Bool.and_eq_true] at ho
    intro a w ν hr
    simp only [evC] at he
    have hx := opOk_rep hr ho.1.1
    split at he
    · rename_i b hb
      rw [hb] at hx
      simp only [rep] at hx
      have hrr : Rel X (refineO st x b) a w ν := by
        unfold refineO
        split
        · exact refineSlot hr (by simpa [evalO] using hb)
        · exact hr
      refine wp_cond hx ?_
      cases b
      · exact evC_sound hm ht e ce Q _ ho.2 (he.2 rfl) a w ν hrr
      · exact evC_sound hm ht t ct Q _ ho.1.2 (he.1 rfl) a w ν hrr
    · exact he.elim
  | .block id c, code, Q, st, ho, he => by
    cases code <;> try (simp [cOkC] at ho; done)
    rename_i id' c'
    simp only [cOkC, Bool.and_eq_true, beq_iff_eq] at ho
    obtain ⟨rfl, ho⟩ := ho
    intro a w ν hr
    refine wp_block ?_
    refine wp_mono (evC_sound hm ht c c' _ st ho he a w ν hr) fun e a' w' hh => ?_
    obtain ⟨st', ν', hq, hr'⟩ := hh
    cases e with
    | exit j =>
      simp only [Exit.inBlock] at hq ⊢
      by_cases hj : j = id
      · rw [if_pos hj] at hq ⊢; exact ⟨st', ν', hq, hr'⟩
      · rw [if_neg hj] at hq ⊢; exact ⟨st', ν', hq, hr'⟩
    | _ => exact ⟨st', ν', hq, hr'⟩
  | .loop c, code, Q, st, ho, he => by
    cases code <;> try (simp [cOkC] at ho; done)
    rename_i c'
    simp only [cOkC] at ho
    intro a w ν hr
    simp only [evC] at he
    obtain ⟨I, m, st0, hw, hi, hstep⟩ := he
    refine wp_loop_ghost (fun k a w => ∃ s ν, I k s ∧ Rel X s a w ν) m ⟨st0, _, hi, hr.weaker hw⟩ ?_
    intro k a w hI
    obtain ⟨s, ν, hs, hrs⟩ := hI
    have h1 := hstep k s hs (fun i => rep_bnd (hrs.slot i)) (fun j cs hj => by obtain ⟨bl, us, el, _, _, _, _, g5⟩ := hrs.good.box j cs hj; exact repB_bnd g5)
    refine wp_mono (evC_sound hm ht c c' _ s ho h1 a w ν hrs) fun e a' w' hh => ?_
    obtain ⟨st', ν', hq, hr'⟩ := hh
    cases e with
    | normal =>
      obtain ⟨k', s'', e1, e2, e3⟩ := hq
      exact ⟨k', e1, s'', _, e3, hr'.weaker e2⟩
    | _ => exact ⟨st', ν', hq, hr'⟩
  | .exit id, code, Q, st, ho, he => by
    cases code <;> try (simp [cOkC] at ho; done)
    rename_i id'
    simp only [cOkC, beq_iff_eq] at ho
    subst ho
    intro a w ν hr
    exact wp_exit ⟨st, ν, he, hr⟩
  | .ret, code, Q, st, ho, he => by
    cases code <;> try (simp [cOkC] at ho; done)
    intro a w ν hr
    exact wp_ret ⟨st, ν, he, hr⟩
  | .pub s c, code, Q, st, ho, he => by
    simp only [cOkC] at ho
    simp only [evC] at he
    split at he
    · rename_i st' hs
      intro a w ν hr
      obtain ⟨ν', h1⟩ := pubS_sound hr hs
      exact evC_sound hm ht c code Q st' ho he a w ν' h1
    · exact he.elim
  | .pubB s c, code, Q, st, ho, he => by
    simp only [cOkC] at ho
    simp only [evC] at he
    split at he
    · rename_i st' hs
      intro a w ν hr
      obtain ⟨ν', h1⟩ := pubBox_sound hr hs
      exact evC_sound hm ht c code Q st' ho he a w ν' h1
    · exact he.elim
  | .fg inn s c, code, Q, st, ho, he => by
    simp only [cOkC] at ho
    simp only [evC] at he
    intro a w ν hr
    exact evC_sound hm ht c code Q _ ho he a w ν (relRefine hr (fgV_rep (hr.slot s)))
  | .no, code, Q, st, ho, he => by
    simp only [evC] at he

/-- Where a result lies: in a slot, or in a variable behind a slot. -/
inductive RV where
  | tmp (i : Nat)
  | cell (i : Nat) (agg : Bool) (sz : Nat)
def resV (st : St) : RV → Option (Prop × PV)
  | .tmp i => some (True, get i st.t)
  | .cell i agg sz => loadV st.b st.e agg sz (get i st.t)
def resL (st : St) : List RV → Option (Prop × List PV)
  | [] => some (True, [])
  | r :: rs => match resV st r, resL st rs with
    | some (c, p), some (c', ps) => some (c ∧ c', p :: ps)
    | _, _ => none
def resOk (tys : List (Nat × TF)) : List RV → List ResultVar → Bool
  | [], [] => true
  | .tmp i :: rs, .tmp j :: os => i == j && resOk tys rs os
  | .cell i agg sz :: rs, .cell j t :: os => i == j && (match tf tys t with | some f => f.size == sz && f.kind.isAgg == agg | none => false) && resOk tys rs os
  | _, _ => false
def tup : List PV → PV
  | [p] => p
  | ps => .tuple ps

def rvRun (tmps : Array Value) : ResultVar → Sem Value
  | .tmp t => pure (tmps.getD t undef)
  | .cell x t => do loadVar t (← asAddr (tmps.getD x undef))
theorem results_eq (fn : Func) (tmps : Array Value) : results fn tmps = (do let vs ← fn.results.mapM (rvRun tmps); pure (if h : vs.size = 1 then vs[0] else .tuple vs)) := by
  unfold results
  congr 2
theorem resL_sound {P : Program} {tys : List (Nat × TF)} (ht : tysOk P tys = true) {X : Ctx} {st : St} {a : Act} {w : World} {ν : Env} (hr : Rel X st a w ν) :
    ∀ (rs : List RV) (os : List ResultVar) (c : Prop) (ps : List PV), resOk tys rs os = true → resL st rs = some (c, ps) → c →
    ∃ vs, (os.mapM (rvRun a.tmps)).run P w = .ok vs w ∧ repT w ν ps vs
  | [], [], c, ps, _, he, _ => by
    simp only [resL] at he; cases he
    exact ⟨[], by simp, by simp [repT]⟩
  | [], _ :: _, _, _, ho, _, _ => by simp [resOk] at ho
  | .tmp _ :: _, [], _, _, ho, _, _ => by simp [resOk] at ho
  | .cell _ _ _ :: _, [], _, _, ho, _, _ => by simp [resOk] at ho
  | r :: rs, o :: os, c, ps, ho, he, hc => by
    simp only [resL] at he
    split at he
    · rename_i c1 p c2 ps' h1 h2
      cases he
      cases r with
      | tmp i =>
        cases o with
        | cell _ _ => simp [resOk] at ho
        | tmp j =>
          simp only [resOk, Bool.and_eq_true, beq_iff_eq] at ho
          obtain ⟨rfl, ho⟩ := ho
          simp only [resV] at h1; cases h1
          obtain ⟨vs, g1, g2⟩ := resL_sound ht hr rs os c2 ps' ho h2 hc.2
          refine ⟨a.tmps.getD i undef :: vs, ?_, by simp only [repT]; exact ⟨_, _, rfl, hr.slot i, g2⟩⟩
          simp only [List.mapM_cons, Sem.run_bind, rvRun, Sem.run_pure, Result.andThen_ok, g1]
      | cell i agg sz =>
        cases o with
        | tmp _ => simp [resOk] at ho
        | cell j t =>
          simp only [resOk, Bool.and_eq_true, beq_iff_eq] at ho
          obtain ⟨⟨rfl, h3⟩, ho⟩ := ho
          split at h3
          · rename_i f hf
            simp only [Bool.and_eq_true, beq_iff_eq] at h3
            obtain ⟨rfl, rfl⟩ := h3
            simp only [resV] at h1
            obtain ⟨vs, g1, g2⟩ := resL_sound ht hr rs os c2 ps' ho h2 hc.2
            obtain ⟨v, f1, f2⟩ := loadV_sound ht hr.good hf (hr.slot i) h1 hc.1
            have hptr : ∃ ad, a.tmps.getD i undef = .pointer (some ad) := by
              have hs := hr.slot i
              unfold loadV at h1
              split at h1
              · rename_i sz' k n i' f' hk; rw [hk] at hs; simp only [rep] at hs; obtain ⟨⟨b, o, e⟩, _⟩ := hs; exact ⟨_, e⟩
              · rename_i k off hk; rw [hk] at hs; simp only [rep] at hs; obtain ⟨b, _, e⟩ := hs; exact ⟨_, e⟩
              · rename_i q hk; rw [hk] at hs; simp only [rep] at hs; obtain ⟨b, off, u, e, _⟩ := hs; exact ⟨_, e⟩
              · cases h1
            obtain ⟨ad, had⟩ := hptr
            rw [had] at f1
            simp only [Instr.loadAt, Instr.sureAddr, Sem.run_bind, Sem.run_pure, Result.andThen_ok] at f1
            refine ⟨v :: vs, ?_, by simp only [repT]; exact ⟨_, _, rfl, f2, g2⟩⟩
            have hasA : (asAddr (.pointer (some ad)) : Sem Addr).run P w = .ok ad w := rfl
            simp only [List.mapM_cons, Sem.run_bind, rvRun, Sem.run_pure, Result.andThen_ok, g1, had, hasA, f1]
          · cases h3
    · cases he

theorem repT_length {w : World} {ν : Env} : ∀ {ps : List PV} {vs : List Value}, repT w ν ps vs → vs.length = ps.length
  | [], vs, h => by simp only [repT] at h; subst h; rfl
  | p :: ps, vs, h => by
    simp only [repT] at h
    obtain ⟨u, us', rfl, _, h2⟩ := h
    simp [repT_length h2]

/-- The frame at the beginning of a call. -/
def slots : Nat → List PV → List (Nat × PV)
  | _, [] => []
  | i, p :: ps => (i, p) :: slots (i + 1) ps
theorem get_slots : ∀ (ps : List PV) (i j : Nat), get j (slots i ps) = if i ≤ j ∧ j < i + ps.length then ps.getD (j - i) .junk else .junk
  | [], i, j => by simp [slots, get]
  | p :: ps, i, j => by
    simp only [slots, get]
    by_cases h : i = j
    · subst h; simp
    · rw [if_neg h, get_slots ps (i + 1) j]
      by_cases h2 : i ≤ j ∧ j < i + (p :: ps).length
      · rw [if_pos h2, if_pos (by simp at h2 ⊢; omega)]
        have : j - i = (j - (i + 1)) + 1 := by omega
        rw [this]; simp
      · rw [if_neg h2, if_neg (by simp at h2 ⊢; omega)]

def keeps {α : Type} (s' : Obs) : List (Key × α) → Prop
  | [] => True
  | (k, _) :: r => inObs s' k ∧ keeps s' r
theorem keeps_of {α : Type} {s' : Obs} : ∀ {l : List (Key × α)}, keeps s' l → ∀ k, (look k l).isSome → inObs s' k
  | [], _, k, h => by simp [look] at h
  | (i, x) :: r, hk, k, h => by
    simp only [keeps] at hk
    simp only [look] at h
    split at h
    · rename_i e; subst e; exact hk.1
    · exact keeps_of hk.2 k h
/-- What the end of a function owes: the results, the objects that are handed back. -/
def RetQ (rs : List RV) (s : Obs) (Q : PV → Obs → Prop) (e : Exit) (st : St) : Prop :=
  (e = .ret ∨ e = .normal) ∧ match resL st rs with
    | some (c, ps) => c ∧ ∃ s', keeps s' s.b ∧ keeps s' s.e ∧ subB (inObs s') s'.b st.b ∧ subE (inObs s') s'.e st.e ∧ objOnly s' ∧ kin (inObs s') (strip (tup ps)) ∧ Q (strip (tup ps)) s'
    | none => False

set_option maxHeartbeats 1000000 in
/-- A function's contract out of the evaluation of its code. -/
theorem FnG.of {P : Program} (hm : P.follows .mixedOrders = true) {tys : List (Nat × TF)} (ht : tysOk P tys = true) {f : FuncId} {fn : Func} (hf : P.funcs[f]? = some fn) {code : Code} (hb : fn.body = some code) (hnm : (fn.name == "runtime.NumGoroutine") = false) {c : C} (hc : cOkC fn.ntmps tys c code = true) {rs : List RV} (hrs : resOk tys rs fn.results.toList = true)
    {args : List PV} (hl : args.length ≤ fn.ntmps) {s : Obs} (hso : objOnly s) {Q : PV → Obs → Prop} (he : bndA args → (∀ j cs, look j s.b = some cs → plainB cs = true → bndL cs) → evC P (obsIds s) c (RetQ rs s Q) ⟨slots 0 args, s.b, s.e, 0, obsIds s⟩) : FnG P f args s Q := by
  intro w ν vs hg hx hr
  refine .inl ⟨⟨fn, hf, by simp [hb], hnm⟩, ?_⟩
  have hvl := repT_length hr
  have hvs : vs.size = args.length := by simpa using hvl
  let X : Ctx := ⟨w, ν, blocksOf ν s, fn.ntmps, obsIds s⟩
  have hnone : ∀ k, fresh 0 (obsIds s) k → ν.bx k = none ∧ ν.ow k = none := by
    intro k hk
    cases k with
    | loc m => exact ⟨(hx _).1 (hso.1 m), (hx _).2 (hso.2 m)⟩
    | obj m =>
      simp only [fresh, true_and] at hk
      constructor
      · refine (hx _).1 ?_
        cases h : look (.obj m) s.b with
        | none => rfl
        | some x => exact absurd (obsIds_of (.inl (by simp [h]))) hk
      · refine (hx _).2 ?_
        cases h : look (.obj m) s.e with
        | none => rfl
        | some x => exact absurd (obsIds_of (.inr (by simp [h]))) hk
  have hin : ∀ m, (ν.bx (.obj m) ≠ none ∨ ν.ow (.obj m) ≠ none) → .obj m ∈ obsIds s := by
    intro m hm
    refine Classical.byContradiction fun hc => ?_
    obtain ⟨h1, h2⟩ := hnone (.obj m) ⟨trivial, hc⟩
    rcases hm with hm | hm
    · exact hm h1
    · exact hm h2
  have hrel : Rel X ⟨slots 0 args, s.b, s.e, 0, obsIds s⟩ { tmps := vs ++ Array.replicate (fn.ntmps - vs.size) undef, defers := [] } w ν := by
    refine ⟨⟨hg.alt, fun k cs hk => ?_, hg.inj, fun g o hgo => ?_, hg.oinj, hg.obx, hg.one⟩, ⟨rfl, rfl, rfl, Nat.le_refl _, fun _ _ _ => rfl, fun b o h => ⟨h, rfl⟩, fun b o h => .inl h, fun n b h => h, fun n b h => hin n (.inl (by rw [h]; simp)), fun m n u h => ⟨n, u, h, .inl ⟨rfl, rfl⟩⟩, fun m n u h => hin m (.inr (by rw [h]; simp))⟩, rfl, ?_, fun i => ?_, hnone⟩
    · obtain ⟨bl, us, el, g1, g2, g3⟩ := hg.box k cs hk
      exact ⟨bl, us, el, g1, .inl g2, g3⟩
    · obtain ⟨v, us, g1, g2, g3, g4⟩ := hg.own g o hgo
      exact ⟨v, us, g1, g2, fun bl hbl => ⟨.inl (g3 bl hbl).1, (g3 bl hbl).2⟩, g4⟩
    · show (vs ++ Array.replicate (fn.ntmps - vs.size) undef).size = fn.ntmps
      simp; omega
    · rw [get_slots]
      by_cases hi : i < args.length
      · rw [if_pos (by omega)]
        have hgi : args[i]? = some args[i] := List.getElem?_eq_getElem hi
        obtain ⟨v, e1, e2⟩ := repT_get i hr hgi
        have hv : (vs ++ Array.replicate (fn.ntmps - vs.size) undef).getD i undef = v := by
          have e1' : vs[i]? = some v := by simpa using e1
          rw [Array.getD_eq_getD_getElem?, Array.getElem?_append_left (by omega), e1']; rfl
        show rep w ν _ ((vs ++ Array.replicate (fn.ntmps - vs.size) undef).getD i undef)
        rw [hv]
        simpa [List.getD, hgi] using e2
      · rw [if_neg (by omega)]; simp [rep]
  have hev := he (repT_bnd hr) (fun j cs hj => by obtain ⟨bl, us, el, _, _, _, _, g5⟩ := hg.box j cs hj; exact repB_bnd g5)
  have hwp := evC_sound hm ht (X := X) c code (RetQ rs s Q) _ hc hev _ w ν hrel
  refine calls_of_wp hf hb (wp_mono hwp fun e a' w' hh => ?_)
  obtain ⟨st', ν', ⟨hee, hq⟩, hr'⟩ := hh
  cases hres : resL st' rs with
  | none => simp [hres] at hq
  | some x =>
    obtain ⟨c', ps⟩ := x
    simp only [hres] at hq
    obtain ⟨hc', s', kb, ke, q1, q2, q3, q4, q5⟩ := hq
    obtain ⟨rvs, g1, g2⟩ := resL_sound ht hr' rs fn.results.toList c' ps hrs hres hc'
    have hrl := repT_length g2
    have hfin : a'.defers = [] ∧ ∃ v, (results fn a'.tmps).run P w' = .ok v w' ∧ (fun (e : Ending) w' => ∃ v r s' ν', e = .returned v ∧ Q r s' ∧ rep w' ν' r v ∧ Good (fun bl => blocksOf ν s bl ∨ w.heap.size ≤ bl) w' ν' s'.b s'.e ∧ exactE ν' s' ∧ objOnly s' ∧ Fr ⟨w, ν, blocksOf ν s, 0, obsIds s⟩ w' ν') (.returned v) w' := by
      refine ⟨hr'.defers, ?_⟩
      have hrun : (results fn a'.tmps).run P w' = .ok (if h : rvs.toArray.size = 1 then rvs.toArray[0] else .tuple rvs.toArray) w' := by
        rw [results_eq]
        simp only [Sem.run_bind, Array.mapM_eq_mapM_toList, Sem.run_map, g1, Result.andThen_ok, Sem.run_pure]
      refine ⟨_, hrun, _, strip (tup ps), s', ν'.cut (inObs s'), rfl, q5, ?_, hr'.good.cut q1 q2 (fun bl h _ => h), ?_, q3, ?_⟩
      · have hrep : rep w' ν' (tup ps) (if h : rvs.toArray.size = 1 then rvs.toArray[0] else .tuple rvs.toArray) := by
          match ps, rvs, g2, hrl with
          | [p], [v], g2, _ =>
            simp only [repT] at g2
            obtain ⟨u, us', e1, e2, _⟩ := g2
            cases e1
            simpa [tup] using e2
          | [], [], g2, _ => simp [tup, rep, repT]
          | p :: p2 :: ps, v :: v2 :: rvs, g2, _ =>
            rw [dif_neg (by simp)]
            simp only [tup, rep]
            exact ⟨_, rfl, by simpa using g2⟩
          | [_], [], _, h => simp at h
          | [], _ :: _, _, h => simp at h
          | [_], _ :: _ :: _, _, h => simp at h
          | _ :: _ :: _, [], _, h => simp at h
          | _ :: _ :: _, [_], _, h => simp at h
        exact rep_overS (OverS.cut _ w' ν') _ _ q4 (rep_strip _ _ hrep)
      · intro k
        constructor
        · intro hk
          by_cases hs : inObs s' k
          · rw [Env.cut_bx hs]
            rcases hs with hs | hs
            · rw [hk] at hs; cases hs
            · obtain ⟨x, hx'⟩ := Option.isSome_iff_exists.1 hs
              obtain ⟨v', us', e1, _⟩ := hr'.good.own k x (q2 k x hx').1
              rcases hr'.good.one k with h1 | h1
              · exact h1
              · rw [h1] at e1; cases e1
          · exact (Env.cut_no hs).1
        · intro hk
          by_cases hs : inObs s' k
          · rw [Env.cut_ow hs]
            rcases hs with hs | hs
            · obtain ⟨x, hx'⟩ := Option.isSome_iff_exists.1 hs
              obtain ⟨bl, us', el, e1, _⟩ := hr'.good.box k x (q1 k x hx').1
              rcases hr'.good.one k with h1 | h1
              · rw [h1] at e1; cases e1
              · exact h1
            · rw [hk] at hs; cases hs
          · exact (Env.cut_no hs).2
      · refine ⟨hr'.fr.os, hr'.fr.tape, hr'.fr.output, hr'.fr.size, hr'.fr.block, hr'.fr.keep, hr'.fr.fresh, fun n b h => ?_, fun n b h => hin n (.inl (by rw [h]; simp)), fun m n u h => ?_, fun m n u h => hin m (.inr (by rw [h]; simp))⟩
        · have hs : inObs s' (.obj n) := by
            cases hl : look (.obj n) s.b with
            | none => rw [(hx _).1 hl] at h; cases h
            | some x => exact keeps_of kb _ (by simp [hl])
          rw [Env.cut_bx hs]; exact hr'.fr.obj n b h
        · have hs : inObs s' (.obj m) := by
            cases hl : look (.obj m) s.e with
            | none => rw [(hx _).2 hl] at h; cases h
            | some x => exact keeps_of ke _ (by simp [hl])
          rw [Env.cut_ow hs]; exact hr'.fr.row m n u h
    rcases hee with rfl | rfl <;> exact hfin

end Go.Pv
/- A function's contract, as it is used; calls of functions of values. -/
set_option linter.all false
namespace Go.Pv
open Go Go.RowKit

def fnOk (tys : List (Nat × TF)) (c : C) (rs : List RV) (nargs : Nat) (fn : Func) : Bool :=
  match fn.body with
  | some code => cOkC fn.ntmps tys c code && resOk tys rs fn.results.toList && !(fn.name == "runtime.NumGoroutine") && decide (nargs ≤ fn.ntmps)
  | none => false

theorem FnG.mk {P : Program} (hm : P.follows .mixedOrders = true) {tys : List (Nat × TF)} (ht : tysOk P tys = true) {f : FuncId} {fn : Func} (hf : P.funcs[f]? = some fn) {c : C} {rs : List RV} {n : Nat} (hok : fnOk tys c rs n fn = true)
    {args : List PV} (hl : args.length ≤ n) {s : Obs} (hso : objOnly s) {Q : PV → Obs → Prop} (he : bndA args → (∀ j cs, look j s.b = some cs → plainB cs = true → bndL cs) → evC P (obsIds s) c (RetQ rs s Q) ⟨slots 0 args, s.b, s.e, 0, obsIds s⟩) : FnG P f args s Q := by
  unfold fnOk at hok
  split at hok
  · rename_i code hb
    simp only [Bool.and_eq_true, Bool.not_eq_true', decide_eq_true_eq] at hok
    obtain ⟨⟨⟨h1, h2⟩, h3⟩, h4⟩ := hok
    exact FnG.of hm ht hf hb h3 h1 h2 (Nat.le_trans hl h4) hso he
  · cases hok

theorem objOnly_nil : objOnly ⟨[], []⟩ := ⟨fun _ => rfl, fun _ => rfl⟩

/-- What the end of a function of values owes. -/
def RetV (rs : List RV) (r : PV) (e : Exit) (st : St) : Prop :=
  (e = .ret ∨ e = .normal) ∧ match resL st rs with
    | some (c, ps) => c ∧ strip (tup ps) = r
    | none => False

theorem FnV.mk {P : Program} (hm : P.follows .mixedOrders = true) {tys : List (Nat × TF)} (ht : tysOk P tys = true) {f : FuncId} {fn : Func} (hf : P.funcs[f]? = some fn) {c : C} {rs : List RV} {n : Nat} (hok : fnOk tys c rs n fn = true)
    {args : List PV} (hl : args.length ≤ n) {r : PV} (hr : kin (fun _ => False) r) (he : bndA args → evC P [] c (RetV rs r) ⟨slots 0 args, [], [], 0, []⟩) : FnV P f args r := by
  refine FnG.mk hm ht hf hok hl objOnly_nil fun h1 _ => ?_
  have := he h1
  have hQ : RetV rs r = RetQ rs ⟨[], []⟩ (fun r' s' => r' = r ∧ s' = ⟨[], []⟩) := by
    funext e st
    unfold RetV RetQ
    apply propext
    refine and_congr_right fun _ => ?_
    cases resL st rs with
    | none => exact Iff.rfl
    | some x =>
      obtain ⟨c, ps⟩ := x
      refine and_congr_right fun _ => ?_
      constructor
      · intro h
        refine ⟨⟨[], []⟩, trivial, trivial, fun k cs hk => by simp [look] at hk, fun k cs hk => by simp [look] at hk, objOnly_nil, ?_, h, rfl⟩
        rw [h]; exact kin_mono (fun k hk => hk.elim) r hr
      · rintro ⟨s', _, _, _, _, _, _, h, _⟩
        exact h
  rw [hQ] at this
  exact this

theorem without_nil {α : Type} {β : Type} : ∀ l : List (Key × α), without ([] : List (Key × β)) l = l
  | [] => rfl
  | (k, x) :: r => by simp [without, look, without_nil r]

/-- A call of a function of values. -/
theorem CallDo.val {P : Program} {n : Nat} {args : List PV} {st : St} {d : Option Nat} {K : St → Prop} {r : PV} (hk : kinL (fun _ => False) args) (hf : FnV P n args r) (h : K { st with t := putO d r st.t }) : CallDo P n args st d K := by
  refine ⟨⟨[], []⟩, _, fun k cs hk => by simp [look] at hk, fun k cs hk => by simp [look] at hk, objOnly_nil, kinL_mono (fun _ h => h.elim) _ hk, hf, ?_⟩
  rintro r' s' ⟨rfl, rfl⟩
  refine ⟨⟨fun m h => by simp [look] at h, fun m h => by simp [look] at h⟩, ?_⟩
  have : after st ⟨[], []⟩ ⟨[], []⟩ d r' = { st with t := putO d r' st.t } := by
    simp [after, without_nil, obsIds]
  rw [this]; exact h

end Go.Pv
