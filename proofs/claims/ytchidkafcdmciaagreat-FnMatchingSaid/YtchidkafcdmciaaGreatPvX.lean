/- Regions that draw their order, V: the static check, every order. -/
import Derived.Test.YtchidkafcdmciaaGreatPvW
set_option linter.all false
namespace Go.Pv
open Go Go.RowKit

/-- Which operations come before one in every order: a mask. -/
def mask1 (acc : List Nat) : List Edge → Nat
  | [] => 0
  | e :: r => if Region.binds .any e then (2 ^ e.on) ||| (acc.getD e.on 0) ||| mask1 acc r else mask1 acc r
def masks (acc : List Nat) : List Oper → List Nat
  | [] => acc
  | o :: os => masks (acc ++ [mask1 acc o.after.toList]) os
def rowOk (m : Nat) (h : GI) : Nat → List GI → Bool
  | _, [] => true
  | i, g :: r => (m.testBit i || gComm g h) && rowOk m h (i + 1) r
def pairsOk : List GI → List GI → List Nat → Bool
  | _, [], _ => true
  | pre, h :: r, m :: ms => rowOk m h 0 pre && pairsOk (pre ++ [h]) r ms
  | _, _, [] => false
def edgesBack : Nat → List Oper → Bool
  | _, [] => true
  | k, o :: os => o.after.toList.all (fun e => !Region.binds .any e || decide (e.on < k)) && edgesBack (k + 1) os
def anyOk (gs : List GI) (ops : List Oper) : Bool := edgesBack 0 ops && pairsOk [] gs (masks [] ops)

theorem mask1_spec {acc : List Nat} {j : Nat} : ∀ {es : List Edge}, (mask1 acc es).testBit j = true → ∃ e ∈ es, Region.binds .any e = true ∧ (j = e.on ∨ (acc.getD e.on 0).testBit j = true)
  | [], h => by simp [mask1] at h
  | e :: r, h => by
    simp only [mask1] at h
    split at h
    · rename_i hb
      simp only [Nat.testBit_or, Bool.or_eq_true] at h
      rcases h with (h | h) | h
      · refine ⟨e, by simp, hb, .inl ?_⟩
        rw [Nat.testBit_two_pow] at h
        have h' : e.on = j := by simpa using h
        exact h'.symm
      · exact ⟨e, by simp, hb, .inr h⟩
      · obtain ⟨e', h1, h2⟩ := mask1_spec h
        exact ⟨e', by simp [h1], h2⟩
    · obtain ⟨e', h1, h2⟩ := mask1_spec h
      exact ⟨e', by simp [h1], h2⟩

theorem masks_pre : ∀ (os : List Oper) (acc : List Nat) (k : Nat), k < acc.length → (masks acc os)[k]? = acc[k]?
  | [], acc, k, _ => rfl
  | o :: os, acc, k, h => by
    simp only [masks]
    rw [masks_pre os _ k (by simp; omega), List.getElem?_append_left h]
theorem masks_at : ∀ (os : List Oper) (acc : List Nat) (k : Nat) (o : Oper), os[k]? = some o → ∃ acc', (masks acc os)[acc.length + k]? = some (mask1 acc' o.after.toList) ∧ acc'.length = acc.length + k ∧ ∀ i, i < acc'.length → acc'[i]? = (masks acc os)[i]?
  | [], acc, k, o, h => by simp at h
  | o' :: os, acc, 0, o, h => by
    simp only [List.getElem?_cons_zero, Option.some.injEq] at h
    subst h
    refine ⟨acc, ?_, by simp, fun i hi => ?_⟩
    · simp only [masks, Nat.add_zero]
      rw [masks_pre os _ _ (by simp)]
      simp
    · simp only [masks]
      rw [masks_pre os _ i (by simp; omega), List.getElem?_append_left hi]
  | o' :: os, acc, k + 1, o, h => by
    simp only [List.getElem?_cons_succ] at h
    obtain ⟨acc', h1, h2, h3⟩ := masks_at os (acc ++ [mask1 acc o'.after.toList]) k o h
    refine ⟨acc', ?_, by rw [h2]; simp; omega, fun i hi => by rw [h3 i hi]; rfl⟩
    simp only [masks]
    rw [show acc.length + (k + 1) = (acc ++ [mask1 acc o'.after.toList]).length + k from by simp; omega]
    exact h1

/-- Whatever is listed has all that comes before it listed. -/
def Dn (ops : Array Oper) (listed : Array Bool) : Prop := ∀ k o, ops[k]? = some o → listed.getD k false = true → ∀ e ∈ o.after.toList, Region.binds .any e = true → listed.getD e.on false = true

theorem mask_listed {ops : Array Oper} {listed : Array Bool} (hd : Dn ops listed) : ∀ (k : Nat) (o : Oper), ops[k]? = some o → (∀ e ∈ o.after.toList, Region.binds .any e = true → listed.getD e.on false = true) → ∀ j, ((masks [] ops.toList).getD k 0).testBit j = true → listed.getD j false = true := by
  intro k
  induction k using Nat.strongRecOn with
  | _ k ih =>
    intro o ho hl j hj
    obtain ⟨acc', h1, h2, h3⟩ := masks_at ops.toList [] k o (by simpa using ho)
    simp only [List.length_nil, Nat.zero_add] at h1 h2
    rw [List.getD_eq_getElem?_getD, h1] at hj
    obtain ⟨e, he, hb, hh⟩ := mask1_spec hj
    rcases hh with rfl | hh
    · exact hl e he hb
    · by_cases hlt : e.on < acc'.length
      · have hm : acc'.getD e.on 0 = (masks [] ops.toList).getD e.on 0 := by rw [List.getD_eq_getElem?_getD, h3 _ hlt, List.getD_eq_getElem?_getD]
        have hk : k < ops.size := (Array.getElem?_eq_some_iff.1 ho).1
        have ho' : ops[e.on]? = some ops[e.on] := Array.getElem?_eq_getElem (by omega)
        rw [hm] at hh
        exact ih e.on (by omega) _ ho' (fun e' he' hb' => hd e.on _ ho' (hl e he hb) e' he' hb') j hh
      · rw [List.getD_eq_getElem?_getD, List.getElem?_eq_none (by omega)] at hh
        simp at hh

theorem rowOk_spec {m : Nat} {h : GI} : ∀ {gs : List GI} {i0 : Nat}, rowOk m h i0 gs = true → ∀ i g, gs[i]? = some g → m.testBit (i0 + i) = true ∨ gComm g h = true
  | [], i0, _, i, g, hg => by simp at hg
  | g' :: r, i0, hr, 0, g, hg => by
    simp only [rowOk, Bool.and_eq_true, Bool.or_eq_true] at hr
    simp only [List.getElem?_cons_zero, Option.some.injEq] at hg
    subst hg
    simpa using hr.1
  | g' :: r, i0, hr, i + 1, g, hg => by
    simp only [rowOk, Bool.and_eq_true] at hr
    have := rowOk_spec hr.2 i g (by simpa using hg)
    rwa [show i0 + 1 + i = i0 + (i + 1) from by omega] at this
theorem pairsOk_spec : ∀ {gs pre : List GI} {ms : List Nat}, pairsOk pre gs ms = true → ∀ j h, gs[j]? = some h → ∀ i g, i < pre.length + j → (pre ++ gs)[i]? = some g → (ms.getD j 0).testBit i = true ∨ gComm g h = true
  | [], pre, ms, _, j, h, hj, _, _, _, _ => by simp at hj
  | h' :: r, pre, [], hp, j, h, hj, _, _, _, _ => by simp [pairsOk] at hp
  | h' :: r, pre, m :: ms, hp, j, h, hj, i, g, hi, hg => by
    simp only [pairsOk, Bool.and_eq_true] at hp
    cases j with
    | zero =>
      simp only [List.getElem?_cons_zero, Option.some.injEq] at hj
      subst hj
      rw [List.getElem?_append_left (by omega)] at hg
      simpa using rowOk_spec hp.1 i g hg
    | succ j =>
      have := pairsOk_spec hp.2 j h (by simpa using hj) i g (by simp; omega) (by simpa using hg)
      simpa using this
theorem edgesBack_spec : ∀ {os : List Oper} {k : Nat}, edgesBack k os = true → ∀ i o, os[i]? = some o → ∀ e ∈ o.after.toList, Region.binds .any e = true → e.on < k + i
  | [], k, _, i, o, ho, _, _, _ => by simp at ho
  | o' :: os, k, h, 0, o, ho, e, he, hb => by
    simp only [edgesBack, Bool.and_eq_true, List.all_eq_true] at h
    simp only [List.getElem?_cons_zero, Option.some.injEq] at ho
    subst ho
    have := h.1 e he
    simpa [hb] using this
  | o' :: os, k, h, i + 1, o, ho, e, he, hb => by
    simp only [edgesBack, Bool.and_eq_true] at h
    have := edgesBack_spec h.2 i o (by simpa using ho) e he hb
    omega

theorem gsOk_at {N : Nat} {tys : List (Nat × TF)} {ops : List Oper} : ∀ {gs : List GI} {os : List Oper}, gsOk N tys ops gs os = true → ∀ (i : Nat) (g : GI), gs[i]? = some g → ∃ o, os[i]? = some o ∧ gOk N tys ops g o = true
  | [], [], _, i, g, h => by simp at h
  | [], _ :: _, h, _, _, _ => by simp [gsOk] at h
  | _ :: _, [], h, _, _, _ => by simp [gsOk] at h
  | g' :: gs, o :: os, h, 0, g, hg => by
    simp only [gsOk, Bool.and_eq_true] at h
    simp only [List.getElem?_cons_zero, Option.some.injEq] at hg
    subst hg
    exact ⟨o, by simp, h.1⟩
  | g' :: gs, o :: os, h, i + 1, g, hg => by
    simp only [gsOk, Bool.and_eq_true] at h
    obtain ⟨o', h1, h2⟩ := gsOk_at h.2 i g (by simpa using hg)
    exact ⟨o', by simpa using h1, h2⟩
theorem gsOk_len {N : Nat} {tys : List (Nat × TF)} {ops : List Oper} : ∀ {gs : List GI} {os : List Oper}, gsOk N tys ops gs os = true → gs.length = os.length
  | [], [], _ => rfl
  | [], _ :: _, h => by simp [gsOk] at h
  | _ :: _, [], h => by simp [gsOk] at h
  | g :: gs, o :: os, h => by
    simp only [gsOk, Bool.and_eq_true] at h
    simp [gsOk_len h.2]

/-- The first of what is left. -/
theorem rem_first {l : Array Bool} : ∀ (gs : List GI) (k : Nat), rem l k gs = [] ∨ ∃ i g, i < gs.length ∧ gs[i]? = some g ∧ l.getD (k + i) false = false ∧ ∀ j, j < i → l.getD (k + j) false = true
  | [], _ => .inl rfl
  | g :: r, k => by
    by_cases h : l.getD k false = true
    · rcases rem_first (l := l) r (k + 1) with h1 | ⟨i, g', h1, h2, h3, h4⟩
      · left; simp only [rem, h, if_true, h1]
      · refine .inr ⟨i + 1, g', by simp; omega, by simpa using h2, by rw [show k + (i + 1) = k + 1 + i from by omega]; exact h3, fun j hj => ?_⟩
        cases j with
        | zero => simpa using h
        | succ j => rw [show k + (j + 1) = k + 1 + j from by omega]; exact h4 j (by omega)
    · exact .inr ⟨0, g, by simp, by simp, by simpa using h, fun j hj => by omega⟩

theorem any_sound {P : Program} {tys : List (Nat × TF)} (ht : tysOk P tys = true) {C : Ctx} {q : Bool} {n0 : Nat} {ops : Array Oper} {gs : List GI} (hgs : gsOk C.N tys ops.toList gs ops.toList = true) (hany : anyOk gs ops.toList = true) {K : AS → Prop} {Q : Exit → Act → World → Prop}
    (hQ : ∀ A a w, K A → RelA C A a w → Q .normal a w) : ∀ (fuel : Nat) (listed : Array Bool) (A : AS) (a : Act) (w : World), listed.size = ops.size → Dn ops listed → (rem listed 0 gs).length ≤ fuel → ch P q n0 K (rem listed 0 gs) A → RelA C A a w → wpAny P .any ops Q fuel listed a w := by
  simp only [anyOk, Bool.and_eq_true] at hany
  obtain ⟨hback, hpairs⟩ := hany
  have hlen : gs.length = ops.size := by simpa using gsOk_len hgs
  have hdone : ∀ (listed : Array Bool) (A : AS) (a : Act) (w : World), listed.size = ops.size → ch P q n0 K (rem listed 0 gs) A → RelA C A a w → Region.ready .any ops listed = [] → Q .normal a w := by
    intro listed A a w hsz hch hr hready
    rcases rem_first (l := listed) gs 0 with h | ⟨i, g, h1, h2, h3, h4⟩
    · rw [h] at hch; exact hQ A a w hch hr
    · exfalso
      have hi : i < ops.size := by omega
      have hmem : i ∈ Region.ready .any ops listed := by
        unfold Region.ready
        simp only [List.mem_filter, List.mem_range, Bool.and_eq_true, Bool.not_eq_true']
        refine ⟨hi, ?_, ?_⟩
        · rw [Nat.zero_add] at h3
          simp only [Array.getD_eq_getD_getElem?] at h3 ⊢
          rw [Array.getElem?_eq_getElem (by omega)] at h3 ⊢
          simpa using h3
        · rw [Array.getElem?_eq_getElem hi]
          simp only [Option.map_some, Option.getD_some]
          rw [← Array.all_toList, List.all_eq_true]
          intro e he
          by_cases hb : Region.binds .any e = true
          · have hlt := edgesBack_spec hback i ops[i] (by simp [hi]) e he hb
            have := h4 e.on (by omega)
            rw [Nat.zero_add] at this
            simp [this]
          · simp [hb]
      rw [hready] at hmem
      simp at hmem
  intro fuel
  induction fuel with
  | zero =>
    intro listed A a w hsz hd hf hch hr
    have hnil : rem listed 0 gs = [] := List.eq_nil_of_length_eq_zero (by omega)
    have hready : Region.ready .any ops listed = [] := by
      rw [List.eq_nil_iff_forall_not_mem]
      intro i hi
      unfold Region.ready at hi
      simp only [List.mem_filter, List.mem_range, Bool.and_eq_true, Bool.not_eq_true'] at hi
      obtain ⟨h1, h2, _⟩ := hi
      have hn : listed.getD i false = false := by
        simp only [Array.getD_eq_getD_getElem?] at h2 ⊢
        rw [Array.getElem?_eq_getElem (by omega)] at h2 ⊢
        simpa using h2
      obtain ⟨L1, L2, g, _, e2, _⟩ := rem_split (by omega) hn gs 0 (by omega) (by omega)
      rw [hnil] at e2
      simp at e2
    exact ⟨hready, hdone listed A a w hsz hch hr hready⟩
  | succ fuel ih =>
    intro listed A a w hsz hd hf hch hr
    refine ⟨hdone listed A a w hsz hch hr, fun i hi => ?_⟩
    unfold Region.ready at hi
    simp only [List.mem_filter, List.mem_range, Bool.and_eq_true, Bool.not_eq_true'] at hi
    obtain ⟨h1, h2, h3⟩ := hi
    have hn : listed.getD i false = false := by
      simp only [Array.getD_eq_getD_getElem?] at h2 ⊢
      rw [Array.getElem?_eq_getElem (by omega)] at h2 ⊢
      simpa using h2
    have ho : ops[i]? = some ops[i] := Array.getElem?_eq_getElem h1
    have hedges : ∀ e ∈ ops[i].after.toList, Region.binds .any e = true → listed.getD e.on false = true := by
      rw [ho] at h3
      simp only [Option.map_some, Option.getD_some] at h3
      rw [← Array.all_toList, List.all_eq_true] at h3
      intro e he hb
      simpa [hb] using h3 e he
    obtain ⟨L1, L2, g, e1, e2, e3, e4⟩ := rem_split (by omega) hn gs 0 (by omega) (by omega)
    simp only [Nat.sub_zero] at e1 e4
    rw [e2] at hch
    obtain ⟨x, hx, hch'⟩ := bubble L1 L2 A (fun y hy => by
      obtain ⟨f1, f2, f3, f4⟩ := e4 y hy
      rcases pairsOk_spec hpairs i g e1 y.1 y.2 (by simpa using f3) (by simpa using f1) with h | h
      · have := mask_listed hd i ops[i] ho hedges y.1 h
        rw [f4] at this; cases this
      · exact h) hch
    obtain ⟨o', g1, g2⟩ := gsOk_at hgs i g e1
    have : o' = ops[i] := by
      rw [Array.getElem?_toList, ho] at g1
      exact (Option.some.inj g1).symm
    subst this
    refine GG_sound ht ho g2 hx hr fun a' w' hr' => ?_
    refine ih (listed.setIfInBounds i true) (A.do x) a' w' (by simpa using hsz) ?_ ?_ (by rw [e3]; exact hch') hr'
    · intro k o hk hl e he hb
      rw [getD_set (by omega)] at hl ⊢
      split
      · rfl
      · by_cases hik : i = k
        · subst hik
          rw [ho] at hk; cases hk
          exact hedges e he hb
        · rw [if_neg hik] at hl
          exact hd k o hk hl e he hb
    · rw [e3]
      rw [e2] at hf
      simp at hf ⊢
      omega

end Go.Pv
