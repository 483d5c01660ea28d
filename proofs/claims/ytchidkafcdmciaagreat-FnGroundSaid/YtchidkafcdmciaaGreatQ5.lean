/- Plain laws: total orders by a comparison, sorted lists, lists without what stands there twice; the order of terms. -/
import Derived.Test.YtchidkafcdmciaaGreatProg
import Derived.Shelf.GgSortMore.Stable
import Derived.Shelf.GgSortFunc.SmallK
import Derived.Test.YtchidkafcdmciaaGreatQ4
set_option linter.all false
namespace Go.Pv
open Go

/-- A comparison that is a total order. -/
structure CmpOk {α : Type} (c : α → α → Int) : Prop where
  neg : ∀ a b, c b a = - c a b
  tr : ∀ a b d, c a b ≤ 0 → c b d ≤ 0 → c a d ≤ 0
  zero : ∀ a b, c a b = 0 ↔ a = b
section
variable {α : Type} {c : α → α → Int}
def ltC (c : α → α → Int) (a b : α) : Bool := decide (c a b < 0)
theorem CmpOk.ltOk (h : CmpOk c) : LtOk (ltC c) := by
  refine ⟨fun x y hxy => ?_, fun x y z h1 h2 => ?_⟩
  · simp only [ltC, decide_eq_true_eq, decide_eq_false_iff_not] at hxy ⊢
    rw [h.neg x y]; omega
  · simp only [ltC, decide_eq_false_iff_not] at h1 h2 ⊢
    have e1 := h.neg x y
    have e2 := h.neg y z
    have e3 := h.neg x z
    have := h.tr x y z (by omega) (by omega)
    omega
theorem CmpOk.refl (h : CmpOk c) (a : α) : c a a = 0 := (h.zero a a).2 rfl
theorem CmpOk.ltr (h : CmpOk c) {a b d : α} (h1 : c a b < 0) (h2 : c b d ≤ 0) : c a d < 0 := by
  have h3 := h.tr a b d (by omega) h2
  rcases (by omega : c a d < 0 ∨ c a d = 0) with h4 | h4
  · exact h4
  · obtain rfl := (h.zero a d).1 h4
    have := h.neg a b
    omega
theorem CmpOk.ltr' (h : CmpOk c) {a b d : α} (h1 : c a b ≤ 0) (h2 : c b d < 0) : c a d < 0 := by
  have h3 := h.tr a b d h1 (by omega)
  rcases (by omega : c a d < 0 ∨ c a d = 0) with h4 | h4
  · exact h4
  · obtain rfl := (h.zero a d).1 h4
    have := h.neg a b
    omega
def srtC (c : α → α → Int) (l : List α) : List α := l.mergeSort fun x y => decide (c x y ≤ 0)
theorem srtC_perm (c : α → α → Int) (l : List α) : (srtC c l).Perm l := List.mergeSort_perm l _
theorem srtC_pw (h : CmpOk c) (l : List α) : (srtC c l).Pairwise fun x y => c x y ≤ 0 := by
  have := List.pairwise_mergeSort (le := fun x y => decide (c x y ≤ 0)) (fun a b d h1 h2 => by simp at h1 h2 ⊢; exact h.tr a b d h1 h2) (fun a b => by simp; have := h.neg a b; omega) l
  exact this.imp (by simp)
theorem srtC_uniq (h : CmpOk c) {l l' : List α} (hp : l'.Perm l) (hs : l'.Pairwise fun x y => ltC c y x = false) : l' = srtC c l := by
  refine List.Perm.eq_of_pairwise (le := fun x y => c x y ≤ 0) (fun x y _ _ h1 h2 => (h.zero x y).1 (by have := h.neg x y; omega)) (hs.imp fun {x y} hxy => ?_) (srtC_pw h l) (hp.trans (srtC_perm c l).symm)
  simp only [ltC, decide_eq_false_iff_not] at hxy
  have := h.neg x y
  omega
/-- What stands there twice in a row is left out. -/
def dd [DecidableEq α] (p : Option α) : List α → List α
  | [] => []
  | x :: r => if p = some x then dd (some x) r else x :: dd (some x) r
def asc [DecidableEq α] (c : α → α → Int) (l : List α) : List α := dd none (srtC c l)
/-- Ascending. -/
def SAsc (c : α → α → Int) (l : List α) : Prop := l.Pairwise fun x y => c x y < 0
variable [DecidableEq α]
theorem dd_mem : ∀ (l : List α) (p : Option α) (x : α), x ∈ dd p l → x ∈ l
  | [], _, _, h => by simp [dd] at h
  | y :: r, p, x, h => by
    simp only [dd] at h
    split at h
    · exact List.mem_cons_of_mem _ (dd_mem r _ x h)
    · rcases List.mem_cons.1 h with rfl | h
      · simp
      · exact List.mem_cons_of_mem _ (dd_mem r _ x h)
theorem mem_dd : ∀ (l : List α) (p : Option α) (x : α), x ∈ l → x ∈ dd p l ∨ p = some x
  | y :: r, p, x, h => by
    simp only [dd]
    rcases List.mem_cons.1 h with rfl | h
    · split
      · rename_i h2; exact .inr h2
      · simp
    · split
      · rename_i h2
        rcases mem_dd r (some y) x h with h3 | h3
        · exact .inl h3
        · cases h3; exact .inr h2
      · rcases mem_dd r (some y) x h with h3 | h3
        · exact .inl (List.mem_cons_of_mem _ h3)
        · cases h3; simp
theorem dd_pw (hc : CmpOk c) : ∀ (l : List α) (p : Option α), l.Pairwise (fun x y => c x y ≤ 0) → (∀ y, p = some y → ∀ x ∈ l, c y x ≤ 0) → SAsc c (dd p l) ∧ ∀ y, p = some y → ∀ x ∈ dd p l, c y x < 0
  | [], p, _, _ => ⟨List.Pairwise.nil, fun y _ x hx => by simp [dd] at hx⟩
  | z :: r, p, h, hp => by
    obtain ⟨h1, h2⟩ := List.pairwise_cons.1 h
    have ih := dd_pw hc r (some z) h2 (fun y hy x hx => by cases hy; exact h1 x hx)
    simp only [dd]
    split
    · rename_i h3
      subst h3
      exact ih
    · rename_i h3
      refine ⟨List.pairwise_cons.2 ⟨fun x hx => ih.2 z rfl x hx, ih.1⟩, fun y hy x hx => ?_⟩
      subst hy
      have hyz : c y z < 0 := by
        have h4 := hp y rfl z (by simp)
        rcases (by omega : c y z < 0 ∨ c y z = 0) with h5 | h5
        · exact h5
        · exact absurd (congrArg some ((hc.zero y z).1 h5)) h3
      rcases List.mem_cons.1 hx with rfl | hx
      · exact hyz
      · exact hc.ltr hyz (by have := ih.2 z rfl x hx; omega)
theorem asc_sasc (hc : CmpOk c) (l : List α) : SAsc c (asc c l) := (dd_pw hc _ none (srtC_pw hc l) (fun y h => by cases h)).1
theorem mem_asc (l : List α) (x : α) : x ∈ asc c l ↔ x ∈ l := by
  constructor
  · intro h
    exact (srtC_perm c l).mem_iff.1 (dd_mem _ _ _ h)
  · intro h
    rcases mem_dd (srtC c l) none x ((srtC_perm c l).mem_iff.2 h) with h | h
    · exact h
    · cases h
omit [DecidableEq α] in
theorem SAsc.ext (hc : CmpOk c) {l l' : List α} (h : SAsc c l) (h' : SAsc c l') (hm : ∀ x, x ∈ l ↔ x ∈ l') : l = l' := by
  have hd : ∀ {l : List α}, SAsc c l → l.Nodup := fun {l} h => h.imp fun {a b} h e => by subst e; have := hc.refl a; omega
  refine List.Perm.eq_of_pairwise (le := fun x y => c x y ≤ 0) (fun x y _ _ h1 h2 => (hc.zero x y).1 (by have := hc.neg x y; omega)) (h.imp fun h => by omega) (h'.imp fun h => by omega) ?_
  exact (List.perm_ext_iff_of_nodup (hd h) (hd h')).2 hm
omit [DecidableEq α] in
theorem SAsc.nodup (hc : CmpOk c) {l : List α} (h : SAsc c l) : l.Nodup := h.imp fun {a b} h e => by subst e; have := hc.refl a; omega
theorem asc_ext (hc : CmpOk c) {l l' : List α} (hm : ∀ x, x ∈ l ↔ x ∈ l') : asc c l = asc c l' := (asc_sasc hc l).ext hc (asc_sasc hc l') fun x => by rw [mem_asc, mem_asc, hm]
theorem asc_self (hc : CmpOk c) {l : List α} (h : SAsc c l) : asc c l = l := (asc_sasc hc l).ext hc h fun x => mem_asc l x
omit [DecidableEq α] in
theorem nodup_len [DecidableEq α] : ∀ {l l' : List α}, l.Nodup → (∀ x ∈ l, x ∈ l') → l.length ≤ l'.length
  | [], l', _, _ => by simp
  | x :: r, l', h, hm => by
    obtain ⟨h1, h2⟩ := List.nodup_cons.1 h
    have hx := hm x (by simp)
    have := nodup_len (l := r) (l' := l'.erase x) h2 (fun y hy => by
      have hne : y ≠ x := fun e => h1 (e ▸ hy)
      exact (List.mem_erase_of_ne hne).2 (hm y (by simp [hy])))
    rw [List.length_erase_of_mem hx] at this
    have hpos := List.length_pos_of_mem hx
    simp; omega
end
/-- The order of bytes. -/
theorem bl_asym : ∀ a b : List UInt8, Op.bytesLess a b = true → Op.bytesLess b a = false
  | _, [], h => by simp [Op.bytesLess] at h
  | [], _ :: _, _ => by simp [Op.bytesLess]
  | x :: a, y :: b, h => by
    simp only [Op.bytesLess, Bool.or_eq_true, decide_eq_true_eq, Bool.and_eq_true, beq_iff_eq] at h
    simp only [Op.bytesLess, Bool.or_eq_false_iff, decide_eq_false_iff_not, Bool.and_eq_false_iff]
    rcases h with h | ⟨rfl, h⟩
    · refine ⟨fun h2 => ?_, .inl ?_⟩
      · rw [UInt8.lt_iff_toNat_lt] at h h2; omega
      · simp; intro e; subst e; rw [UInt8.lt_iff_toNat_lt] at h; omega
    · exact ⟨fun h2 => by rw [UInt8.lt_iff_toNat_lt] at h2; omega, .inr (bl_asym a b h)⟩
theorem bl_tri : ∀ a b : List UInt8, a ≠ b → Op.bytesLess a b = false → Op.bytesLess b a = true
  | [], [], h, _ => absurd rfl h
  | x :: a, [], _, _ => by simp [Op.bytesLess]
  | [], _ :: _, _, h => by simp [Op.bytesLess] at h
  | x :: a, y :: b, hne, h => by
    simp only [Op.bytesLess, Bool.or_eq_false_iff, decide_eq_false_iff_not, Bool.and_eq_false_iff] at h
    simp only [Op.bytesLess, Bool.or_eq_true, decide_eq_true_eq, Bool.and_eq_true, beq_iff_eq]
    by_cases e : x = y
    · subst e
      right
      refine ⟨rfl, bl_tri a b (fun e => hne (by rw [e])) ?_⟩
      rcases h.2 with h2 | h2
      · simp at h2
      · exact h2
    · left
      have h1 := h.1
      rw [UInt8.lt_iff_toNat_lt] at h1 ⊢
      have : x.toNat ≠ y.toNat := fun h => e (UInt8.toNat_inj.1 h)
      omega
theorem bl_trans : ∀ a b d : List UInt8, Op.bytesLess a b = true → Op.bytesLess b d = true → Op.bytesLess a d = true
  | _, [], _, h, _ => by simp [Op.bytesLess] at h
  | _, _ :: _, [], _, h => by simp [Op.bytesLess] at h
  | [], _ :: _, _ :: _, _, _ => by simp [Op.bytesLess]
  | x :: a, y :: b, z :: d, h1, h2 => by
    simp only [Op.bytesLess, Bool.or_eq_true, decide_eq_true_eq, Bool.and_eq_true, beq_iff_eq, UInt8.lt_iff_toNat_lt] at h1 h2 ⊢
    rcases h1 with h1 | ⟨rfl, h1⟩ <;> rcases h2 with h2 | ⟨rfl, h2⟩
    · left; omega
    · left; exact h1
    · left; exact h2
    · exact .inr ⟨rfl, bl_trans a b d h1 h2⟩
theorem ordI_ok : CmpOk ordI := by
  refine ⟨fun a b => ?_, fun a b d => ?_, fun a b => ?_⟩
  · simp only [ordI]; repeat' split
    all_goals omega
  · simp only [ordI]; repeat' split
    all_goals omega
  · simp only [ordI]; repeat' split
    all_goals omega
theorem ordS_ok : CmpOk ordS := by
  have hn : ∀ a b, ordS b a = - ordS a b := fun a b => by
    simp only [ordS]
    by_cases e : a = b
    · subst e; simp
    · rw [if_neg e, if_neg (Ne.symm e)]
      cases h : Op.bytesLess a b with
      | true => simp [bl_asym a b h]
      | false => simp [bl_tri a b e h]
  refine ⟨hn, fun a b d h1 h2 => ?_, fun a b => ?_⟩
  · simp only [ordS] at h1 h2 ⊢
    by_cases e1 : a = b
    · subst e1; exact h2
    · by_cases e2 : b = d
      · subst e2; exact h1
      · rw [if_neg e1] at h1
        rw [if_neg e2] at h2
        have g1 : Op.bytesLess a b = true := by cases h : Op.bytesLess a b <;> simp [h] at h1 ⊢
        have g2 : Op.bytesLess b d = true := by cases h : Op.bytesLess b d <;> simp [h] at h2 ⊢
        rw [bl_trans a b d g1 g2]
        split <;> simp
  · simp only [ordS]
    by_cases e : a = b
    · simp [e]
    · rw [if_neg e]; simp [e]; split <;> omega
theorem ordT_kind {a b : T} (h : a.kind ≠ b.kind) : ordT a b = ordI a.kind b.kind := by
  cases a <;> cases b <;> simp at h <;> simp [ordT]
theorem ordT_neg : ∀ a b : T, ordT b a = - ordT a b
  | .pair a b, .pair c d => by
    simp only [ordT]
    have h1 := ordT_neg a c
    have h2 := ordT_neg b d
    by_cases e : ordT a c = 0
    · rw [if_pos e, if_pos (by omega), h2]
    · rw [if_neg e, if_neg (by omega), h1]
  | .nil, y => by
    by_cases hk : T.nil.kind = y.kind
    · cases y <;> simp at hk; simp [ordT, ordS]
    · rw [ordT_kind hk, ordT_kind (Ne.symm hk), ordI_ok.neg]
  | .var n, y => by
    by_cases hk : (T.var n).kind = y.kind
    · cases y <;> simp at hk
      rename_i m
      by_cases e : n = m
      · subst e; simp [ordT, ordS]
      · simp [ordT, e, Ne.symm e, ordI_ok.neg n m]
    · rw [ordT_kind hk, ordT_kind (Ne.symm hk), ordI_ok.neg]
  | .sym s, y => by
    by_cases hk : (T.sym s).kind = y.kind
    · cases y <;> simp at hk
      rename_i m
      simp [ordT, ordS_ok.neg s m]
    · rw [ordT_kind hk, ordT_kind (Ne.symm hk), ordI_ok.neg]
  | .num n, y => by
    by_cases hk : (T.num n).kind = y.kind
    · cases y <;> simp at hk
      rename_i m
      by_cases e : n = m
      · subst e; simp [ordT, ordS]
      · simp [ordT, e, Ne.symm e, ordI_ok.neg n m]
    · rw [ordT_kind hk, ordT_kind (Ne.symm hk), ordI_ok.neg]
  | .pair a b, .nil | .pair a b, .var _ | .pair a b, .sym _ | .pair a b, .num _ => by simp [ordT, ordI]
theorem ordT_le_kind {a b : T} (h : ordT a b ≤ 0) : a.kind ≤ b.kind := by
  by_cases hk : a.kind = b.kind
  · omega
  · rw [ordT_kind hk] at h
    simp only [ordI] at h
    repeat' split at h
    all_goals omega
theorem ordT_var (n m : Int) : ordT (.var n) (.var m) = ordI n m := by
  simp only [ordT, T.kind, T.int, T.name, ordS]
  by_cases e : n = m
  · subst e; simp [ordI]
  · simp [e]
theorem ordT_num (n m : Int) : ordT (.num n) (.num m) = ordI n m := by
  simp only [ordT, T.kind, T.int, T.name, ordS]
  by_cases e : n = m
  · subst e; simp [ordI]
  · simp [e]
theorem ordT_sym (n m : List UInt8) : ordT (.sym n) (.sym m) = ordS n m := by simp [ordT]
theorem ordT_trL (a b d : T) (ha : a.kind ≠ 4) (h1 : ordT a b ≤ 0) (h2 : ordT b d ≤ 0) : ordT a d ≤ 0 := by
  have k1 := ordT_le_kind h1
  have k2 := ordT_le_kind h2
  by_cases hk : a.kind = d.kind
  · cases a <;> cases d <;> simp at hk ha
    all_goals (cases b <;> simp at k1 k2)
    · simp [ordT, ordS]
    · rw [ordT_var] at h1 h2 ⊢; exact ordI_ok.tr _ _ _ h1 h2
    · rw [ordT_sym] at h1 h2 ⊢; exact ordS_ok.tr _ _ _ h1 h2
    · rw [ordT_num] at h1 h2 ⊢; exact ordI_ok.tr _ _ _ h1 h2
  · rw [ordT_kind hk]
    simp only [ordI]
    repeat' split
    all_goals omega
theorem ordT_tr : ∀ a b d : T, ordT a b ≤ 0 → ordT b d ≤ 0 → ordT a d ≤ 0 := by
  intro a
  induction a with
  | pair a1 a2 ih1 ih2 =>
    intro b d h1 h2
    have k1 := ordT_le_kind h1
    have k2 := ordT_le_kind h2
    cases b <;> simp at k1
    all_goals (cases d <;> simp at k2)
    rename_i b1 b2 d1 d2
    simp only [ordT] at h1 h2 ⊢
    by_cases e1 : ordT a1 b1 = 0
    · obtain rfl := (ordT_zero a1 b1).1 e1
      rw [if_pos e1] at h1
      by_cases e2 : ordT a1 d1 = 0
      · rw [if_pos e2] at h2 ⊢
        exact ih2 b2 d2 h1 h2
      · rw [if_neg e2] at h2 ⊢
        exact h2
    · rw [if_neg e1] at h1
      by_cases e2 : ordT b1 d1 = 0
      · obtain rfl := (ordT_zero b1 d1).1 e2
        rw [if_neg e1]
        exact h1
      · rw [if_neg e2] at h2
        have h3 := ih1 b1 d1 h1 h2
        by_cases e3 : ordT a1 d1 = 0
        · obtain rfl := (ordT_zero a1 d1).1 e3
          have := ordT_neg a1 b1
          omega
        · rw [if_neg e3]; exact h3
  | nil => exact fun b d => ordT_trL _ b d (by simp)
  | var n => exact fun b d => ordT_trL _ b d (by simp)
  | sym n => exact fun b d => ordT_trL _ b d (by simp)
  | num n => exact fun b d => ordT_trL _ b d (by simp)
theorem ordT_ok : CmpOk ordT := ⟨ordT_neg, ordT_tr, ordT_zero⟩
end Go.Pv
/- made by mk2.py: the code of the functions, and the checks against the program's own form. -/
set_option linter.all false
namespace Go.Proofs.YtchidkafcdmciaaGreat
open Go Go.Pv
/-- sort.stable_func -/
def c_sort_stable_func : C :=
  (.seq (.region [⟨none, .s (.box 2 none (.t 0))⟩])
  (.seq (.region [⟨none, .s (.v 4 (.mov (.c (.int .i64 20))))⟩])
  (.seq (.region [⟨none, .s (.v 8 (.mov (.t 4)))⟩,
    ⟨none, .s (.v 5 (.mov (.c (.int .i64 0))))⟩,
    ⟨none, .s (.v 6 (.mov (.t 8)))⟩])
  (.seq (.block 0 
    (.loop 
      (.seq (.seq (.region [⟨none, .s (.v 9 (.mov (.t 6)))⟩,
        ⟨none, .s (.v 10 (.mov (.t 1)))⟩,
        ⟨none, .s (.v 11 (.bin .leq false (.t 9) (.t 10)))⟩])
      (.cond (.t 11)
        .skip
        (.exit 0)))
      (.block 1 
        (.seq (.region [⟨none, .s (.v 12 (.load true 2 (.t 2)))⟩,
          ⟨none, .s (.v 13 (.mov (.t 5)))⟩,
          ⟨none, .s (.v 14 (.mov (.t 6)))⟩,
          ⟨none, .call (some 15) (.c (.func 181 [])) [(.t 12), (.t 13), (.t 14)]⟩])
        (.seq (.region [⟨none, .s (.v 16 (.mov (.t 6)))⟩,
          ⟨none, .s (.v 5 (.mov (.t 16)))⟩])
        (.region [⟨none, .s (.v 17 (.mov (.t 6)))⟩,
          ⟨none, .s (.v 18 (.mov (.t 4)))⟩,
          ⟨none, .s (.v 19 (.bin .add false (.t 17) (.t 18)))⟩,
          ⟨none, .s (.v 6 (.mov (.t 19)))⟩])))))))
  (.seq (.region [⟨none, .s (.v 20 (.load true 2 (.t 2)))⟩,
    ⟨none, .s (.v 21 (.mov (.t 5)))⟩,
    ⟨none, .s (.v 22 (.mov (.t 1)))⟩,
    ⟨none, .call (some 23) (.c (.func 181 [])) [(.t 20), (.t 21), (.t 22)]⟩])
  (.block 2 
    (.loop 
      (.seq (.seq (.region [⟨none, .s (.v 24 (.mov (.t 4)))⟩,
        ⟨none, .s (.v 25 (.mov (.t 1)))⟩,
        ⟨none, .s (.v 26 (.bin .lss false (.t 24) (.t 25)))⟩])
      (.cond (.t 26)
        .skip
        (.exit 2)))
      (.block 3 
        (.seq (.region [⟨none, .s (.v 27 (.mov (.t 4)))⟩,
          ⟨none, .s (.v 28 (.bin .mul false (.c (.int .i64 2)) (.t 27)))⟩,
          ⟨none, .s (.v 5 (.mov (.c (.int .i64 0))))⟩,
          ⟨none, .s (.v 6 (.mov (.t 28)))⟩])
        (.seq (.block 4 
          (.loop 
            (.seq (.seq (.region [⟨none, .s (.v 29 (.mov (.t 6)))⟩,
              ⟨none, .s (.v 30 (.mov (.t 1)))⟩,
              ⟨none, .s (.v 31 (.bin .leq false (.t 29) (.t 30)))⟩])
            (.cond (.t 31)
              .skip
              (.exit 4)))
            (.block 5 
              (.seq (.region [⟨none, .s (.v 32 (.load true 2 (.t 2)))⟩,
                ⟨none, .s (.v 33 (.mov (.t 5)))⟩,
                ⟨none, .s (.v 34 (.mov (.t 5)))⟩,
                ⟨none, .s (.v 35 (.mov (.t 4)))⟩,
                ⟨none, .s (.v 36 (.bin .add false (.t 34) (.t 35)))⟩,
                ⟨none, .s (.v 37 (.mov (.t 6)))⟩,
                ⟨none, .call (some 38) (.c (.func 182 [])) [(.t 32), (.t 33), (.t 36), (.t 37)]⟩])
              (.seq (.region [⟨none, .s (.v 39 (.mov (.t 6)))⟩,
                ⟨none, .s (.v 5 (.mov (.t 39)))⟩])
              (.region [⟨none, .s (.v 40 (.mov (.t 6)))⟩,
                ⟨none, .s (.v 41 (.mov (.t 4)))⟩,
                ⟨none, .s (.v 42 (.bin .mul false (.c (.int .i64 2)) (.t 41)))⟩,
                ⟨none, .s (.v 43 (.bin .add false (.t 40) (.t 42)))⟩,
                ⟨none, .s (.v 6 (.mov (.t 43)))⟩])))))))
        (.seq (.seq (.region [⟨none, .s (.v 44 (.mov (.t 5)))⟩,
          ⟨none, .s (.v 45 (.mov (.t 4)))⟩,
          ⟨none, .s (.v 46 (.bin .add false (.t 44) (.t 45)))⟩,
          ⟨none, .s (.v 7 (.mov (.t 46)))⟩])
        (.seq (.region [⟨none, .s (.v 47 (.mov (.t 7)))⟩,
          ⟨none, .s (.v 48 (.mov (.t 1)))⟩,
          ⟨none, .s (.v 49 (.bin .lss false (.t 47) (.t 48)))⟩])
        (.cond (.t 49)
          (.region [⟨none, .s (.v 50 (.load true 2 (.t 2)))⟩,
            ⟨none, .s (.v 51 (.mov (.t 5)))⟩,
            ⟨none, .s (.v 52 (.mov (.t 7)))⟩,
            ⟨none, .s (.v 53 (.mov (.t 1)))⟩,
            ⟨none, .call (some 54) (.c (.func 182 [])) [(.t 50), (.t 51), (.t 52), (.t 53)]⟩])
          .skip)))
        (.region [⟨none, .s (.v 55 (.mov (.t 4)))⟩,
          ⟨none, .s (.v 56 (.bin .mul false (.t 55) (.c (.int .i64 2))))⟩,
          ⟨none, .s (.v 4 (.mov (.t 56)))⟩])))))))))))))
def r_sort_stable_func : List RV := []

/-- sort.insertionSort_func -/
def c_sort_insertionSort_func : C :=
  (.seq (.region [⟨none, .s (.box 3 none (.t 0))⟩])
  (.seq (.region [⟨none, .s (.v 8 (.mov (.t 1)))⟩,
    ⟨none, .s (.v 9 (.bin .add false (.t 8) (.c (.int .i64 1))))⟩,
    ⟨none, .s (.v 6 (.mov (.t 9)))⟩])
  (.block 0 
    (.loop 
      (.seq (.seq (.region [⟨none, .s (.v 10 (.mov (.t 6)))⟩,
        ⟨none, .s (.v 11 (.mov (.t 2)))⟩,
        ⟨none, .s (.v 12 (.bin .lss false (.t 10) (.t 11)))⟩])
      (.cond (.t 12)
        .skip
        (.exit 0)))
      (.seq (.block 1 
        (.seq (.region [⟨none, .s (.v 15 (.mov (.t 6)))⟩,
          ⟨none, .s (.v 7 (.mov (.t 15)))⟩])
        (.block 2 
          (.loop 
            (.seq (.seq (.region [⟨none, .s (.v 16 (.mov (.t 7)))⟩,
              ⟨none, .s (.v 17 (.mov (.t 1)))⟩,
              ⟨none, .s (.v 18 (.bin .gtr false (.t 16) (.t 17)))⟩,
              ⟨none, .s (.v 19 (.mov (.t 18)))⟩,
              ⟨(some (19, true)), .s (.v 20 (.faddr 0 false 1 (.t 3)))⟩,
              ⟨(some (19, true)), .s (.v 21 (.load false 1 (.t 20)))⟩,
              ⟨(some (19, true)), .s (.v 22 (.mov (.t 7)))⟩,
              ⟨(some (19, true)), .s (.v 23 (.mov (.t 7)))⟩,
              ⟨(some (19, true)), .s (.v 24 (.bin .sub false (.t 23) (.c (.int .i64 1))))⟩,
              ⟨(some (19, true)), .call (some 25) (.t 21) [(.t 22), (.t 24)]⟩,
              ⟨none, .s (.v 26 (.pick (.t 19) (.t 25) (.c (.bool false))))⟩])
            (.cond (.t 26)
              .skip
              (.exit 2)))
            (.seq (.block 3 
              (.region [⟨none, .s (.v 29 (.faddr 1 false 1 (.t 3)))⟩,
                ⟨none, .s (.v 30 (.load false 1 (.t 29)))⟩,
                ⟨none, .s (.v 31 (.mov (.t 7)))⟩,
                ⟨none, .s (.v 32 (.mov (.t 7)))⟩,
                ⟨none, .s (.v 33 (.bin .sub false (.t 32) (.c (.int .i64 1))))⟩,
                ⟨none, .call (some 34) (.t 30) [(.t 31), (.t 33)]⟩]))
            (.region [⟨none, .s (.v 27 (.mov (.t 7)))⟩,
              ⟨none, .s (.v 28 (.bin .sub false (.t 27) (.c (.int .i64 1))))⟩,
              ⟨none, .s (.v 7 (.mov (.t 28)))⟩])))))))
      (.region [⟨none, .s (.v 13 (.mov (.t 6)))⟩,
        ⟨none, .s (.v 14 (.bin .add false (.t 13) (.c (.int .i64 1))))⟩,
        ⟨none, .s (.v 6 (.mov (.t 14)))⟩])))))))
def r_sort_insertionSort_func : List RV := []

/-- sort.symMerge_func -/
def c_sort_symMerge_func : C :=
  (.seq (.region [⟨none, .s (.box 4 none (.t 0))⟩])
  (.seq (.seq (.region [⟨none, .s (.v 23 (.mov (.t 2)))⟩,
    ⟨none, .s (.v 24 (.mov (.t 1)))⟩,
    ⟨none, .s (.v 25 (.bin .sub false (.t 23) (.t 24)))⟩,
    ⟨none, .s (.v 26 (.bin .eql false (.t 25) (.c (.int .i64 1))))⟩])
  (.cond (.t 26)
    (.seq (.region [⟨none, .s (.v 27 (.mov (.t 2)))⟩,
      ⟨none, .s (.v 8 (.mov (.t 27)))⟩])
    (.seq (.region [⟨none, .s (.v 28 (.mov (.t 3)))⟩,
      ⟨none, .s (.v 9 (.mov (.t 28)))⟩])
    (.seq (.block 0 
      (.loop 
        (.seq (.seq (.region [⟨none, .s (.v 29 (.mov (.t 8)))⟩,
          ⟨none, .s (.v 30 (.mov (.t 9)))⟩,
          ⟨none, .s (.v 31 (.bin .lss false (.t 29) (.t 30)))⟩])
        (.cond (.t 31)
          .skip
          (.exit 0)))
        (.block 1 
          (.seq (.region [⟨none, .s (.v 32 (.mov (.t 8)))⟩,
            ⟨none, .s (.v 33 (.mov (.t 9)))⟩,
            ⟨none, .s (.v 34 (.bin .add false (.t 32) (.t 33)))⟩,
            ⟨none, .s (.v 35 (.conv .u64 (.t 34)))⟩,
            ⟨none, .s (.v 36 (.bin .shr false (.t 35) (.c (.int .u64 1))))⟩,
            ⟨none, .s (.v 37 (.conv .i64 (.t 36)))⟩,
            ⟨none, .s (.v 10 (.mov (.t 37)))⟩])
          (.seq (.region [⟨none, .s (.v 38 (.faddr 0 false 1 (.t 4)))⟩,
            ⟨none, .s (.v 39 (.load false 1 (.t 38)))⟩,
            ⟨none, .s (.v 40 (.mov (.t 10)))⟩,
            ⟨none, .s (.v 41 (.mov (.t 1)))⟩,
            ⟨none, .call (some 42) (.t 39) [(.t 40), (.t 41)]⟩])
          (.cond (.t 42)
            (.region [⟨none, .s (.v 43 (.mov (.t 10)))⟩,
              ⟨none, .s (.v 44 (.bin .add false (.t 43) (.c (.int .i64 1))))⟩,
              ⟨none, .s (.v 8 (.mov (.t 44)))⟩])
            (.region [⟨none, .s (.v 45 (.mov (.t 10)))⟩,
              ⟨none, .s (.v 9 (.mov (.t 45)))⟩]))))))))
    (.seq (.seq (.region [⟨none, .s (.v 46 (.mov (.t 1)))⟩,
      ⟨none, .s (.v 11 (.mov (.t 46)))⟩])
    (.block 2 
      (.loop 
        (.seq (.seq (.region [⟨none, .s (.v 47 (.mov (.t 11)))⟩,
          ⟨none, .s (.v 48 (.mov (.t 8)))⟩,
          ⟨none, .s (.v 49 (.bin .sub false (.t 48) (.c (.int .i64 1))))⟩,
          ⟨none, .s (.v 50 (.bin .lss false (.t 47) (.t 49)))⟩])
        (.cond (.t 50)
          .skip
          (.exit 2)))
        (.seq (.block 3 
          (.region [⟨none, .s (.v 53 (.faddr 1 false 1 (.t 4)))⟩,
            ⟨none, .s (.v 54 (.load false 1 (.t 53)))⟩,
            ⟨none, .s (.v 55 (.mov (.t 11)))⟩,
            ⟨none, .s (.v 56 (.mov (.t 11)))⟩,
            ⟨none, .s (.v 57 (.bin .add false (.t 56) (.c (.int .i64 1))))⟩,
            ⟨none, .call (some 58) (.t 54) [(.t 55), (.t 57)]⟩]))
        (.region [⟨none, .s (.v 51 (.mov (.t 11)))⟩,
          ⟨none, .s (.v 52 (.bin .add false (.t 51) (.c (.int .i64 1))))⟩,
          ⟨none, .s (.v 11 (.mov (.t 52)))⟩]))))))
    .ret))))
    .skip))
  (.seq (.seq (.region [⟨none, .s (.v 59 (.mov (.t 3)))⟩,
    ⟨none, .s (.v 60 (.mov (.t 2)))⟩,
    ⟨none, .s (.v 61 (.bin .sub false (.t 59) (.t 60)))⟩,
    ⟨none, .s (.v 62 (.bin .eql false (.t 61) (.c (.int .i64 1))))⟩])
  (.cond (.t 62)
    (.seq (.region [⟨none, .s (.v 63 (.mov (.t 1)))⟩,
      ⟨none, .s (.v 12 (.mov (.t 63)))⟩])
    (.seq (.region [⟨none, .s (.v 64 (.mov (.t 2)))⟩,
      ⟨none, .s (.v 13 (.mov (.t 64)))⟩])
    (.seq (.block 4 
      (.loop 
        (.seq (.seq (.region [⟨none, .s (.v 65 (.mov (.t 12)))⟩,
          ⟨none, .s (.v 66 (.mov (.t 13)))⟩,
          ⟨none, .s (.v 67 (.bin .lss false (.t 65) (.t 66)))⟩])
        (.cond (.t 67)
          .skip
          (.exit 4)))
        (.block 5 
          (.seq (.region [⟨none, .s (.v 68 (.mov (.t 12)))⟩,
            ⟨none, .s (.v 69 (.mov (.t 13)))⟩,
            ⟨none, .s (.v 70 (.bin .add false (.t 68) (.t 69)))⟩,
            ⟨none, .s (.v 71 (.conv .u64 (.t 70)))⟩,
            ⟨none, .s (.v 72 (.bin .shr false (.t 71) (.c (.int .u64 1))))⟩,
            ⟨none, .s (.v 73 (.conv .i64 (.t 72)))⟩,
            ⟨none, .s (.v 14 (.mov (.t 73)))⟩])
          (.seq (.region [⟨none, .s (.v 74 (.faddr 0 false 1 (.t 4)))⟩,
            ⟨none, .s (.v 75 (.load false 1 (.t 74)))⟩,
            ⟨none, .s (.v 76 (.mov (.t 2)))⟩,
            ⟨none, .s (.v 77 (.mov (.t 14)))⟩,
            ⟨none, .call (some 78) (.t 75) [(.t 76), (.t 77)]⟩,
            ⟨none, .s (.v 79 (.notB (.t 78)))⟩])
          (.cond (.t 79)
            (.region [⟨none, .s (.v 80 (.mov (.t 14)))⟩,
              ⟨none, .s (.v 81 (.bin .add false (.t 80) (.c (.int .i64 1))))⟩,
              ⟨none, .s (.v 12 (.mov (.t 81)))⟩])
            (.region [⟨none, .s (.v 82 (.mov (.t 14)))⟩,
              ⟨none, .s (.v 13 (.mov (.t 82)))⟩]))))))))
    (.seq (.seq (.region [⟨none, .s (.v 83 (.mov (.t 2)))⟩,
      ⟨none, .s (.v 15 (.mov (.t 83)))⟩])
    (.block 6 
      (.loop 
        (.seq (.seq (.region [⟨none, .s (.v 84 (.mov (.t 15)))⟩,
          ⟨none, .s (.v 85 (.mov (.t 12)))⟩,
          ⟨none, .s (.v 86 (.bin .gtr false (.t 84) (.t 85)))⟩])
        (.cond (.t 86)
          .skip
          (.exit 6)))
        (.seq (.block 7 
          (.region [⟨none, .s (.v 89 (.faddr 1 false 1 (.t 4)))⟩,
            ⟨none, .s (.v 90 (.load false 1 (.t 89)))⟩,
            ⟨none, .s (.v 91 (.mov (.t 15)))⟩,
            ⟨none, .s (.v 92 (.mov (.t 15)))⟩,
            ⟨none, .s (.v 93 (.bin .sub false (.t 92) (.c (.int .i64 1))))⟩,
            ⟨none, .call (some 94) (.t 90) [(.t 91), (.t 93)]⟩]))
        (.region [⟨none, .s (.v 87 (.mov (.t 15)))⟩,
          ⟨none, .s (.v 88 (.bin .sub false (.t 87) (.c (.int .i64 1))))⟩,
          ⟨none, .s (.v 15 (.mov (.t 88)))⟩]))))))
    .ret))))
    .skip))
  (.seq (.region [⟨none, .s (.v 95 (.mov (.t 1)))⟩,
    ⟨none, .s (.v 96 (.mov (.t 3)))⟩,
    ⟨none, .s (.v 97 (.bin .add false (.t 95) (.t 96)))⟩,
    ⟨none, .s (.v 98 (.conv .u64 (.t 97)))⟩,
    ⟨none, .s (.v 99 (.bin .shr false (.t 98) (.c (.int .u64 1))))⟩,
    ⟨none, .s (.v 100 (.conv .i64 (.t 99)))⟩,
    ⟨none, .s (.v 16 (.mov (.t 100)))⟩])
  (.seq (.region [⟨none, .s (.v 101 (.mov (.t 16)))⟩,
    ⟨none, .s (.v 102 (.mov (.t 2)))⟩,
    ⟨none, .s (.v 103 (.bin .add false (.t 101) (.t 102)))⟩,
    ⟨none, .s (.v 17 (.mov (.t 103)))⟩])
  (.seq (.region [⟨none, .s (.v 18 (.mov (.c (.int .i64 0))))⟩,
    ⟨none, .s (.v 19 (.mov (.c (.int .i64 0))))⟩])
  (.seq (.seq (.region [⟨none, .s (.v 104 (.mov (.t 2)))⟩,
    ⟨none, .s (.v 105 (.mov (.t 16)))⟩,
    ⟨none, .s (.v 106 (.bin .gtr false (.t 104) (.t 105)))⟩])
  (.cond (.t 106)
    (.seq (.region [⟨none, .s (.v 107 (.mov (.t 17)))⟩,
      ⟨none, .s (.v 108 (.mov (.t 3)))⟩,
      ⟨none, .s (.v 109 (.bin .sub false (.t 107) (.t 108)))⟩,
      ⟨none, .s (.v 18 (.mov (.t 109)))⟩])
    (.region [⟨none, .s (.v 110 (.mov (.t 16)))⟩,
      ⟨none, .s (.v 19 (.mov (.t 110)))⟩]))
    (.seq (.region [⟨none, .s (.v 111 (.mov (.t 1)))⟩,
      ⟨none, .s (.v 18 (.mov (.t 111)))⟩])
    (.region [⟨none, .s (.v 112 (.mov (.t 2)))⟩,
      ⟨none, .s (.v 19 (.mov (.t 112)))⟩]))))
  (.seq (.region [⟨none, .s (.v 113 (.mov (.t 17)))⟩,
    ⟨none, .s (.v 114 (.bin .sub false (.t 113) (.c (.int .i64 1))))⟩,
    ⟨none, .s (.v 20 (.mov (.t 114)))⟩])
  (.seq (.block 8 
    (.loop 
      (.seq (.seq (.region [⟨none, .s (.v 115 (.mov (.t 18)))⟩,
        ⟨none, .s (.v 116 (.mov (.t 19)))⟩,
        ⟨none, .s (.v 117 (.bin .lss false (.t 115) (.t 116)))⟩])
      (.cond (.t 117)
        .skip
        (.exit 8)))
      (.block 9 
        (.seq (.region [⟨none, .s (.v 118 (.mov (.t 18)))⟩,
          ⟨none, .s (.v 119 (.mov (.t 19)))⟩,
          ⟨none, .s (.v 120 (.bin .add false (.t 118) (.t 119)))⟩,
          ⟨none, .s (.v 121 (.conv .u64 (.t 120)))⟩,
          ⟨none, .s (.v 122 (.bin .shr false (.t 121) (.c (.int .u64 1))))⟩,
          ⟨none, .s (.v 123 (.conv .i64 (.t 122)))⟩,
          ⟨none, .s (.v 21 (.mov (.t 123)))⟩])
        (.seq (.region [⟨none, .s (.v 124 (.faddr 0 false 1 (.t 4)))⟩,
          ⟨none, .s (.v 125 (.load false 1 (.t 124)))⟩,
          ⟨none, .s (.v 126 (.mov (.t 20)))⟩,
          ⟨none, .s (.v 127 (.mov (.t 21)))⟩,
          ⟨none, .s (.v 128 (.bin .sub false (.t 126) (.t 127)))⟩,
          ⟨none, .s (.v 129 (.mov (.t 21)))⟩,
          ⟨none, .call (some 130) (.t 125) [(.t 128), (.t 129)]⟩,
          ⟨none, .s (.v 131 (.notB (.t 130)))⟩])
        (.cond (.t 131)
          (.region [⟨none, .s (.v 132 (.mov (.t 21)))⟩,
            ⟨none, .s (.v 133 (.bin .add false (.t 132) (.c (.int .i64 1))))⟩,
            ⟨none, .s (.v 18 (.mov (.t 133)))⟩])
          (.region [⟨none, .s (.v 134 (.mov (.t 21)))⟩,
            ⟨none, .s (.v 19 (.mov (.t 134)))⟩]))))))))
  (.seq (.region [⟨none, .s (.v 135 (.mov (.t 17)))⟩,
    ⟨none, .s (.v 136 (.mov (.t 18)))⟩,
    ⟨none, .s (.v 137 (.bin .sub false (.t 135) (.t 136)))⟩,
    ⟨none, .s (.v 22 (.mov (.t 137)))⟩])
  (.seq (.seq (.region [⟨none, .s (.v 138 (.mov (.t 18)))⟩,
    ⟨none, .s (.v 139 (.mov (.t 2)))⟩,
    ⟨none, .s (.v 140 (.bin .lss false (.t 138) (.t 139)))⟩,
    ⟨none, .s (.v 141 (.mov (.t 140)))⟩,
    ⟨(some (141, true)), .s (.v 142 (.mov (.t 2)))⟩,
    ⟨(some (141, true)), .s (.v 143 (.mov (.t 22)))⟩,
    ⟨(some (141, true)), .s (.v 144 (.bin .lss false (.t 142) (.t 143)))⟩,
    ⟨none, .s (.v 145 (.pick (.t 141) (.t 144) (.c (.bool false))))⟩])
  (.cond (.t 145)
    (.region [⟨none, .s (.v 146 (.load true 2 (.t 4)))⟩,
      ⟨none, .s (.v 147 (.mov (.t 18)))⟩,
      ⟨none, .s (.v 148 (.mov (.t 2)))⟩,
      ⟨none, .s (.v 149 (.mov (.t 22)))⟩,
      ⟨none, .call (some 150) (.c (.func 204 [])) [(.t 146), (.t 147), (.t 148), (.t 149)]⟩])
    .skip))
  (.seq (.seq (.region [⟨none, .s (.v 151 (.mov (.t 1)))⟩,
    ⟨none, .s (.v 152 (.mov (.t 18)))⟩,
    ⟨none, .s (.v 153 (.bin .lss false (.t 151) (.t 152)))⟩,
    ⟨none, .s (.v 154 (.mov (.t 153)))⟩,
    ⟨(some (154, true)), .s (.v 155 (.mov (.t 18)))⟩,
    ⟨(some (154, true)), .s (.v 156 (.mov (.t 16)))⟩,
    ⟨(some (154, true)), .s (.v 157 (.bin .lss false (.t 155) (.t 156)))⟩,
    ⟨none, .s (.v 158 (.pick (.t 154) (.t 157) (.c (.bool false))))⟩])
  (.cond (.t 158)
    (.region [⟨none, .s (.v 159 (.load true 2 (.t 4)))⟩,
      ⟨none, .s (.v 160 (.mov (.t 1)))⟩,
      ⟨none, .s (.v 161 (.mov (.t 18)))⟩,
      ⟨none, .s (.v 162 (.mov (.t 16)))⟩,
      ⟨none, .call (some 163) (.c (.func 182 [])) [(.t 159), (.t 160), (.t 161), (.t 162)]⟩])
    .skip))
  (.seq (.region [⟨none, .s (.v 164 (.mov (.t 16)))⟩,
    ⟨none, .s (.v 165 (.mov (.t 22)))⟩,
    ⟨none, .s (.v 166 (.bin .lss false (.t 164) (.t 165)))⟩,
    ⟨none, .s (.v 167 (.mov (.t 166)))⟩,
    ⟨(some (167, true)), .s (.v 168 (.mov (.t 22)))⟩,
    ⟨(some (167, true)), .s (.v 169 (.mov (.t 3)))⟩,
    ⟨(some (167, true)), .s (.v 170 (.bin .lss false (.t 168) (.t 169)))⟩,
    ⟨none, .s (.v 171 (.pick (.t 167) (.t 170) (.c (.bool false))))⟩])
  (.cond (.t 171)
    (.region [⟨none, .s (.v 172 (.load true 2 (.t 4)))⟩,
      ⟨none, .s (.v 173 (.mov (.t 16)))⟩,
      ⟨none, .s (.v 174 (.mov (.t 22)))⟩,
      ⟨none, .s (.v 175 (.mov (.t 3)))⟩,
      ⟨none, .call (some 176) (.c (.func 182 [])) [(.t 172), (.t 173), (.t 174), (.t 175)]⟩])
    .skip))))))))))))))
def r_sort_symMerge_func : List RV := []

/-- sort.rotate_func -/
def c_sort_rotate_func : C :=
  (.seq (.region [⟨none, .s (.box 4 none (.t 0))⟩])
  (.seq (.region [⟨none, .s (.v 10 (.mov (.t 2)))⟩,
    ⟨none, .s (.v 11 (.mov (.t 1)))⟩,
    ⟨none, .s (.v 12 (.bin .sub false (.t 10) (.t 11)))⟩,
    ⟨none, .s (.v 8 (.mov (.t 12)))⟩])
  (.seq (.region [⟨none, .s (.v 13 (.mov (.t 3)))⟩,
    ⟨none, .s (.v 14 (.mov (.t 2)))⟩,
    ⟨none, .s (.v 15 (.bin .sub false (.t 13) (.t 14)))⟩,
    ⟨none, .s (.v 9 (.mov (.t 15)))⟩])
  (.seq (.block 0 
    (.loop 
      (.seq (.seq (.region [⟨none, .s (.v 16 (.mov (.t 8)))⟩,
        ⟨none, .s (.v 17 (.mov (.t 9)))⟩,
        ⟨none, .s (.v 18 (.bin .neq false (.t 16) (.t 17)))⟩])
      (.cond (.t 18)
        .skip
        (.exit 0)))
      (.block 1 
        (.seq (.region [⟨none, .s (.v 19 (.mov (.t 8)))⟩,
          ⟨none, .s (.v 20 (.mov (.t 9)))⟩,
          ⟨none, .s (.v 21 (.bin .gtr false (.t 19) (.t 20)))⟩])
        (.cond (.t 21)
          (.seq (.region [⟨none, .s (.v 22 (.load true 2 (.t 4)))⟩,
            ⟨none, .s (.v 23 (.mov (.t 2)))⟩,
            ⟨none, .s (.v 24 (.mov (.t 8)))⟩,
            ⟨none, .s (.v 25 (.bin .sub false (.t 23) (.t 24)))⟩,
            ⟨none, .s (.v 26 (.mov (.t 2)))⟩,
            ⟨none, .s (.v 27 (.mov (.t 9)))⟩,
            ⟨none, .call (some 28) (.c (.func 226 [])) [(.t 22), (.t 25), (.t 26), (.t 27)]⟩])
          (.region [⟨none, .s (.v 29 (.mov (.t 8)))⟩,
            ⟨none, .s (.v 30 (.mov (.t 9)))⟩,
            ⟨none, .s (.v 31 (.bin .sub false (.t 29) (.t 30)))⟩,
            ⟨none, .s (.v 8 (.mov (.t 31)))⟩]))
          (.seq (.region [⟨none, .s (.v 32 (.load true 2 (.t 4)))⟩,
            ⟨none, .s (.v 33 (.mov (.t 2)))⟩,
            ⟨none, .s (.v 34 (.mov (.t 8)))⟩,
            ⟨none, .s (.v 35 (.bin .sub false (.t 33) (.t 34)))⟩,
            ⟨none, .s (.v 36 (.mov (.t 2)))⟩,
            ⟨none, .s (.v 37 (.mov (.t 9)))⟩,
            ⟨none, .s (.v 38 (.bin .add false (.t 36) (.t 37)))⟩,
            ⟨none, .s (.v 39 (.mov (.t 8)))⟩,
            ⟨none, .s (.v 40 (.bin .sub false (.t 38) (.t 39)))⟩,
            ⟨none, .s (.v 41 (.mov (.t 8)))⟩,
            ⟨none, .call (some 42) (.c (.func 226 [])) [(.t 32), (.t 35), (.t 40), (.t 41)]⟩])
          (.region [⟨none, .s (.v 43 (.mov (.t 9)))⟩,
            ⟨none, .s (.v 44 (.mov (.t 8)))⟩,
            ⟨none, .s (.v 45 (.bin .sub false (.t 43) (.t 44)))⟩,
            ⟨none, .s (.v 9 (.mov (.t 45)))⟩]))))))))
  (.region [⟨none, .s (.v 46 (.load true 2 (.t 4)))⟩,
    ⟨none, .s (.v 47 (.mov (.t 2)))⟩,
    ⟨none, .s (.v 48 (.mov (.t 8)))⟩,
    ⟨none, .s (.v 49 (.bin .sub false (.t 47) (.t 48)))⟩,
    ⟨none, .s (.v 50 (.mov (.t 2)))⟩,
    ⟨none, .s (.v 51 (.mov (.t 8)))⟩,
    ⟨none, .call (some 52) (.c (.func 226 [])) [(.t 46), (.t 49), (.t 50), (.t 51)]⟩])))))
def r_sort_rotate_func : List RV := []

/-- sort.swapRange_func -/
def c_sort_swapRange_func : C :=
  (.seq (.region [⟨none, .s (.box 4 none (.t 0))⟩])
  (.seq (.region [⟨none, .s (.v 8 (.mov (.c (.int .i64 0))))⟩])
  (.block 0 
    (.loop 
      (.seq (.seq (.region [⟨none, .s (.v 9 (.mov (.t 8)))⟩,
        ⟨none, .s (.v 10 (.mov (.t 3)))⟩,
        ⟨none, .s (.v 11 (.bin .lss false (.t 9) (.t 10)))⟩])
      (.cond (.t 11)
        .skip
        (.exit 0)))
      (.seq (.block 1 
        (.region [⟨none, .s (.v 14 (.faddr 1 false 1 (.t 4)))⟩,
          ⟨none, .s (.v 15 (.load false 1 (.t 14)))⟩,
          ⟨none, .s (.v 16 (.mov (.t 1)))⟩,
          ⟨none, .s (.v 17 (.mov (.t 8)))⟩,
          ⟨none, .s (.v 18 (.bin .add false (.t 16) (.t 17)))⟩,
          ⟨none, .s (.v 19 (.mov (.t 2)))⟩,
          ⟨none, .s (.v 20 (.mov (.t 8)))⟩,
          ⟨none, .s (.v 21 (.bin .add false (.t 19) (.t 20)))⟩,
          ⟨none, .call (some 22) (.t 15) [(.t 18), (.t 21)]⟩]))
      (.region [⟨none, .s (.v 12 (.mov (.t 8)))⟩,
        ⟨none, .s (.v 13 (.bin .add false (.t 12) (.c (.int .i64 1))))⟩,
        ⟨none, .s (.v 8 (.mov (.t 13)))⟩])))))))
def r_sort_swapRange_func : List RV := []
def tys3 : List (Nat × TF) := [
  (3, ⟨1, 8, .int .i64, .int .i64 0⟩),
  (163, ⟨1, 8, .other, .junk⟩),
  (182, ⟨1, 8, .int .u64, .int .u64 0⟩),
  (196, ⟨1, 8, .other, .junk⟩),
  (200, ⟨2, 16, .struct [(0, 163), (1, 196)], .agg [.junk, .junk]⟩)]
theorem tysok3 : tysOk Tryz.prog tys3 = true := by kernel_rfl
theorem ok_sort_stable_func : fnOk tys3 c_sort_stable_func r_sort_stable_func 2 Tryz.f154 = true := by kernel_rfl
theorem f_sort_stable_func : Tryz.prog.funcs[(154 : Nat)]? = some Tryz.f154 := Tryz.func154
theorem ok_sort_insertionSort_func : fnOk tys3 c_sort_insertionSort_func r_sort_insertionSort_func 3 Tryz.f181 = true := by kernel_rfl
theorem f_sort_insertionSort_func : Tryz.prog.funcs[(181 : Nat)]? = some Tryz.f181 := Tryz.func181
theorem ok_sort_symMerge_func : fnOk tys3 c_sort_symMerge_func r_sort_symMerge_func 4 Tryz.f182 = true := by kernel_rfl
theorem f_sort_symMerge_func : Tryz.prog.funcs[(182 : Nat)]? = some Tryz.f182 := Tryz.func182
theorem ok_sort_rotate_func : fnOk tys3 c_sort_rotate_func r_sort_rotate_func 4 Tryz.f204 = true := by kernel_rfl
theorem f_sort_rotate_func : Tryz.prog.funcs[(204 : Nat)]? = some Tryz.f204 := Tryz.func204
theorem ok_sort_swapRange_func : fnOk tys3 c_sort_swapRange_func r_sort_swapRange_func 4 Tryz.f226 = true := by kernel_rfl
theorem f_sort_swapRange_func : Tryz.prog.funcs[(226 : Nat)]? = some Tryz.f226 := Tryz.func226
end Go.Proofs.YtchidkafcdmciaaGreat
/- Contracts of the stable sort's functions over elements that only 'less' and 'swap' know: swapRange, rotate. -/
set_option linter.all false
namespace Go.Proofs.YtchidkafcdmciaaGreat
open Go Go.Pv

/-- What a sort is handed: less and swap, and what they do to the objects S. -/
structure Srt {α : Type} (S : List α → Obs) (n : Nat) (g sf : Nat) (lc sc : List PV) (lt : α → α → Bool) : Prop where
  ok : ∀ l, ObOk (S l)
  same : ∀ l l', l.length = n → l'.length = n → Same (S l) (S l')
  klc : ∀ l, l.length = n → kinL (inObs (S l)) lc
  ksc : ∀ l, l.length = n → kinL (inObs (S l)) sc
  slc : stripL lc = lc
  ssc : stripL sc = sc
  le : n ≤ 1000000
  less : ∀ l, l.length = n → ∀ (i j : Nat) x y, l[i]? = some x → l[j]? = some y → FnG Tryz.prog g (.int .i64 i :: .int .i64 j :: lc) (S l) fun r s' => r = .bool (lt x y) ∧ s' = S l
  swap : ∀ l, l.length = n → ∀ i j : Nat, i < n → j < n → i ≠ j → FnG Tryz.prog sf (.int .i64 i :: .int .i64 j :: sc) (S l) fun r s' => r = .tuple [] ∧ s' = S (lswp l i j)
variable {α : Type} {S : List α → Obs} {n g sf : Nat} {lc sc : List PV} {lt : α → α → Bool}
def dataE (g sf : Nat) (lc sc : List PV) : PV := .agg [.func g lc, .func sf sc]

set_option maxHeartbeats 1000000 in
theorem g_swapRange (H : Srt S n g sf lc sc lt) (l : List α) (hl : l.length = n) (a b c : Nat) (hac : a + c ≤ b) (hbc : b + c ≤ n) :
    FnG Tryz.prog 226 [dataE g sf lc sc, .int .i64 a, .int .i64 b, .int .i64 c] (S l) fun r s' => r = .tuple [] ∧ ∃ l', s' = S l' ∧ Seg a (b + c) l l' ∧ ∀ k, l'[k]? = l[swI a b c k]? := by
  have hs := H.ok l
  have hn : ∀ l m, Pv.look (.loc m) (S l).b = none := fun l => (H.ok l).obj.1
  have hu : ∀ l m cs, upd (.loc m) cs (S l).b = (S l).b ++ [(.loc m, cs)] := fun l m cs => upd_fresh (hn l m)
  have ho : ∀ m, Key.loc m ∉ obsIds (S l) := loc_notin hs.obj
  have hle := H.le
  refine FnG.mk mixed tysok3 f_sort_swapRange_func ok_sort_swapRange_func (by simp) hs.obj fun hbnd hbb => ?_; unfold c_sort_swapRange_func
  simp [dataE, hu, ho, look_app, hn, H.slc, H.ssc]
  refine evC_rng (fun i (lk : List α) => ⟨[(1, .int .i64 a), (2, .int .i64 b), (3, .int .i64 c), (4, .ptr (.loc 0) 0), (8, .int .i64 i)], [(.loc 0, [.func g lc, .func sf sc])] ++ (S lk).b, (S lk).e, 1, obsIds (S l)⟩) c (fun i lk => lk.length = n ∧ Seg a (b + c) l lk ∧ ∀ k, lk[k]? = l[swI a b i k]?) l
    (Weaker.obL hs (Same.refl _) (by simp [kin]) (by simp [look_app, hn, kin, kinL, nmL_kinL (H.klc l hl), nmL_kinL (H.ksc l hl)]) (by first | (refine kpL ?_; simp; done) | (intro k x hx; first | exact hx | (simp [hx, without_self]; done) | (simp [look_app, without_self, hx]; done) | (cases k <;> simp_all [look_app]; done))) (by first | (refine kpL ?_; simp; done) | (intro k x hx; first | exact hx | (simp [hx, without_self]; done) | (simp [look_app, without_self, hx]; done) | (cases k <;> simp_all [look_app]; done)))) ⟨hl, .refl _, fun k => by simp [swI]; split <;> (try split) <;> (try rfl) <;> (exfalso; omega)⟩ ?_ ?_
  · rintro lk ⟨h1, h2, h3⟩ _
    simp
    refine RetQ.at (S lk) (.inr rfl) (H.ok lk) (H.same _ _ hl h1) (by first | (refine kpL ?_; simp; done) | (intro k x hx; first | exact hx | (simp [hx, without_self]; done) | (simp [look_app, without_self, hx]; done) | (cases k <;> simp_all [look_app]; done))) (by first | (refine kpL ?_; simp; done) | (intro k x hx; first | exact hx | (simp [hx, without_self]; done) | (simp [look_app, without_self, hx]; done) | (cases k <;> simp_all [look_app]; done))) ?_
    simp [ResIs, r_sort_swapRange_func, resL, resV, tup]
    exact ⟨lk, rfl, h2, h3⟩
  · rintro i lk hi ⟨h1, h2, h3⟩ _
    have e1 : ((a : Int) + i) = (a + i : Nat) := by omega
    have e2 : ((b : Int) + i) = (b + i : Nat) := by omega
    simp [hi, look_app, hn, H.ssc]
    (repeat' first | (with_reducible refine evCd_split (fun h => ?_) (fun h => ?_) <;> (try simp at h)) | (with_reducible refine evGd_split (fun h => ?_) (fun h => ?_) <;> (try simp at h)) | (with_reducible refine evDd_split (fun h => ?_) (fun h => ?_) <;> (try simp at h)) | with_reducible refine And.intro (by (first | omega | (unfold in64; omega))) ?_ | simp)
    rw [e1, e2]
    refine CallDo.ob (H.swap lk h1 (a + i) (b + i) (by omega) (by omega) (by omega)) (H.ok lk) (by first | (refine kpL ?_; simp; done) | (intro k x hx; first | exact hx | (simp [hx, without_self]; done) | (simp [look_app, without_self, hx]; done) | (cases k <;> simp_all [look_app]; done))) (by first | (refine kpL ?_; simp; done) | (intro k x hx; first | exact hx | (simp [hx, without_self]; done) | (simp [look_app, without_self, hx]; done) | (cases k <;> simp_all [look_app]; done))) (by simp [H.ksc lk h1]) ?_
    rintro r s' ⟨rfl, rfl⟩
    refine ⟨H.same _ _ h1 (by simp [h1]), ?_⟩
    simp [without_self, without_append, without, hn]
    (repeat' first | (with_reducible refine evCd_split (fun h => ?_) (fun h => ?_) <;> (try simp at h)) | (with_reducible refine evGd_split (fun h => ?_) (fun h => ?_) <;> (try simp at h)) | (with_reducible refine evDd_split (fun h => ?_) (fun h => ?_) <;> (try simp at h)) | with_reducible refine And.intro (by (first | omega | (unfold in64; omega))) ?_ | simp)
    refine LoopQ.rng (lswp lk (a + i) (b + i)) hi ⟨by simp [h1], .step h2 (by omega) (by omega) (by omega) (by omega) (by omega) (by omega), fun k => ?_⟩ (Weaker.obL (L := [(.loc 0, [.func g lc, .func sf sc])]) (H.ok _) (H.same _ _ hl (by simp [h1])) (by simp [kin]) (by simp [look_app, hn, kin, kinL, nmL_kinL (H.klc (lswp lk (a + i) (b + i)) (by simp [h1])), nmL_kinL (H.ksc (lswp lk (a + i) (b + i)) (by simp [h1]))]) (by first | (refine kpL ?_; simp; done) | (intro k x hx; first | exact hx | (simp [hx, without_self]; done) | (simp [look_app, without_self, hx]; done) | (cases k <;> simp_all [look_app]; done))) (by first | (refine kpL ?_; simp; done) | (intro k x hx; first | exact hx | (simp [hx, without_self]; done) | (simp [look_app, without_self, hx]; done) | (cases k <;> simp_all [look_app]; done))))
    rw [lswp_get _ _ _ _ (by omega) (by omega), h3, h3, h3]
    have : swI a b (i + 1) k = if k = a + i then swI a b i (b + i) else if k = b + i then swI a b i (a + i) else swI a b i k := by
      simp only [swI]; repeat' split
      all_goals omega
    rw [this]
    split
    · rfl
    · split <;> rfl

section
variable (H : Srt S n g sf lc sc lt)
include H
theorem Srt.loc {l : List α} (m : Nat) : Pv.look (.loc m) (S l).b = none := (H.ok l).obj.1 m
theorem Srt.weak {l lk : List α} (hl : l.length = n) (hk : lk.length = n) {st : St} {t' : List (Nat × PV)} (ht : ∀ x ∈ t', Pv.get x.1 st.t = x.2 ∧ kin (nmL (S lk) 1) x.2) (h0 : Pv.look (.loc 0) st.b = some [.func g lc, .func sf sc])
    (hb : ∀ k cs, Pv.look k (S lk).b = some cs → Pv.look k st.b = some cs) (he : ∀ k o, Pv.look k (S lk).e = some o → Pv.look k st.e = some o) :
    Weaker (obsIds (S l)) st ⟨t', (.loc 0, [.func g lc, .func sf sc]) :: (S lk).b, (S lk).e, 1, obsIds (S l)⟩ :=
  Weaker.obL (L := [(.loc 0, [.func g lc, .func sf sc])]) (H.ok _) (H.same _ _ hl hk) ht (by simp [h0, kin, kinL, nmL_kinL (H.klc lk hk), nmL_kinL (H.ksc lk hk)]) hb he
theorem Srt.weakC {l lk : List α} (hl : l.length = n) (hk : lk.length = n) {t t' : List (Nat × PV)} {q : Nat} {o : List Key} (ht : ∀ x ∈ t', Pv.get x.1 t = x.2 ∧ kin (nmL (S lk) 1) x.2) :
    Weaker (obsIds (S l)) ⟨t, (.loc 0, [.func g lc, .func sf sc]) :: (S lk).b, (S lk).e, q, o⟩ ⟨t', (.loc 0, [.func g lc, .func sf sc]) :: (S lk).b, (S lk).e, 1, obsIds (S l)⟩ :=
  H.weak hl hk ht (by simp [Pv.look]) (fun k cs hx => by
    cases k with
    | loc m => rw [H.loc m] at hx; cases hx
    | obj m => simpa [Pv.look] using hx) (fun _ _ hx => hx)
theorem Srt.call {lk : List α} (h1 : lk.length = n) {f : Nat} {args : List PV} {R : PV → List α → Prop} (hf : FnG Tryz.prog f args (S lk) fun r s' => ∃ l', s' = S l' ∧ R r l') (hR : ∀ r l', R r l' → l'.length = n) (hk : kinL (inObs (S lk)) args) {t : List (Nat × PV)} {D : List PV} {o : List Key} {d : Option Nat} {K : St → Prop}
    (h : ∀ r l', R r l' → K ⟨putO d r t, (.loc 0, D) :: (S l').b, (S l').e, 1, o ++ obsIds (S l')⟩) : CallDo Tryz.prog f args ⟨t, (.loc 0, D) :: (S lk).b, (S lk).e, 1, o⟩ d K := by
  refine CallDo.ob hf (H.ok lk) (fun k cs hx => ?_) (fun _ _ hx => hx) hk ?_
  · cases k with
    | loc m => rw [H.loc m] at hx; cases hx
    | obj m => simpa [Pv.look] using hx
  · rintro r s' ⟨l', rfl, hr⟩
    refine ⟨H.same _ _ h1 (hR _ _ hr), ?_⟩
    have e1 : without (S lk).b ((.loc 0, D) :: (S lk).b) = [(.loc 0, D)] := by
      have := without_append (S lk).b [(Key.loc 0, D)] (S lk).b
      rw [without_self] at this
      simpa [without, H.loc] using this
    have e2 : without (S lk).e (S lk).e = [] := without_self _
    have := h _ _ hr
    simp only [e1, e2]
    exact this
theorem Srt.doSwap {lk : List α} (h1 : lk.length = n) (i j : Nat) (hi : i < n) (hj : j < n) (hij : i ≠ j) {t : List (Nat × PV)} {D : List PV} {o : List Key} {d : Option Nat} {K : St → Prop}
    (h : K ⟨putO d (.tuple []) t, (.loc 0, D) :: (S (lswp lk i j)).b, (S (lswp lk i j)).e, 1, o ++ obsIds (S (lswp lk i j))⟩) : CallDo Tryz.prog sf (.int .i64 i :: .int .i64 j :: sc) ⟨t, (.loc 0, D) :: (S lk).b, (S lk).e, 1, o⟩ d K :=
  H.call h1 (R := fun r l' => r = .tuple [] ∧ l' = lswp lk i j) ((H.swap lk h1 i j hi hj hij).mono fun r s' ⟨e1, e2⟩ => ⟨_, e2, e1, rfl⟩) (fun r l' ⟨_, e⟩ => by rw [e]; simp [h1]) (by simp [kin, kinL, H.ksc lk h1]) (by rintro r l' ⟨rfl, rfl⟩; exact h)
theorem Srt.doLess {lk : List α} (h1 : lk.length = n) (i j : Nat) {x y : α} (hi : lk[i]? = some x) (hj : lk[j]? = some y) {t : List (Nat × PV)} {D : List PV} {o : List Key} {d : Option Nat} {K : St → Prop}
    (h : K ⟨putO d (.bool (lt x y)) t, (.loc 0, D) :: (S lk).b, (S lk).e, 1, o ++ obsIds (S lk)⟩) : CallDo Tryz.prog g (.int .i64 i :: .int .i64 j :: lc) ⟨t, (.loc 0, D) :: (S lk).b, (S lk).e, 1, o⟩ d K :=
  H.call h1 (R := fun r l' => r = .bool (lt x y) ∧ l' = lk) ((H.less lk h1 i j x y hi hj).mono fun r s' ⟨e1, e2⟩ => ⟨_, e2, e1, rfl⟩) (fun r l' ⟨_, e⟩ => by rw [e]; exact h1) (by simp [kin, kinL, H.klc lk h1]) (by rintro r l' ⟨rfl, rfl⟩; exact h)
theorem Srt.doFn {lk : List α} (h1 : lk.length = n) {f : Nat} {args : List PV} {R : List α → Prop} (hf : FnG Tryz.prog f args (S lk) fun r s' => r = .tuple [] ∧ ∃ l', s' = S l' ∧ R l') (hR : ∀ l', R l' → l'.length = n) (hk : kinL (inObs (S lk)) args) {t : List (Nat × PV)} {D : List PV} {o : List Key} {d : Option Nat} {K : St → Prop}
    (h : ∀ l', R l' → K ⟨putO d (.tuple []) t, (.loc 0, D) :: (S l').b, (S l').e, 1, o ++ obsIds (S l')⟩) : CallDo Tryz.prog f args ⟨t, (.loc 0, D) :: (S lk).b, (S lk).e, 1, o⟩ d K :=
  H.call h1 (R := fun r l' => r = .tuple [] ∧ R l') (hf.mono fun r s' ⟨e1, l', e2, e3⟩ => ⟨l', e2, e1, e3⟩) (fun r l' h => hR l' h.2) hk (by rintro r l' ⟨rfl, hr⟩; exact h l' hr)
theorem Srt.kdata {lk : List α} (h1 : lk.length = n) : kin (inObs (S lk)) (dataE g sf lc sc) := by simp [dataE, kin, kinL, H.klc lk h1, H.ksc lk h1]
theorem Srt.ret {l lk : List α} (hl : l.length = n) (h1 : lk.length = n) {Q : PV → Obs → Prop} {e : Exit} (he : e = .ret ∨ e = .normal) {t : List (Nat × PV)} {D : List PV} {q : Nat} {o : List Key} (hq : Q (.tuple []) (S lk)) : RetQ [] (S l) Q e ⟨t, (.loc 0, D) :: (S lk).b, (S lk).e, q, o⟩ := by
  refine RetQ.at (S lk) he (H.ok lk) (H.same _ _ hl h1) (fun k cs hx => ?_) (fun _ _ hx => hx) ?_
  · cases k with
    | loc m => rw [H.loc m] at hx; cases hx
    | obj m => simpa [Pv.look] using hx
  · simp [ResIs, resL, tup, kin, kinL, hq]
end
theorem strip_data (H : Srt S n g sf lc sc lt) : strip (dataE g sf lc sc) = dataE g sf lc sc := by simp [dataE, strip, stripL, H.slc, H.ssc]
theorem agg_data : PV.agg [.func g lc, .func sf sc] = dataE g sf lc sc := rfl

set_option maxHeartbeats 1000000 in
theorem g_rotate (H : Srt S n g sf lc sc lt) (l : List α) (hl : l.length = n) (a m b : Nat) (ham : a < m) (hmb : m < b) (hb : b ≤ n) :
    FnG Tryz.prog 204 [dataE g sf lc sc, .int .i64 a, .int .i64 m, .int .i64 b] (S l) fun r s' => r = .tuple [] ∧ ∃ l', s' = S l' ∧ Seg a b l l' ∧ ∀ k, l'[k]? = l[rotI a m b k]? := by
  have hs := H.ok l
  have hn : ∀ l m, Pv.look (.loc m) (S l).b = none := fun l => (H.ok l).obj.1
  have hu : ∀ l m cs, upd (.loc m) cs (S l).b = (S l).b ++ [(.loc m, cs)] := fun l m cs => upd_fresh (hn l m)
  have ho : ∀ m, Key.loc m ∉ obsIds (S l) := loc_notin hs.obj
  have hle := H.le
  refine FnG.mk mixed tysok3 f_sort_rotate_func ok_sort_rotate_func (by simp) hs.obj fun hbnd hbb => ?_; unfold c_sort_rotate_func
  simp [dataE, hu, ho, look_app, hn]
  (repeat' first | (with_reducible refine evCd_split (fun h => ?_) (fun h => ?_) <;> (try simp at h)) | (with_reducible refine evGd_split (fun h => ?_) (fun h => ?_) <;> (try simp at h)) | (with_reducible refine evDd_split (fun h => ?_) (fun h => ?_) <;> (try simp at h)) | with_reducible refine And.intro (by (first | omega | (unfold in64; omega))) ?_ | simp [hu, ho, look_app, hn])
  refine evC_whl (fun (x : (Nat × Nat) × List α) => ⟨[(2, .int .i64 m), (4, .ptr (.loc 0) 0), (8, .int .i64 x.1.1), (9, .int .i64 x.1.2)], (.loc 0, [.func g lc, .func sf sc]) :: (S x.2).b, (S x.2).e, 1, obsIds (S l)⟩) (fun x => x.1.1 + x.1.2)
    (fun x => x.2.length = n ∧ 0 < x.1.1 ∧ 0 < x.1.2 ∧ a + x.1.1 ≤ m ∧ m + x.1.2 ≤ b ∧ Seg a b l x.2 ∧ ∀ k, l[rotI a m b k]? = x.2[rotI (m - x.1.1) m (m + x.1.2) k]?) ((m - a, b - m), l)
    (H.weak hl hl (by simp [kin]; omega) (by simp [look_app, hn]) (by first | (refine kpL ?_; simp; done) | (intro k x hx; first | exact hx | (simp [hx, without_self]; done) | (simp [look_app, without_self, hx]; done) | (cases k <;> simp_all [look_app]; done))) (by first | (refine kpL ?_; simp; done) | (intro k x hx; first | exact hx | (simp [hx, without_self]; done) | (simp [look_app, without_self, hx]; done) | (cases k <;> simp_all [look_app]; done)))) ⟨hl, by simp; omega, by simp; omega, by simp; omega, by simp; omega, .refl _, fun k => by simp [show m - (m - a) = a by omega, show m + (b - m) = b by omega]⟩ ?_
  rintro ⟨⟨i, j⟩, lk⟩ ⟨h1, hi, hj, hia, hjb, h2, h3⟩ _
  simp only at h1 hi hj hia hjb h2 h3
  simp [Pv.look]
  (repeat' first | (with_reducible refine evCd_split (fun h => ?_) (fun h => ?_) <;> (try simp at h)) | (with_reducible refine evGd_split (fun h => ?_) (fun h => ?_) <;> (try simp at h)) | (with_reducible refine evDd_split (fun h => ?_) (fun h => ?_) <;> (try simp at h)) | with_reducible refine And.intro (by (first | omega | (unfold in64; omega))) ?_ | simp [Pv.look])
  · have e1 : ((m : Int) - i) = (m - i : Nat) := by omega
    simp only [strip_data H, H.slc, H.ssc, e1, agg_data]
    refine H.doFn h1 (g_swapRange H lk h1 (m - i) m j (by omega) (by omega)) (fun l' h => by rw [h.1.length]; exact h1) (by simp [kinL, kin, H.kdata h1]) ?_
    rintro l' ⟨q1, q2⟩
    have q3 : l'.length = n := by rw [q1.length]; exact h1
    simp
    (repeat' first | (with_reducible refine evCd_split (fun h => ?_) (fun h => ?_) <;> (try simp at h)) | (with_reducible refine evGd_split (fun h => ?_) (fun h => ?_) <;> (try simp at h)) | (with_reducible refine evDd_split (fun h => ?_) (fun h => ?_) <;> (try simp at h)) | with_reducible refine And.intro (by (first | omega | (unfold in64; omega))) ?_ | simp)
    refine LoopQ.whl ((i - j, j), l') (by simp; omega) ⟨q3, by simp; omega, hj, by simp; omega, hjb, h2.trans (q1.mono (by omega) (by omega)), fun k => ?_⟩ (H.weakC hl q3 (by simp [kin]; omega))
    rw [h3, q2]
    congr 1
    simp only [rotI, swI]
    repeat' split
    all_goals omega
  · have e1 : ((m : Int) - i) = (m - i : Nat) := by omega
    have e2 : ((m : Int) + j - i) = (m + j - i : Nat) := by omega
    simp only [strip_data H, H.slc, H.ssc, e1, e2, agg_data]
    refine H.doFn h1 (g_swapRange H lk h1 (m - i) (m + j - i) i (by omega) (by omega)) (fun l' h => by rw [h.1.length]; exact h1) (by simp [kinL, kin, H.kdata h1]) ?_
    rintro l' ⟨q1, q2⟩
    have q3 : l'.length = n := by rw [q1.length]; exact h1
    simp
    (repeat' first | (with_reducible refine evCd_split (fun h => ?_) (fun h => ?_) <;> (try simp at h)) | (with_reducible refine evGd_split (fun h => ?_) (fun h => ?_) <;> (try simp at h)) | (with_reducible refine evDd_split (fun h => ?_) (fun h => ?_) <;> (try simp at h)) | with_reducible refine And.intro (by (first | omega | (unfold in64; omega))) ?_ | simp)
    refine LoopQ.whl ((i, j - i), l') (by simp; omega) ⟨q3, hi, by simp; omega, hia, by simp; omega, h2.trans (q1.mono (by omega) (by omega)), fun k => ?_⟩ (H.weakC hl q3 (by simp [kin]; omega))
    rw [h3, q2]
    congr 1
    simp only [rotI, swI]
    repeat' split
    all_goals omega
  · have e1 : ((m : Int) - i) = (m - i : Nat) := by omega
    simp only [strip_data H, H.slc, H.ssc, e1, agg_data]
    refine H.doFn h1 (g_swapRange H lk h1 (m - i) m i (by omega) (by omega)) (fun l' h => by rw [h.1.length]; exact h1) (by simp [kinL, kin, H.kdata h1]) ?_
    rintro l' ⟨q1, q2⟩
    have q3 : l'.length = n := by rw [q1.length]; exact h1
    simp
    refine H.ret hl q3 (.inr rfl) ⟨rfl, l', rfl, h2.trans (q1.mono (by omega) (by omega)), fun k => ?_⟩
    rw [h3, q2]
    congr 1
    simp only [rotI, swI]
    repeat' split
    all_goals omega
end Go.Proofs.YtchidkafcdmciaaGreat
/- Contracts of the stable sort's functions: insertionSort, symMerge, stable. -/
set_option linter.all false
namespace Go.Proofs.YtchidkafcdmciaaGreat
open Go Go.Pv
variable {α : Type} {S : List α → Obs} {n g sf : Nat} {lc sc : List PV} {lt : α → α → Bool}

/-- In order but for what stands at j. -/
def SrtBut (lt : α → α → Bool) (a b j : Nat) (l : List α) : Prop := ∀ p q x y, a ≤ p → p < q → q < b → q ≠ j → l[p]? = some x → l[q]? = some y → lt y x = false
theorem SrtBut.swap (hlt : LtOk lt) {a b j : Nat} {l : List α} (h : SrtBut lt a b (j + 1) l) (haj : a ≤ j) (hjb : j + 1 < b) (hj : j + 1 < l.length) {x y : α} (hx : l[j + 1]? = some x) (hy : l[j]? = some y) (hxy : lt x y = true) : SrtBut lt a b j (lswp l (j + 1) j) := by
  intro p q u v hp hpq hq hqj hu hv
  rw [lswp_get _ _ _ _ hj (by omega)] at hu hv
  rw [if_neg (by omega : ¬(q = j))] at hv
  split at hv
  · rename_i e; subst e
    rw [hy] at hv; cases hv
    split at hu
    · omega
    · split at hu
      · rw [hx] at hu; cases hu; exact hlt.asym _ _ hxy
      · exact h p j u y hp (by omega) (by omega) (by omega) hu hy
  · split at hu
    · rename_i e; subst e
      rw [hy] at hu; cases hu
      exact h j q y v haj (by omega) hq (by omega) hy hv
    · split at hu
      · rename_i e; subst e
        rw [hx] at hu; cases hu
        exact h (p + 1) q x v (by omega) (by omega) hq (by omega) hx hv
      · exact h p q u v hp hpq hq (by omega) hu hv
theorem SrtBut.done (hlt : LtOk lt) {a b j : Nat} {l : List α} (h : SrtBut lt a b (j + 1) l) (haj : a ≤ j) (hjb : j + 1 < b) {x y : α} (hx : l[j + 1]? = some x) (hy : l[j]? = some y) (hxy : lt x y = false) : SrtIn lt a b l := by
  intro p q u v hp hpq hq hu hv
  by_cases e : q = j + 1
  · subst e
    rw [hx] at hv; cases hv
    by_cases e2 : p = j
    · subst e2; rw [hy] at hu; cases hu; exact hxy
    · exact hlt.ntr _ _ _ (h p j u y hp (by omega) (by omega) (by omega) hu hy) hxy
  · exact h p q u v hp hpq hq e hu hv
theorem SrtBut.first {a b : Nat} {l : List α} (h : SrtBut lt a b a l) : SrtIn lt a b l := fun p q u v hp hpq hq hu hv => h p q u v hp hpq hq (by omega) hu hv
theorem SrtIn.but {a b : Nat} {l : List α} (h : SrtIn lt a b l) : SrtBut lt a (b + 1) b l := fun p q u v hp hpq hq hqb hu hv => h p q u v hp hpq (by omega) hu hv

set_option maxHeartbeats 1000000 in
theorem g_insertionSort (H : Srt S n g sf lc sc lt) (hlt : LtOk lt) (l : List α) (hl : l.length = n) (a b : Nat) (hab : a ≤ b) (hb : b ≤ n) :
    FnG Tryz.prog 181 [dataE g sf lc sc, .int .i64 a, .int .i64 b] (S l) fun r s' => r = .tuple [] ∧ ∃ l', s' = S l' ∧ Seg a b l l' ∧ SrtIn lt a b l' := by
  have hs := H.ok l
  have hn : ∀ l m, Pv.look (.loc m) (S l).b = none := fun l => (H.ok l).obj.1
  have hu : ∀ l m cs, upd (.loc m) cs (S l).b = (S l).b ++ [(.loc m, cs)] := fun l m cs => upd_fresh (hn l m)
  have ho : ∀ m, Key.loc m ∉ obsIds (S l) := loc_notin hs.obj
  have hle := H.le
  refine FnG.mk mixed tysok3 f_sort_insertionSort_func ok_sort_insertionSort_func (by simp) hs.obj fun hbnd hbb => ?_; unfold c_sort_insertionSort_func
  simp [dataE, hu, ho, look_app, hn]
  (repeat' first | (with_reducible refine evCd_split (fun h => ?_) (fun h => ?_) <;> (try simp at h)) | (with_reducible refine evGd_split (fun h => ?_) (fun h => ?_) <;> (try simp at h)) | (with_reducible refine evDd_split (fun h => ?_) (fun h => ?_) <;> (try simp at h)) | with_reducible refine And.intro (by (first | omega | (unfold in64; omega))) ?_ | simp [hu, ho, look_app, hn])
  refine evC_whl (fun (x : Nat × List α) => ⟨[(1, .int .i64 a), (2, .int .i64 b), (3, .ptr (.loc 0) 0), (6, .int .i64 x.1)], (.loc 0, [.func g lc, .func sf sc]) :: (S x.2).b, (S x.2).e, 1, obsIds (S l)⟩) (fun x => b + 1 - x.1)
    (fun x => x.2.length = n ∧ a < x.1 ∧ x.1 ≤ b + 1 ∧ (x.1 ≤ b ∨ x.1 = a + 1) ∧ Seg a b l x.2 ∧ SrtIn lt a x.1 x.2) (a + 1, l)
    (H.weak hl hl (by simp [kin]) (by simp [look_app, hn]) (by first | (refine kpL ?_; simp; done) | (intro k x hx; first | exact hx | (simp [hx, without_self]; done) | (simp [look_app, without_self, hx]; done) | (cases k <;> simp_all [look_app]; done))) (by first | (refine kpL ?_; simp; done) | (intro k x hx; first | exact hx | (simp [hx, without_self]; done) | (simp [look_app, without_self, hx]; done) | (cases k <;> simp_all [look_app]; done)))) ⟨hl, by simp, by simp; omega, .inr rfl, .refl _, fun i j x y h1 h2 h3 => by simp at h3; omega⟩ ?_
  rintro ⟨i, lk⟩ ⟨h1, hai, hib, hor, h2, h3⟩ _
  simp only at h1 hai hib hor h2 h3
  simp
  (repeat' first | (with_reducible refine evCd_split (fun h => ?_) (fun h => ?_) <;> (try simp at h)) | (with_reducible refine evGd_split (fun h => ?_) (fun h => ?_) <;> (try simp at h)) | (with_reducible refine evDd_split (fun h => ?_) (fun h => ?_) <;> (try simp at h)) | with_reducible refine And.intro (by (first | omega | (unfold in64; omega))) ?_ | simp)
  · refine evC_whl (fun (x : Nat × List α) => ⟨[(1, .int .i64 a), (2, .int .i64 b), (3, .ptr (.loc 0) 0), (6, .int .i64 i), (7, .int .i64 x.1)], (.loc 0, [.func g lc, .func sf sc]) :: (S x.2).b, (S x.2).e, 1, obsIds (S l)⟩) (fun x => x.1)
      (fun x => x.2.length = n ∧ a ≤ x.1 ∧ x.1 ≤ i ∧ Seg a b l x.2 ∧ SrtBut lt a (i + 1) x.1 x.2) (i, lk)
      (H.weakC hl h1 (by simp [kin])) ⟨h1, by simp; omega, by simp, h2, SrtIn.but h3⟩ ?_
    rintro ⟨j, lj⟩ ⟨k1, kaj, kji, k2, k3⟩ _
    simp only at k1 kaj kji k2 k3
    simp [Pv.look]
    (repeat' first | (with_reducible refine evCd_split (fun h => ?_) (fun h => ?_) <;> (try simp at h)) | (with_reducible refine evGd_split (fun h => ?_) (fun h => ?_) <;> (try simp at h)) | (with_reducible refine evDd_split (fun h => ?_) (fun h => ?_) <;> (try simp at h)) | with_reducible refine And.intro (by (first | omega | (unfold in64; omega))) ?_ | simp [Pv.look])
    · obtain ⟨j', rfl⟩ : ∃ j', j = j' + 1 := ⟨j - 1, by omega⟩
      obtain ⟨x, hx⟩ : ∃ x, lj[j' + 1]? = some x := ⟨_, List.getElem?_eq_getElem (by omega)⟩
      obtain ⟨y, hy⟩ : ∃ y, lj[j']? = some y := ⟨_, List.getElem?_eq_getElem (by omega)⟩
      have e1 : (((j' + 1 : Nat) : Int) - 1) = (j' : Nat) := by omega
      rw [H.slc, e1]
      refine H.doLess k1 (j' + 1) j' hx hy ?_
      simp
      cases hxy : lt x y with
      | true =>
        simp [Pv.look]
        (repeat' first | (with_reducible refine evCd_split (fun h => ?_) (fun h => ?_) <;> (try simp at h)) | (with_reducible refine evGd_split (fun h => ?_) (fun h => ?_) <;> (try simp at h)) | (with_reducible refine evDd_split (fun h => ?_) (fun h => ?_) <;> (try simp at h)) | with_reducible refine And.intro (by (first | omega | (unfold in64; omega))) ?_ | simp [Pv.look])
        have e3 : ((j' : Int) + 1) = (j' + 1 : Nat) := by omega
        rw [H.ssc, e3]
        refine H.doSwap k1 (j' + 1) j' (by omega) (by omega) (by omega) ?_
        simp
        (repeat' first | (with_reducible refine evCd_split (fun h => ?_) (fun h => ?_) <;> (try simp at h)) | (with_reducible refine evGd_split (fun h => ?_) (fun h => ?_) <;> (try simp at h)) | (with_reducible refine evDd_split (fun h => ?_) (fun h => ?_) <;> (try simp at h)) | with_reducible refine And.intro (by (first | omega | (unfold in64; omega))) ?_ | simp)
        refine LoopQ.whl (j', lswp lj (j' + 1) j') (by simp) ⟨by simp [k1], by simp; omega, by simp; omega, .step k2 (by omega) (by omega) (by omega) (by omega) (by omega) (by omega), k3.swap hlt (by omega) (by omega) (by omega) hx hy hxy⟩ (H.weakC hl (by simp [k1]) (by simp [kin]))
      | false =>
        simp
        (repeat' first | (with_reducible refine evCd_split (fun h => ?_) (fun h => ?_) <;> (try simp at h)) | (with_reducible refine evGd_split (fun h => ?_) (fun h => ?_) <;> (try simp at h)) | (with_reducible refine evDd_split (fun h => ?_) (fun h => ?_) <;> (try simp at h)) | with_reducible refine And.intro (by (first | omega | (unfold in64; omega))) ?_ | simp)
        refine LoopQ.whl (i + 1, lj) (by simp; omega) ⟨k1, by simp; omega, by simp; omega, by simp; omega, k2, k3.done hlt (by omega) (by omega) hx hy hxy⟩ (H.weakC hl k1 (by simp [kin]))
    · obtain rfl : j = a := by omega
      refine LoopQ.whl (i + 1, lj) (by simp; omega) ⟨k1, by simp; omega, by simp; omega, by simp; omega, k2, k3.first⟩ (H.weakC hl k1 (by simp [kin]))
  · refine H.ret hl h1 (.inr rfl) ⟨rfl, lk, rfl, h2, fun p q x y hp hpq hq => h3 p q x y hp hpq (by omega)⟩
end Go.Proofs.YtchidkafcdmciaaGreat
/- The symmetric merge, plainly; its contract; the stable sort's. -/
set_option linter.all false
namespace Go.Proofs.YtchidkafcdmciaaGreat
open Go Go.Pv
variable {α : Type} {S : List α → Obs} {n g sf : Nat} {lc sc : List PV} {lt : α → α → Bool}

theorem merge1 (hlt : LtOk lt) {l lk : List α} {a b i : Nat} (hai : a + 1 ≤ i) (hib : i ≤ b) (hb : b ≤ l.length) (hs : SrtIn lt (a + 1) b l) {z : α} (hz : l[a]? = some z) (hlo : ∀ h x, a + 1 ≤ h → h < i → l[h]? = some x → lt x z = true) (hhi : ∀ h x, i ≤ h → h < b → l[h]? = some x → lt x z = false)
    (hr : ∀ k, lk[k]? = l[rotI a (a + 1) i k]?) : SrtIn lt a b lk := by
  intro p q x y hp hpq hq hx hy
  rw [hr] at hx hy
  simp only [rotI] at hx hy
  rw [if_neg (by omega)] at hx hy
  by_cases q1 : q < i - 1
  · rw [if_pos (by omega)] at hx hy
    exact hs _ _ _ _ (by omega) (by omega) (by omega) hx hy
  · rw [if_neg (by omega)] at hy
    by_cases q2 : q < i
    · rw [if_pos q2, show q - (i - (a + 1)) = a by omega, hz] at hy
      cases hy
      rw [if_pos (by omega)] at hx
      exact hlt.asym _ _ (hlo _ _ (by omega) (by omega) hx)
    · rw [if_neg q2] at hy
      by_cases p1 : p < i - 1
      · rw [if_pos (by omega)] at hx
        exact hs _ _ _ _ (by omega) (by omega) (by omega) hx hy
      · rw [if_neg (by omega)] at hx
        by_cases p2 : p < i
        · rw [if_pos p2, show p - (i - (a + 1)) = a by omega, hz] at hx
          cases hx
          exact hhi _ _ (by omega) hq hy
        · rw [if_neg p2] at hx
          exact hs _ _ _ _ (by omega) (by omega) hq hx hy
theorem merge2 (hlt : LtOk lt) {l lk : List α} {a m i : Nat} (hai : a ≤ i) (him : i ≤ m) (hb : m + 1 ≤ l.length) (hs : SrtIn lt a m l) {z : α} (hz : l[m]? = some z) (hlo : ∀ h x, a ≤ h → h < i → l[h]? = some x → lt z x = false) (hhi : ∀ h x, i ≤ h → h < m → l[h]? = some x → lt z x = true)
    (hr : ∀ k, lk[k]? = l[rotI i m (m + 1) k]?) : SrtIn lt a (m + 1) lk := by
  intro p q x y hp hpq hq hx hy
  rw [hr] at hx hy
  simp only [rotI] at hx hy
  by_cases q1 : q < i
  · rw [if_pos (by omega)] at hx hy
    exact hs _ _ _ _ hp hpq (by omega) hx hy
  · rw [if_neg q1] at hy
    by_cases q2 : q = i
    · rw [if_pos (by omega), show q + (m - i) = m by omega, hz] at hy
      cases hy
      rw [if_pos (by omega)] at hx
      exact hlo _ _ hp (by omega) hx
    · rw [if_neg (by omega), if_pos (by omega)] at hy
      by_cases p1 : p < i
      · rw [if_pos p1] at hx
        exact hs _ _ _ _ hp (by omega) (by omega) hx hy
      · rw [if_neg p1] at hx
        by_cases p2 : p = i
        · rw [if_pos (by omega), show p + (m - i) = m by omega, hz] at hx
          cases hx
          exact hlt.asym _ _ (hhi _ _ (by omega) (by omega) hy)
        · rw [if_neg (by omega), if_pos (by omega)] at hx
          exact hs _ _ _ _ (by omega) (by omega) (by omega) hx hy
/-- What the middle of a merge brings about. -/
structure Mid (lt : α → α → Bool) (a s m e b mid : Nat) (lk : List α) : Prop where
  s1 : SrtIn lt a s lk
  s2 : SrtIn lt s mid lk
  s3 : SrtIn lt mid e lk
  s4 : SrtIn lt e b lk
  cross : ∀ p q x y, a ≤ p → p < mid → mid ≤ q → q < b → lk[p]? = some x → lk[q]? = some y → lt y x = false
theorem SrtIn.le (hlt : LtOk lt) {a b : Nat} {l : List α} (h : SrtIn lt a b l) {i j : Nat} {x y : α} (h1 : a ≤ i) (h2 : i ≤ j) (h3 : j < b) (hx : l[i]? = some x) (hy : l[j]? = some y) : lt y x = false := by
  by_cases e : i = j
  · subst e
    rw [hx] at hy; cases hy
    cases hxx : lt x x with
    | false => rfl
    | true => have := hlt.asym _ _ hxx; rw [hxx] at this; exact this
  · exact h _ _ _ _ h1 (by omega) h3 hx hy
theorem mid_facts (hlt : LtOk lt) {l lk : List α} {a m b mid s e : Nat} (has : a ≤ s) (hsm : s ≤ m) (hme : m ≤ e) (heb : e ≤ b) (hb : b ≤ l.length) (hse : s + e = mid + m) (h1 : SrtIn lt a m l) (h2 : SrtIn lt m b l)
    (c1 : s = a ∨ e = b ∨ ∃ x y, l[s - 1]? = some x ∧ l[e]? = some y ∧ lt y x = false) (c2 : s = m ∨ e = m ∨ ∃ x y, l[s]? = some x ∧ l[e - 1]? = some y ∧ lt y x = true) (hr : ∀ k, lk[k]? = l[rotI s m e k]?) : Mid lt a s m e b mid lk := by
  have g1 : ∀ p, p < s → lk[p]? = l[p]? := fun p hp => by rw [hr]; simp [rotI, hp]
  have g2 : ∀ p, s ≤ p → p < mid → lk[p]? = l[p + (m - s)]? := fun p h3 h4 => by rw [hr]; simp only [rotI]; rw [if_neg (by omega), if_pos (by omega)]
  have g3 : ∀ p, mid ≤ p → p < e → lk[p]? = l[p - (e - m)]? := fun p h3 h4 => by rw [hr]; simp only [rotI]; rw [if_neg (by omega), if_neg (by omega), if_pos (by omega)]
  have g4 : ∀ p, e ≤ p → lk[p]? = l[p]? := fun p h3 => by
    rw [hr]; simp only [rotI]; rw [if_neg (by omega)]
    by_cases h5 : p < s + (e - m)
    · omega
    · rw [if_neg h5, if_neg (by omega)]
  refine ⟨fun p q x y hp hpq hq hx hy => ?_, fun p q x y hp hpq hq hx hy => ?_, fun p q x y hp hpq hq hx hy => ?_, fun p q x y hp hpq hq hx hy => ?_, fun p q x y hp hpm hq hqb hx hy => ?_⟩
  · rw [g1 _ (by omega)] at hx hy; exact h1 _ _ _ _ hp hpq (by omega) hx hy
  · rw [g2 _ (by omega) (by omega)] at hx hy; exact h2 _ _ _ _ (by omega) (by omega) (by omega) hx hy
  · rw [g3 _ (by omega) (by omega)] at hx hy; exact h1 _ _ _ _ (by omega) (by omega) (by omega) hx hy
  · rw [g4 _ (by omega)] at hx hy; exact h2 _ _ _ _ (by omega) (by omega) (by omega) hx hy
  · by_cases p1 : p < s
    · rw [g1 _ p1] at hx
      by_cases q1 : q < e
      · rw [g3 _ hq q1] at hy
        exact h1 _ _ _ _ hp (by omega) (by omega) hx hy
      · rw [g4 _ (by omega)] at hy
        rcases c1 with c1 | c1 | ⟨u, v, k1, k2, k3⟩
        · omega
        · omega
        · exact hlt.ntr _ _ _ (hlt.ntr _ _ _ (SrtIn.le hlt h1 hp (by omega) (by omega) hx k1) k3) (SrtIn.le hlt h2 (by omega) (by omega) hqb k2 hy)
    · rw [g2 _ (by omega) hpm] at hx
      by_cases q1 : q < e
      · rw [g3 _ hq q1] at hy
        rcases c2 with c2 | c2 | ⟨u, v, k1, k2, k3⟩
        · omega
        · omega
        · exact hlt.ntr _ _ _ (hlt.ntr _ _ _ (SrtIn.le hlt h2 (by omega) (by omega) (by omega) hx k2) (hlt.asym _ _ k3)) (SrtIn.le hlt h1 (by omega) (by omega) (by omega) k1 hy)
      · rw [g4 _ (by omega)] at hy
        exact h2 _ _ _ _ (by omega) (by omega) hqb hx hy
/-- Both halves sorted. -/
theorem mid_join {a mid b : Nat} (ham : a ≤ mid) {lk l1 l2 : List α} (h1 : Seg a mid lk l1) (s1 : SrtIn lt a mid l1) (h2 : Seg mid b l1 l2) (s2 : SrtIn lt mid b l2) (cr : ∀ p q x y, a ≤ p → p < mid → mid ≤ q → q < b → lk[p]? = some x → lk[q]? = some y → lt y x = false) : SrtIn lt a b l2 := by
  intro p q x y hp hpq hq hx hy
  by_cases h3 : q < mid
  · rw [h2.out _ (.inl (by omega))] at hx
    rw [h2.out _ (.inl (by omega))] at hy
    exact s1 _ _ _ _ hp hpq h3 hx hy
  · by_cases h4 : mid ≤ p
    · exact s2 _ _ _ _ h4 hpq hq hx hy
    · rw [h2.out _ (.inl (by omega))] at hx
      refine h2.all (fun y => lt y x = false) (fun k y hk1 hk2 hy => ?_) q y (by omega) hq hy
      rw [h1.out _ (.inr hk1)] at hy
      exact h1.all (fun x => lt y x = false) (fun k' x hk1' hk2' hx => cr k' k x y hk1' hk2' hk1 hk2 hx hy) p x hp (by omega) hx
end Go.Proofs.YtchidkafcdmciaaGreat
/- Contracts: symMerge. -/
set_option linter.all false
namespace Go.Proofs.YtchidkafcdmciaaGreat
open Go Go.Pv
variable {α : Type} {S : List α → Obs} {n g sf : Nat} {lc sc : List PV} {lt : α → α → Bool}

def symJ (lt : α → α → Bool) (l : List α) (mid m s0 r0 : Nat) (x : Nat × Nat) : Prop :=
  s0 ≤ x.1 ∧ x.1 ≤ x.2 ∧ x.2 ≤ r0 ∧ (x.1 = s0 ∨ ∃ u v, l[x.1 - 1]? = some u ∧ l[mid + m - x.1]? = some v ∧ lt v u = false) ∧ (x.2 = r0 ∨ ∃ u v, l[x.2]? = some u ∧ l[mid + m - x.2 - 1]? = some v ∧ lt v u = true)
set_option maxHeartbeats 4000000 in
theorem g_symMerge (H : Srt S n g sf lc sc lt) (hlt : LtOk lt) (d : Nat) : ∀ (l : List α) (a m b : Nat), l.length = n → b - a ≤ d → a < m → m < b → b ≤ n → SrtIn lt a m l → SrtIn lt m b l →
    FnG Tryz.prog 182 [dataE g sf lc sc, .int .i64 a, .int .i64 m, .int .i64 b] (S l) fun r s' => r = .tuple [] ∧ ∃ l', s' = S l' ∧ Seg a b l l' ∧ SrtIn lt a b l' := by
  induction d with
  | zero => intro l a m b hl hd ham hmb; omega
  | succ d ih =>
  intro l a m b hl hd ham hmb hb hs1 hs2
  have hs := H.ok l
  have hn : ∀ l m, Pv.look (.loc m) (S l).b = none := fun l => (H.ok l).obj.1
  have hu : ∀ l m cs, upd (.loc m) cs (S l).b = (S l).b ++ [(.loc m, cs)] := fun l m cs => upd_fresh (hn l m)
  have ho : ∀ m, Key.loc m ∉ obsIds (S l) := loc_notin hs.obj
  have hle := H.le
  refine FnG.mk mixed tysok3 f_sort_symMerge_func ok_sort_symMerge_func (by simp) hs.obj fun hbnd hbb => ?_; unfold c_sort_symMerge_func
  simp [dataE, hu, ho, look_app, hn]
  (repeat' first | (with_reducible refine evCd_split (fun h => ?_) (fun h => ?_) <;> (try simp at h)) | (with_reducible refine evGd_split (fun h => ?_) (fun h => ?_) <;> (try simp at h)) | (with_reducible refine evDd_split (fun h => ?_) (fun h => ?_) <;> (try simp at h)) | with_reducible refine And.intro (by (first | omega | (unfold in64; omega))) ?_ | simp [hu, ho, look_app, hn])
  · obtain rfl : m = a + 1 := by omega
    have hrot : ∀ k, rotI a (a + 1) (a + 1) k = k := by
      intro k; simp only [rotI]; repeat' split
      all_goals omega
    obtain ⟨z, hz⟩ : ∃ z, l[a]? = some z := ⟨_, List.getElem?_eq_getElem (by omega)⟩
    refine evC_whl (fun (x : Nat × Nat) => ⟨[(1, .int .i64 a), (4, .ptr (.loc 0) 0), (8, .int .i64 x.1), (9, .int .i64 x.2)], (.loc 0, [.func g lc, .func sf sc]) :: (S l).b, (S l).e, 1, obsIds (S l)⟩) (fun x => x.2 - x.1)
      (fun x => a + 1 ≤ x.1 ∧ x.1 ≤ x.2 ∧ x.2 ≤ b ∧ (∀ h y, a + 1 ≤ h → h < x.1 → l[h]? = some y → lt y z = true) ∧ (∀ h y, x.2 ≤ h → h < b → l[h]? = some y → lt y z = false)) (a + 1, b)
      (H.weak hl hl (by simp [kin]) (by simp [look_app, hn]) (by first | (refine kpL ?_; simp; done) | (intro k x hx; first | exact hx | (simp [hx, without_self]; done) | (simp [look_app, without_self, hx]; done) | (cases k <;> simp_all [look_app]; done))) (by first | (refine kpL ?_; simp; done) | (intro k x hx; first | exact hx | (simp [hx, without_self]; done) | (simp [look_app, without_self, hx]; done) | (cases k <;> simp_all [look_app]; done)))) ⟨by simp, by simp; omega, by simp, fun h y h1 h2 => by simp at h2; omega, fun h y h1 h2 => by simp at h1; omega⟩ ?_
    rintro ⟨i, j⟩ ⟨k1, k2, k3, k4, k5⟩ _
    simp only at k1 k2 k3 k4 k5
    have hw := half_wrap i j (by omega)
    simp [Pv.look]
    (repeat' first | (with_reducible refine evCd_split (fun h => ?_) (fun h => ?_) <;> (try simp at h)) | (with_reducible refine evGd_split (fun h => ?_) (fun h => ?_) <;> (try simp at h)) | (with_reducible refine evDd_split (fun h => ?_) (fun h => ?_) <;> (try simp at h)) | with_reducible refine And.intro (by (first | omega | (unfold in64; omega))) ?_ | simp [Pv.look])
    · obtain ⟨c, hc⟩ : ∃ c, c = (i + j) / 2 := ⟨_, rfl⟩
      rw [← hc] at hw
      obtain ⟨y, hy⟩ : ∃ y, l[c]? = some y := ⟨_, List.getElem?_eq_getElem (by omega)⟩
      simp only [hw, H.slc]
      refine H.doLess hl c a hy hz ?_
      simp
      cases hyz : lt y z with
      | true =>
        simp
        (repeat' first | (with_reducible refine evCd_split (fun h => ?_) (fun h => ?_) <;> (try simp at h)) | (with_reducible refine evGd_split (fun h => ?_) (fun h => ?_) <;> (try simp at h)) | (with_reducible refine evDd_split (fun h => ?_) (fun h => ?_) <;> (try simp at h)) | with_reducible refine And.intro (by (first | omega | (unfold in64; omega))) ?_ | simp)
        refine LoopQ.whl (c + 1, j) (by simp; omega) ⟨by simp; omega, by simp; omega, k3, fun h u h1 h2 hu => ?_, k5⟩ (H.weakC hl hl (by simp [kin]))
        cases e : lt u z with
        | true => rfl
        | false =>
          simp only at h2
          have := hlt.ntr _ _ _ e (SrtIn.le hlt hs2 h1 (by omega) (by omega) hu hy)
          rw [hyz] at this; cases this
      | false =>
        simp
        (repeat' first | (with_reducible refine evCd_split (fun h => ?_) (fun h => ?_) <;> (try simp at h)) | (with_reducible refine evGd_split (fun h => ?_) (fun h => ?_) <;> (try simp at h)) | (with_reducible refine evDd_split (fun h => ?_) (fun h => ?_) <;> (try simp at h)) | with_reducible refine And.intro (by (first | omega | (unfold in64; omega))) ?_ | simp)
        refine LoopQ.whl (i, c) (by simp; omega) ⟨k1, by simp; omega, by simp; omega, k4, fun h u h1 h2 hu => ?_⟩ (H.weakC hl hl (by simp [kin]))
        exact hlt.ntr _ _ _ hyz (SrtIn.le hlt hs2 (by omega) h1 h2 hy hu)
    · obtain rfl : i = j := by omega
      refine evC_whl (fun (x : Nat × List α) => ⟨[(4, .ptr (.loc 0) 0), (8, .int .i64 i), (11, .int .i64 x.1)], (.loc 0, [.func g lc, .func sf sc]) :: (S x.2).b, (S x.2).e, 1, obsIds (S l)⟩) (fun x => i - x.1)
        (fun x => x.2.length = n ∧ a ≤ x.1 ∧ x.1 < i ∧ Seg a b l x.2 ∧ ∀ k, x.2[k]? = l[rotI a (a + 1) (x.1 + 1) k]?) (a, l)
        (H.weakC hl hl (by simp [kin])) ⟨hl, by simp, by simp; omega, .refl _, fun k => by simp [hrot]⟩ ?_
      rintro ⟨k, lk⟩ ⟨q1, q2, q3, q4, q5⟩ _
      simp only at q1 q2 q3 q4 q5
      simp [Pv.look]
      (repeat' first | (with_reducible refine evCd_split (fun h => ?_) (fun h => ?_) <;> (try simp at h)) | (with_reducible refine evGd_split (fun h => ?_) (fun h => ?_) <;> (try simp at h)) | (with_reducible refine evDd_split (fun h => ?_) (fun h => ?_) <;> (try simp at h)) | with_reducible refine And.intro (by (first | omega | (unfold in64; omega))) ?_ | simp [Pv.look])
      · have e3 : ((k : Int) + 1) = (k + 1 : Nat) := by omega
        rw [H.ssc, e3]
        refine H.doSwap q1 k (k + 1) (by omega) (by omega) (by omega) ?_
        simp
        (repeat' first | (with_reducible refine evCd_split (fun h => ?_) (fun h => ?_) <;> (try simp at h)) | (with_reducible refine evGd_split (fun h => ?_) (fun h => ?_) <;> (try simp at h)) | (with_reducible refine evDd_split (fun h => ?_) (fun h => ?_) <;> (try simp at h)) | with_reducible refine And.intro (by (first | omega | (unfold in64; omega))) ?_ | simp)
        refine LoopQ.whl (k + 1, lswp lk k (k + 1)) (by simp; omega) ⟨by simp [q1], by simp; omega, by simp; omega, .step q4 (by omega) (by omega) (by omega) (by omega) (by omega) (by omega), fun t => ?_⟩ (H.weakC hl (by simp [q1]) (by simp [kin]))
        rw [lswp_get _ _ _ _ (by omega) (by omega), q5, q5, q5]
        have : rotI a (a + 1) (k + 1 + 1) t = if t = k then rotI a (a + 1) (k + 1) (k + 1) else if t = k + 1 then rotI a (a + 1) (k + 1) k else rotI a (a + 1) (k + 1) t := by
          simp only [rotI]; repeat' split
          all_goals omega
        rw [this]
        split
        · rfl
        · split <;> rfl
      · obtain rfl : i = k + 1 := by omega
        refine H.ret hl q1 (.inl rfl) ⟨rfl, lk, rfl, q4, merge1 hlt (by omega) k3 (by omega) hs2 hz k4 k5 q5⟩
  · obtain rfl : b = m + 1 := by omega
    have hrot : ∀ k, rotI m m (m + 1) k = k := by
      intro k; simp only [rotI]; repeat' split
      all_goals omega
    obtain ⟨z, hz⟩ : ∃ z, l[m]? = some z := ⟨_, List.getElem?_eq_getElem (by omega)⟩
    refine evC_whl (fun (x : Nat × Nat) => ⟨[(2, .int .i64 m), (4, .ptr (.loc 0) 0), (12, .int .i64 x.1), (13, .int .i64 x.2)], (.loc 0, [.func g lc, .func sf sc]) :: (S l).b, (S l).e, 1, obsIds (S l)⟩) (fun x => x.2 - x.1)
      (fun x => a ≤ x.1 ∧ x.1 ≤ x.2 ∧ x.2 ≤ m ∧ (∀ h y, a ≤ h → h < x.1 → l[h]? = some y → lt z y = false) ∧ (∀ h y, x.2 ≤ h → h < m → l[h]? = some y → lt z y = true)) (a, m)
      (H.weak hl hl (by simp [kin]) (by simp [look_app, hn]) (by first | (refine kpL ?_; simp; done) | (intro k x hx; first | exact hx | (simp [hx, without_self]; done) | (simp [look_app, without_self, hx]; done) | (cases k <;> simp_all [look_app]; done))) (by first | (refine kpL ?_; simp; done) | (intro k x hx; first | exact hx | (simp [hx, without_self]; done) | (simp [look_app, without_self, hx]; done) | (cases k <;> simp_all [look_app]; done)))) ⟨by simp, by simp; omega, by simp, fun h y h1 h2 => by simp at h2; omega, fun h y h1 h2 => by simp at h1; omega⟩ ?_
    rintro ⟨i, j⟩ ⟨k1, k2, k3, k4, k5⟩ _
    simp only at k1 k2 k3 k4 k5
    have hw := half_wrap i j (by omega)
    simp [Pv.look]
    (repeat' first | (with_reducible refine evCd_split (fun h => ?_) (fun h => ?_) <;> (try simp at h)) | (with_reducible refine evGd_split (fun h => ?_) (fun h => ?_) <;> (try simp at h)) | (with_reducible refine evDd_split (fun h => ?_) (fun h => ?_) <;> (try simp at h)) | with_reducible refine And.intro (by (first | omega | (unfold in64; omega))) ?_ | simp [Pv.look])
    · obtain ⟨c, hc⟩ : ∃ c, c = (i + j) / 2 := ⟨_, rfl⟩
      rw [← hc] at hw
      obtain ⟨y, hy⟩ : ∃ y, l[c]? = some y := ⟨_, List.getElem?_eq_getElem (by omega)⟩
      simp only [hw, H.slc]
      refine H.doLess hl m c hz hy ?_
      simp
      cases hyz : lt z y with
      | false =>
        simp
        (repeat' first | (with_reducible refine evCd_split (fun h => ?_) (fun h => ?_) <;> (try simp at h)) | (with_reducible refine evGd_split (fun h => ?_) (fun h => ?_) <;> (try simp at h)) | (with_reducible refine evDd_split (fun h => ?_) (fun h => ?_) <;> (try simp at h)) | with_reducible refine And.intro (by (first | omega | (unfold in64; omega))) ?_ | simp)
        refine LoopQ.whl (c + 1, j) (by simp; omega) ⟨by simp; omega, by simp; omega, k3, fun h u h1 h2 hu => ?_, k5⟩ (H.weakC hl hl (by simp [kin]))
        simp only at h2
        exact hlt.ntr _ _ _ (SrtIn.le hlt hs1 h1 (by omega) (by omega) hu hy) hyz
      | true =>
        simp
        (repeat' first | (with_reducible refine evCd_split (fun h => ?_) (fun h => ?_) <;> (try simp at h)) | (with_reducible refine evGd_split (fun h => ?_) (fun h => ?_) <;> (try simp at h)) | (with_reducible refine evDd_split (fun h => ?_) (fun h => ?_) <;> (try simp at h)) | with_reducible refine And.intro (by (first | omega | (unfold in64; omega))) ?_ | simp)
        refine LoopQ.whl (i, c) (by simp; omega) ⟨k1, by simp; omega, by simp; omega, k4, fun h u h1 h2 hu => ?_⟩ (H.weakC hl hl (by simp [kin]))
        cases e : lt z u with
        | true => rfl
        | false =>
          have := hlt.ntr _ _ _ (SrtIn.le hlt hs1 (by omega) h1 h2 hy hu) e
          rw [hyz] at this; cases this
    · obtain rfl : i = j := by omega
      refine evC_whl (fun (x : Nat × List α) => ⟨[(4, .ptr (.loc 0) 0), (12, .int .i64 i), (15, .int .i64 x.1)], (.loc 0, [.func g lc, .func sf sc]) :: (S x.2).b, (S x.2).e, 1, obsIds (S l)⟩) (fun x => x.1)
        (fun x => x.2.length = n ∧ i ≤ x.1 ∧ x.1 ≤ m ∧ Seg a (m + 1) l x.2 ∧ ∀ k, x.2[k]? = l[rotI x.1 m (m + 1) k]?) (m, l)
        (H.weakC hl hl (by simp [kin])) ⟨hl, by simp; omega, by simp, .refl _, fun k => by simp [hrot]⟩ ?_
      rintro ⟨k, lk⟩ ⟨q1, q2, q3, q4, q5⟩ _
      simp only at q1 q2 q3 q4 q5
      simp [Pv.look]
      (repeat' first | (with_reducible refine evCd_split (fun h => ?_) (fun h => ?_) <;> (try simp at h)) | (with_reducible refine evGd_split (fun h => ?_) (fun h => ?_) <;> (try simp at h)) | (with_reducible refine evDd_split (fun h => ?_) (fun h => ?_) <;> (try simp at h)) | with_reducible refine And.intro (by (first | omega | (unfold in64; omega))) ?_ | simp [Pv.look])
      · have e3 : ((k : Int) - 1) = (k - 1 : Nat) := by omega
        rw [H.ssc, e3]
        refine H.doSwap q1 k (k - 1) (by omega) (by omega) (by omega) ?_
        simp
        (repeat' first | (with_reducible refine evCd_split (fun h => ?_) (fun h => ?_) <;> (try simp at h)) | (with_reducible refine evGd_split (fun h => ?_) (fun h => ?_) <;> (try simp at h)) | (with_reducible refine evDd_split (fun h => ?_) (fun h => ?_) <;> (try simp at h)) | with_reducible refine And.intro (by (first | omega | (unfold in64; omega))) ?_ | simp)
        refine LoopQ.whl (k - 1, lswp lk k (k - 1)) (by simp; omega) ⟨by simp [q1], by simp; omega, by simp; omega, .step q4 (by omega) (by omega) (by omega) (by omega) (by omega) (by omega), fun t => ?_⟩ (H.weakC hl (by simp [q1]) (by simp [kin]; omega))
        rw [lswp_get _ _ _ _ (by omega) (by omega), q5, q5, q5]
        have : rotI (k - 1) m (m + 1) t = if t = k then rotI k m (m + 1) (k - 1) else if t = k - 1 then rotI k m (m + 1) k else rotI k m (m + 1) t := by
          simp only [rotI]; repeat' split
          all_goals omega
        rw [this]
        split
        · rfl
        · split <;> rfl
      · obtain rfl : i = k := by omega
        refine H.ret hl q1 (.inl rfl) ⟨rfl, lk, rfl, q4, merge2 hlt (by omega) k3 (by omega) hs1 hz k4 k5 q5⟩
  · obtain ⟨mid, hmid⟩ : ∃ mid, mid = (a + b) / 2 := ⟨_, rfl⟩
    have hw := half_wrap a b (by omega)
    rw [← hmid] at hw
    simp only [hw]
    (repeat' first | (with_reducible refine evCd_split (fun h => ?_) (fun h => ?_) <;> (try simp at h)) | (with_reducible refine evGd_split (fun h => ?_) (fun h => ?_) <;> (try simp at h)) | (with_reducible refine evDd_split (fun h => ?_) (fun h => ?_) <;> (try simp at h)) | with_reducible refine And.intro (by (first | omega | (unfold in64; omega))) ?_ | simp [hu, ho, look_app, hn])
    · refine evC_whl (fun (x : Nat × Nat) => ⟨[(1, .int .i64 a), (2, .int .i64 m), (3, .int .i64 b), (4, .ptr (.loc 0) 0), (16, .int .i64 mid), (17, .int .i64 (mid + m)), (20, .int .i64 (mid + m - 1)), (18, .int .i64 x.1), (19, .int .i64 x.2)], (.loc 0, [.func g lc, .func sf sc]) :: (S l).b, (S l).e, 1, obsIds (S l)⟩) (fun x => x.2 - x.1)
        (symJ lt l mid m (mid + m - b) (mid)) ((mid + m - b), (mid))
        (H.weak hl hl (by simp [kin]; try omega) (by simp [look_app, hn]) (by first | (refine kpL ?_; simp; done) | (intro k x hx; first | exact hx | (simp [hx, without_self]; done) | (simp [look_app, without_self, hx]; done) | (cases k <;> simp_all [look_app]; done))) (by first | (refine kpL ?_; simp; done) | (intro k x hx; first | exact hx | (simp [hx, without_self]; done) | (simp [look_app, without_self, hx]; done) | (cases k <;> simp_all [look_app]; done)))) ⟨by simp, by simp; omega, by simp, .inl rfl, .inl rfl⟩ ?_
      rintro ⟨i, j⟩ ⟨k1, k2, k3, k4, k5⟩ _
      simp only at k1 k2 k3 k4 k5
      have hw2 := half_wrap i j (by omega)
      by_cases hij : i < j
      · simp [hij]
        (repeat' first | (with_reducible refine evCd_split (fun h => ?_) (fun h => ?_) <;> (try simp at h)) | (with_reducible refine evGd_split (fun h => ?_) (fun h => ?_) <;> (try simp at h)) | (with_reducible refine evDd_split (fun h => ?_) (fun h => ?_) <;> (try simp at h)) | with_reducible refine And.intro (by (first | omega | (unfold in64; omega))) ?_ | simp [Pv.look])
        obtain ⟨c, hc⟩ : ∃ c, c = (i + j) / 2 := ⟨_, rfl⟩
        rw [← hc] at hw2
        simp only [hw2]
        (repeat' first | (with_reducible refine evCd_split (fun h => ?_) (fun h => ?_) <;> (try simp at h)) | (with_reducible refine evGd_split (fun h => ?_) (fun h => ?_) <;> (try simp at h)) | (with_reducible refine evDd_split (fun h => ?_) (fun h => ?_) <;> (try simp at h)) | with_reducible refine And.intro (by (first | omega | (unfold in64; omega))) ?_ | simp [Pv.look])
        obtain ⟨u, hu2⟩ : ∃ u, l[c]? = some u := ⟨_, List.getElem?_eq_getElem (by omega)⟩
        obtain ⟨v, hv2⟩ : ∃ v, l[mid + m - 1 - c]? = some v := ⟨_, List.getElem?_eq_getElem (by omega)⟩
        have e4 : ((mid : Int) + m - 1 - c) = (mid + m - 1 - c : Nat) := by omega
        simp only [H.slc, e4]
        refine H.doLess hl (mid + m - 1 - c) c hv2 hu2 ?_
        simp
        cases hyz : lt v u with
        | false =>
          simp
          (repeat' first | (with_reducible refine evCd_split (fun h => ?_) (fun h => ?_) <;> (try simp at h)) | (with_reducible refine evGd_split (fun h => ?_) (fun h => ?_) <;> (try simp at h)) | (with_reducible refine evDd_split (fun h => ?_) (fun h => ?_) <;> (try simp at h)) | with_reducible refine And.intro (by (first | omega | (unfold in64; omega))) ?_ | simp)
          refine LoopQ.whl (c + 1, j) (by simp; omega) ⟨by simp; omega, by simp; omega, k3, .inr ⟨u, v, by simpa using hu2, ?_, hyz⟩, k5⟩ (H.weakC hl hl (by simp [kin]))
          simp only
          rw [show mid + m - (c + 1) = mid + m - 1 - c by omega]; exact hv2
        | true =>
          simp
          (repeat' first | (with_reducible refine evCd_split (fun h => ?_) (fun h => ?_) <;> (try simp at h)) | (with_reducible refine evGd_split (fun h => ?_) (fun h => ?_) <;> (try simp at h)) | (with_reducible refine evDd_split (fun h => ?_) (fun h => ?_) <;> (try simp at h)) | with_reducible refine And.intro (by (first | omega | (unfold in64; omega))) ?_ | simp)
          refine LoopQ.whl (i, c) (by simp; omega) ⟨k1, by simp; omega, by simp; omega, k4, .inr ⟨u, v, hu2, ?_, hyz⟩⟩ (H.weakC hl hl (by simp [kin]))
          simp only
          rw [show mid + m - c - 1 = mid + m - 1 - c by omega]; exact hv2
      · obtain rfl : i = j := by omega
        obtain ⟨e, he⟩ : ∃ e, e = mid + m - i := ⟨_, rfl⟩
        have e5 : ((mid : Int) + m - i) = (e : Nat) := by omega
        have c1 : i = a ∨ e = b ∨ ∃ x y, l[i - 1]? = some x ∧ l[e]? = some y ∧ lt y x = false := by
          rcases k4 with k4 | ⟨u, v, q1, q2, q3⟩
          · omega
          · exact .inr (.inr ⟨u, v, q1, by rw [he]; exact q2, q3⟩)
        have c2 : i = m ∨ e = m ∨ ∃ x y, l[i]? = some x ∧ l[e - 1]? = some y ∧ lt y x = true := by
          rcases k5 with k5 | ⟨u, v, q1, q2, q3⟩
          · omega
          · exact .inr (.inr ⟨u, v, q1, by rw [he]; exact q2, q3⟩)
        have hmf : ∀ lk : List α, (∀ k, lk[k]? = l[rotI i m e k]?) → Mid lt a i m e b mid lk := fun lk hr => mid_facts hlt (by omega) (by omega) (by omega) (by omega) (by omega) (by omega) hs1 hs2 c1 c2 hr
        simp [hij]
        refine And.intro (by (first | omega | (unfold in64; omega))) ?_
        simp [e5]
        by_cases hr1 : i < m ∧ m < e
        · simp [hr1.1, hr1.2, Pv.look]
          simp only [strip_data H, H.slc, H.ssc, agg_data]
          refine H.doFn hl (g_rotate H l hl i m e hr1.1 hr1.2 (by omega)) (fun l' h => by rw [h.1.length]; exact hl) (by simp [kinL, kin, H.kdata hl]) ?_
          rintro lk ⟨q1, q2⟩
          have hlk : lk.length = n := by rw [q1.length]; exact hl
          have hM := hmf lk q2
          have hSg : Seg a b l lk := q1.mono (by omega) (by omega)
          simp
          by_cases ha1 : a < i ∧ i < mid
          · simp [ha1.1, ha1.2, Pv.look]
            simp only [strip_data H, H.slc, H.ssc, agg_data]
            refine H.doFn hlk (ih lk a i mid hlk (by omega) ha1.1 ha1.2 (by omega) hM.s1 hM.s2) (fun l' h => by rw [h.1.length]; exact hlk) (by simp [kinL, kin, H.kdata hlk]) ?_
            rintro l1 ⟨p1, p2⟩
            have hl1 : l1.length = n := by rw [p1.length]; exact hlk
            simp
            have hs3 : SrtIn lt mid e l1 := fun p q x y h1 h2 h3 hx hy => by
              rw [p1.out _ (.inr h1)] at hx
              rw [p1.out _ (.inr (by omega))] at hy
              exact hM.s3 p q x y h1 h2 h3 hx hy
            have hs4 : SrtIn lt e b l1 := fun p q x y h1 h2 h3 hx hy => by
              rw [p1.out _ (.inr (by omega))] at hx
              rw [p1.out _ (.inr (by omega))] at hy
              exact hM.s4 p q x y h1 h2 h3 hx hy
            have hfin : ∀ l2, Seg mid b l1 l2 → SrtIn lt mid b l2 → Seg a b l l2 ∧ SrtIn lt a b l2 := fun l2 q1 q2 => ⟨(hSg.trans (p1.mono (by omega) (by omega))).trans (q1.mono (by omega) (by omega)), mid_join (by omega) p1 p2 q1 q2 hM.cross⟩
            by_cases hb1 : mid < e ∧ e < b
            · simp [hb1.1, hb1.2, Pv.look]
              simp only [strip_data H, H.slc, H.ssc, agg_data]
              refine H.doFn hl1 (ih l1 mid e b hl1 (by omega) hb1.1 hb1.2 (by omega) hs3 hs4) (fun l' h => by rw [h.1.length]; exact hl1) (by simp [kinL, kin, H.kdata hl1]) ?_
              rintro l2 ⟨z1, z2⟩
              simp
              refine H.ret hl (by rw [z1.length]; exact hl1) (.inr rfl) ?_
              exact ⟨rfl, l2, rfl, hfin l2 z1 z2⟩
            · have hsl : SrtIn lt mid b l1 := by
                by_cases hb2 : mid < e
                · rwa [show e = b by omega] at hs3
                · rwa [show e = mid by omega] at hs4
              by_cases hb2 : mid < e
              · have hb3 : ¬e < b := by omega
                simp [hb2, hb3]
                refine H.ret hl hl1 (.inr rfl) ?_
                exact ⟨rfl, l1, rfl, hfin l1 (.refl _) hsl⟩
              · simp [hb2]
                refine H.ret hl hl1 (.inr rfl) ?_
                exact ⟨rfl, l1, rfl, hfin l1 (.refl _) hsl⟩
          · have hl1 : (lk).length = n := hlk
            have p1 : Seg a mid lk lk := .refl _
            have p2 : SrtIn lt a mid lk := by
              by_cases ha2 : a < i
              · have := hM.s1
                rwa [show i = mid by omega] at this
              · have := hM.s2
                rwa [show i = a by omega] at this
            by_cases ha2 : a < i
            · have ha3 : ¬i < mid := by omega
              simp [ha2, ha3]
              have hs3 : SrtIn lt mid e lk := fun p q x y h1 h2 h3 hx hy => by
                rw [p1.out _ (.inr h1)] at hx
                rw [p1.out _ (.inr (by omega))] at hy
                exact hM.s3 p q x y h1 h2 h3 hx hy
              have hs4 : SrtIn lt e b lk := fun p q x y h1 h2 h3 hx hy => by
                rw [p1.out _ (.inr (by omega))] at hx
                rw [p1.out _ (.inr (by omega))] at hy
                exact hM.s4 p q x y h1 h2 h3 hx hy
              have hfin : ∀ l2, Seg mid b lk l2 → SrtIn lt mid b l2 → Seg a b l l2 ∧ SrtIn lt a b l2 := fun l2 q1 q2 => ⟨(hSg.trans (p1.mono (by omega) (by omega))).trans (q1.mono (by omega) (by omega)), mid_join (by omega) p1 p2 q1 q2 hM.cross⟩
              by_cases hb1 : mid < e ∧ e < b
              · simp [hb1.1, hb1.2, Pv.look]
                simp only [strip_data H, H.slc, H.ssc, agg_data]
                refine H.doFn hl1 (ih lk mid e b hl1 (by omega) hb1.1 hb1.2 (by omega) hs3 hs4) (fun l' h => by rw [h.1.length]; exact hl1) (by simp [kinL, kin, H.kdata hl1]) ?_
                rintro l2 ⟨z1, z2⟩
                simp
                refine H.ret hl (by rw [z1.length]; exact hl1) (.inr rfl) ?_
                exact ⟨rfl, l2, rfl, hfin l2 z1 z2⟩
              · have hsl : SrtIn lt mid b lk := by
                  by_cases hb2 : mid < e
                  · rwa [show e = b by omega] at hs3
                  · rwa [show e = mid by omega] at hs4
                by_cases hb2 : mid < e
                · have hb3 : ¬e < b := by omega
                  simp [hb2, hb3]
                  refine H.ret hl hl1 (.inr rfl) ?_
                  exact ⟨rfl, lk, rfl, hfin lk (.refl _) hsl⟩
                · simp [hb2]
                  refine H.ret hl hl1 (.inr rfl) ?_
                  exact ⟨rfl, lk, rfl, hfin lk (.refl _) hsl⟩
            · simp [ha2]
              have hs3 : SrtIn lt mid e lk := fun p q x y h1 h2 h3 hx hy => by
                rw [p1.out _ (.inr h1)] at hx
                rw [p1.out _ (.inr (by omega))] at hy
                exact hM.s3 p q x y h1 h2 h3 hx hy
              have hs4 : SrtIn lt e b lk := fun p q x y h1 h2 h3 hx hy => by
                rw [p1.out _ (.inr (by omega))] at hx
                rw [p1.out _ (.inr (by omega))] at hy
                exact hM.s4 p q x y h1 h2 h3 hx hy
              have hfin : ∀ l2, Seg mid b lk l2 → SrtIn lt mid b l2 → Seg a b l l2 ∧ SrtIn lt a b l2 := fun l2 q1 q2 => ⟨(hSg.trans (p1.mono (by omega) (by omega))).trans (q1.mono (by omega) (by omega)), mid_join (by omega) p1 p2 q1 q2 hM.cross⟩
              by_cases hb1 : mid < e ∧ e < b
              · simp [hb1.1, hb1.2, Pv.look]
                simp only [strip_data H, H.slc, H.ssc, agg_data]
                refine H.doFn hl1 (ih lk mid e b hl1 (by omega) hb1.1 hb1.2 (by omega) hs3 hs4) (fun l' h => by rw [h.1.length]; exact hl1) (by simp [kinL, kin, H.kdata hl1]) ?_
                rintro l2 ⟨z1, z2⟩
                simp
                refine H.ret hl (by rw [z1.length]; exact hl1) (.inr rfl) ?_
                exact ⟨rfl, l2, rfl, hfin l2 z1 z2⟩
              · have hsl : SrtIn lt mid b lk := by
                  by_cases hb2 : mid < e
                  · rwa [show e = b by omega] at hs3
                  · rwa [show e = mid by omega] at hs4
                by_cases hb2 : mid < e
                · have hb3 : ¬e < b := by omega
                  simp [hb2, hb3]
                  refine H.ret hl hl1 (.inr rfl) ?_
                  exact ⟨rfl, lk, rfl, hfin lk (.refl _) hsl⟩
                · simp [hb2]
                  refine H.ret hl hl1 (.inr rfl) ?_
                  exact ⟨rfl, lk, rfl, hfin lk (.refl _) hsl⟩
        · have hlk : l.length = n := hl
          have hM := hmf l (fun k => by
            congr 1; simp only [rotI]; repeat' split
            all_goals omega)
          have hSg : Seg a b l l := .refl _
          by_cases hr2 : i < m
          · have hr3 : ¬m < e := by omega
            simp [hr2, hr3]
            by_cases ha1 : a < i ∧ i < mid
            · simp [ha1.1, ha1.2, Pv.look]
              simp only [strip_data H, H.slc, H.ssc, agg_data]
              refine H.doFn hlk (ih l a i mid hlk (by omega) ha1.1 ha1.2 (by omega) hM.s1 hM.s2) (fun l' h => by rw [h.1.length]; exact hlk) (by simp [kinL, kin, H.kdata hlk]) ?_
              rintro l1 ⟨p1, p2⟩
              have hl1 : l1.length = n := by rw [p1.length]; exact hlk
              simp
              have hs3 : SrtIn lt mid e l1 := fun p q x y h1 h2 h3 hx hy => by
                rw [p1.out _ (.inr h1)] at hx
                rw [p1.out _ (.inr (by omega))] at hy
                exact hM.s3 p q x y h1 h2 h3 hx hy
              have hs4 : SrtIn lt e b l1 := fun p q x y h1 h2 h3 hx hy => by
                rw [p1.out _ (.inr (by omega))] at hx
                rw [p1.out _ (.inr (by omega))] at hy
                exact hM.s4 p q x y h1 h2 h3 hx hy
              have hfin : ∀ l2, Seg mid b l1 l2 → SrtIn lt mid b l2 → Seg a b l l2 ∧ SrtIn lt a b l2 := fun l2 q1 q2 => ⟨(hSg.trans (p1.mono (by omega) (by omega))).trans (q1.mono (by omega) (by omega)), mid_join (by omega) p1 p2 q1 q2 hM.cross⟩
              by_cases hb1 : mid < e ∧ e < b
              · simp [hb1.1, hb1.2, Pv.look]
                simp only [strip_data H, H.slc, H.ssc, agg_data]
                refine H.doFn hl1 (ih l1 mid e b hl1 (by omega) hb1.1 hb1.2 (by omega) hs3 hs4) (fun l' h => by rw [h.1.length]; exact hl1) (by simp [kinL, kin, H.kdata hl1]) ?_
                rintro l2 ⟨z1, z2⟩
                simp
                refine H.ret hl (by rw [z1.length]; exact hl1) (.inr rfl) ?_
                exact ⟨rfl, l2, rfl, hfin l2 z1 z2⟩
              · have hsl : SrtIn lt mid b l1 := by
                  by_cases hb2 : mid < e
                  · rwa [show e = b by omega] at hs3
                  · rwa [show e = mid by omega] at hs4
                by_cases hb2 : mid < e
                · have hb3 : ¬e < b := by omega
                  simp [hb2, hb3]
                  refine H.ret hl hl1 (.inr rfl) ?_
                  exact ⟨rfl, l1, rfl, hfin l1 (.refl _) hsl⟩
                · simp [hb2]
                  refine H.ret hl hl1 (.inr rfl) ?_
                  exact ⟨rfl, l1, rfl, hfin l1 (.refl _) hsl⟩
            · have hl1 : (l).length = n := hlk
              have p1 : Seg a mid l l := .refl _
              have p2 : SrtIn lt a mid l := by
                by_cases ha2 : a < i
                · have := hM.s1
                  rwa [show i = mid by omega] at this
                · have := hM.s2
                  rwa [show i = a by omega] at this
              by_cases ha2 : a < i
              · have ha3 : ¬i < mid := by omega
                simp [ha2, ha3]
                have hs3 : SrtIn lt mid e l := fun p q x y h1 h2 h3 hx hy => by
                  rw [p1.out _ (.inr h1)] at hx
                  rw [p1.out _ (.inr (by omega))] at hy
                  exact hM.s3 p q x y h1 h2 h3 hx hy
                have hs4 : SrtIn lt e b l := fun p q x y h1 h2 h3 hx hy => by
                  rw [p1.out _ (.inr (by omega))] at hx
                  rw [p1.out _ (.inr (by omega))] at hy
                  exact hM.s4 p q x y h1 h2 h3 hx hy
                have hfin : ∀ l2, Seg mid b l l2 → SrtIn lt mid b l2 → Seg a b l l2 ∧ SrtIn lt a b l2 := fun l2 q1 q2 => ⟨(hSg.trans (p1.mono (by omega) (by omega))).trans (q1.mono (by omega) (by omega)), mid_join (by omega) p1 p2 q1 q2 hM.cross⟩
                by_cases hb1 : mid < e ∧ e < b
                · simp [hb1.1, hb1.2, Pv.look]
                  simp only [strip_data H, H.slc, H.ssc, agg_data]
                  refine H.doFn hl1 (ih l mid e b hl1 (by omega) hb1.1 hb1.2 (by omega) hs3 hs4) (fun l' h => by rw [h.1.length]; exact hl1) (by simp [kinL, kin, H.kdata hl1]) ?_
                  rintro l2 ⟨z1, z2⟩
                  simp
                  refine H.ret hl (by rw [z1.length]; exact hl1) (.inr rfl) ?_
                  exact ⟨rfl, l2, rfl, hfin l2 z1 z2⟩
                · have hsl : SrtIn lt mid b l := by
                    by_cases hb2 : mid < e
                    · rwa [show e = b by omega] at hs3
                    · rwa [show e = mid by omega] at hs4
                  by_cases hb2 : mid < e
                  · have hb3 : ¬e < b := by omega
                    simp [hb2, hb3]
                    refine H.ret hl hl1 (.inr rfl) ?_
                    exact ⟨rfl, l, rfl, hfin l (.refl _) hsl⟩
                  · simp [hb2]
                    refine H.ret hl hl1 (.inr rfl) ?_
                    exact ⟨rfl, l, rfl, hfin l (.refl _) hsl⟩
              · simp [ha2]
                have hs3 : SrtIn lt mid e l := fun p q x y h1 h2 h3 hx hy => by
                  rw [p1.out _ (.inr h1)] at hx
                  rw [p1.out _ (.inr (by omega))] at hy
                  exact hM.s3 p q x y h1 h2 h3 hx hy
                have hs4 : SrtIn lt e b l := fun p q x y h1 h2 h3 hx hy => by
                  rw [p1.out _ (.inr (by omega))] at hx
                  rw [p1.out _ (.inr (by omega))] at hy
                  exact hM.s4 p q x y h1 h2 h3 hx hy
                have hfin : ∀ l2, Seg mid b l l2 → SrtIn lt mid b l2 → Seg a b l l2 ∧ SrtIn lt a b l2 := fun l2 q1 q2 => ⟨(hSg.trans (p1.mono (by omega) (by omega))).trans (q1.mono (by omega) (by omega)), mid_join (by omega) p1 p2 q1 q2 hM.cross⟩
                by_cases hb1 : mid < e ∧ e < b
                · simp [hb1.1, hb1.2, Pv.look]
                  simp only [strip_data H, H.slc, H.ssc, agg_data]
                  refine H.doFn hl1 (ih l mid e b hl1 (by omega) hb1.1 hb1.2 (by omega) hs3 hs4) (fun l' h => by rw [h.1.length]; exact hl1) (by simp [kinL, kin, H.kdata hl1]) ?_
                  rintro l2 ⟨z1, z2⟩
                  simp
                  refine H.ret hl (by rw [z1.length]; exact hl1) (.inr rfl) ?_
                  exact ⟨rfl, l2, rfl, hfin l2 z1 z2⟩
                · have hsl : SrtIn lt mid b l := by
                    by_cases hb2 : mid < e
                    · rwa [show e = b by omega] at hs3
                    · rwa [show e = mid by omega] at hs4
                  by_cases hb2 : mid < e
                  · have hb3 : ¬e < b := by omega
                    simp [hb2, hb3]
                    refine H.ret hl hl1 (.inr rfl) ?_
                    exact ⟨rfl, l, rfl, hfin l (.refl _) hsl⟩
                  · simp [hb2]
                    refine H.ret hl hl1 (.inr rfl) ?_
                    exact ⟨rfl, l, rfl, hfin l (.refl _) hsl⟩
          · simp [hr2]
            by_cases ha1 : a < i ∧ i < mid
            · simp [ha1.1, ha1.2, Pv.look]
              simp only [strip_data H, H.slc, H.ssc, agg_data]
              refine H.doFn hlk (ih l a i mid hlk (by omega) ha1.1 ha1.2 (by omega) hM.s1 hM.s2) (fun l' h => by rw [h.1.length]; exact hlk) (by simp [kinL, kin, H.kdata hlk]) ?_
              rintro l1 ⟨p1, p2⟩
              have hl1 : l1.length = n := by rw [p1.length]; exact hlk
              simp
              have hs3 : SrtIn lt mid e l1 := fun p q x y h1 h2 h3 hx hy => by
                rw [p1.out _ (.inr h1)] at hx
                rw [p1.out _ (.inr (by omega))] at hy
                exact hM.s3 p q x y h1 h2 h3 hx hy
              have hs4 : SrtIn lt e b l1 := fun p q x y h1 h2 h3 hx hy => by
                rw [p1.out _ (.inr (by omega))] at hx
                rw [p1.out _ (.inr (by omega))] at hy
                exact hM.s4 p q x y h1 h2 h3 hx hy
              have hfin : ∀ l2, Seg mid b l1 l2 → SrtIn lt mid b l2 → Seg a b l l2 ∧ SrtIn lt a b l2 := fun l2 q1 q2 => ⟨(hSg.trans (p1.mono (by omega) (by omega))).trans (q1.mono (by omega) (by omega)), mid_join (by omega) p1 p2 q1 q2 hM.cross⟩
              by_cases hb1 : mid < e ∧ e < b
              · simp [hb1.1, hb1.2, Pv.look]
                simp only [strip_data H, H.slc, H.ssc, agg_data]
                refine H.doFn hl1 (ih l1 mid e b hl1 (by omega) hb1.1 hb1.2 (by omega) hs3 hs4) (fun l' h => by rw [h.1.length]; exact hl1) (by simp [kinL, kin, H.kdata hl1]) ?_
                rintro l2 ⟨z1, z2⟩
                simp
                refine H.ret hl (by rw [z1.length]; exact hl1) (.inr rfl) ?_
                exact ⟨rfl, l2, rfl, hfin l2 z1 z2⟩
              · have hsl : SrtIn lt mid b l1 := by
                  by_cases hb2 : mid < e
                  · rwa [show e = b by omega] at hs3
                  · rwa [show e = mid by omega] at hs4
                by_cases hb2 : mid < e
                · have hb3 : ¬e < b := by omega
                  simp [hb2, hb3]
                  refine H.ret hl hl1 (.inr rfl) ?_
                  exact ⟨rfl, l1, rfl, hfin l1 (.refl _) hsl⟩
                · simp [hb2]
                  refine H.ret hl hl1 (.inr rfl) ?_
                  exact ⟨rfl, l1, rfl, hfin l1 (.refl _) hsl⟩
            · have hl1 : (l).length = n := hlk
              have p1 : Seg a mid l l := .refl _
              have p2 : SrtIn lt a mid l := by
                by_cases ha2 : a < i
                · have := hM.s1
                  rwa [show i = mid by omega] at this
                · have := hM.s2
                  rwa [show i = a by omega] at this
              by_cases ha2 : a < i
              · have ha3 : ¬i < mid := by omega
                simp [ha2, ha3]
                have hs3 : SrtIn lt mid e l := fun p q x y h1 h2 h3 hx hy => by
                  rw [p1.out _ (.inr h1)] at hx
                  rw [p1.out _ (.inr (by omega))] at hy
                  exact hM.s3 p q x y h1 h2 h3 hx hy
                have hs4 : SrtIn lt e b l := fun p q x y h1 h2 h3 hx hy => by
                  rw [p1.out _ (.inr (by omega))] at hx
                  rw [p1.out _ (.inr (by omega))] at hy
                  exact hM.s4 p q x y h1 h2 h3 hx hy
                have hfin : ∀ l2, Seg mid b l l2 → SrtIn lt mid b l2 → Seg a b l l2 ∧ SrtIn lt a b l2 := fun l2 q1 q2 => ⟨(hSg.trans (p1.mono (by omega) (by omega))).trans (q1.mono (by omega) (by omega)), mid_join (by omega) p1 p2 q1 q2 hM.cross⟩
                by_cases hb1 : mid < e ∧ e < b
                · simp [hb1.1, hb1.2, Pv.look]
                  simp only [strip_data H, H.slc, H.ssc, agg_data]
                  refine H.doFn hl1 (ih l mid e b hl1 (by omega) hb1.1 hb1.2 (by omega) hs3 hs4) (fun l' h => by rw [h.1.length]; exact hl1) (by simp [kinL, kin, H.kdata hl1]) ?_
                  rintro l2 ⟨z1, z2⟩
                  simp
                  refine H.ret hl (by rw [z1.length]; exact hl1) (.inr rfl) ?_
                  exact ⟨rfl, l2, rfl, hfin l2 z1 z2⟩
                · have hsl : SrtIn lt mid b l := by
                    by_cases hb2 : mid < e
                    · rwa [show e = b by omega] at hs3
                    · rwa [show e = mid by omega] at hs4
                  by_cases hb2 : mid < e
                  · have hb3 : ¬e < b := by omega
                    simp [hb2, hb3]
                    refine H.ret hl hl1 (.inr rfl) ?_
                    exact ⟨rfl, l, rfl, hfin l (.refl _) hsl⟩
                  · simp [hb2]
                    refine H.ret hl hl1 (.inr rfl) ?_
                    exact ⟨rfl, l, rfl, hfin l (.refl _) hsl⟩
              · simp [ha2]
                have hs3 : SrtIn lt mid e l := fun p q x y h1 h2 h3 hx hy => by
                  rw [p1.out _ (.inr h1)] at hx
                  rw [p1.out _ (.inr (by omega))] at hy
                  exact hM.s3 p q x y h1 h2 h3 hx hy
                have hs4 : SrtIn lt e b l := fun p q x y h1 h2 h3 hx hy => by
                  rw [p1.out _ (.inr (by omega))] at hx
                  rw [p1.out _ (.inr (by omega))] at hy
                  exact hM.s4 p q x y h1 h2 h3 hx hy
                have hfin : ∀ l2, Seg mid b l l2 → SrtIn lt mid b l2 → Seg a b l l2 ∧ SrtIn lt a b l2 := fun l2 q1 q2 => ⟨(hSg.trans (p1.mono (by omega) (by omega))).trans (q1.mono (by omega) (by omega)), mid_join (by omega) p1 p2 q1 q2 hM.cross⟩
                by_cases hb1 : mid < e ∧ e < b
                · simp [hb1.1, hb1.2, Pv.look]
                  simp only [strip_data H, H.slc, H.ssc, agg_data]
                  refine H.doFn hl1 (ih l mid e b hl1 (by omega) hb1.1 hb1.2 (by omega) hs3 hs4) (fun l' h => by rw [h.1.length]; exact hl1) (by simp [kinL, kin, H.kdata hl1]) ?_
                  rintro l2 ⟨z1, z2⟩
                  simp
                  refine H.ret hl (by rw [z1.length]; exact hl1) (.inr rfl) ?_
                  exact ⟨rfl, l2, rfl, hfin l2 z1 z2⟩
                · have hsl : SrtIn lt mid b l := by
                    by_cases hb2 : mid < e
                    · rwa [show e = b by omega] at hs3
                    · rwa [show e = mid by omega] at hs4
                  by_cases hb2 : mid < e
                  · have hb3 : ¬e < b := by omega
                    simp [hb2, hb3]
                    refine H.ret hl hl1 (.inr rfl) ?_
                    exact ⟨rfl, l, rfl, hfin l (.refl _) hsl⟩
                  · simp [hb2]
                    refine H.ret hl hl1 (.inr rfl) ?_
                    exact ⟨rfl, l, rfl, hfin l (.refl _) hsl⟩
    · refine evC_whl (fun (x : Nat × Nat) => ⟨[(1, .int .i64 a), (2, .int .i64 m), (3, .int .i64 b), (4, .ptr (.loc 0) 0), (16, .int .i64 mid), (17, .int .i64 (mid + m)), (20, .int .i64 (mid + m - 1)), (18, .int .i64 x.1), (19, .int .i64 x.2)], (.loc 0, [.func g lc, .func sf sc]) :: (S l).b, (S l).e, 1, obsIds (S l)⟩) (fun x => x.2 - x.1)
        (symJ lt l mid m (a) (m)) ((a), (m))
        (H.weak hl hl (by simp [kin]; try omega) (by simp [look_app, hn]) (by first | (refine kpL ?_; simp; done) | (intro k x hx; first | exact hx | (simp [hx, without_self]; done) | (simp [look_app, without_self, hx]; done) | (cases k <;> simp_all [look_app]; done))) (by first | (refine kpL ?_; simp; done) | (intro k x hx; first | exact hx | (simp [hx, without_self]; done) | (simp [look_app, without_self, hx]; done) | (cases k <;> simp_all [look_app]; done)))) ⟨by simp, by simp; omega, by simp, .inl rfl, .inl rfl⟩ ?_
      rintro ⟨i, j⟩ ⟨k1, k2, k3, k4, k5⟩ _
      simp only at k1 k2 k3 k4 k5
      have hw2 := half_wrap i j (by omega)
      by_cases hij : i < j
      · simp [hij]
        (repeat' first | (with_reducible refine evCd_split (fun h => ?_) (fun h => ?_) <;> (try simp at h)) | (with_reducible refine evGd_split (fun h => ?_) (fun h => ?_) <;> (try simp at h)) | (with_reducible refine evDd_split (fun h => ?_) (fun h => ?_) <;> (try simp at h)) | with_reducible refine And.intro (by (first | omega | (unfold in64; omega))) ?_ | simp [Pv.look])
        obtain ⟨c, hc⟩ : ∃ c, c = (i + j) / 2 := ⟨_, rfl⟩
        rw [← hc] at hw2
        simp only [hw2]
        (repeat' first | (with_reducible refine evCd_split (fun h => ?_) (fun h => ?_) <;> (try simp at h)) | (with_reducible refine evGd_split (fun h => ?_) (fun h => ?_) <;> (try simp at h)) | (with_reducible refine evDd_split (fun h => ?_) (fun h => ?_) <;> (try simp at h)) | with_reducible refine And.intro (by (first | omega | (unfold in64; omega))) ?_ | simp [Pv.look])
        obtain ⟨u, hu2⟩ : ∃ u, l[c]? = some u := ⟨_, List.getElem?_eq_getElem (by omega)⟩
        obtain ⟨v, hv2⟩ : ∃ v, l[mid + m - 1 - c]? = some v := ⟨_, List.getElem?_eq_getElem (by omega)⟩
        have e4 : ((mid : Int) + m - 1 - c) = (mid + m - 1 - c : Nat) := by omega
        simp only [H.slc, e4]
        refine H.doLess hl (mid + m - 1 - c) c hv2 hu2 ?_
        simp
        cases hyz : lt v u with
        | false =>
          simp
          (repeat' first | (with_reducible refine evCd_split (fun h => ?_) (fun h => ?_) <;> (try simp at h)) | (with_reducible refine evGd_split (fun h => ?_) (fun h => ?_) <;> (try simp at h)) | (with_reducible refine evDd_split (fun h => ?_) (fun h => ?_) <;> (try simp at h)) | with_reducible refine And.intro (by (first | omega | (unfold in64; omega))) ?_ | simp)
          refine LoopQ.whl (c + 1, j) (by simp; omega) ⟨by simp; omega, by simp; omega, k3, .inr ⟨u, v, by simpa using hu2, ?_, hyz⟩, k5⟩ (H.weakC hl hl (by simp [kin]))
          simp only
          rw [show mid + m - (c + 1) = mid + m - 1 - c by omega]; exact hv2
        | true =>
          simp
          (repeat' first | (with_reducible refine evCd_split (fun h => ?_) (fun h => ?_) <;> (try simp at h)) | (with_reducible refine evGd_split (fun h => ?_) (fun h => ?_) <;> (try simp at h)) | (with_reducible refine evDd_split (fun h => ?_) (fun h => ?_) <;> (try simp at h)) | with_reducible refine And.intro (by (first | omega | (unfold in64; omega))) ?_ | simp)
          refine LoopQ.whl (i, c) (by simp; omega) ⟨k1, by simp; omega, by simp; omega, k4, .inr ⟨u, v, hu2, ?_, hyz⟩⟩ (H.weakC hl hl (by simp [kin]))
          simp only
          rw [show mid + m - c - 1 = mid + m - 1 - c by omega]; exact hv2
      · obtain rfl : i = j := by omega
        obtain ⟨e, he⟩ : ∃ e, e = mid + m - i := ⟨_, rfl⟩
        have e5 : ((mid : Int) + m - i) = (e : Nat) := by omega
        have c1 : i = a ∨ e = b ∨ ∃ x y, l[i - 1]? = some x ∧ l[e]? = some y ∧ lt y x = false := by
          rcases k4 with k4 | ⟨u, v, q1, q2, q3⟩
          · omega
          · exact .inr (.inr ⟨u, v, q1, by rw [he]; exact q2, q3⟩)
        have c2 : i = m ∨ e = m ∨ ∃ x y, l[i]? = some x ∧ l[e - 1]? = some y ∧ lt y x = true := by
          rcases k5 with k5 | ⟨u, v, q1, q2, q3⟩
          · omega
          · exact .inr (.inr ⟨u, v, q1, by rw [he]; exact q2, q3⟩)
        have hmf : ∀ lk : List α, (∀ k, lk[k]? = l[rotI i m e k]?) → Mid lt a i m e b mid lk := fun lk hr => mid_facts hlt (by omega) (by omega) (by omega) (by omega) (by omega) (by omega) hs1 hs2 c1 c2 hr
        simp [hij]
        refine And.intro (by (first | omega | (unfold in64; omega))) ?_
        simp [e5]
        by_cases hr1 : i < m ∧ m < e
        · simp [hr1.1, hr1.2, Pv.look]
          simp only [strip_data H, H.slc, H.ssc, agg_data]
          refine H.doFn hl (g_rotate H l hl i m e hr1.1 hr1.2 (by omega)) (fun l' h => by rw [h.1.length]; exact hl) (by simp [kinL, kin, H.kdata hl]) ?_
          rintro lk ⟨q1, q2⟩
          have hlk : lk.length = n := by rw [q1.length]; exact hl
          have hM := hmf lk q2
          have hSg : Seg a b l lk := q1.mono (by omega) (by omega)
          simp
          by_cases ha1 : a < i ∧ i < mid
          · simp [ha1.1, ha1.2, Pv.look]
            simp only [strip_data H, H.slc, H.ssc, agg_data]
            refine H.doFn hlk (ih lk a i mid hlk (by omega) ha1.1 ha1.2 (by omega) hM.s1 hM.s2) (fun l' h => by rw [h.1.length]; exact hlk) (by simp [kinL, kin, H.kdata hlk]) ?_
            rintro l1 ⟨p1, p2⟩
            have hl1 : l1.length = n := by rw [p1.length]; exact hlk
            simp
            have hs3 : SrtIn lt mid e l1 := fun p q x y h1 h2 h3 hx hy => by
              rw [p1.out _ (.inr h1)] at hx
              rw [p1.out _ (.inr (by omega))] at hy
              exact hM.s3 p q x y h1 h2 h3 hx hy
            have hs4 : SrtIn lt e b l1 := fun p q x y h1 h2 h3 hx hy => by
              rw [p1.out _ (.inr (by omega))] at hx
              rw [p1.out _ (.inr (by omega))] at hy
              exact hM.s4 p q x y h1 h2 h3 hx hy
            have hfin : ∀ l2, Seg mid b l1 l2 → SrtIn lt mid b l2 → Seg a b l l2 ∧ SrtIn lt a b l2 := fun l2 q1 q2 => ⟨(hSg.trans (p1.mono (by omega) (by omega))).trans (q1.mono (by omega) (by omega)), mid_join (by omega) p1 p2 q1 q2 hM.cross⟩
            by_cases hb1 : mid < e ∧ e < b
            · simp [hb1.1, hb1.2, Pv.look]
              simp only [strip_data H, H.slc, H.ssc, agg_data]
              refine H.doFn hl1 (ih l1 mid e b hl1 (by omega) hb1.1 hb1.2 (by omega) hs3 hs4) (fun l' h => by rw [h.1.length]; exact hl1) (by simp [kinL, kin, H.kdata hl1]) ?_
              rintro l2 ⟨z1, z2⟩
              simp
              refine H.ret hl (by rw [z1.length]; exact hl1) (.inr rfl) ?_
              exact ⟨rfl, l2, rfl, hfin l2 z1 z2⟩
            · have hsl : SrtIn lt mid b l1 := by
                by_cases hb2 : mid < e
                · rwa [show e = b by omega] at hs3
                · rwa [show e = mid by omega] at hs4
              by_cases hb2 : mid < e
              · have hb3 : ¬e < b := by omega
                simp [hb2, hb3]
                refine H.ret hl hl1 (.inr rfl) ?_
                exact ⟨rfl, l1, rfl, hfin l1 (.refl _) hsl⟩
              · simp [hb2]
                refine H.ret hl hl1 (.inr rfl) ?_
                exact ⟨rfl, l1, rfl, hfin l1 (.refl _) hsl⟩
          · have hl1 : (lk).length = n := hlk
            have p1 : Seg a mid lk lk := .refl _
            have p2 : SrtIn lt a mid lk := by
              by_cases ha2 : a < i
              · have := hM.s1
                rwa [show i = mid by omega] at this
              · have := hM.s2
                rwa [show i = a by omega] at this
            by_cases ha2 : a < i
            · have ha3 : ¬i < mid := by omega
              simp [ha2, ha3]
              have hs3 : SrtIn lt mid e lk := fun p q x y h1 h2 h3 hx hy => by
                rw [p1.out _ (.inr h1)] at hx
                rw [p1.out _ (.inr (by omega))] at hy
                exact hM.s3 p q x y h1 h2 h3 hx hy
              have hs4 : SrtIn lt e b lk := fun p q x y h1 h2 h3 hx hy => by
                rw [p1.out _ (.inr (by omega))] at hx
                rw [p1.out _ (.inr (by omega))] at hy
                exact hM.s4 p q x y h1 h2 h3 hx hy
              have hfin : ∀ l2, Seg mid b lk l2 → SrtIn lt mid b l2 → Seg a b l l2 ∧ SrtIn lt a b l2 := fun l2 q1 q2 => ⟨(hSg.trans (p1.mono (by omega) (by omega))).trans (q1.mono (by omega) (by omega)), mid_join (by omega) p1 p2 q1 q2 hM.cross⟩
              by_cases hb1 : mid < e ∧ e < b
              · simp [hb1.1, hb1.2, Pv.look]
                simp only [strip_data H, H.slc, H.ssc, agg_data]
                refine H.doFn hl1 (ih lk mid e b hl1 (by omega) hb1.1 hb1.2 (by omega) hs3 hs4) (fun l' h => by rw [h.1.length]; exact hl1) (by simp [kinL, kin, H.kdata hl1]) ?_
                rintro l2 ⟨z1, z2⟩
                simp
                refine H.ret hl (by rw [z1.length]; exact hl1) (.inr rfl) ?_
                exact ⟨rfl, l2, rfl, hfin l2 z1 z2⟩
              · have hsl : SrtIn lt mid b lk := by
                  by_cases hb2 : mid < e
                  · rwa [show e = b by omega] at hs3
                  · rwa [show e = mid by omega] at hs4
                by_cases hb2 : mid < e
                · have hb3 : ¬e < b := by omega
                  simp [hb2, hb3]
                  refine H.ret hl hl1 (.inr rfl) ?_
                  exact ⟨rfl, lk, rfl, hfin lk (.refl _) hsl⟩
                · simp [hb2]
                  refine H.ret hl hl1 (.inr rfl) ?_
                  exact ⟨rfl, lk, rfl, hfin lk (.refl _) hsl⟩
            · simp [ha2]
              have hs3 : SrtIn lt mid e lk := fun p q x y h1 h2 h3 hx hy => by
                rw [p1.out _ (.inr h1)] at hx
                rw [p1.out _ (.inr (by omega))] at hy
                exact hM.s3 p q x y h1 h2 h3 hx hy
              have hs4 : SrtIn lt e b lk := fun p q x y h1 h2 h3 hx hy => by
                rw [p1.out _ (.inr (by omega))] at hx
                rw [p1.out _ (.inr (by omega))] at hy
                exact hM.s4 p q x y h1 h2 h3 hx hy
              have hfin : ∀ l2, Seg mid b lk l2 → SrtIn lt mid b l2 → Seg a b l l2 ∧ SrtIn lt a b l2 := fun l2 q1 q2 => ⟨(hSg.trans (p1.mono (by omega) (by omega))).trans (q1.mono (by omega) (by omega)), mid_join (by omega) p1 p2 q1 q2 hM.cross⟩
              by_cases hb1 : mid < e ∧ e < b
              · simp [hb1.1, hb1.2, Pv.look]
                simp only [strip_data H, H.slc, H.ssc, agg_data]
                refine H.doFn hl1 (ih lk mid e b hl1 (by omega) hb1.1 hb1.2 (by omega) hs3 hs4) (fun l' h => by rw [h.1.length]; exact hl1) (by simp [kinL, kin, H.kdata hl1]) ?_
                rintro l2 ⟨z1, z2⟩
                simp
                refine H.ret hl (by rw [z1.length]; exact hl1) (.inr rfl) ?_
                exact ⟨rfl, l2, rfl, hfin l2 z1 z2⟩
              · have hsl : SrtIn lt mid b lk := by
                  by_cases hb2 : mid < e
                  · rwa [show e = b by omega] at hs3
                  · rwa [show e = mid by omega] at hs4
                by_cases hb2 : mid < e
                · have hb3 : ¬e < b := by omega
                  simp [hb2, hb3]
                  refine H.ret hl hl1 (.inr rfl) ?_
                  exact ⟨rfl, lk, rfl, hfin lk (.refl _) hsl⟩
                · simp [hb2]
                  refine H.ret hl hl1 (.inr rfl) ?_
                  exact ⟨rfl, lk, rfl, hfin lk (.refl _) hsl⟩
        · have hlk : l.length = n := hl
          have hM := hmf l (fun k => by
            congr 1; simp only [rotI]; repeat' split
            all_goals omega)
          have hSg : Seg a b l l := .refl _
          by_cases hr2 : i < m
          · have hr3 : ¬m < e := by omega
            simp [hr2, hr3]
            by_cases ha1 : a < i ∧ i < mid
            · simp [ha1.1, ha1.2, Pv.look]
              simp only [strip_data H, H.slc, H.ssc, agg_data]
              refine H.doFn hlk (ih l a i mid hlk (by omega) ha1.1 ha1.2 (by omega) hM.s1 hM.s2) (fun l' h => by rw [h.1.length]; exact hlk) (by simp [kinL, kin, H.kdata hlk]) ?_
              rintro l1 ⟨p1, p2⟩
              have hl1 : l1.length = n := by rw [p1.length]; exact hlk
              simp
              have hs3 : SrtIn lt mid e l1 := fun p q x y h1 h2 h3 hx hy => by
                rw [p1.out _ (.inr h1)] at hx
                rw [p1.out _ (.inr (by omega))] at hy
                exact hM.s3 p q x y h1 h2 h3 hx hy
              have hs4 : SrtIn lt e b l1 := fun p q x y h1 h2 h3 hx hy => by
                rw [p1.out _ (.inr (by omega))] at hx
                rw [p1.out _ (.inr (by omega))] at hy
                exact hM.s4 p q x y h1 h2 h3 hx hy
              have hfin : ∀ l2, Seg mid b l1 l2 → SrtIn lt mid b l2 → Seg a b l l2 ∧ SrtIn lt a b l2 := fun l2 q1 q2 => ⟨(hSg.trans (p1.mono (by omega) (by omega))).trans (q1.mono (by omega) (by omega)), mid_join (by omega) p1 p2 q1 q2 hM.cross⟩
              by_cases hb1 : mid < e ∧ e < b
              · simp [hb1.1, hb1.2, Pv.look]
                simp only [strip_data H, H.slc, H.ssc, agg_data]
                refine H.doFn hl1 (ih l1 mid e b hl1 (by omega) hb1.1 hb1.2 (by omega) hs3 hs4) (fun l' h => by rw [h.1.length]; exact hl1) (by simp [kinL, kin, H.kdata hl1]) ?_
                rintro l2 ⟨z1, z2⟩
                simp
                refine H.ret hl (by rw [z1.length]; exact hl1) (.inr rfl) ?_
                exact ⟨rfl, l2, rfl, hfin l2 z1 z2⟩
              · have hsl : SrtIn lt mid b l1 := by
                  by_cases hb2 : mid < e
                  · rwa [show e = b by omega] at hs3
                  · rwa [show e = mid by omega] at hs4
                by_cases hb2 : mid < e
                · have hb3 : ¬e < b := by omega
                  simp [hb2, hb3]
                  refine H.ret hl hl1 (.inr rfl) ?_
                  exact ⟨rfl, l1, rfl, hfin l1 (.refl _) hsl⟩
                · simp [hb2]
                  refine H.ret hl hl1 (.inr rfl) ?_
                  exact ⟨rfl, l1, rfl, hfin l1 (.refl _) hsl⟩
            · have hl1 : (l).length = n := hlk
              have p1 : Seg a mid l l := .refl _
              have p2 : SrtIn lt a mid l := by
                by_cases ha2 : a < i
                · have := hM.s1
                  rwa [show i = mid by omega] at this
                · have := hM.s2
                  rwa [show i = a by omega] at this
              by_cases ha2 : a < i
              · have ha3 : ¬i < mid := by omega
                simp [ha2, ha3]
                have hs3 : SrtIn lt mid e l := fun p q x y h1 h2 h3 hx hy => by
                  rw [p1.out _ (.inr h1)] at hx
                  rw [p1.out _ (.inr (by omega))] at hy
                  exact hM.s3 p q x y h1 h2 h3 hx hy
                have hs4 : SrtIn lt e b l := fun p q x y h1 h2 h3 hx hy => by
                  rw [p1.out _ (.inr (by omega))] at hx
                  rw [p1.out _ (.inr (by omega))] at hy
                  exact hM.s4 p q x y h1 h2 h3 hx hy
                have hfin : ∀ l2, Seg mid b l l2 → SrtIn lt mid b l2 → Seg a b l l2 ∧ SrtIn lt a b l2 := fun l2 q1 q2 => ⟨(hSg.trans (p1.mono (by omega) (by omega))).trans (q1.mono (by omega) (by omega)), mid_join (by omega) p1 p2 q1 q2 hM.cross⟩
                by_cases hb1 : mid < e ∧ e < b
                · simp [hb1.1, hb1.2, Pv.look]
                  simp only [strip_data H, H.slc, H.ssc, agg_data]
                  refine H.doFn hl1 (ih l mid e b hl1 (by omega) hb1.1 hb1.2 (by omega) hs3 hs4) (fun l' h => by rw [h.1.length]; exact hl1) (by simp [kinL, kin, H.kdata hl1]) ?_
                  rintro l2 ⟨z1, z2⟩
                  simp
                  refine H.ret hl (by rw [z1.length]; exact hl1) (.inr rfl) ?_
                  exact ⟨rfl, l2, rfl, hfin l2 z1 z2⟩
                · have hsl : SrtIn lt mid b l := by
                    by_cases hb2 : mid < e
                    · rwa [show e = b by omega] at hs3
                    · rwa [show e = mid by omega] at hs4
                  by_cases hb2 : mid < e
                  · have hb3 : ¬e < b := by omega
                    simp [hb2, hb3]
                    refine H.ret hl hl1 (.inr rfl) ?_
                    exact ⟨rfl, l, rfl, hfin l (.refl _) hsl⟩
                  · simp [hb2]
                    refine H.ret hl hl1 (.inr rfl) ?_
                    exact ⟨rfl, l, rfl, hfin l (.refl _) hsl⟩
              · simp [ha2]
                have hs3 : SrtIn lt mid e l := fun p q x y h1 h2 h3 hx hy => by
                  rw [p1.out _ (.inr h1)] at hx
                  rw [p1.out _ (.inr (by omega))] at hy
                  exact hM.s3 p q x y h1 h2 h3 hx hy
                have hs4 : SrtIn lt e b l := fun p q x y h1 h2 h3 hx hy => by
                  rw [p1.out _ (.inr (by omega))] at hx
                  rw [p1.out _ (.inr (by omega))] at hy
                  exact hM.s4 p q x y h1 h2 h3 hx hy
                have hfin : ∀ l2, Seg mid b l l2 → SrtIn lt mid b l2 → Seg a b l l2 ∧ SrtIn lt a b l2 := fun l2 q1 q2 => ⟨(hSg.trans (p1.mono (by omega) (by omega))).trans (q1.mono (by omega) (by omega)), mid_join (by omega) p1 p2 q1 q2 hM.cross⟩
                by_cases hb1 : mid < e ∧ e < b
                · simp [hb1.1, hb1.2, Pv.look]
                  simp only [strip_data H, H.slc, H.ssc, agg_data]
                  refine H.doFn hl1 (ih l mid e b hl1 (by omega) hb1.1 hb1.2 (by omega) hs3 hs4) (fun l' h => by rw [h.1.length]; exact hl1) (by simp [kinL, kin, H.kdata hl1]) ?_
                  rintro l2 ⟨z1, z2⟩
                  simp
                  refine H.ret hl (by rw [z1.length]; exact hl1) (.inr rfl) ?_
                  exact ⟨rfl, l2, rfl, hfin l2 z1 z2⟩
                · have hsl : SrtIn lt mid b l := by
                    by_cases hb2 : mid < e
                    · rwa [show e = b by omega] at hs3
                    · rwa [show e = mid by omega] at hs4
                  by_cases hb2 : mid < e
                  · have hb3 : ¬e < b := by omega
                    simp [hb2, hb3]
                    refine H.ret hl hl1 (.inr rfl) ?_
                    exact ⟨rfl, l, rfl, hfin l (.refl _) hsl⟩
                  · simp [hb2]
                    refine H.ret hl hl1 (.inr rfl) ?_
                    exact ⟨rfl, l, rfl, hfin l (.refl _) hsl⟩
          · simp [hr2]
            by_cases ha1 : a < i ∧ i < mid
            · simp [ha1.1, ha1.2, Pv.look]
              simp only [strip_data H, H.slc, H.ssc, agg_data]
              refine H.doFn hlk (ih l a i mid hlk (by omega) ha1.1 ha1.2 (by omega) hM.s1 hM.s2) (fun l' h => by rw [h.1.length]; exact hlk) (by simp [kinL, kin, H.kdata hlk]) ?_
              rintro l1 ⟨p1, p2⟩
              have hl1 : l1.length = n := by rw [p1.length]; exact hlk
              simp
              have hs3 : SrtIn lt mid e l1 := fun p q x y h1 h2 h3 hx hy => by
                rw [p1.out _ (.inr h1)] at hx
                rw [p1.out _ (.inr (by omega))] at hy
                exact hM.s3 p q x y h1 h2 h3 hx hy
              have hs4 : SrtIn lt e b l1 := fun p q x y h1 h2 h3 hx hy => by
                rw [p1.out _ (.inr (by omega))] at hx
                rw [p1.out _ (.inr (by omega))] at hy
                exact hM.s4 p q x y h1 h2 h3 hx hy
              have hfin : ∀ l2, Seg mid b l1 l2 → SrtIn lt mid b l2 → Seg a b l l2 ∧ SrtIn lt a b l2 := fun l2 q1 q2 => ⟨(hSg.trans (p1.mono (by omega) (by omega))).trans (q1.mono (by omega) (by omega)), mid_join (by omega) p1 p2 q1 q2 hM.cross⟩
              by_cases hb1 : mid < e ∧ e < b
              · simp [hb1.1, hb1.2, Pv.look]
                simp only [strip_data H, H.slc, H.ssc, agg_data]
                refine H.doFn hl1 (ih l1 mid e b hl1 (by omega) hb1.1 hb1.2 (by omega) hs3 hs4) (fun l' h => by rw [h.1.length]; exact hl1) (by simp [kinL, kin, H.kdata hl1]) ?_
                rintro l2 ⟨z1, z2⟩
                simp
                refine H.ret hl (by rw [z1.length]; exact hl1) (.inr rfl) ?_
                exact ⟨rfl, l2, rfl, hfin l2 z1 z2⟩
              · have hsl : SrtIn lt mid b l1 := by
                  by_cases hb2 : mid < e
                  · rwa [show e = b by omega] at hs3
                  · rwa [show e = mid by omega] at hs4
                by_cases hb2 : mid < e
                · have hb3 : ¬e < b := by omega
                  simp [hb2, hb3]
                  refine H.ret hl hl1 (.inr rfl) ?_
                  exact ⟨rfl, l1, rfl, hfin l1 (.refl _) hsl⟩
                · simp [hb2]
                  refine H.ret hl hl1 (.inr rfl) ?_
                  exact ⟨rfl, l1, rfl, hfin l1 (.refl _) hsl⟩
            · have hl1 : (l).length = n := hlk
              have p1 : Seg a mid l l := .refl _
              have p2 : SrtIn lt a mid l := by
                by_cases ha2 : a < i
                · have := hM.s1
                  rwa [show i = mid by omega] at this
                · have := hM.s2
                  rwa [show i = a by omega] at this
              by_cases ha2 : a < i
              · have ha3 : ¬i < mid := by omega
                simp [ha2, ha3]
                have hs3 : SrtIn lt mid e l := fun p q x y h1 h2 h3 hx hy => by
                  rw [p1.out _ (.inr h1)] at hx
                  rw [p1.out _ (.inr (by omega))] at hy
                  exact hM.s3 p q x y h1 h2 h3 hx hy
                have hs4 : SrtIn lt e b l := fun p q x y h1 h2 h3 hx hy => by
                  rw [p1.out _ (.inr (by omega))] at hx
                  rw [p1.out _ (.inr (by omega))] at hy
                  exact hM.s4 p q x y h1 h2 h3 hx hy
                have hfin : ∀ l2, Seg mid b l l2 → SrtIn lt mid b l2 → Seg a b l l2 ∧ SrtIn lt a b l2 := fun l2 q1 q2 => ⟨(hSg.trans (p1.mono (by omega) (by omega))).trans (q1.mono (by omega) (by omega)), mid_join (by omega) p1 p2 q1 q2 hM.cross⟩
                by_cases hb1 : mid < e ∧ e < b
                · simp [hb1.1, hb1.2, Pv.look]
                  simp only [strip_data H, H.slc, H.ssc, agg_data]
                  refine H.doFn hl1 (ih l mid e b hl1 (by omega) hb1.1 hb1.2 (by omega) hs3 hs4) (fun l' h => by rw [h.1.length]; exact hl1) (by simp [kinL, kin, H.kdata hl1]) ?_
                  rintro l2 ⟨z1, z2⟩
                  simp
                  refine H.ret hl (by rw [z1.length]; exact hl1) (.inr rfl) ?_
                  exact ⟨rfl, l2, rfl, hfin l2 z1 z2⟩
                · have hsl : SrtIn lt mid b l := by
                    by_cases hb2 : mid < e
                    · rwa [show e = b by omega] at hs3
                    · rwa [show e = mid by omega] at hs4
                  by_cases hb2 : mid < e
                  · have hb3 : ¬e < b := by omega
                    simp [hb2, hb3]
                    refine H.ret hl hl1 (.inr rfl) ?_
                    exact ⟨rfl, l, rfl, hfin l (.refl _) hsl⟩
                  · simp [hb2]
                    refine H.ret hl hl1 (.inr rfl) ?_
                    exact ⟨rfl, l, rfl, hfin l (.refl _) hsl⟩
              · simp [ha2]
                have hs3 : SrtIn lt mid e l := fun p q x y h1 h2 h3 hx hy => by
                  rw [p1.out _ (.inr h1)] at hx
                  rw [p1.out _ (.inr (by omega))] at hy
                  exact hM.s3 p q x y h1 h2 h3 hx hy
                have hs4 : SrtIn lt e b l := fun p q x y h1 h2 h3 hx hy => by
                  rw [p1.out _ (.inr (by omega))] at hx
                  rw [p1.out _ (.inr (by omega))] at hy
                  exact hM.s4 p q x y h1 h2 h3 hx hy
                have hfin : ∀ l2, Seg mid b l l2 → SrtIn lt mid b l2 → Seg a b l l2 ∧ SrtIn lt a b l2 := fun l2 q1 q2 => ⟨(hSg.trans (p1.mono (by omega) (by omega))).trans (q1.mono (by omega) (by omega)), mid_join (by omega) p1 p2 q1 q2 hM.cross⟩
                by_cases hb1 : mid < e ∧ e < b
                · simp [hb1.1, hb1.2, Pv.look]
                  simp only [strip_data H, H.slc, H.ssc, agg_data]
                  refine H.doFn hl1 (ih l mid e b hl1 (by omega) hb1.1 hb1.2 (by omega) hs3 hs4) (fun l' h => by rw [h.1.length]; exact hl1) (by simp [kinL, kin, H.kdata hl1]) ?_
                  rintro l2 ⟨z1, z2⟩
                  simp
                  refine H.ret hl (by rw [z1.length]; exact hl1) (.inr rfl) ?_
                  exact ⟨rfl, l2, rfl, hfin l2 z1 z2⟩
                · have hsl : SrtIn lt mid b l := by
                    by_cases hb2 : mid < e
                    · rwa [show e = b by omega] at hs3
                    · rwa [show e = mid by omega] at hs4
                  by_cases hb2 : mid < e
                  · have hb3 : ¬e < b := by omega
                    simp [hb2, hb3]
                    refine H.ret hl hl1 (.inr rfl) ?_
                    exact ⟨rfl, l, rfl, hfin l (.refl _) hsl⟩
                  · simp [hb2]
                    refine H.ret hl hl1 (.inr rfl) ?_
                    exact ⟨rfl, l, rfl, hfin l (.refl _) hsl⟩
end Go.Proofs.YtchidkafcdmciaaGreat
/- Contracts: stable_func. -/
set_option linter.all false
namespace Go.Proofs.YtchidkafcdmciaaGreat
open Go Go.Pv
variable {α : Type} {S : List α → Obs} {n g sf : Nat} {lc sc : List PV} {lt : α → α → Bool}

/-- In order within the blocks of size z, from a on and before b. -/
def Blk (lt : α → α → Bool) (z a b : Nat) (l : List α) : Prop := ∀ i j x y, a ≤ i → i < j → j < b → i / z = j / z → l[i]? = some x → l[j]? = some y → lt y x = false
theorem Blk.snoc {z q : Nat} (hz : 0 < z) {l l' : List α} (h : Blk lt z 0 (q * z) l) {b : Nat} (hs : Seg (q * z) b l l') (h2 : SrtIn lt (q * z) b l') : Blk lt z 0 b l' := by
  intro i j x y hi hij hj hd hx hy
  by_cases hjq : j < q * z
  · rw [hs.out _ (.inl (by omega))] at hx
    rw [hs.out _ (.inl hjq)] at hy
    exact h i j x y hi hij hjq hd hx hy
  · have h3 : q ≤ j / z := (Nat.le_div_iff_mul_le hz).2 (by omega)
    have h4 : q * z ≤ i := (Nat.le_div_iff_mul_le hz).1 (by omega)
    exact h2 i j x y h4 hij hj hx hy
theorem Blk.srt {z q : Nat} (hz : 0 < z) {l : List α} {a b : Nat} (h : Blk lt z a b l) {c : Nat} (haq : a ≤ q * z) (hc : c ≤ (q + 1) * z) (hcb : c ≤ b) : SrtIn lt (q * z) c l := by
  intro i j x y hi hij hj hx hy
  have hi2 : i / z = q := Nat.div_eq_of_lt_le hi (by omega)
  have hj2 : j / z = q := Nat.div_eq_of_lt_le (by omega) (by omega)
  exact h i j x y (by omega) hij (by omega) (by omega) hx hy
theorem Blk.after {z a b a' b' : Nat} {l l' : List α} (h : Blk lt z a b l) (hs : Seg a a' l l') (ha : a ≤ a') (hb : b' ≤ b) : Blk lt z a' b' l' := by
  intro i j x y hi hij hj hd hx hy
  rw [hs.out _ (.inr (by omega))] at hx
  rw [hs.out _ (.inr (by omega))] at hy
  exact h i j x y (by omega) hij (by omega) hd hx hy
set_option maxHeartbeats 4000000 in
theorem g_stable (H : Srt S n g sf lc sc lt) (hlt : LtOk lt) (l : List α) (hl : l.length = n) :
    FnG Tryz.prog 154 [dataE g sf lc sc, .int .i64 n] (S l) fun r s' => r = .tuple [] ∧ ∃ l', s' = S l' ∧ Seg 0 n l l' ∧ SrtIn lt 0 n l' := by
  have hs := H.ok l
  have hn : ∀ l m, Pv.look (.loc m) (S l).b = none := fun l => (H.ok l).obj.1
  have hu : ∀ l m cs, upd (.loc m) cs (S l).b = (S l).b ++ [(.loc m, cs)] := fun l m cs => upd_fresh (hn l m)
  have ho : ∀ m, Key.loc m ∉ obsIds (S l) := loc_notin hs.obj
  have hle := H.le
  refine FnG.mk mixed tysok3 f_sort_stable_func ok_sort_stable_func (by simp) hs.obj fun hbnd hbb => ?_; unfold c_sort_stable_func
  simp [dataE, hu, ho, look_app, hn]
  refine evC_whl (fun (x : Nat × List α) => ⟨[(1, .int .i64 n), (2, .ptr (.loc 0) 0), (4, .int .i64 20), (5, .int .i64 (x.1 * 20)), (6, .int .i64 (x.1 * 20 + 20))], (.loc 0, [.func g lc, .func sf sc]) :: (S x.2).b, (S x.2).e, 1, obsIds (S l)⟩) (fun x => n + 20 - x.1 * 20)
    (fun x => x.2.length = n ∧ x.1 * 20 ≤ n ∧ Seg 0 n l x.2 ∧ Blk lt 20 0 (x.1 * 20) x.2) (0, l)
    (H.weak hl hl (by simp [kin]) (by simp [look_app, hn]) (by first | (refine kpL ?_; simp; done) | (intro k x hx; first | exact hx | (simp [hx, without_self]; done) | (simp [look_app, without_self, hx]; done) | (cases k <;> simp_all [look_app]; done))) (by first | (refine kpL ?_; simp; done) | (intro k x hx; first | exact hx | (simp [hx, without_self]; done) | (simp [look_app, without_self, hx]; done) | (cases k <;> simp_all [look_app]; done)))) ⟨hl, by simp, .refl _, fun i j x y h1 h2 h3 => by simp at h3⟩ ?_
  rintro ⟨q, lk⟩ ⟨h1, h2, h3, h4⟩ _
  simp only at h1 h2 h3 h4
  simp [Pv.look]
  (repeat' first | (with_reducible refine evCd_split (fun h => ?_) (fun h => ?_) <;> (try simp at h)) | (with_reducible refine evGd_split (fun h => ?_) (fun h => ?_) <;> (try simp at h)) | (with_reducible refine evDd_split (fun h => ?_) (fun h => ?_) <;> (try simp at h)) | with_reducible refine And.intro (by (first | omega | (unfold in64; omega))) ?_ | simp [Pv.look])
  · have e1 : ((q : Int) * 20) = (q * 20 : Nat) := by omega
    have e2 : ((q : Int) * 20 + 20) = (q * 20 + 20 : Nat) := by omega
    simp only [strip_data H, H.slc, H.ssc, agg_data, e2]
    simp only [e1]
    refine H.doFn h1 (g_insertionSort H hlt lk h1 (q * 20) (q * 20 + 20) (by omega) (by omega)) (fun l' h => by rw [h.1.length]; exact h1) (by simp [kinL, kin, H.kdata h1]) ?_
    rintro l' ⟨p1, p2⟩
    have hl' : l'.length = n := by rw [p1.length]; exact h1
    simp
    (repeat' first | (with_reducible refine evCd_split (fun h => ?_) (fun h => ?_) <;> (try simp at h)) | (with_reducible refine evGd_split (fun h => ?_) (fun h => ?_) <;> (try simp at h)) | (with_reducible refine evDd_split (fun h => ?_) (fun h => ?_) <;> (try simp at h)) | with_reducible refine And.intro (by (first | omega | (unfold in64; omega))) ?_ | simp)
    refine LoopQ.whl (q + 1, l') (by simp; omega) ⟨hl', by simp; omega, h3.trans (p1.mono (by omega) (by omega)), ?_⟩ (H.weakC hl hl' (by simp [kin]; omega))
    have := h4.snoc (by omega) p1 p2
    rwa [show q * 20 + 20 = (q + 1) * 20 by omega] at this
  · have e1 : ((q : Int) * 20) = (q * 20 : Nat) := by omega
    simp only [strip_data H, H.slc, H.ssc, agg_data, e1]
    refine H.doFn h1 (g_insertionSort H hlt lk h1 (q * 20) n (by omega) (by omega)) (fun l' h => by rw [h.1.length]; exact h1) (by simp [kinL, kin, H.kdata h1]) ?_
    rintro l' ⟨p1, p2⟩
    have hl' : l'.length = n := by rw [p1.length]; exact h1
    have hbl := h4.snoc (by omega) p1 p2
    simp
    refine evC_whl (fun (x : Nat × List α) => ⟨[(1, .int .i64 n), (2, .ptr (.loc 0) 0), (4, .int .i64 x.1)], (.loc 0, [.func g lc, .func sf sc]) :: (S x.2).b, (S x.2).e, 1, obsIds (S l)⟩) (fun x => 4000000 - x.1)
      (fun x => x.2.length = n ∧ 20 ≤ x.1 ∧ x.1 ≤ 2 * n + 20 ∧ Seg 0 n l x.2 ∧ Blk lt x.1 0 n x.2) (20, l')
      (H.weakC hl hl' (by simp [kin])) ⟨hl', by simp, by simp, h3.trans (p1.mono (by omega) (by omega)), hbl⟩ ?_
    rintro ⟨z, lz⟩ ⟨z1, z2, z3, z4, z5⟩ _
    simp only at z1 z2 z3 z4 z5
    simp [Pv.look]
    (repeat' first | (with_reducible refine evCd_split (fun h => ?_) (fun h => ?_) <;> (try simp at h)) | (with_reducible refine evGd_split (fun h => ?_) (fun h => ?_) <;> (try simp at h)) | (with_reducible refine evDd_split (fun h => ?_) (fun h => ?_) <;> (try simp at h)) | with_reducible refine And.intro (by (first | omega | (unfold in64; omega))) ?_ | simp [Pv.look])
    · refine evC_whl (fun (x : Nat × List α) => ⟨[(1, .int .i64 n), (2, .ptr (.loc 0) 0), (4, .int .i64 z), (5, .int .i64 (x.1 * (2 * z) : Nat)), (6, .int .i64 (x.1 * (2 * z) + 2 * z : Nat))], (.loc 0, [.func g lc, .func sf sc]) :: (S x.2).b, (S x.2).e, 1, obsIds (S l)⟩) (fun x => n + 2 * z - x.1 * (2 * z))
        (fun x => x.2.length = n ∧ x.1 * (2 * z) ≤ n ∧ Seg 0 n l x.2 ∧ Blk lt (2 * z) 0 (x.1 * (2 * z)) x.2 ∧ Blk lt z (x.1 * (2 * z)) n x.2) (0, lz)
        (H.weakC hl z1 (by simp [kin])) ⟨z1, by simp, z4, fun i j x y h1 h2 h3 => by simp at h3, by simpa using z5⟩ ?_
      rintro ⟨p, lp⟩ ⟨w1, w2, w3, w4, w5⟩ _
      simp only at w1 w2 w3 w4 w5
      obtain ⟨A, hA⟩ : ∃ A, A = p * (2 * z) := ⟨_, rfl⟩
      have hA2 : A = (2 * p) * z := by rw [hA, Nat.mul_comm 2 p, Nat.mul_assoc]
      have hA3 : (2 * p + 1) * z = A + z := by rw [Nat.add_mul, ← hA2, Nat.one_mul]
      have hA4 : (2 * p + 2) * z = A + 2 * z := by rw [Nat.add_mul, ← hA2]
      have hA5 : (p + 1) * (2 * z) = A + 2 * z := by rw [Nat.add_mul, ← hA, Nat.one_mul]
      have hs1 : ∀ c, c ≤ A + z → c ≤ n → SrtIn lt A c lp := fun c hc hcn => by
        have := Blk.srt (q := 2 * p) (by omega) w5 (c := c) (by rw [← hA2, hA]; omega) (by rw [hA3]; exact hc) hcn
        rwa [← hA2] at this
      have hs2 : ∀ c, c ≤ A + 2 * z → c ≤ n → SrtIn lt (A + z) c lp := fun c hc hcn => by
        have := Blk.srt (q := 2 * p + 1) (by omega) w5 (c := c) (by rw [hA3, hA]; omega) (by rw [hA4]; exact hc) hcn
        rwa [hA3] at this
      rw [← hA] at w2 w4 w5
      simp only [← hA]
      simp [Pv.look]
      (repeat' first | (with_reducible refine evCd_split (fun h => ?_) (fun h => ?_) <;> (try simp at h)) | (with_reducible refine evGd_split (fun h => ?_) (fun h => ?_) <;> (try simp at h)) | (with_reducible refine evDd_split (fun h => ?_) (fun h => ?_) <;> (try simp at h)) | with_reducible refine And.intro (by (first | omega | (unfold in64; omega))) ?_ | simp [Pv.look])
      · have e3 : ((A : Int) + z) = (A + z : Nat) := by omega
        have e4 : ((A : Int) + 2 * z) = (A + 2 * z : Nat) := by omega
        simp only [strip_data H, H.slc, H.ssc, agg_data, e3, e4]
        refine H.doFn w1 (g_symMerge H hlt (A + 2 * z - A) lp A (A + z) (A + 2 * z) w1 (by omega) (by omega) (by omega) (by omega) (hs1 _ (by omega) (by omega)) (hs2 _ (by omega) (by omega))) (fun l' h => by rw [h.1.length]; exact w1) (by simp [kinL, kin, H.kdata w1]) ?_
        rintro l2 ⟨y1, y2⟩
        have hl2 : l2.length = n := by rw [y1.length]; exact w1
        simp
        (repeat' first | (with_reducible refine evCd_split (fun h => ?_) (fun h => ?_) <;> (try simp at h)) | (with_reducible refine evGd_split (fun h => ?_) (fun h => ?_) <;> (try simp at h)) | (with_reducible refine evDd_split (fun h => ?_) (fun h => ?_) <;> (try simp at h)) | with_reducible refine And.intro (by (first | omega | (unfold in64; omega))) ?_ | simp)
        refine LoopQ.whl (p + 1, l2) (by simp only [hA5, ← hA]; omega) ⟨hl2, by simp only [hA5]; omega, w3.trans (y1.mono (by omega) (by omega)), ?_, ?_⟩ ?_
        · simp only [hA5]
          rw [hA] at w4 y1 y2
          have := w4.snoc (by omega) y1 y2
          rwa [← hA] at this
        · simp only [hA5]
          exact w5.after y1 (by omega) (by omega)
        · simp only [hA5]
          have hA5i : ((p : Int) + 1) * (2 * (z : Int)) = (A : Int) + 2 * z := by
            have h := congrArg (Nat.cast : Nat → Int) hA5
            push_cast at h
            exact h
          exact H.weakC hl hl2 (by simp [kin, hA5i])
      · have e3 : ((A : Int) + z) = (A + z : Nat) := by omega
        simp only [strip_data H, H.slc, H.ssc, agg_data, e3]
        refine H.doFn w1 (g_symMerge H hlt (n - A) lp A (A + z) n w1 (by omega) (by omega) (by omega) (by omega) (hs1 _ (by omega) (by omega)) (hs2 _ (by omega) (by omega))) (fun l' h => by rw [h.1.length]; exact w1) (by simp [kinL, kin, H.kdata w1]) ?_
        rintro l2 ⟨y1, y2⟩
        have hl2 : l2.length = n := by rw [y1.length]; exact w1
        simp
        (repeat' first | (with_reducible refine evCd_split (fun h => ?_) (fun h => ?_) <;> (try simp at h)) | (with_reducible refine evGd_split (fun h => ?_) (fun h => ?_) <;> (try simp at h)) | (with_reducible refine evDd_split (fun h => ?_) (fun h => ?_) <;> (try simp at h)) | with_reducible refine And.intro (by (first | omega | (unfold in64; omega))) ?_ | simp)
        refine LoopQ.whl (2 * z, l2) (by simp; omega) ⟨hl2, by simp; omega, by simp; omega, w3.trans (y1.mono (by omega) (by omega)), ?_⟩ (H.weakC hl hl2 (by simp [kin]; omega))
        rw [hA] at w4 y1 y2
        exact w4.snoc (by omega) y1 y2
      · refine LoopQ.whl (2 * z, lp) (by simp; omega) ⟨w1, by simp; omega, by simp; omega, w3, ?_⟩ (H.weakC hl w1 (by simp [kin]; omega))
        have h5 := hs1 n (by omega) (by omega)
        rw [hA] at w4 h5
        exact w4.snoc (by omega) (.refl _) h5
    · refine H.ret hl z1 (.inr rfl) ?_
      refine ⟨rfl, lz, rfl, z4, fun i j x y h1 h2 h3 => z5 i j x y h1 h2 h3 ?_⟩
      rw [Nat.div_eq_of_lt (by omega), Nat.div_eq_of_lt (by omega)]
end Go.Proofs.YtchidkafcdmciaaGreat
/- The exchange of two elements of a row by reflection. -/
set_option linter.all false
namespace Go.Pv
open Go Go.RowKit Go.Lib Go.Sort Go.Proofs.YtchidkafcdmciaaGreat

theorem kinL_iff {S : Key → Prop} : ∀ {l : List PV}, kinL S l ↔ ∀ x ∈ l, kin S x
  | [] => by simp [kinL]
  | x :: r => by simp only [kinL, kinL_iff (l := r), List.mem_cons, forall_eq_or_imp]
theorem keeps_iff {α : Type} {s : Obs} {l : List (Key × α)} : keeps s l ↔ ∀ k, (look k l).isSome → inObs s k := by
  refine ⟨fun h k hk => keeps_of h k hk, fun h => ?_⟩
  have : ∀ l' : List (Key × α), (∀ x ∈ l', inObs s x.1) → keeps s l' := by
    intro l'
    induction l' with
    | nil => intro _; trivial
    | cons x r ih =>
      obtain ⟨k, x⟩ := x
      exact fun h => ⟨h (k, x) (by simp), ih fun y hy => h y (by simp [hy])⟩
  exact this l fun x hx => h x.1 (look_of_mem (x := x.2) hx)
theorem repC_at {w : World} {ν : Env} {sz : Nat} : ∀ {xs : List PV} {us : List Value} {i : Nat} {p : PV}, repC w ν sz xs us → xs[i]? = some p → ∃ u, (us.drop (i * sz)).take sz = u.cells.toList ∧ rep w ν p u ∧ u.cells.size = sz ∧ ∀ c ∈ u.cells.toList, c.oneCell' = true
  | [], _, _, _, _, hp => by simp at hp
  | x :: xs, us, 0, p, h, hp => by
    simp only [repC] at h
    obtain ⟨u, us', rfl, ⟨h1, h2, h3⟩, _⟩ := h
    simp at hp
    subst hp
    refine ⟨u, ?_, h1, h2, h3⟩
    simp only [Nat.zero_mul, List.drop_zero]
    rw [List.take_append_of_le_length (by simp [h2])]
    exact List.take_of_length_le (by simp [h2])
  | x :: xs, us, i + 1, p, h, hp => by
    simp only [repC] at h
    obtain ⟨u, us', rfl, ⟨h1, h2, h3⟩, h5⟩ := h
    obtain ⟨v, e1, e2⟩ := repC_at (i := i) h5 (by simpa using hp)
    refine ⟨v, ?_, e2⟩
    rw [← e1, Nat.succ_mul, Nat.add_comm, ← List.drop_drop]
    congr 2
    rw [List.drop_append_of_le_length (by simp [h2]), List.drop_of_length_le (by simp [h2])]
    rfl
theorem setMany_list : ∀ (vs : List Value) (s : Nat) (F : Array Value), s + vs.length ≤ F.size → (setMany F s vs).toList = F.toList.take s ++ vs ++ F.toList.drop (s + vs.length)
  | [], s, F, h => by simp [setMany]
  | v :: r, s, F, h => by
    simp only [List.length_cons] at h
    rw [setMany, setMany_list r (s + 1) _ (by simp; omega)]
    have hlt : s < F.toList.length := by simp; omega
    have e1 : (F.setIfInBounds s v).toList = F.toList.set s v := by simp
    rw [e1]
    have e2 : (F.toList.set s v).take (s + 1) = F.toList.take s ++ [v] := by
      rw [List.take_succ, List.getElem?_set_self hlt, List.take_set_of_le (Nat.le_refl _)]
      simp
    have e3 : (F.toList.set s v).drop (s + 1 + r.length) = F.toList.drop (s + (v :: r).length) := by
      rw [List.drop_set_of_lt (by omega)]
      congr 1
      simp; omega
    rw [e2, e3]
    simp
theorem ahead_zero (w : World) : Sort.ahead w 0 = w := by simp [Sort.ahead]

set_option maxHeartbeats 1000000 in
theorem g_swapper {P : Program} (gS : Bool) (sf : Nat) (hx : ∀ args W, (callFunc sf args).run P W = ((Extern.ReflectliteSwapper.swap gS args).run P W).andThen fun v w' => .ok (.value v) w') (e : TypeId) (ie : TypeInfo) (hie : P.info? e = some ie) (hagg : ∀ w, (Go.isAgg e).run P w = .ok true w) {s : Obs} (hs : ObOk s) {K n el sz : Nat} (hsz : ie.size = sz) {xs : List PV} (hk : look (.obj K) s.e = some ⟨n, el, sz, some xs⟩)
    (i j : Nat) (hi : i < n) (hj : j < n) (hij : i ≠ j) : FnG P sf [.int .i64 i, .int .i64 j, .row sz (.obj K) n, .cst (typeHandle P e)] s fun r s' => r = .tuple [] ∧ s' = ⟨s.b, upd (.obj K) ⟨n, el, sz, some (lswp xs i j)⟩ s.e⟩ := by
  subst hsz
  refine FnG.sem hs.obj fun w ν vs hvs hr => ?_
  right
  have s0 := hr.slot 0
  have s1 := hr.slot 1
  have s2 := hr.slot 2
  have s3 := hr.slot 3
  simp [slots, get, rep] at s0 s1 s2 s3
  obtain ⟨v, us, q1, q2, q3, q4⟩ := hr.good.own (.obj K) _ hk
  obtain ⟨q5, q6, q7⟩ := q4 _ rfl
  simp only at q5 q6 q1 q2
  obtain ⟨⟨g0, cap0, hb0⟩, _, n', u', e1, e2, e3⟩ := s2
  rw [q1] at e1
  simp only [Option.some.injEq, Prod.mk.injEq] at e1
  obtain ⟨rfl, rfl⟩ := e1
  have hv := e3 rfl
  have hne : v ≠ .slice none 0 0 := by rw [← hv, hb0]; simp
  obtain ⟨g, cap, rfl, hg1, hg2, hg3, hg4, hH⟩ := holdsU q2 hne
  have hvs2 : vs = #[.int .i64 i, .int .i64 j, .slice (some ⟨g, 0, none⟩) n cap, typeHandle P e] := by
    have h1 : vs.size = 4 := by simpa using hvs
    apply Array.ext (by simpa using h1)
    intro t h2 h3
    simp at h3
    rcases (by omega : t = 0 ∨ t = 1 ∨ t = 2 ∨ t = 3) with rfl | rfl | rfl | rfl
    · simpa [Array.getD, h1] using s0
    · simpa [Array.getD, h1] using s1
    · simpa [Array.getD, h1] using hv
    · simpa [Array.getD, h1] using s3
  subst hvs2
  obtain ⟨p, hp⟩ : ∃ p, xs[i]? = some p := ⟨_, List.getElem?_eq_getElem (by omega)⟩
  obtain ⟨q, hq⟩ : ∃ q, xs[j]? = some q := ⟨_, List.getElem?_eq_getElem (by omega)⟩
  obtain ⟨u, u1, u2, u3, u4⟩ := repC_at q6 hp
  obtain ⟨x, x1, x2, x3, x4⟩ := repC_at q6 hq
  have hmi : i * ie.size + ie.size ≤ n * ie.size := by have := Nat.mul_le_mul_right ie.size (show i + 1 ≤ n from hi); rwa [Nat.add_mul, Nat.one_mul] at this
  have hmj : j * ie.size + ie.size ≤ n * ie.size := by have := Nat.mul_le_mul_right ie.size (show j + 1 ≤ n from hj); rwa [Nat.add_mul, Nat.one_mul] at this
  have cell : ∀ t v, us[t]? = some v → w.cell? ⟨g, t, none⟩ = some v := fun t v ht => by
    obtain ⟨h1, h2⟩ := List.getElem?_eq_some_iff.1 ht
    have := (hH t (by simpa using h1)).1
    simp at this
    rw [this]
    simp [getElem!_pos, h1, h2]
  have froz : ∀ t, t < n * ie.size → w.frozen? ⟨g, t, none⟩ = false := fun t ht => by
    have := (hH t (by simpa [hg4] using ht)).2
    simpa using this
  have run := run_swap_cells (P := P) gS e ie hie hagg g 0 n cap i j hi hj u.cells.toList x.cells.toList (by simp [u3]) (by simp [x3]) u4 x4 w
    (fun k v hv => by
      rw [← u1, List.getElem?_take] at hv
      split at hv
      · rw [List.getElem?_drop] at hv; simpa using cell _ _ hv
      · cases hv)
    (fun k v hv => by
      rw [← x1, List.getElem?_take] at hv
      split at hv
      · rw [List.getElem?_drop] at hv; simpa using cell _ _ hv
      · cases hv)
    (fun k hk => by simpa using froz (i * ie.size + k) (by omega)) (fun k hk => by simpa using froz (j * ie.size + k) (by omega))
  have hw0 : putRow id w g 0 us.toArray = w := putRow_self id w g 0 _ hH
  have hsz1 : us.toArray.size = n * ie.size := by simpa using hg4
  have hw1 : w.setCells g (0 + i * ie.size) x.cells.toList = putRow id w g 0 (setMany us.toArray (i * ie.size) x.cells.toList) := by
    have h1 := setCells_putRow w g 0 x.cells.toList (i * ie.size) us.toArray (by simp [x3, hg4]; exact hmi)
    rw [hw0] at h1
    exact h1
  obtain ⟨F1, hF1⟩ : ∃ F1, F1 = setMany us.toArray (i * ie.size) x.cells.toList := ⟨_, rfl⟩
  have hF1l : F1.toList = us.take (i * ie.size) ++ x.cells.toList ++ us.drop (i * ie.size + ie.size) := by
    rw [hF1, setMany_list _ _ _ (by simp [x3, hg4]; exact hmi)]; simp [x3]
  have hF1s : F1.size = n * ie.size := by rw [hF1, size_setMany]; exact hsz1
  have hw2 : (w.setCells g (0 + i * ie.size) x.cells.toList).setCells g (0 + j * ie.size) u.cells.toList = putRow id w g 0 (setMany F1 (j * ie.size) u.cells.toList) := by
    rw [hw1, ← hF1, setCells_putRow w g 0 u.cells.toList (j * ie.size) F1 (by simp [u3, hF1s]; exact hmj)]
  obtain ⟨F2, hF2⟩ : ∃ F2, F2 = setMany F1 (j * ie.size) u.cells.toList := ⟨_, rfl⟩
  have hF2l : F2.toList = F1.toList.take (j * ie.size) ++ u.cells.toList ++ F1.toList.drop (j * ie.size + ie.size) := by
    rw [hF2, setMany_list _ _ _ (by simp [u3, hF1s]; exact hmj)]; simp [u3]
  have hF2s : F2.size = n * ie.size := by rw [hF2, size_setMany]; exact hF1s
  have r1 := repC_set q6 hp x2 x3 x4
  rw [← hF1l] at r1
  have r2 := repC_set (i := j) (q := q) r1 (by rw [List.getElem?_set, if_neg hij]; exact hq) u2 u3 u4
  rw [← hF2l] at r2
  have hsw : (xs.set i q).set j p = lswp xs i j := by simp [lswp, hp, hq]
  rw [hsw] at r2
  have hlen : (lswp xs i j).length = n := by simpa using q5
  have hown := ownsU (q := 0) (F := F2) q2 hF2s
  rw [ahead_zero] at hown
  obtain ⟨y1, y2, _⟩ := hr.setRowM (w' := putRow id w g 0 F2) hk rfl q1 (bl := g) rfl (v' := .slice (some ⟨g, 0, none⟩) n cap) rfl (xs' := lswp xs i j) (us := F2.toList) (.inl ⟨hlen, rfl⟩) rfl rfl rfl
    (fun t ht => by simp [putRow, mapBlock, Array.getElem?_modify, Ne.symm ht]) (by simp [putRow, mapBlock]) (by rw [hlen]; exact hown) r2
  refine ⟨.tuple #[], putRow id w g 0 F2, ?_, ?_⟩
  · rw [hx, run, hw2, ← hF2]; rfl
  · have hin : ∀ k, inObs ⟨s.b, upd (.obj K) ⟨n, el, ie.size, some (lswp xs i j)⟩ s.e⟩ k ↔ inObs s k := fun k => by
      unfold inObs
      simp only [look_upd]
      by_cases hK : Key.obj K = k
      · subst hK; simp [hk]
      · simp [hK]
    refine ⟨_, _, _, _, .tuple [], ⟨s.b, upd (.obj K) ⟨n, el, ie.size, some (lswp xs i j)⟩ s.e⟩, rfl, y1, by simp [rep, repT], keeps_iff.2 fun k hk' => (hin k).2 (.inl hk'), keeps_iff.2 fun k hk' => (hin k).2 (.inr hk'), fun k cs hc => ⟨hc, (hin k).2 (.inl (by simp at hc; simp [hc])), kinL_mono (fun k h => (hin k).2 h) _ (hs.kb k cs hc)⟩, fun k o ho => ⟨by simpa [hlen] using ho, ?_, fun ys hy => ?_⟩, ⟨hs.obj.1, fun m => ?_⟩, by simp [kin, kinL], rfl, rfl⟩
    · exact (.inr (by simp at ho; simp [ho]))
    · simp only [look_upd] at ho
      split at ho
      · cases ho
        simp only [Option.some.injEq] at hy
        subst hy
        have hkx := hs.ke _ _ hk xs rfl
        refine kinL_mono (fun k h => (hin k).2 h) _ ?_
        rw [kinL_iff] at hkx ⊢
        exact fun z hz => hkx z ((lswp_perm xs i j).mem_iff.1 hz)
      · exact kinL_mono (fun k h => (hin k).2 h) _ (hs.ke k o ho ys hy)
    · simp only [look_upd]
      simp [hs.obj.2 m]
end Go.Pv
/- sort.SliceStable. -/
set_option linter.all false
namespace Go.Proofs.YtchidkafcdmciaaGreat
open Go Go.RowKit Go.Lib Go.Sort Go.Pv

set_option maxHeartbeats 1000000 in
set_option maxRecDepth 100000 in
theorem sliceStable_of (t e : TypeId) (i ie : TypeInfo) (hi : Tryz.prog.info? t = some i) (hd : i.desc = .slice e) (hpk : Tryz.prog.packed t = false) (hie : Tryz.prog.info? e = some ie) (ke : Nat) (hke : ∀ w, (Extern.Rtype.kind e).run Tryz.prog w = .ok ke w)
    (p : Option Addr) (n c : Nat) (hn : n < 4611686018427387904) (f : Nat) (hf : Tryz.prog.funcs.findIdx? (·.name == "internal/reflectlite" ++ ".Swapper$" ++ toString (swapperK n ie ke)) = some f) (lf : Fn) (la lb : Array Value) (w : World) (R : World → Prop)
    (hp : Calls Tryz.prog 154 #[.agg #[.func lf la lb, .func (.func f) #[] (sliceBound Tryz.prog e ie ke p n c)], .int .i64 n] ((w.alloc (.cells #[.slice p n c] t)).alloc (.cells #[typeHandle Tryz.prog t, .pointer (some ⟨w.heap.size, 0, none⟩), .int .u64 151] 194)) fun e w' => e = .returned (.tuple #[]) ∧ R w') :
    Calls Tryz.prog 112 #[.iface t (.slice p n c), .func lf la lb] w fun e w' => e = .returned (.tuple #[]) ∧ R w' := by
  have hv := run_valueOf_slice (P := Tryz.prog) t e i hi hd p n c w
  have hs := fun w => run_swapper_slice (P := Tryz.prog) t e i ie hi hd hie ke hke p n c f hf w
  have hl := fun a w ha => run_valueLen_slice (P := Tryz.prog) t e i hi hd hpk a p n c w ha
  unfold sliceBound at hp
  generalize (if swapperK n ie ke ≤ 2 then (#[] : Array Value) else #[.slice p n c, typeHandle Tryz.prog e]) = B at hs hp
  have hgz : Tryz.prog.globals.size = 0 := by kernel_rfl
  simp only [typeHandle, hgz] at hv hl hp
  have e15 : ∀ args w, (callFunc 154 args).run Tryz.prog w = .ok (.enter 154 args) w := enters_of Tryz.func154 (by kernel_rfl) rfl
  go_enter Tryz.func112, Tryz.ntmps112
  go_wp2
  rw [run_callFunc_extern Tryz.func152 (by kernel_rfl) (by kernel_rfl) (by kernel_rfl) (e := fun args => Extern.ReflectliteValue.unpack (args.getD 0 (.tuple #[]))) (by kernel_rfl),
    show Sem.run Tryz.prog ((fun args : Array Value => Extern.ReflectliteValue.unpack (args.getD 0 (.tuple #[]))) #[.iface t (.slice p n c)]) w = _ from hv]
  simp only [Result.andThen]
  rw [Oper.upon_value]
  go_wp2
  rw [run_callFunc_extern Tryz.func153 (by kernel_rfl) (by kernel_rfl) (by kernel_rfl) (e := Extern.ReflectliteSwapper.swapper "internal/reflectlite" (Extern.ReflectliteValue.valueError "Swapper")) (by kernel_rfl), hs]
  simp only [Result.andThen]
  rw [Oper.upon_value]
  go_wp2
  rw [run_callFunc_extern Tryz.func155 (by kernel_rfl) (by kernel_rfl) (by kernel_rfl) (e := Extern.ReflectliteValue.method (Extern.ReflectliteValue.valueError "reflectlite.Value.Len" 0) Extern.ReflectliteValue.len) (by kernel_rfl),
    hl _ _ (by simp)]
  simp only [Result.andThen]
  rw [Oper.upon_value]
  go_wp2_with (go_at_fn 154; refine hp.mono ?_; rintro e w' ⟨rfl, hR⟩)
  go_end0
  exact ⟨rfl, hR⟩

theorem _root_.Go.Pv.Good.prMono {pr pr' : Nat → Prop} {w : World} {ν : Env} {b : List (Key × List PV)} {e : List (Key × Own)} (h : Pv.Good pr w ν b e) (hp : ∀ bl, pr bl → blocksOf ν ⟨b, e⟩ bl → pr' bl) : Pv.Good pr' w ν b e := by
  refine ⟨h.alt, fun k cs hk => ?_, h.inj, fun g o hg => ?_, h.oinj, h.obx, h.one⟩
  · obtain ⟨bl, us, el, f1, f2, f3⟩ := h.box k cs hk
    exact ⟨bl, us, el, f1, hp bl f2 (.inl ⟨k, by simp [hk], f1⟩), f3⟩
  · obtain ⟨v, us, f1, f2, f3, f4⟩ := h.own g o hg
    exact ⟨v, us, f1, f2, fun bl hb => ⟨hp bl (f3 bl hb).1 (.inr ⟨g, o.n, v, by simp [hg], f1, hb⟩), (f3 bl hb).2⟩, f4⟩
theorem grown_alloc2 (w : World) (o1 o2 : Obj) : w.grownBy ((w.alloc o1).alloc o2) none := by
  have h1 : w.heap.size ≤ (w.alloc o1).heap.size := by simp
  have h2 : (w.alloc o1).heap.size ≤ ((w.alloc o1).alloc o2).heap.size := by simp
  exact ⟨rfl, rfl, rfl, Nat.le_trans h1 h2, fun k hk _ => (Below.heap_alloc _ o2 k (Nat.lt_of_lt_of_le hk h1)).trans (Below.heap_alloc w o1 k hk)⟩
def SSt {α : Type} (e : α → PV) (K B el sz : Nat) (l : List α) : Obs := ⟨[(.obj B, [.row sz (.obj K) l.length])], [(.obj K, ⟨l.length, el, sz, some (l.map e)⟩)]⟩
section
variable {α : Type} {e : α → PV} (he : ∀ S x, kin S (e x)) {K B el sz : Nat}
include he
theorem kinL_map (S : Key → Prop) (l : List α) : kinL S (l.map e) := by
  induction l with
  | nil => simp [kinL]
  | cons x r ih => simp only [List.map_cons, kinL]; exact ⟨he S x, ih⟩
theorem SSt_ok (l : List α) : ObOk (SSt e K B el sz l) := by
  unfold SSt
  refine ObOk.of ⟨by intro m; simp [Pv.look], by intro m; simp [Pv.look]⟩ (by simp [kinL, kin, inObs, Pv.look]) ?_
  intro x hx xs hxs
  simp at hx
  subst hx
  simp at hxs
  subst hxs
  exact kinL_map he _ l
omit he in
theorem SSt_same (l l' : List α) : Same (SSt e K B el sz l) (SSt e K B el sz l') := by
  refine ⟨fun k => ?_, fun k => ?_⟩
  · simp only [SSt, Pv.look]; split <;> rfl
  · simp only [SSt, Pv.look]; split <;> rfl
set_option maxHeartbeats 1000000 in
/-- sort.SliceStable of a variable that less knows. -/
theorem g_SliceStable (t : TypeId) (i ie : TypeInfo) (hi : Tryz.prog.info? t = some i) (hd : i.desc = .slice el) (hpk : Tryz.prog.packed t = false) (hie : Tryz.prog.info? el = some ie) (ke : Nat) (hke : ∀ w, (Extern.Rtype.kind el).run Tryz.prog w = .ok ke w) (h9 : ∀ n, 2 ≤ n → swapperK n ie ke = 9)
    (g : Nat) (lt : α → α → Bool) (hlt : LtOk lt) (l : List α) (hl : l.length ≤ 1000000)
    (hless : ∀ l' : List α, l'.length = l.length → ∀ (i j : Nat) x y, l'[i]? = some x → l'[j]? = some y → FnG Tryz.prog g [.int .i64 i, .int .i64 j, .ptr (.obj B) 0] (SSt e K B el sz l') fun r s' => r = .bool (lt x y) ∧ s' = SSt e K B el sz l')
    (hswap : ∀ l' : List α, l'.length = l.length → ∀ i j : Nat, i < l.length → j < l.length → i ≠ j → FnG Tryz.prog 180 [.int .i64 i, .int .i64 j, .row sz (.obj K) l.length, .cst (typeHandle Tryz.prog el)] (SSt e K B el sz l') fun r s' => r = .tuple [] ∧ s' = SSt e K B el sz (lswp l' i j)) :
    FnG Tryz.prog 112 [.iface t (.row sz (.obj K) l.length), .func g [.ptr (.obj B) 0]] (SSt e K B el sz l) fun r s' => r = .tuple [] ∧ ∃ l', s' = SSt e K B el sz l' ∧ l'.Perm l ∧ l'.Pairwise fun x y => lt y x = false := by
  have hf1 : Tryz.prog.funcs.findIdx? (·.name == "internal/reflectlite" ++ ".Swapper$" ++ toString 1) = some 172 := by kernel_rfl
  have hf2 : Tryz.prog.funcs.findIdx? (·.name == "internal/reflectlite" ++ ".Swapper$" ++ toString 2) = some 173 := by kernel_rfl
  have hf9 : Tryz.prog.funcs.findIdx? (·.name == "internal/reflectlite" ++ ".Swapper$" ++ toString 9) = some 180 := by kernel_rfl
  have hstab : ∃ f sc, Tryz.prog.funcs.findIdx? (·.name == "internal/reflectlite" ++ ".Swapper$" ++ toString (swapperK l.length ie ke)) = some f ∧ (sc = (if swapperK l.length ie ke ≤ 2 then [] else [PV.row sz (.obj K) l.length, .cst (typeHandle Tryz.prog el)])) ∧
      FnG Tryz.prog 154 [dataE g f [.ptr (.obj B) 0] sc, .int .i64 l.length] (SSt e K B el sz l) fun r s' => r = .tuple [] ∧ ∃ l', s' = SSt e K B el sz l' ∧ Seg 0 l.length l l' ∧ SrtIn lt 0 l.length l' := by
    have hok := fun l' => SSt_ok (K := K) (B := B) (el := el) (sz := sz) he l'
    rcases (by omega : l.length = 0 ∨ l.length = 1 ∨ 2 ≤ l.length) with h0 | h1 | h2
    · refine ⟨172, [], by rw [h0]; exact hf1, by rw [h0]; rfl, g_stable (lt := lt) ⟨hok, fun l1 l2 _ _ => SSt_same l1 l2, fun l' _ => by simp [kinL, kin, inObs, SSt, Pv.look], fun l' _ => by simp [kinL], by simp [strip, stripL], rfl, hl, fun l' h => hless l' h, fun l' _ i j hi => by omega⟩ hlt l rfl⟩
    · refine ⟨173, [], by rw [h1]; exact hf2, by rw [h1]; rfl, g_stable (lt := lt) ⟨hok, fun l1 l2 _ _ => SSt_same l1 l2, fun l' _ => by simp [kinL, kin, inObs, SSt, Pv.look], fun l' _ => by simp [kinL], by simp [strip, stripL], rfl, hl, fun l' h => hless l' h, fun l' _ i j hi hj hij => by omega⟩ hlt l rfl⟩
    · refine ⟨180, _, by rw [h9 _ h2]; exact hf9, rfl, ?_⟩
      rw [h9 _ h2]
      simp only [show ¬((9 : Nat) ≤ 2) from by decide, if_false]
      exact g_stable (lt := lt) ⟨hok, fun l1 l2 _ _ => SSt_same l1 l2, fun l' _ => by simp [kinL, kin, inObs, SSt, Pv.look], fun l' _ => by simp [kinL, kin, inObs, SSt, Pv.look], by simp [strip, stripL], by simp [strip, stripL], hl, fun l' h => hless l' h, fun l' h i j hi hj hij => hswap l' h i j hi hj hij⟩ hlt l rfl
  obtain ⟨f, sc, hf, hsc, hst⟩ := hstab
  intro w ν vs hg hx hr
  have hrel := Rel.start (SSt_ok he l).obj hg hx hr
  have hr0 := hr
  simp only [repT, rep] at hr
  obtain ⟨v0, vs1, hv0, ⟨u, rfl, ⟨b, cap, rfl⟩, hlim, n', u', e1, e2, e3⟩, v1, vs2, hv1, ⟨lb, rfl, hlb⟩, rfl⟩ := hr
  have hvs : vs = #[.iface t (.slice (some ⟨b, 0, none⟩) l.length cap), .func (.func g) #[] lb] := by
    apply Array.ext'
    rw [hv0, hv1]
  subst hvs
  have hfn : ∃ fn, Tryz.prog.funcs[(112 : Nat)]? = some fn ∧ fn.body.isSome = true ∧ (fn.name == "runtime.NumGoroutine") = false := ⟨_, Tryz.func112, by kernel_rfl, by kernel_rfl⟩
  refine .inl ⟨hfn, ?_⟩
  obtain ⟨w2, hw2⟩ : ∃ w2, w2 = (w.alloc (.cells #[.slice (some ⟨b, 0, none⟩) l.length cap] t)).alloc (.cells #[typeHandle Tryz.prog t, .pointer (some ⟨w.heap.size, 0, none⟩), .int .u64 151] 194) := ⟨_, rfl⟩
  have hgr : w.grownBy w2 none := by rw [hw2]; exact grown_alloc2 _ _ _
  have hrel2 := hrel.grown hgr
  have hov : Over w ν w2 ν := ⟨fun b o hA => ⟨hA, cell_grown hgr (hg.alt b o hA)⟩, fun _ _ _ h => h, fun _ n u _ h => ⟨n, u, h, .inl ⟨rfl, rfl⟩⟩⟩
  have hg2 : Pv.Good (blocksOf ν (SSt e K B el sz l)) w2 ν (SSt e K B el sz l).b (SSt e K B el sz l).e := hrel2.good.prMono fun bl _ h => h
  have hrw := repT_over hov hr0
  simp only [repT] at hrw
  obtain ⟨a0, as1, ha0, hra0, a1, as2, ha1, hra1, rfl⟩ := hrw
  simp at ha0
  obtain ⟨rfl, rfl⟩ := ha0
  simp at ha1
  subst ha1
  have hrow : rep w2 ν (.row sz (.obj K) l.length) (.slice (some ⟨b, 0, none⟩) l.length cap) := by
    simp only [rep] at hra0
    obtain ⟨u, hu, h⟩ := hra0
    simp at hu
    obtain ⟨_, rfl⟩ := hu
    simp only [rep]
    exact h
  have hsb : repT w2 ν sc (sliceBound Tryz.prog el ie ke (some ⟨b, 0, none⟩) l.length cap).toList := by
    unfold sliceBound
    rw [hsc]
    split
    · simp [repT]
    · simp only [repT]
      exact ⟨_, _, rfl, hrow, _, _, rfl, by simp [rep], rfl⟩
  have hargs : repT w2 ν [dataE g f [.ptr (.obj B) 0] sc, .int .i64 l.length] (#[.agg #[.func (.func g) #[] lb, .func (.func f) #[] (sliceBound Tryz.prog el ie ke (some ⟨b, 0, none⟩) l.length cap)], .int .i64 l.length] : Array Value).toList := by
    simp only [repT, dataE]
    refine ⟨_, _, rfl, ?_, _, _, rfl, by simp [rep], rfl⟩
    simp only [rep, repL]
    exact ⟨_, rfl, _, _, rfl, ⟨⟨lb, rfl, repT_over hov hlb⟩, rfl⟩, _, _, rfl, ⟨⟨_, rfl, hsb⟩, rfl⟩, rfl⟩
  have hdoes := hst w2 ν _ hg2 hx hargs
  have e15 : ∀ args w, (callFunc 154 args).run Tryz.prog w = .ok (.enter 154 args) w := enters_of Tryz.func154 (by kernel_rfl) rfl
  rcases hdoes with ⟨_, hc⟩ | ⟨v, w', hc, _⟩
  · have hmain := sliceStable_of t el i ie hi hd hpk hie ke hke (some ⟨b, 0, none⟩) l.length cap (by omega) f hf (.func g) #[] lb w
      (fun w' => ∃ s' ν', (∃ l', s' = SSt e K B el sz l' ∧ Seg 0 l.length l l' ∧ SrtIn lt 0 l.length l') ∧ Pv.Good (fun bl => blocksOf ν (SSt e K B el sz l) bl ∨ w2.heap.size ≤ bl) w' ν' s'.b s'.e ∧ exactE ν' s' ∧ objOnly s' ∧ Fr ⟨w2, ν, blocksOf ν (SSt e K B el sz l), 0, obsIds (SSt e K B el sz l)⟩ w' ν') (by
        rw [← hw2]
        refine hc.mono ?_
        rintro e w' ⟨v, r, s', ν', rfl, ⟨rfl, hq⟩, hrv, h4, h5, h6, h7⟩
        simp only [rep, repT] at hrv
        obtain ⟨us, rfl, hus⟩ := hrv
        have : us = #[] := by apply Array.ext'; simpa using hus
        subst this
        exact ⟨rfl, s', ν', hq, h4, h5, h6, h7⟩)
    refine hmain.mono ?_
    rintro e w' ⟨rfl, s', ν', ⟨l', rfl, hseg, hsrt⟩, h4, h5, h6, h7⟩
    refine ⟨.tuple #[], .tuple [], _, ν', rfl, ⟨rfl, l', rfl, hseg.perm, ?_⟩, by simp [rep, repT], h4.prMono fun bl h _ => ?_, h5, h6, ⟨h7.os.trans hgr.os, h7.tape.trans hgr.tape, h7.output.trans hgr.output, Nat.le_trans hgr.size h7.size, fun k hk hm => ?_, fun b o hA => ?_, fun b o hA => ?_, h7.obj, h7.obn, h7.row, h7.obr⟩⟩
    · have hll := hseg.length
      rw [← hll] at hsrt
      exact hsrt.pairwise
    · rcases h with h | h
      · exact .inl h
      · exact .inr (Nat.le_trans hgr.size h)
    · rw [h7.block k (Nat.lt_of_lt_of_le hk hgr.size) hm]; exact hgr.block k hk (by simp)
    · obtain ⟨k1, k2⟩ := h7.keep b o hA
      exact ⟨k1, k2.trans (hov.A b o hA).2⟩
    · rcases h7.fresh b o hA with h | h | h
      · exact .inl h
      · exact .inr (.inl h)
      · exact .inr (.inr (Nat.le_trans hgr.size h))
  · rw [e15] at hc
    cases hc
end
end Go.Proofs.YtchidkafcdmciaaGreat
/- Contracts: terms in order. -/
set_option linter.all false
namespace Go.Proofs.YtchidkafcdmciaaGreat
open Go Go.Pv Go.Lib

instance : DecidableEq T := fun a b => if h : ordT a b = 0 then isTrue ((ordT_zero a b).1 h) else isFalse fun e => h ((ordT_zero a b).2 e)
abbrev SA (l : List T) : Obs := SSt T.e 601 602 26 4 l
theorem e_kin : ∀ (S : Key → Prop) (x : T), kin S x.e := fun S x => by simp
theorem SA_ok (l : List T) : ObOk (SA l) := SSt_ok e_kin l
theorem g_ascending1 (l : List T) (hl : l.length ≤ 1000000) (i j : Nat) (x y : T) (hi : l[i]? = some x) (hj : l[j]? = some y) : FnG Tryz.prog 113 [.int .i64 i, .int .i64 j, .ptr (.obj 602) 0] (SA l) fun r s' => r = .bool (ltC ordT x y) ∧ s' = SA l := by
  have hs := SA_ok l
  obtain ⟨hi1, hi2⟩ := List.getElem?_eq_some_iff.1 hi
  obtain ⟨hj1, hj2⟩ := List.getElem?_eq_some_iff.1 hj
  unfold SA SSt at hs ⊢
  refine FnG.mk mixed tysok2 f_impl_ascending_1 ok_impl_ascending_1 (by simp) hs.obj fun hbnd hbb => ?_; unfold c_impl_ascending_1
  simp [hi1, hj1, hi2, hj2]
  (repeat' first | (with_reducible refine evCd_split (fun h => ?_) (fun h => ?_) <;> (try simp at h)) | (with_reducible refine evGd_split (fun h => ?_) (fun h => ?_) <;> (try simp at h)) | (with_reducible refine evDd_split (fun h => ?_) (fun h => ?_) <;> (try simp at h)) | with_reducible refine And.intro (by (first | omega | (unfold in64; omega))) ?_ | with_reducible refine CallDo.val (by simp) (v_orderTerms _ _) ?_ | with_reducible refine CallD.val (by simp) (v_orderTerms _ _) ?_ | simp)
  refine RetQ.at _ (.inl rfl) hs (Same.refl _) (by first | (refine kpL ?_; simp; done) | (intro k x hx; first | exact hx | (simp [hx, without_self]; done) | (simp [look_app, without_self, hx]; done) | (cases k <;> simp_all [look_app]; done))) (by first | (refine kpL ?_; simp; done) | (intro k x hx; first | exact hx | (simp [hx, without_self]; done) | (simp [look_app, without_self, hx]; done) | (cases k <;> simp_all [look_app]; done))) ?_
  simp [ResIs, r_impl_ascending_1, resL, resV, tup, ltC]
noncomputable def Tryz.teT : TypeInfo := (Tryz.prog.info? 23).get (by kernel_rfl)
noncomputable def Tryz.teE : TypeInfo := (Tryz.prog.info? 26).get (by kernel_rfl)
theorem Tryz.teK (n : Nat) (h2 : 2 ≤ n) : Lib.swapperK n Tryz.teE 25 = 9 := by
  have a : Tryz.teE.hasPointers = true := by kernel_rfl
  have b : Tryz.teE.bytes = 56 := by kernel_rfl
  have c : (n == 0) = false := by simp; omega
  have d : (n == 1) = false := by simp; omega
  simp [Lib.swapperK, a, b, c, d]
theorem lswp_map {α β : Type} (f : α → β) (l : List α) (i j : Nat) : (lswp l i j).map f = lswp (l.map f) i j := by
  unfold lswp
  simp only [List.getElem?_map]
  cases l[i]? with
  | none => simp
  | some x =>
    cases l[j]? with
    | none => simp
    | some y => simp [List.map_set]
theorem g_sortTerms (l : List T) (hl : l.length ≤ 1000000) : FnG Tryz.prog 112 [.iface 23 (.row 4 (.obj 601) l.length), .func 113 [.ptr (.obj 602) 0]] (SA l) fun r s' => r = .tuple [] ∧ s' = SA (srtC ordT l) := by
  refine (g_SliceStable e_kin (K := 601) (B := 602) (sz := 4) 23 Tryz.teT Tryz.teE (by kernel_rfl) (by kernel_rfl) (by kernel_rfl) (by kernel_rfl) 25 (fun _ => by kernel_rfl) Tryz.teK 113 (ltC ordT) ordT_ok.ltOk l hl (fun l' h i j x y hi hj => g_ascending1 l' (by omega) i j x y hi hj) (fun l' h i j hi hj hij => ?_)).mono ?_
  · have := g_swapper (P := Tryz.prog) false 180 (fun args W => run_callFunc_extern Tryz.func180 (by kernel_rfl) (by kernel_rfl) (by kernel_rfl) (e := Extern.ReflectliteSwapper.swap false) (by kernel_rfl) args W)
      26 Tryz.teE (by kernel_rfl) (fun _ => by kernel_rfl) (SA_ok l') (K := 601) (n := l.length) (el := 26) (sz := 4) (by kernel_rfl) (xs := l'.map T.e) (by simp [SSt, Pv.look, h]) i j hi hj hij
    refine this.mono ?_
    rintro r s' ⟨rfl, rfl⟩
    refine ⟨rfl, ?_⟩
    simp [SSt, upd, lswp_map, h]
  · rintro r s' ⟨rfl, l', rfl, h1, h2⟩
    exact ⟨rfl, by rw [srtC_uniq ordT_ok h1 h2]⟩
def jAsc (s : List T) (i : Nat) (acc : List T) : Prop := acc ++ dd (if i = 0 then none else s[i - 1]?) (s.drop i) = dd none s
theorem srtC_len (l : List T) : (srtC ordT l).length = l.length := (srtC_perm ordT l).length_eq
theorem dd_len : ∀ (l : List T) (p : Option T), (dd p l).length ≤ l.length
  | [], _ => by simp [dd]
  | x :: r, p => by
    have := dd_len r (some x)
    simp only [dd]
    split <;> simp <;> omega
set_option maxHeartbeats 1000000 in
set_option maxRecDepth 4000 in
theorem v_ascending (l : List T) (hl : l.length ≤ 1000000) : FnV Tryz.prog 58 [.slice 4 .no (l.map T.e)] (.slice 4 .no ((asc ordT l).map T.e)) := by
  refine FnV.mk mixed tysok2 f_impl_ascending ok_impl_ascending (by simp) (by simp [kin]) fun hbnd => ?_; unfold c_impl_ascending
  simp
  refine ⟨by unfold lim; omega, ?_⟩
  refine CallDo.ob (g_sortTerms l hl) (SA_ok l) (by unfold SA SSt; exact (by first | (refine kpL ?_; simp; done) | (intro k x hx; first | exact hx | (simp [hx, without_self]; done) | (simp [look_app, without_self, hx]; done) | (cases k <;> simp_all [look_app]; done)))) (by unfold SA SSt; exact (by first | (refine kpL ?_; simp; done) | (intro k x hx; first | exact hx | (simp [hx, without_self]; done) | (simp [look_app, without_self, hx]; done) | (cases k <;> simp_all [look_app]; done)))) (by simp [inObs, SSt, Pv.look]) ?_
  rintro r s' ⟨rfl, rfl⟩
  refine ⟨SSt_same _ _, ?_⟩
  obtain ⟨s, hs⟩ : ∃ s, s = srtC ordT l := ⟨_, rfl⟩
  have hsl : s.length = l.length := by rw [hs]; exact srtC_len l
  have hasc : asc ordT l = dd none s := by rw [hs]; rfl
  rw [← hs, hasc]
  simp [SA, SSt, without]
  refine evC_rng (fun i (acc : List T) => ⟨[(3, .ptr (.obj 602) 0), (4, .slice 4 (.own (.loc 0)) (acc.map T.e)), (15, .row 4 (.obj 601) s.length), (16, .int .i64 s.length), (17, .int .i64 i)], [(.obj 602, [.row 4 (.obj 601) s.length])], [(.loc 0, ⟨acc.length, 26, 4, none⟩), (.obj 601, ⟨s.length, 26, 4, some (s.map T.e)⟩)], 1, [.obj 601, .obj 602]⟩) s.length (jAsc s) [] ⟨by simp [fresh, kinL, kin, iterE, inObs, Pv.look], subB_of (by simp [fresh, kinL, kin, iterE, inObs, Pv.look]), subE_of (by simp [fresh, kinL, kin, kinO, inObs, Pv.look]), by simp⟩ (by simp [jAsc]) (fun acc hj _ => ?_) (fun i acc hi hj _ => ?_)
  · simp
    (repeat' first | (with_reducible refine evCd_split (fun h => ?_) (fun h => ?_) <;> (try simp at h)) | (with_reducible refine evGd_split (fun h => ?_) (fun h => ?_) <;> (try simp at h)) | (with_reducible refine evDd_split (fun h => ?_) (fun h => ?_) <;> (try simp at h)) | with_reducible refine And.intro (by (first | omega | (unfold in64; omega))) ?_ | simp)
    simp [RetV, r_impl_ascending, resL, resV, tup]
    unfold jAsc at hj
    rw [List.drop_length] at hj
    have : acc = dd none s := by simpa [dd] using hj
    rw [this]
  · obtain ⟨t, ht⟩ : ∃ t, t = s[i] := ⟨_, rfl⟩
    have hti : s[i]? = some t := by rw [List.getElem?_eq_getElem hi, ht]
    have hd : s.drop i = t :: s.drop (i + 1) := by rw [List.drop_eq_getElem_cons hi, ht]
    have hal : acc.length ≤ s.length := by
      have h1 := congrArg List.length hj
      have := dd_len s none
      simp at h1; omega
    unfold jAsc at hj
    rw [hd] at hj
    rcases Nat.eq_zero_or_pos i with rfl | hpos
    · simp [hi, ← ht]
      (repeat' first | (with_reducible refine evCd_split (fun h => ?_) (fun h => ?_) <;> (try simp at h)) | (with_reducible refine evGd_split (fun h => ?_) (fun h => ?_) <;> (try simp at h)) | (with_reducible refine evDd_split (fun h => ?_) (fun h => ?_) <;> (try simp at h)) | with_reducible refine And.intro (by (first | omega | (unfold in64; omega))) ?_ | with_reducible refine CallDo.val (by simp) (v_equalTerms _ _) ?_ | with_reducible refine CallD.val (by simp) (v_equalTerms _ _) ?_ | with_reducible refine CallDo.val (by simp) (v_copyTerm _) ?_ | with_reducible refine CallD.val (by simp) (v_copyTerm _) ?_ | simp)
      refine ⟨by unfold lim; omega, ?_⟩
      (repeat' first | (with_reducible refine evCd_split (fun h => ?_) (fun h => ?_) <;> (try simp at h)) | (with_reducible refine evGd_split (fun h => ?_) (fun h => ?_) <;> (try simp at h)) | (with_reducible refine evDd_split (fun h => ?_) (fun h => ?_) <;> (try simp at h)) | with_reducible refine And.intro (by (first | omega | (unfold in64; omega))) ?_ | simp)
      refine LoopQ.rng (acc ++ [t]) hi ?_ ⟨by simp [fresh, kinL, kin, iterE, inObs, Pv.look, kinL_appT], subB_of (by simp [fresh, kinL, kin, iterE, inObs, Pv.look, kinL_appT]), subE_of (by simp [fresh, kinL, kin, kinO, inObs, Pv.look, kinL_appT]), by simp⟩
      unfold jAsc
      simp [dd] at hj
      simp [hti, hj]
    · obtain ⟨p, hp⟩ : ∃ p, p = s[i - 1] := ⟨_, rfl⟩
      have hpi : s[i - 1]? = some p := by rw [List.getElem?_eq_getElem (by omega), hp]
      have e1 : ((i : Int) - 1).toNat = i - 1 := by omega
      have e2 : ∀ h, (s[i - 1]'h) = p := fun h => hp.symm
      have e3 : ¬i = 0 := by omega
      rw [if_neg e3, hpi] at hj
      by_cases hpt : p = t
      · simp [hi, ← ht, e3]
        (repeat' first | (with_reducible refine evCd_split (fun h => ?_) (fun h => ?_) <;> (try simp at h)) | (with_reducible refine evGd_split (fun h => ?_) (fun h => ?_) <;> (try simp at h)) | (with_reducible refine evDd_split (fun h => ?_) (fun h => ?_) <;> (try simp at h)) | with_reducible refine And.intro (by (first | omega | (unfold in64; omega))) ?_ | with_reducible refine CallDo.val (by simp) (v_equalTerms _ _) ?_ | with_reducible refine CallD.val (by simp) (v_equalTerms _ _) ?_ | with_reducible refine CallDo.val (by simp) (v_copyTerm _) ?_ | with_reducible refine CallD.val (by simp) (v_copyTerm _) ?_ | simp [e1, e2, e3, hpi, hpt, hpos])
        all_goals try exact absurd h e3
        refine LoopQ.rng acc hi ?_ ⟨by simp [fresh, kinL, kin, iterE, inObs, Pv.look], subB_of (by simp [fresh, kinL, kin, iterE, inObs, Pv.look]), subE_of (by simp [fresh, kinL, kin, kinO, inObs, Pv.look]), by simp⟩
        unfold jAsc
        simp [dd, hpt] at hj
        simp [hti, hj]
      · simp [hi, ← ht, e3]
        (repeat' first | (with_reducible refine evCd_split (fun h => ?_) (fun h => ?_) <;> (try simp at h)) | (with_reducible refine evGd_split (fun h => ?_) (fun h => ?_) <;> (try simp at h)) | (with_reducible refine evDd_split (fun h => ?_) (fun h => ?_) <;> (try simp at h)) | with_reducible refine And.intro (by (first | omega | (unfold in64; omega))) ?_ | with_reducible refine CallDo.val (by simp) (v_equalTerms _ _) ?_ | with_reducible refine CallD.val (by simp) (v_equalTerms _ _) ?_ | with_reducible refine CallDo.val (by simp) (v_copyTerm _) ?_ | with_reducible refine CallD.val (by simp) (v_copyTerm _) ?_ | simp [e1, e2, e3, hpi, hpt, hpos])
        all_goals try exact absurd h e3
        refine ⟨by unfold lim; omega, ?_⟩
        (repeat' first | (with_reducible refine evCd_split (fun h => ?_) (fun h => ?_) <;> (try simp at h)) | (with_reducible refine evGd_split (fun h => ?_) (fun h => ?_) <;> (try simp at h)) | (with_reducible refine evDd_split (fun h => ?_) (fun h => ?_) <;> (try simp at h)) | with_reducible refine And.intro (by (first | omega | (unfold in64; omega))) ?_ | simp)
        refine LoopQ.rng (acc ++ [t]) hi ?_ ⟨by simp [fresh, kinL, kin, iterE, inObs, Pv.look, kinL_appT], subB_of (by simp [fresh, kinL, kin, iterE, inObs, Pv.look, kinL_appT]), subE_of (by simp [fresh, kinL, kin, kinO, inObs, Pv.look, kinL_appT]), by simp⟩
        unfold jAsc
        simp [dd, hpt] at hj
        simp [hti, hj]
end Go.Proofs.YtchidkafcdmciaaGreat
/- Contracts: the reference's order and insertion; universes. -/
set_option linter.all false
namespace Go.Proofs.YtchidkafcdmciaaGreat
open Go Go.Pv

theorem v_l02Sign (b : Bool) : FnV Tryz.prog 160 [.bool b] (.int .i64 (if b then -1 else 1)) := by
  refine FnV.mk mixed tysok2 f_spec_l02Sign ok_spec_l02Sign (by simp) (by simp [kin]) fun hbnd => ?_; unfold c_spec_l02Sign
  simp
  (repeat' first | (with_reducible refine evCd_split (fun h => ?_) (fun h => ?_) <;> (try simp at h)) | (with_reducible refine evGd_split (fun h => ?_) (fun h => ?_) <;> (try simp at h)) | (with_reducible refine evDd_split (fun h => ?_) (fun h => ?_) <;> (try simp at h)) | with_reducible refine And.intro (by (first | omega | (unfold in64; omega))) ?_ | simp)
  all_goals simp [RetV, r_spec_l02Sign, resL, resV, tup]
  all_goals simp_all
theorem ordT_leaf {a b : T} (ha : a.args = [] ∨ b.args = []) (h1 : a.kind = b.kind) (h2 : a.int = b.int) : ordT a b = ordS a.name b.name := by
  cases a <;> cases b <;> simp_all [ordT]
def jCmp (a b : T) (i : Nat) (_ : Unit) : Prop := a.args.take i = b.args.take i
set_option maxHeartbeats 1000000 in
set_option maxRecDepth 4000 in
theorem v_l02CmpG (a : T) (ih : ∀ x ∈ a.args, ∀ b : T, FnV Tryz.prog 124 [x.e, b.e] (.int .i64 (ordT x b))) (b : T) : FnV Tryz.prog 124 [a.e, b.e] (.int .i64 (ordT a b)) := by
  have hle : a.args.length ≤ 2 := by cases a <;> simp
  by_cases hk : a.kind = b.kind
  · by_cases hi : a.int = b.int
    · by_cases hn : a.name = b.name
      · have hlen : a.args.length = b.args.length := by cases a <;> cases b <;> simp at hk ⊢
        refine FnV.mk mixed tysok2 f_spec_l02Cmp ok_spec_l02Cmp (by simp) (by simp [kin]) fun hbnd => ?_; unfold c_spec_l02Cmp
        simp [hk, hi, hn]
        refine evC_rngK [2, 3] (fun i (_ : Unit) => [(5, .int .i64 i)]) a.args.length (jCmp a b) () ⟨by simp [fresh, kinL, kin, iterE, inObs, Pv.look], subB_of (by simp [fresh, kinL, kin, iterE, inObs, Pv.look]), subE_of (by simp [fresh, kinL, kin, kinO, inObs, Pv.look]), by simp⟩ (by simp [jCmp]) (fun _ hj _ => ?_) (fun i _ hlt hj _ => ?_)
        · simp
          (repeat' first | (with_reducible refine evCd_split (fun h => ?_) (fun h => ?_) <;> (try simp at h)) | (with_reducible refine evGd_split (fun h => ?_) (fun h => ?_) <;> (try simp at h)) | (with_reducible refine evDd_split (fun h => ?_) (fun h => ?_) <;> (try simp at h)) | with_reducible refine And.intro (by (first | omega | (unfold in64; omega))) ?_ | simp)
          simp [RetV, r_spec_l02Cmp, resL, resV, tup]
          unfold jCmp at hj
          rw [List.take_of_length_le (by omega), List.take_of_length_le (by omega)] at hj
          exact ((ordT_zero a b).2 (T_ext hk hi hn hj)).symm
        · have hlb : i < b.args.length := by omega
          obtain ⟨x, hx⟩ : ∃ x, x = a.args[i] := ⟨_, rfl⟩
          obtain ⟨y, hy⟩ : ∃ y, y = b.args[i] := ⟨_, rfl⟩
          have ihx := ih x (by rw [hx]; exact List.getElem_mem hlt) y
          simp [hlt, hlb, ← hx, ← hy]
          (repeat' first | (with_reducible refine evCd_split (fun h => ?_) (fun h => ?_) <;> (try simp at h)) | (with_reducible refine evGd_split (fun h => ?_) (fun h => ?_) <;> (try simp at h)) | (with_reducible refine evDd_split (fun h => ?_) (fun h => ?_) <;> (try simp at h)) | with_reducible refine And.intro (by (first | omega | (unfold in64; omega))) ?_ | with_reducible refine CallDo.val (by simp) (ihx) ?_ | with_reducible refine CallD.val (by simp) (ihx) ?_ | simp)
          · simp [RetV, r_spec_l02Cmp, resL, resV, tup]
            unfold jCmp at hj
            cases a with
            | pair a1 a2 =>
              cases b with
              | pair b1 b2 =>
                simp at hlt hj hx hy
                rcases (by omega : i = 0 ∨ i = 1) with rfl | rfl
                · simp at hx hy; subst hx hy; simp [ordT, h]
                · simp at hj hx hy; subst hx hy hj; simp [ordT, (ordT_zero a1 a1).2 rfl]
              | _ => simp at hk
            | _ => simp at hlt
          · refine LoopQ.rng () hlt ?_ ⟨by simp [fresh, kinL, kin, iterE, inObs, Pv.look], subB_of (by simp [fresh, kinL, kin, iterE, inObs, Pv.look]), subE_of (by simp [fresh, kinL, kin, kinO, inObs, Pv.look]), by simp⟩
            unfold jCmp at hj ⊢
            rw [List.take_succ, List.take_succ, hj, List.getElem?_eq_getElem hlt, List.getElem?_eq_getElem hlb, ← hx, ← hy, (ordT_zero x y).1 h]
      · refine FnV.mk mixed tysok2 f_spec_l02Cmp ok_spec_l02Cmp (by simp) (by simp [kin]) fun hbnd => ?_; unfold c_spec_l02Cmp
        simp [hk, hi, hn]
        ((repeat' first | (with_reducible refine evCd_split (fun h => ?_) (fun h => ?_) <;> (try simp at h)) | (with_reducible refine evGd_split (fun h => ?_) (fun h => ?_) <;> (try simp at h)) | (with_reducible refine evDd_split (fun h => ?_) (fun h => ?_) <;> (try simp at h)) | with_reducible refine And.intro (by (first | omega | (unfold in64; omega))) ?_ | with_reducible refine CallDo.val (by simp) (v_l02Sign _) ?_ | with_reducible refine CallD.val (by simp) (v_l02Sign _) ?_ | simp) <;> (try contradiction))
        simp [RetV, r_spec_l02Cmp, resL, resV, tup]
        have : a.args = [] ∨ b.args = [] := by cases a <;> cases b <;> simp at hk hn ⊢
        rw [ordT_leaf this hk hi, ordS, if_neg hn]
    · refine FnV.mk mixed tysok2 f_spec_l02Cmp ok_spec_l02Cmp (by simp) (by simp [kin]) fun hbnd => ?_; unfold c_spec_l02Cmp
      simp [hk, hi]
      ((repeat' first | (with_reducible refine evCd_split (fun h => ?_) (fun h => ?_) <;> (try simp at h)) | (with_reducible refine evGd_split (fun h => ?_) (fun h => ?_) <;> (try simp at h)) | (with_reducible refine evDd_split (fun h => ?_) (fun h => ?_) <;> (try simp at h)) | with_reducible refine And.intro (by (first | omega | (unfold in64; omega))) ?_ | with_reducible refine CallDo.val (by simp) (v_l02Sign _) ?_ | with_reducible refine CallD.val (by simp) (v_l02Sign _) ?_ | simp) <;> (try contradiction))
      simp [RetV, r_spec_l02Cmp, resL, resV, tup]
      cases a <;> cases b <;> simp at hk hi
      · rw [ordT_var]; simp [ordI]; split <;> (try split) <;> omega
      · rw [ordT_num]; simp [ordI]; split <;> (try split) <;> omega
  · refine FnV.mk mixed tysok2 f_spec_l02Cmp ok_spec_l02Cmp (by simp) (by simp [kin]) fun hbnd => ?_; unfold c_spec_l02Cmp
    simp [hk]
    ((repeat' first | (with_reducible refine evCd_split (fun h => ?_) (fun h => ?_) <;> (try simp at h)) | (with_reducible refine evGd_split (fun h => ?_) (fun h => ?_) <;> (try simp at h)) | (with_reducible refine evDd_split (fun h => ?_) (fun h => ?_) <;> (try simp at h)) | with_reducible refine And.intro (by (first | omega | (unfold in64; omega))) ?_ | with_reducible refine CallDo.val (by simp) (v_l02Sign _) ?_ | with_reducible refine CallD.val (by simp) (v_l02Sign _) ?_ | simp) <;> (try contradiction))
    simp [RetV, r_spec_l02Cmp, resL, resV, tup]
    rw [ordT_kind hk]; simp [ordI]; split <;> (try split) <;> omega
theorem v_l02Cmp (a : T) : ∀ b : T, FnV Tryz.prog 124 [a.e, b.e] (.int .i64 (ordT a b)) := by
  induction a with
  | pair x y ihx ihy =>
    refine v_l02CmpG _ fun z hz => ?_
    simp at hz
    rcases hz with rfl | rfl
    · exact ihx
    · exact ihy
  | _ => exact v_l02CmpG _ fun x hx => by simp at hx
theorem v_l02Same (a b : T) : FnV Tryz.prog 128 [a.e, b.e] (.bool (decide (a = b))) := by
  refine FnV.mk mixed tysok2 f_spec_l02Same ok_spec_l02Same (by simp) (by simp [kin]) fun hbnd => ?_; unfold c_spec_l02Same
  simp
  (repeat' first | (with_reducible refine evCd_split (fun h => ?_) (fun h => ?_) <;> (try simp at h)) | (with_reducible refine evGd_split (fun h => ?_) (fun h => ?_) <;> (try simp at h)) | (with_reducible refine evDd_split (fun h => ?_) (fun h => ?_) <;> (try simp at h)) | with_reducible refine And.intro (by (first | omega | (unfold in64; omega))) ?_ | with_reducible refine CallDo.val (by simp) (v_l02Cmp _ _) ?_ | with_reducible refine CallD.val (by simp) (v_l02Cmp _ _) ?_ | simp)
  simp [RetV, r_spec_l02Same, resL, resV, tup]
  have := ordT_zero a b
  by_cases h : ordT a b = 0 <;> simp_all
/-- What l08Insert makes. -/
def insT (t : T) : List T → List T
  | [] => [t]
  | x :: r => if ordT x t < 0 then x :: insT t r else if x = t then x :: r else t :: x :: r
def insK (l : List T) (t : T) : Nat → Nat
  | 0 => 0
  | k + 1 => match l[k]? with
    | some x => if 0 ≤ ordT x t then insK l t k else k + 1
    | none => 0
theorem insK_le (l : List T) (t : T) : ∀ k, insK l t k ≤ k
  | 0 => by simp [insK]
  | k + 1 => by
    simp only [insK]
    split
    · split
      · have := insK_le l t k; omega
      · omega
    · omega
def insL (l : List T) (t : T) : List T := if l[insK l t l.length]? = some t then l else l.take (insK l t l.length) ++ t :: l.drop (insK l t l.length)
def jIns (l : List T) (t : T) (k : Nat) : Prop := k ≤ l.length ∧ insK l t k = insK l t l.length
theorem stripL_app (a b : List PV) : stripL (a ++ b) = stripL a ++ stripL b := by rw [stripL_map, stripL_map, stripL_map, List.map_append]
set_option maxHeartbeats 1000000 in
set_option maxRecDepth 4000 in
theorem v_l08Insert (l : List T) (hl : l.length ≤ 1000000) (t : T) : FnV Tryz.prog 79 [.slice 4 .no (l.map T.e), t.e] (.slice 4 .no ((insL l t).map T.e)) := by
  refine FnV.mk mixed tysok2 f_spec_l08Insert ok_spec_l08Insert (by simp) (by simp [kin]) fun hbnd => ?_; unfold c_spec_l08Insert
  simp
  refine evC_whlK [0, 3] (fun (k : Nat) => [(5, .int .i64 k)]) (fun k => k) (jIns l t) l.length ⟨by simp [fresh, kinL, kin, iterE, inObs, Pv.look], subB_of (by simp [fresh, kinL, kin, iterE, inObs, Pv.look]), subE_of (by simp [fresh, kinL, kin, kinO, inObs, Pv.look]), by simp⟩ ⟨by omega, rfl⟩ (fun k hj _ => ?_)
  obtain ⟨hk, hins⟩ := hj
  have htl : (l.map T.e).take l.length = l.map T.e := List.take_of_length_le (by simp)
  have hst1 : ∀ k, stripL ((l.map T.e).take k) = (l.map T.e).take k := fun k => by rw [← List.map_take, stripL_mapE]
  have hst2 : ∀ k, stripL ((l.map T.e).drop k) = (l.map T.e).drop k := fun k => by rw [← List.map_drop, stripL_mapE]
  rcases Nat.eq_zero_or_pos k with hk0 | hpos
  · subst hk0
    have hz : insK l t l.length = 0 := by rw [← hins]; rfl
    by_cases hkl : 0 < l.length
    · obtain ⟨y, hy⟩ : ∃ y, l[0]? = some y := ⟨_, List.getElem?_eq_getElem hkl⟩
      have hy2 : ∀ h, l[0]'h = y := fun h => by rw [List.getElem?_eq_getElem h] at hy; simpa using hy
      by_cases hyt : y = t
      · ((repeat' first | with_reducible refine And.intro (by (first | omega | (unfold in64; omega) | (unfold lim; omega))) ?_ | with_reducible refine CallDo.val (by simp) (v_l02Cmp _ _) ?_ | with_reducible refine CallD.val (by simp) (v_l02Cmp _ _) ?_ | with_reducible refine CallDo.val (by simp) (v_l02Same _ _) ?_ | with_reducible refine CallD.val (by simp) (v_l02Same _ _) ?_ | simp [hkl, hy, hy2, hyt, hz] | (with_reducible refine evCd_split (fun h => ?_) (fun h => ?_) <;> (try simp at h)) | (with_reducible refine evGd_split (fun h => ?_) (fun h => ?_) <;> (try simp at h)) | (with_reducible refine evDd_split (fun h => ?_) (fun h => ?_) <;> (try simp at h))) <;> (try first | contradiction | (exfalso; omega)))
        simp [RetV, r_spec_l08Insert, resL, resV, tup]
        simp [insL, hz, hy, hyt, htl, stripL_app, hst1, hst2]
      · ((repeat' first | with_reducible refine And.intro (by (first | omega | (unfold in64; omega) | (unfold lim; omega))) ?_ | with_reducible refine CallDo.val (by simp) (v_l02Cmp _ _) ?_ | with_reducible refine CallD.val (by simp) (v_l02Cmp _ _) ?_ | with_reducible refine CallDo.val (by simp) (v_l02Same _ _) ?_ | with_reducible refine CallD.val (by simp) (v_l02Same _ _) ?_ | simp [hkl, hy, hy2, hyt, hz] | (with_reducible refine evCd_split (fun h => ?_) (fun h => ?_) <;> (try simp at h)) | (with_reducible refine evGd_split (fun h => ?_) (fun h => ?_) <;> (try simp at h)) | (with_reducible refine evDd_split (fun h => ?_) (fun h => ?_) <;> (try simp at h))) <;> (try first | contradiction | (exfalso; omega)))
        simp [RetV, r_spec_l08Insert, resL, resV, tup]
        simp [insL, hz, hy, hyt, htl, stripL_app, hst1, hst2]
    · have hn : l[0]? = none := List.getElem?_eq_none (by omega)
      have htk : l.take 0 = l := List.take_of_length_le (by omega)
      have hdk : l.drop 0 = [] := List.drop_of_length_le (by omega)
      ((repeat' first | with_reducible refine And.intro (by (first | omega | (unfold in64; omega) | (unfold lim; omega))) ?_ | with_reducible refine CallDo.val (by simp) (v_l02Cmp _ _) ?_ | with_reducible refine CallD.val (by simp) (v_l02Cmp _ _) ?_ | with_reducible refine CallDo.val (by simp) (v_l02Same _ _) ?_ | with_reducible refine CallD.val (by simp) (v_l02Same _ _) ?_ | simp [hkl, hz] | (with_reducible refine evCd_split (fun h => ?_) (fun h => ?_) <;> (try simp at h)) | (with_reducible refine evGd_split (fun h => ?_) (fun h => ?_) <;> (try simp at h)) | (with_reducible refine evDd_split (fun h => ?_) (fun h => ?_) <;> (try simp at h))) <;> (try first | contradiction | (exfalso; omega)))
      simp [RetV, r_spec_l08Insert, resL, resV, tup]
      have htk2 : (l.map T.e).take 0 = l.map T.e := List.take_of_length_le (by rw [List.length_map]; omega)
      have hdk2 : (l.map T.e).drop 0 = [] := List.drop_of_length_le (by rw [List.length_map]; omega)
      first
        | (simp [insL, hz, hn, htk, hdk, htl, stripL_app, htk2, hdk2]; done)
        | (have hl0 : l = [] := List.length_eq_zero_iff.1 (by omega)
           subst hl0; simp [insL, insK]; done)
  · obtain ⟨x, hx⟩ : ∃ x, l[k - 1]? = some x := ⟨_, List.getElem?_eq_getElem (by omega)⟩
    have hx2 : ∀ h, l[k - 1]'h = x := fun h => by rw [List.getElem?_eq_getElem h] at hx; simpa using hx
    have e1 : ((k : Int) - 1).toNat = k - 1 := by omega
    have e4 : ((k - 1 : Nat) : Int) = (k : Int) - 1 := by omega
    have hstep : insK l t k = if 0 ≤ ordT x t then insK l t (k - 1) else k := by
      obtain ⟨k', rfl⟩ : ∃ k', k = k' + 1 := ⟨k - 1, by omega⟩
      simp at hx
      simp [insK, hx]
    by_cases ho : 0 ≤ ordT x t
    · ((repeat' first | with_reducible refine And.intro (by (first | omega | (unfold in64; omega) | (unfold lim; omega))) ?_ | with_reducible refine CallDo.val (by simp) (v_l02Cmp _ _) ?_ | with_reducible refine CallD.val (by simp) (v_l02Cmp _ _) ?_ | simp [hpos, hx, hx2, e1, ho] | (with_reducible refine evCd_split (fun h => ?_) (fun h => ?_) <;> (try simp at h)) | (with_reducible refine evGd_split (fun h => ?_) (fun h => ?_) <;> (try simp at h)) | (with_reducible refine evDd_split (fun h => ?_) (fun h => ?_) <;> (try simp at h))) <;> (try first | contradiction | (exfalso; omega)))
      refine LoopQ.whl (k - 1) (by omega) ⟨by omega, ?_⟩ ⟨by simp [fresh, kinL, kin, iterE, inObs, Pv.look, e4], subB_of (by simp [fresh, kinL, kin, iterE, inObs, Pv.look, e4]), subE_of (by simp [fresh, kinL, kin, kinO, inObs, Pv.look, e4]), by simp⟩
      rw [← hins, hstep, if_pos ho]
    · have hz : insK l t l.length = k := by rw [← hins, hstep, if_neg ho]
      by_cases hkl : k < l.length
      · obtain ⟨y, hy⟩ : ∃ y, l[k]? = some y := ⟨_, List.getElem?_eq_getElem hkl⟩
        have hy2 : ∀ h, l[k]'h = y := fun h => by rw [List.getElem?_eq_getElem h] at hy; simpa using hy
        by_cases hyt : y = t
        · ((repeat' first | with_reducible refine And.intro (by (first | omega | (unfold in64; omega) | (unfold lim; omega))) ?_ | with_reducible refine CallDo.val (by simp) (v_l02Cmp _ _) ?_ | with_reducible refine CallD.val (by simp) (v_l02Cmp _ _) ?_ | with_reducible refine CallDo.val (by simp) (v_l02Same _ _) ?_ | with_reducible refine CallD.val (by simp) (v_l02Same _ _) ?_ | simp [hkl, hy, hy2, hyt, hpos, hx, hx2, e1, ho] | (with_reducible refine evCd_split (fun h => ?_) (fun h => ?_) <;> (try simp at h)) | (with_reducible refine evGd_split (fun h => ?_) (fun h => ?_) <;> (try simp at h)) | (with_reducible refine evDd_split (fun h => ?_) (fun h => ?_) <;> (try simp at h))) <;> (try first | contradiction | (exfalso; omega)))
          simp [RetV, r_spec_l08Insert, resL, resV, tup]
          simp [insL, hz, hy, hyt, htl, stripL_app, hst1, hst2]
        · ((repeat' first | with_reducible refine And.intro (by (first | omega | (unfold in64; omega) | (unfold lim; omega))) ?_ | with_reducible refine CallDo.val (by simp) (v_l02Cmp _ _) ?_ | with_reducible refine CallD.val (by simp) (v_l02Cmp _ _) ?_ | with_reducible refine CallDo.val (by simp) (v_l02Same _ _) ?_ | with_reducible refine CallD.val (by simp) (v_l02Same _ _) ?_ | simp [hkl, hy, hy2, hyt, hpos, hx, hx2, e1, ho] | (with_reducible refine evCd_split (fun h => ?_) (fun h => ?_) <;> (try simp at h)) | (with_reducible refine evGd_split (fun h => ?_) (fun h => ?_) <;> (try simp at h)) | (with_reducible refine evDd_split (fun h => ?_) (fun h => ?_) <;> (try simp at h))) <;> (try first | contradiction | (exfalso; omega)))
          simp [RetV, r_spec_l08Insert, resL, resV, tup]
          simp [insL, hz, hy, hyt, htl, stripL_app, hst1, hst2]
      · have hn : l[k]? = none := List.getElem?_eq_none (by omega)
        have htk : l.take k = l := List.take_of_length_le (by omega)
        have hdk : l.drop k = [] := List.drop_of_length_le (by omega)
        ((repeat' first | with_reducible refine And.intro (by (first | omega | (unfold in64; omega) | (unfold lim; omega))) ?_ | with_reducible refine CallDo.val (by simp) (v_l02Cmp _ _) ?_ | with_reducible refine CallD.val (by simp) (v_l02Cmp _ _) ?_ | with_reducible refine CallDo.val (by simp) (v_l02Same _ _) ?_ | with_reducible refine CallD.val (by simp) (v_l02Same _ _) ?_ | simp [hkl, hpos, hx, hx2, e1, ho] | (with_reducible refine evCd_split (fun h => ?_) (fun h => ?_) <;> (try simp at h)) | (with_reducible refine evGd_split (fun h => ?_) (fun h => ?_) <;> (try simp at h)) | (with_reducible refine evDd_split (fun h => ?_) (fun h => ?_) <;> (try simp at h))) <;> (try first | contradiction | (exfalso; omega)))
        simp [RetV, r_spec_l08Insert, resL, resV, tup]
        have htk2 : (l.map T.e).take k = l.map T.e := List.take_of_length_le (by rw [List.length_map]; omega)
        have hdk2 : (l.map T.e).drop k = [] := List.drop_of_length_le (by rw [List.length_map]; omega)
        first
          | (simp [insL, hz, hn, htk, hdk, htl, stripL_app, htk2, hdk2]; done)
          | (have hl0 : l = [] := List.length_eq_zero_iff.1 (by omega)
             subst hl0; simp [insL, insK]; done)
end Go.Proofs.YtchidkafcdmciaaGreat
/- Contracts: universes, powers, assignments, instances. -/
set_option linter.all false
namespace Go.Proofs.YtchidkafcdmciaaGreat
open Go Go.Pv

/-- What l08Universe has drawn after i rounds. -/
def uniC (c : Cur) : Nat → List T × Cur
  | 0 => ([], c)
  | i + 1 => (insL (uniC c i).1 (drawT (1 + 2 * ((uniC c i).2.below 2).toNat) 0 (uniC c i).2.next).1, (drawT (1 + 2 * ((uniC c i).2.below 2).toNat) 0 (uniC c i).2.next).2)
theorem uniC_ok {c : Cur} (h : c.ok) : ∀ i, (uniC c i).2.ok
  | 0 => h
  | i + 1 => drawT_ok _ _ _ (uniC_ok h i).next
theorem insL_len (l : List T) (t : T) : (insL l t).length ≤ l.length + 1 := by
  unfold insL
  split
  · omega
  · simp [-intV, -binV]; omega
theorem uniC_len (c : Cur) : ∀ i, (uniC c i).1.length ≤ i
  | 0 => by simp [-intV, -binV, uniC]
  | i + 1 => by simp only [uniC]; have := insL_len (uniC c i).1 (drawT (1 + 2 * ((uniC c i).2.below 2).toNat) 0 (uniC c i).2.next).1; have := uniC_len c i; omega
def jU (c : Cur) (i : Nat) (_ : Unit) : Prop := True
set_option maxRecDepth 4000 in
set_option maxHeartbeats 1000000 in
theorem g_l08Universe (most : Nat) (hm : 0 < most ∧ most ≤ 256) (c : Cur) (hc : c.ok) : FnG Tryz.prog 49 [.ptr (.obj 401) 0, .int .i64 most] (SC c) fun r s' => r = .slice 4 .no ((uniC c.next (1 + (c.below most).toNat)).1.map T.e) ∧ s' = SC (uniC c.next (1 + (c.below most).toNat)).2 := by
  have hs := SC_ok c
  have hb := c.below_le most (by omega)
  have hnx : c.belowC most = c.next := by simp [-intV, -binV, Cur.belowC]; omega
  obtain ⟨n, hn⟩ : ∃ n : Nat, n = 1 + (c.below most).toNat := ⟨_, rfl⟩
  have hn2 : 1 + c.below most = (n : Int) := by omega
  rw [← hn]
  refine FnG.mk mixed tysok2 f_spec_l08Universe ok_spec_l08Universe (by simp [-intV, -binV]) hs.obj fun hbnd hbb => ?_; unfold c_spec_l08Universe
  unfold SC
  simp [-intV, -binV]
  (refine CallDo.ob (g_l01Below c hc most) (SC_ok _) (by unfold SC; exact (by first | (refine kpL ?_; simp [-intV, -binV]; done) | (intro k x hx; first | exact hx | (simp [-intV, -binV, hx, without_self]; done) | (simp [-intV, -binV, look_app, without_self, hx]; done) | (cases k <;> simp_all [look_app]; done)))) (by unfold SC; exact (by first | (refine kpL ?_; simp [-intV, -binV]; done) | (intro k x hx; first | exact hx | (simp [-intV, -binV, hx, without_self]; done) | (simp [-intV, -binV, look_app, without_self, hx]; done) | (cases k <;> simp_all [look_app]; done)))) (by simp [-intV, -binV, inObs, SC, Pv.look]) ?_; rintro r s' ⟨rfl, rfl⟩; refine ⟨SC_same _ _, ?_⟩; unfold SC; simp [-intV, -binV, without])
  rw [hnx]
  (repeat' first | (with_reducible refine evCd_split (fun h => ?_) (fun h => ?_) <;> (try simp [-intV, -binV] at h)) | (with_reducible refine evGd_split (fun h => ?_) (fun h => ?_) <;> (try simp [-intV, -binV] at h)) | (with_reducible refine evDd_split (fun h => ?_) (fun h => ?_) <;> (try simp [-intV, -binV] at h)) | with_reducible refine And.intro (by (first | omega | (unfold in64; omega))) ?_ | simp [-intV, -binV, hn2])
  refine evC_rng (fun i (_ : Unit) => ⟨[(0, .ptr (.obj 401) 0), (5, .slice 4 .no ((uniC c.next i).1.map T.e)), (6, .int .i64 (n - i))], [(.obj 401, (uniC c.next i).2.e)], [], 1, [.obj 401]⟩) n (jU c.next) () ⟨by simp [-intV, -binV, fresh, kinL, kin, iterE, inObs, Pv.look, kinL_cur, uniC], subB_of (by simp [-intV, -binV, fresh, kinL, kin, iterE, inObs, Pv.look, kinL_cur, uniC]), subE_of (by simp [-intV, -binV, fresh, kinL, kin, kinO, inObs, Pv.look, kinL_cur, uniC]), by simp [-intV, -binV]⟩ trivial (fun _ _ _ => ?_) (fun i _ hi _ _ => ?_)
  · simp [-intV, -binV]
    (repeat' first | (with_reducible refine evCd_split (fun h => ?_) (fun h => ?_) <;> (try simp [-intV, -binV] at h)) | (with_reducible refine evGd_split (fun h => ?_) (fun h => ?_) <;> (try simp [-intV, -binV] at h)) | (with_reducible refine evDd_split (fun h => ?_) (fun h => ?_) <;> (try simp [-intV, -binV] at h)) | with_reducible refine And.intro (by (first | omega | (unfold in64; omega))) ?_ | simp [-intV, -binV])
    (refine RetQ.at (SC ((uniC c.next n).2)) (.inl rfl) (SC_ok _) (SC_same _ _) (by unfold SC; exact (by first | (refine kpL ?_; simp [-intV, -binV]; done) | (intro k x hx; first | exact hx | (simp [-intV, -binV, hx, without_self]; done) | (simp [-intV, -binV, look_app, without_self, hx]; done) | (cases k <;> simp_all [look_app]; done)))) (by unfold SC; exact (by first | (refine kpL ?_; simp [-intV, -binV]; done) | (intro k x hx; first | exact hx | (simp [-intV, -binV, hx, without_self]; done) | (simp [-intV, -binV, look_app, without_self, hx]; done) | (cases k <;> simp_all [look_app]; done)))) ?_; simp [-intV, -binV, ResIs, r_spec_l08Universe, resL, resV, tup, SC])
  · have hci := uniC_ok hc.next i
    have hk := (uniC c.next i).2.below_le 2 (by omega)
    have hnx2 : (uniC c.next i).2.belowC 2 = (uniC c.next i).2.next := by simp [-intV, -binV, Cur.belowC]
    have hul := uniC_len c.next i
    obtain ⟨k, hk2⟩ : ∃ k : Nat, k = ((uniC c.next i).2.below 2).toNat := ⟨_, rfl⟩
    have hk3 : (uniC c.next i).2.below 2 = (k : Int) := by omega
    have hk4 : (1 + 2 * (k : Int)) = ((1 + 2 * k : Nat) : Int) := by omega
    have hpos : (i : Int) < n := by omega
    have hU : uniC c.next (i + 1) = (insL (uniC c.next i).1 (drawT (1 + 2 * k) 0 (uniC c.next i).2.next).1, (drawT (1 + 2 * k) 0 (uniC c.next i).2.next).2) := by rw [hk2]; rfl
    simp [-intV, -binV, hpos]
    (refine CallDo.ob (g_l01Below (uniC c.next i).2 hci 2) (SC_ok _) (by unfold SC; exact (by first | (refine kpL ?_; simp [-intV, -binV]; done) | (intro k x hx; first | exact hx | (simp [-intV, -binV, hx, without_self]; done) | (simp [-intV, -binV, look_app, without_self, hx]; done) | (cases k <;> simp_all [look_app]; done)))) (by unfold SC; exact (by first | (refine kpL ?_; simp [-intV, -binV]; done) | (intro k x hx; first | exact hx | (simp [-intV, -binV, hx, without_self]; done) | (simp [-intV, -binV, look_app, without_self, hx]; done) | (cases k <;> simp_all [look_app]; done)))) (by simp [-intV, -binV, inObs, SC, Pv.look]) ?_; rintro r s' ⟨rfl, rfl⟩; refine ⟨SC_same _ _, ?_⟩; unfold SC; simp [-intV, -binV, without])
    rw [hnx2, hk3]
    (repeat' first | (with_reducible refine evCd_split (fun h => ?_) (fun h => ?_) <;> (try simp [-intV, -binV] at h)) | (with_reducible refine evGd_split (fun h => ?_) (fun h => ?_) <;> (try simp [-intV, -binV] at h)) | (with_reducible refine evDd_split (fun h => ?_) (fun h => ?_) <;> (try simp [-intV, -binV] at h)) | with_reducible refine And.intro (by (first | omega | (unfold in64; omega))) ?_ | simp [-intV, -binV])
    simp only [hk4]
    (refine CallDo.ob (g_l02Draw 0 (by omega) (1 + 2 * k) (by omega) (uniC c.next i).2.next hci.next) (SC_ok _) (by unfold SC; exact (by first | (refine kpL ?_; simp [-intV, -binV]; done) | (intro k x hx; first | exact hx | (simp [-intV, -binV, hx, without_self]; done) | (simp [-intV, -binV, look_app, without_self, hx]; done) | (cases k <;> simp_all [look_app]; done)))) (by unfold SC; exact (by first | (refine kpL ?_; simp [-intV, -binV]; done) | (intro k x hx; first | exact hx | (simp [-intV, -binV, hx, without_self]; done) | (simp [-intV, -binV, look_app, without_self, hx]; done) | (cases k <;> simp_all [look_app]; done)))) (by simp [-intV, -binV, inObs, SC, Pv.look]) ?_; rintro r s' ⟨rfl, rfl⟩; refine ⟨SC_same _ _, ?_⟩; unfold SC; simp [-intV, -binV, without])
    (repeat' first | (with_reducible refine evCd_split (fun h => ?_) (fun h => ?_) <;> (try simp [-intV, -binV] at h)) | (with_reducible refine evGd_split (fun h => ?_) (fun h => ?_) <;> (try simp [-intV, -binV] at h)) | (with_reducible refine evDd_split (fun h => ?_) (fun h => ?_) <;> (try simp [-intV, -binV] at h)) | with_reducible refine And.intro (by (first | omega | (unfold in64; omega))) ?_ | with_reducible refine CallDo.val (by simp [-intV, -binV]) (v_l08Insert _ (by omega) _) ?_ | with_reducible refine CallD.val (by simp [-intV, -binV]) (v_l08Insert _ (by omega) _) ?_ | simp [-intV, -binV])
    have e5 : (n : Int) - i - 1 = n - (i + 1) := by omega
    refine LoopQ.rng () hi trivial ⟨by simp [-intV, -binV, fresh, kinL, kin, iterE, inObs, Pv.look, kinL_cur, hU, e5], subB_of (by simp [-intV, -binV, fresh, kinL, kin, iterE, inObs, Pv.look, kinL_cur, hU, e5]), subE_of (by simp [-intV, -binV, fresh, kinL, kin, kinO, inObs, Pv.look, kinL_cur, hU, e5]), by simp [-intV, -binV]⟩
theorem v_MakeUniverse (d : List Int) (hd : byteOk d) (hl : d.length ≤ 10000000) (n : Nat) (hn : n ≤ 1000000) (most : Nat) (hm : 0 < most ∧ most ≤ 256) : FnV Tryz.prog 7 [.slice 1 .no (bytesE d), .int .i64 n, .int .i64 most] (.slice 4 .no ((uniC (curAt d n).next (1 + ((curAt d n).below most).toNat)).1.map T.e)) := by
  refine FnV.mk mixed tysok2 f_spec_MakeUniverse ok_spec_MakeUniverse (by simp [-intV, -binV]) (by simp [-intV, -binV, kin]) fun hbnd => ?_; unfold c_spec_MakeUniverse
  simp [-intV, -binV]
  refine CallDo.new (g_l43New d hd hl n hn) ((ObOk.of ⟨by intro m; simp [-intV, -binV, Pv.look], by intro m; simp [-intV, -binV, Pv.look]⟩ (by simp [-intV, -binV, kinL, kin, inObs, Pv.look]) (by simp [-intV, -binV, kinL, kin, inObs, Pv.look]))) (by first | (refine kpL ?_; simp [-intV, -binV]; done) | (intro k x hx; first | exact hx | (simp [-intV, -binV, hx, without_self]; done) | (simp [-intV, -binV, look_app, without_self, hx]; done) | (cases k <;> simp_all [look_app]; done))) (by first | (refine kpL ?_; simp [-intV, -binV]; done) | (intro k x hx; first | exact hx | (simp [-intV, -binV, hx, without_self]; done) | (simp [-intV, -binV, look_app, without_self, hx]; done) | (cases k <;> simp_all [look_app]; done))) (by simp [-intV, -binV]) ?_
  rintro r s' ⟨rfl, rfl⟩
  refine ⟨fun m _ => .inr (by simp [-intV, -binV]), ?_⟩
  unfold SC
  simp [-intV, -binV, without]
  (refine CallDo.ob (g_l08Universe most hm _ (curAt_ok hd hl n)) (SC_ok _) (by unfold SC; exact (by first | (refine kpL ?_; simp [-intV, -binV]; done) | (intro k x hx; first | exact hx | (simp [-intV, -binV, hx, without_self]; done) | (simp [-intV, -binV, look_app, without_self, hx]; done) | (cases k <;> simp_all [look_app]; done)))) (by unfold SC; exact (by first | (refine kpL ?_; simp [-intV, -binV]; done) | (intro k x hx; first | exact hx | (simp [-intV, -binV, hx, without_self]; done) | (simp [-intV, -binV, look_app, without_self, hx]; done) | (cases k <;> simp_all [look_app]; done)))) (by simp [-intV, -binV, inObs, SC, Pv.look]) ?_; rintro r s' ⟨rfl, rfl⟩; refine ⟨SC_same _ _, ?_⟩; unfold SC; simp [-intV, -binV, without])
  simp [-intV, -binV, RetV, r_spec_MakeUniverse, resL, resV, tup]
end Go.Proofs.YtchidkafcdmciaaGreat
/- Contracts: powers, assignments, instances; sameness of lists. -/
set_option linter.all false
namespace Go.Proofs.YtchidkafcdmciaaGreat
open Go Go.Pv

/-- What power computes. -/
def pwr (b : Nat) : Nat → Nat → Nat
  | 0, out => out
  | k + 1, out => if out ≤ 512 ∧ b ≠ 1 then pwr b k (out * b) else out
def powr (b n : Nat) : Nat := min (pwr b n 1) 513
def jPow (b n : Nat) (i out : Nat) : Prop := out ≤ 512 * b ∧ pwr b (n - i) out = pwr b n 1
set_option maxHeartbeats 1000000 in
theorem v_power (b n : Nat) (hb : 0 < b ∧ b ≤ 1000) (hn : n ≤ 1000000) : FnV Tryz.prog 55 [.int .i64 b, .int .i64 n] (.int .i64 (powr b n)) := by
  refine FnV.mk mixed tysok2 f_impl_power ok_impl_power (by simp) (by simp [kin]) fun hbnd => ?_; unfold c_impl_power
  simp
  refine evC_rngK [0, 1] (fun i (out : Nat) => [(5, .int .i64 out), (6, .int .i64 i)]) n (jPow b n) 1 ⟨by simp [fresh, kinL, kin, iterE, inObs, Pv.look], subB_of (by simp [fresh, kinL, kin, iterE, inObs, Pv.look]), subE_of (by simp [fresh, kinL, kin, kinO, inObs, Pv.look]), by simp⟩ ⟨by omega, by simp⟩ (fun out hj _ => ?_) (fun i out hi hj _ => ?_)
  · obtain ⟨h1, h2⟩ := hj
    simp [pwr] at h2
    ((repeat' first | with_reducible refine And.intro (by (first | omega | (unfold in64; omega) | (unfold lim; omega))) ?_ | simp | (with_reducible refine evCd_split (fun h => ?_) (fun h => ?_) <;> (try simp at h)) | (with_reducible refine evGd_split (fun h => ?_) (fun h => ?_) <;> (try simp at h)) | (with_reducible refine evDd_split (fun h => ?_) (fun h => ?_) <;> (try simp at h))) <;> (try first | contradiction | (exfalso; omega)))
    simp [RetV, r_impl_power, resL, resV, tup]
    simp [powr, ← h2]
    omega
  · obtain ⟨h1, h2⟩ := hj
    have hstep : pwr b (n - i) out = if out ≤ 512 ∧ b ≠ 1 then pwr b (n - (i + 1)) (out * b) else out := by
      obtain ⟨k, hk⟩ : ∃ k, n - i = k + 1 := ⟨n - i - 1, by omega⟩
      rw [hk, show n - (i + 1) = k by omega]; rfl
    by_cases hc : out ≤ 512 ∧ b ≠ 1
    · rw [if_pos hc] at hstep
      have hmul : out * b ≤ 512 * b := Nat.mul_le_mul_right b hc.1
      have hm2 : 512 * b ≤ 512000 := by omega
      have hmi : 0 ≤ ((out : Int) * b) ∧ (out : Int) * b ≤ 512000 := by
        have h1 : ((out * b : Nat) : Int) ≤ 512000 := by omega
        have h2 : (0 : Int) ≤ ((out * b : Nat) : Int) := by omega
        rw [Int.natCast_mul] at h1 h2
        exact ⟨h2, h1⟩
      have hc1 : (out : Int) ≤ 512 := by omega
      have hc2 := hc.2
      ((repeat' first | with_reducible refine And.intro (by (first | omega | (unfold in64; omega) | (unfold lim; omega))) ?_ | simp [hi, hc1, hc2] | (with_reducible refine evCd_split (fun h => ?_) (fun h => ?_) <;> (try simp at h)) | (with_reducible refine evGd_split (fun h => ?_) (fun h => ?_) <;> (try simp at h)) | (with_reducible refine evDd_split (fun h => ?_) (fun h => ?_) <;> (try simp at h))) <;> (try first | contradiction | (exfalso; omega)))
      refine LoopQ.rng (out * b) hi ⟨hmul, by rw [← h2, hstep]⟩ ⟨by simp [fresh, kinL, kin, iterE, inObs, Pv.look], subB_of (by simp [fresh, kinL, kin, iterE, inObs, Pv.look]), subE_of (by simp [fresh, kinL, kin, kinO, inObs, Pv.look]), by simp⟩
    · rw [if_neg hc] at hstep
      have hfin : powr b n = min out 513 := by unfold powr; rw [← h2, hstep]
      by_cases hc1 : out ≤ 512
      · have hc2 : b = 1 := by omega
        subst hc2
        ((repeat' first | with_reducible refine And.intro (by (first | omega | (unfold in64; omega) | (unfold lim; omega))) ?_ | simp [hi] | (with_reducible refine evCd_split (fun h => ?_) (fun h => ?_) <;> (try simp at h)) | (with_reducible refine evGd_split (fun h => ?_) (fun h => ?_) <;> (try simp at h)) | (with_reducible refine evDd_split (fun h => ?_) (fun h => ?_) <;> (try simp at h))) <;> (try first | contradiction | (exfalso; omega)))
        simp [RetV, r_impl_power, resL, resV, tup]
        rw [hfin]; omega
      · ((repeat' first | with_reducible refine And.intro (by (first | omega | (unfold in64; omega) | (unfold lim; omega))) ?_ | simp [hi] | (with_reducible refine evCd_split (fun h => ?_) (fun h => ?_) <;> (try simp at h)) | (with_reducible refine evGd_split (fun h => ?_) (fun h => ?_) <;> (try simp at h)) | (with_reducible refine evDd_split (fun h => ?_) (fun h => ?_) <;> (try simp at h))) <;> (try first | contradiction | (exfalso; omega)))
        all_goals simp [RetV, r_impl_power, resL, resV, tup]
        all_goals rw [hfin]; omega
def jList (a b : List T) (i : Nat) (_ : Unit) : Prop := a.take i = b.take i
theorem v_list (a b : List T) (hl : a.length ≤ 1000000) : FnV Tryz.prog 17 [.slice 4 .no (a.map T.e), .slice 4 .no (b.map T.e)] (.bool (decide (a = b))) := by
  by_cases hlen : a.length = b.length
  · refine FnV.mk mixed tysok2 f_laws_list ok_laws_list (by simp) (by simp [kin]) fun hbnd => ?_; unfold c_laws_list
    simp [hlen]
    refine evC_rngK [1, 12, 13] (fun i (_ : Unit) => [(14, .int .i64 i)]) b.length (jList a b) () ⟨by simp [fresh, kinL, kin, iterE, inObs, Pv.look], subB_of (by simp [fresh, kinL, kin, iterE, inObs, Pv.look]), subE_of (by simp [fresh, kinL, kin, kinO, inObs, Pv.look]), by simp⟩ (by simp [jList]) (fun _ hj _ => ?_) (fun i _ hi hj _ => ?_)
    · ((repeat' first | with_reducible refine And.intro (by (first | omega | (unfold in64; omega) | (unfold lim; omega))) ?_ | simp | (with_reducible refine evCd_split (fun h => ?_) (fun h => ?_) <;> (try simp at h)) | (with_reducible refine evGd_split (fun h => ?_) (fun h => ?_) <;> (try simp at h)) | (with_reducible refine evDd_split (fun h => ?_) (fun h => ?_) <;> (try simp at h))) <;> (try first | contradiction | (exfalso; omega)))
      simp [RetV, r_laws_list, resL, resV, tup]
      unfold jList at hj
      rwa [List.take_of_length_le (by omega), List.take_of_length_le (by omega)] at hj
    · have hia : i < a.length := by omega
      obtain ⟨x, hx⟩ : ∃ x, a[i]? = some x := ⟨_, List.getElem?_eq_getElem hia⟩
      obtain ⟨y, hy⟩ : ∃ y, b[i]? = some y := ⟨_, List.getElem?_eq_getElem hi⟩
      have hx2 : ∀ h, a[i]'h = x := fun h => by rw [List.getElem?_eq_getElem h] at hx; simpa using hx
      have hy2 : ∀ h, b[i]'h = y := fun h => by rw [List.getElem?_eq_getElem h] at hy; simpa using hy
      by_cases hxy : x = y
      · ((repeat' first | with_reducible refine And.intro (by (first | omega | (unfold in64; omega) | (unfold lim; omega))) ?_ | with_reducible refine CallDo.val (by simp) (v_same _ _) ?_ | with_reducible refine CallD.val (by simp) (v_same _ _) ?_ | simp [hi, hia, hx, hy, hx2, hy2, hxy] | (with_reducible refine evCd_split (fun h => ?_) (fun h => ?_) <;> (try simp at h)) | (with_reducible refine evGd_split (fun h => ?_) (fun h => ?_) <;> (try simp at h)) | (with_reducible refine evDd_split (fun h => ?_) (fun h => ?_) <;> (try simp at h))) <;> (try first | contradiction | (exfalso; omega)))
        refine LoopQ.rng () hi ?_ ⟨by simp [fresh, kinL, kin, iterE, inObs, Pv.look], subB_of (by simp [fresh, kinL, kin, iterE, inObs, Pv.look]), subE_of (by simp [fresh, kinL, kin, kinO, inObs, Pv.look]), by simp⟩
        unfold jList at hj ⊢
        rw [List.take_succ, List.take_succ, hj, hx, hy, hxy]
      · ((repeat' first | with_reducible refine And.intro (by (first | omega | (unfold in64; omega) | (unfold lim; omega))) ?_ | with_reducible refine CallDo.val (by simp) (v_same _ _) ?_ | with_reducible refine CallD.val (by simp) (v_same _ _) ?_ | simp [hi, hia, hx, hy, hx2, hy2, hxy] | (with_reducible refine evCd_split (fun h => ?_) (fun h => ?_) <;> (try simp at h)) | (with_reducible refine evGd_split (fun h => ?_) (fun h => ?_) <;> (try simp at h)) | (with_reducible refine evDd_split (fun h => ?_) (fun h => ?_) <;> (try simp at h))) <;> (try first | contradiction | (exfalso; omega)))
        simp [RetV, r_laws_list, resL, resV, tup]
        intro e
        subst e
        rw [hx] at hy
        exact hxy (by simpa using hy)
  · refine FnV.mk mixed tysok2 f_laws_list ok_laws_list (by simp) (by simp [kin]) fun hbnd => ?_; unfold c_laws_list
    simp [hlen]
    ((repeat' first | with_reducible refine And.intro (by (first | omega | (unfold in64; omega) | (unfold lim; omega))) ?_ | simp [hlen] | (with_reducible refine evCd_split (fun h => ?_) (fun h => ?_) <;> (try simp at h)) | (with_reducible refine evGd_split (fun h => ?_) (fun h => ?_) <;> (try simp at h)) | (with_reducible refine evDd_split (fun h => ?_) (fun h => ?_) <;> (try simp at h))) <;> (try first | contradiction | (exfalso; omega)))
    simp [RetV, r_laws_list, resL, resV, tup]
    intro e; exact hlen (by rw [e])
def rowE (r : List Bd) : PV := .slice 5 .no (r.map Bd.e)
@[simp] theorem rowE_kin (S : Key → Prop) (r : List Bd) : kin S (rowE r) = True := by simp [rowE]
@[simp] theorem rowE_strip (r : List Bd) : strip (rowE r) = rowE r := by simp [rowE]
@[simp] theorem rowsE_kin (S : Key → Prop) (l : List (List Bd)) : kinL S (l.map rowE) = True := by
  apply eq_true
  induction l with
  | nil => simp
  | cons x r ih => simp [kinL, ih]
@[simp] theorem rowsE_strip (l : List (List Bd)) : stripL (l.map rowE) = l.map rowE := by
  induction l with
  | nil => simp
  | cons x r ih => simp [stripL, ih]
@[simp] theorem rowE_solid (r : List Bd) : solid (rowE r) = true := rfl
@[simp] theorem rowE_cells (r : List Bd) : cells (rowE r) = [rowE r] := rfl
theorem rowE_fold (r : List Bd) : PV.slice 5 .no (r.map Bd.e) = rowE r := rfl
/-- What assignments makes. -/
def ext1 (u : List T) (v : Int) (r : List Bd) : List (List Bd) := u.map fun t => r ++ [⟨v, t⟩]
def asgn (u : List T) : List Int → List (List Bd) → List (List Bd)
  | [], rows => rows
  | v :: vs, rows => asgn u vs (rows.flatMap (ext1 u v))
theorem ext1_len (u : List T) (v : Int) (r : List Bd) : (ext1 u v r).length = u.length := by simp [ext1]
theorem flat_ext_len (u : List T) (v : Int) : ∀ rows : List (List Bd), (rows.flatMap (ext1 u v)).length = rows.length * u.length
  | [] => by simp
  | r :: rows => by simp [flat_ext_len u v rows, ext1_len, Nat.succ_mul, Nat.add_comm]
def jA0 (u : List T) (vars : List Int) (i : Nat) (rows : List (List Bd)) : Prop := asgn u (vars.drop i) rows = asgn u vars [[]] ∧ rows.length = u.length ^ i
def jA1 (u : List T) (v : Int) (rows : List (List Bd)) (j : Nat) (acc : List (List Bd)) : Prop := acc = (rows.take j).flatMap (ext1 u v)
def jA2 (u : List T) (v : Int) (rows : List (List Bd)) (j : Nat) (r : List Bd) (k : Nat) (acc : List (List Bd)) : Prop := acc = (rows.take j).flatMap (ext1 u v) ++ ext1 (u.take k) v r
theorem rows_snoc (a : List (List Bd)) (r : List Bd) : a.map rowE ++ [rowE r] = (a ++ [r]).map rowE := by simp
theorem row_ext (r : List Bd) (v : Int) (t : T) : PV.slice 5 .no (r.map Bd.e ++ [(Bd.mk v t).e]) = rowE (r ++ [⟨v, t⟩]) := by simp [rowE]
set_option maxHeartbeats 2000000 in
set_option maxRecDepth 8000 in
theorem v_assignments (vars : List Int) (u : List T) (hu : 0 < u.length ∧ u.length ≤ 1000) (hn : vars.length ≤ 1000000) (hb : u.length ^ vars.length ≤ 1000000) (hrow : ∀ i rows, asgn u (vars.drop i) rows = asgn u vars [[]] → ∀ r ∈ rows, r.length ≤ 1000000) : FnV Tryz.prog 56 [.slice 1 .no (intsE vars), .slice 4 .no (u.map T.e)] (.slice 1 .no ((asgn u vars [[]]).map rowE)) := by
  have hpow : ∀ i, i ≤ vars.length → u.length ^ i ≤ 1000000 := fun i hi => Nat.le_trans (Nat.pow_le_pow_right hu.1 hi) hb
  refine FnV.mk mixed tysok2 f_impl_assignments ok_impl_assignments (by simp) (by simp [kin]) fun hbnd => ?_; unfold c_impl_assignments
  simp
  refine evC_rng (fun i (rows : List (List Bd)) => ⟨[(1, .slice 4 .no (u.map T.e)), (15, .slice 1 .no (intsE vars)), (16, .int .i64 vars.length), (5, .slice 1 .no (rows.map rowE)), (17, .int .i64 i)], [], [], 2, []⟩) vars.length (jA0 u vars) [[]] ⟨by simp [fresh, kinL, kin, iterE, inObs, Pv.look, rowE], subB_of (by simp [fresh, kinL, kin, iterE, inObs, Pv.look, rowE]), subE_of (by simp [fresh, kinL, kin, kinO, inObs, Pv.look, rowE]), by simp⟩ ⟨by simp, by simp⟩ (fun rows hj _ => ?_) (fun i rows hi hj _ => ?_)
  · ((repeat' first | with_reducible refine And.intro (by (first | omega | (unfold in64; omega) | (unfold lim; omega))) ?_ | simp | (with_reducible refine evCd_split (fun h => ?_) (fun h => ?_) <;> (try simp at h)) | (with_reducible refine evGd_split (fun h => ?_) (fun h => ?_) <;> (try simp at h)) | (with_reducible refine evDd_split (fun h => ?_) (fun h => ?_) <;> (try simp at h))) <;> (try first | contradiction | (exfalso; omega)))
    simp [RetV, r_impl_assignments, resL, resV, tup]
    have h1 := hj.1
    rw [List.drop_length] at h1
    simp [asgn] at h1
    rw [h1]
  · obtain ⟨v, hv⟩ : ∃ v, vars[i]? = some v := ⟨_, List.getElem?_eq_getElem hi⟩
    have hv2 : ∀ h, (intsE vars)[i]'h = .int .i64 v := fun h => by simp only [intsE, List.getElem_map]; rw [List.getElem?_eq_getElem hi] at hv; simp at hv; rw [hv]
    have hd : vars.drop i = v :: vars.drop (i + 1) := by rw [List.drop_eq_getElem_cons hi]; rw [List.getElem?_eq_getElem hi] at hv; simp at hv; rw [hv]
    have hp1 := hpow (i + 1) (by omega)
    rw [Nat.pow_succ, ← hj.2] at hp1
    have hrl : rows.length ≤ 1000000 := by rw [hj.2]; exact hpow i (by omega)
    ((repeat' first | with_reducible refine And.intro (by (first | omega | (unfold in64; omega) | (unfold lim; omega))) ?_ | simp [hi, hv2] | (with_reducible refine evCd_split (fun h => ?_) (fun h => ?_) <;> (try simp at h)) | (with_reducible refine evGd_split (fun h => ?_) (fun h => ?_) <;> (try simp at h)) | (with_reducible refine evDd_split (fun h => ?_) (fun h => ?_) <;> (try simp at h))) <;> (try first | contradiction | (exfalso; omega)))
    refine evC_rng (fun j (acc : List (List Bd)) => ⟨[(1, .slice 4 .no (u.map T.e)), (7, .int .i64 v), (15, .slice 1 .no (intsE vars)), (16, .int .i64 vars.length), (17, .int .i64 i), (22, .slice 1 .no (rows.map rowE)), (23, .int .i64 rows.length), (8, .slice 1 (.own (.loc 2)) (acc.map rowE)), (24, .int .i64 j)], [], [(.loc 2, ⟨acc.length, 31, 1, none⟩)], 3, []⟩) rows.length (jA1 u v rows) [] ⟨by simp [fresh, kinL, kin, iterE, inObs, Pv.look], subB_of (by simp [fresh, kinL, kin, iterE, inObs, Pv.look]), subE_of (by simp [fresh, kinL, kin, kinO, inObs, Pv.look]), by simp⟩ rfl (fun acc hj1 _ => ?_) (fun j acc hj0 hj1 _ => ?_)
    · have hacc : acc = rows.flatMap (ext1 u v) := by rw [hj1, List.take_length]
      ((repeat' first | with_reducible refine And.intro (by (first | omega | (unfold in64; omega) | (unfold lim; omega))) ?_ | simp | (with_reducible refine evCd_split (fun h => ?_) (fun h => ?_) <;> (try simp at h)) | (with_reducible refine evGd_split (fun h => ?_) (fun h => ?_) <;> (try simp at h)) | (with_reducible refine evDd_split (fun h => ?_) (fun h => ?_) <;> (try simp at h))) <;> (try first | contradiction | (exfalso; omega)))
      refine LoopQ.rng acc hi ⟨?_, ?_⟩ ⟨by simp [fresh, kinL, kin, iterE, inObs, Pv.look], subB_of (by simp [fresh, kinL, kin, iterE, inObs, Pv.look]), subE_of (by simp [fresh, kinL, kin, kinO, inObs, Pv.look]), by simp⟩
      · rw [hacc, ← hj.1, hd]; rfl
      · rw [hacc, flat_ext_len, hj.2, Nat.pow_succ]
    · obtain ⟨r, hr⟩ : ∃ r, rows[j]? = some r := ⟨_, List.getElem?_eq_getElem hj0⟩
      have hr2 : ∀ h, rows[j]'h = r := fun h => by rw [List.getElem?_eq_getElem h] at hr; simpa using hr
      have hrlen : r.length ≤ 1000000 := hrow i rows hj.1 r (List.mem_of_getElem? hr)
      have hjm : (j + 1) * u.length ≤ rows.length * u.length := Nat.mul_le_mul_right _ (by omega)
      have hal : acc.length = j * u.length := by rw [hj1, flat_ext_len, List.length_take, Nat.min_eq_left (by omega)]
      rw [Nat.add_mul, Nat.one_mul] at hjm
      ((repeat' first | with_reducible refine And.intro (by (first | omega | (unfold in64; omega) | (unfold lim; omega))) ?_ | simp [hj0, hr, hr2] | (with_reducible refine evCd_split (fun h => ?_) (fun h => ?_) <;> (try simp at h)) | (with_reducible refine evGd_split (fun h => ?_) (fun h => ?_) <;> (try simp at h)) | (with_reducible refine evDd_split (fun h => ?_) (fun h => ?_) <;> (try simp at h))) <;> (try first | contradiction | (exfalso; omega)))
      refine evC_rng (fun k (acc : List (List Bd)) => ⟨[(1, .slice 4 .no (u.map T.e)), (7, .int .i64 v), (10, rowE r), (15, .slice 1 .no (intsE vars)), (16, .int .i64 vars.length), (17, .int .i64 i), (22, .slice 1 .no (rows.map rowE)), (23, .int .i64 rows.length), (24, .int .i64 j), (28, .slice 4 .no (u.map T.e)), (29, .int .i64 u.length), (8, .slice 1 (.own (.loc 2)) (acc.map rowE)), (30, .int .i64 k)], [], [(.loc 2, ⟨acc.length, 31, 1, none⟩)], 3, []⟩) u.length (jA2 u v rows j r) acc ⟨by simp [fresh, kinL, kin, iterE, inObs, Pv.look], subB_of (by simp [fresh, kinL, kin, iterE, inObs, Pv.look]), subE_of (by simp [fresh, kinL, kin, kinO, inObs, Pv.look]), by simp⟩ (by have h1 : acc = _ := hj1; unfold jA2; rw [h1]; simp [ext1]) (fun acc2 hj2 _ => ?_) (fun k acc2 hk0 hj2 _ => ?_)
      · ((repeat' first | with_reducible refine And.intro (by (first | omega | (unfold in64; omega) | (unfold lim; omega))) ?_ | simp | (with_reducible refine evCd_split (fun h => ?_) (fun h => ?_) <;> (try simp at h)) | (with_reducible refine evGd_split (fun h => ?_) (fun h => ?_) <;> (try simp at h)) | (with_reducible refine evDd_split (fun h => ?_) (fun h => ?_) <;> (try simp at h))) <;> (try first | contradiction | (exfalso; omega)))
        refine LoopQ.rng acc2 hj0 ?_ ⟨by simp [fresh, kinL, kin, iterE, inObs, Pv.look], subB_of (by simp [fresh, kinL, kin, iterE, inObs, Pv.look]), subE_of (by simp [fresh, kinL, kin, kinO, inObs, Pv.look]), by simp⟩
        unfold jA1
        rw [hj2, List.take_length, List.take_succ, hr]
        simp
      · obtain ⟨t, ht⟩ : ∃ t, u[k]? = some t := ⟨_, List.getElem?_eq_getElem hk0⟩
        have ht2 : ∀ h, u[k]'h = t := fun h => by rw [List.getElem?_eq_getElem h] at ht; simpa using ht
        have hal2 : acc2.length = j * u.length + k := by
          have h1 : (rows.take j).length = j := by simp; omega
          have h2 : (u.take k).length = k := by simp; omega
          rw [hj2, List.length_append, flat_ext_len, ext1_len, h1, h2]
        have hre : rowE r = .slice 5 .no (r.map Bd.e) := rfl
        have hre2 : rowE (r ++ [⟨v, t⟩]) = .slice 5 .no (r.map Bd.e ++ [(Bd.mk v t).e]) := by simp [rowE]
        ((repeat' first | with_reducible refine And.intro (by (first | omega | (unfold in64; omega) | (unfold lim; omega))) ?_ | simp [hk0, ht, ht2, hre] | (with_reducible refine evCd_split (fun h => ?_) (fun h => ?_) <;> (try simp at h)) | (with_reducible refine evGd_split (fun h => ?_) (fun h => ?_) <;> (try simp at h)) | (with_reducible refine evDd_split (fun h => ?_) (fun h => ?_) <;> (try simp at h))) <;> (try first | contradiction | (exfalso; omega)))
        refine LoopQ.rng (acc2 ++ [r ++ [⟨v, t⟩]]) hk0 ?_ ⟨by simp [fresh, kinL, kin, iterE, inObs, Pv.look, hre, hre2, stripL_app, kinL_appT], subB_of (by simp [fresh, kinL, kin, iterE, inObs, Pv.look, hre, hre2, stripL_app, kinL_appT]), subE_of (by simp [fresh, kinL, kin, kinO, inObs, Pv.look, hre, hre2, stripL_app, kinL_appT]), by simp⟩
        unfold jA2
        rw [hj2, List.take_succ, ht]
        simp [ext1]
end Go.Proofs.YtchidkafcdmciaaGreat
/- Contracts: subterms. -/
set_option linter.all false
namespace Go.Proofs.YtchidkafcdmciaaGreat
open Go Go.Pv

/-- A term and its parts. -/
def _root_.Go.Pv.T.subs : T → List T
  | .pair a b => .pair a b :: (a.subs ++ b.subs)
  | t => [t]
theorem subs_len (t : T) : t.subs.length = t.size := by
  induction t with
  | pair a b iha ihb => simp [T.subs, T.size, iha, ihb]; omega
  | _ => simp [T.subs, T.size]
def SW (l : List T) : Obs := ⟨[(.obj 604, [.row 4 (.obj 603) l.length]), (.obj 605, [.func 63 [.ptr (.obj 604) 0, .ptr (.obj 605) 0]])], [(.obj 603, ⟨l.length, 26, 4, some (l.map T.e)⟩)]⟩
theorem SW_ok (l : List T) : ObOk (SW l) := by
  unfold SW
  refine ObOk.of ⟨by intro m; simp [Pv.look], by intro m; simp [Pv.look]⟩ (by simp [kinL, kin, inObs, Pv.look]) ?_
  intro x hx xs hxs
  simp at hx
  subst hx
  simp at hxs
  subst hxs
  simp
theorem SW_same (l l' : List T) : Same (SW l) (SW l') := by
  refine ⟨fun k => ?_, fun k => ?_⟩
  · simp only [SW, Pv.look]; (repeat' split) <;> rfl
  · simp only [SW, Pv.look]; split <;> rfl
def SWn (n : Nat) (xs : List PV) : Obs := ⟨[(.obj 604, [.row 4 (.obj 603) n]), (.obj 605, [.func 63 [.ptr (.obj 604) 0, .ptr (.obj 605) 0]])], [(.obj 603, ⟨n, 26, 4, some xs⟩)]⟩
theorem SW_eq (l : List T) {n : Nat} {xs : List PV} (hn : n = l.length) (hx : xs = l.map T.e) : SWn n xs = SW l := by subst hn hx; rfl
set_option maxHeartbeats 1000000 in
set_option maxRecDepth 4000 in
theorem g_SubtermsOf1 (t : T) : ∀ l : List T, l.length + t.size ≤ 10000000 → FnG Tryz.prog 63 [t.e, .ptr (.obj 604) 0, .ptr (.obj 605) 0] (SW l) fun r s' => r = .tuple [] ∧ s' = SW (l ++ t.subs) := by
  induction t with
  | pair a b iha ihb =>
    intro l hl
    simp only [T.size] at hl
    have hs := SW_ok l
    have ia := iha (l ++ [.pair a b]) (by simp; omega)
    have ib := ihb (l ++ [.pair a b] ++ a.subs) (by simp [subs_len]; omega)
    have e1 : SWn (l.length + 1) (l.map T.e ++ [(T.pair a b).e]) = SW (l ++ [.pair a b]) := SW_eq _ (by simp) (by simp)
    have e2 : SWn (l.length + 1 + a.subs.length) (l.map T.e ++ [(T.pair a b).e] ++ a.subs.map T.e) = SW (l ++ [.pair a b] ++ a.subs) := SW_eq _ (by simp; omega) (by simp)
    have e3 : SWn (l.length + 1 + a.subs.length + b.subs.length) (l.map T.e ++ [(T.pair a b).e] ++ a.subs.map T.e ++ b.subs.map T.e) = SW (l ++ (T.pair a b).subs) := SW_eq _ (by simp [T.subs]; omega) (by simp [T.subs])
    have e3' : SW (l ++ [.pair a b] ++ a.subs ++ b.subs) = SW (l ++ (T.pair a b).subs) := by simp [T.subs]
    rw [e3'] at ib
    rw [← e1, ← e2] at ia
    rw [← e2, ← e3] at ib
    have k1 : ObOk (SWn (l.length + 1) (l.map T.e ++ [(T.pair a b).e])) := by rw [e1]; exact SW_ok _
    have k2 : ObOk (SWn (l.length + 1 + a.subs.length) (l.map T.e ++ [(T.pair a b).e] ++ a.subs.map T.e)) := by rw [e2]; exact SW_ok _
    have k3 : ObOk (SWn (l.length + 1 + a.subs.length + b.subs.length) (l.map T.e ++ [(T.pair a b).e] ++ a.subs.map T.e ++ b.subs.map T.e)) := by rw [e3]; exact SW_ok _
    rw [← SW_eq l rfl rfl]
    rw [← SW_eq l rfl rfl] at hs
    unfold SWn at hs
    refine FnG.mk mixed tysok2 f_impl_SubtermsOf_1 ok_impl_SubtermsOf_1 (by simp) hs.obj fun hbnd hbb => ?_; unfold c_impl_SubtermsOf_1
    simp only [SWn]
    ((repeat' first | with_reducible refine And.intro (by (first | omega | (unfold in64; omega) | (unfold lim; omega))) ?_ | simp | (with_reducible refine evCd_split (fun h => ?_) (fun h => ?_) <;> (try simp at h)) | (with_reducible refine evGd_split (fun h => ?_) (fun h => ?_) <;> (try simp at h)) | (with_reducible refine evDd_split (fun h => ?_) (fun h => ?_) <;> (try simp at h))) <;> (try first | contradiction | (exfalso; omega)))
    refine CallD.ob ia k1 k2 (by rw [e1, e2]; exact SW_same _ _) (by unfold SWn; exact (by first | (refine kpL ?_; simp; done) | (intro k x hx; first | exact hx | (simp [hx, without_self]; done) | (simp [look_app, without_self, hx]; done) | (cases k <;> simp_all [look_app]; done)))) (by unfold SWn; exact (by first | (refine kpL ?_; simp; done) | (intro k x hx; first | exact hx | (simp [hx, without_self]; done) | (simp [look_app, without_self, hx]; done) | (cases k <;> simp_all [look_app]; done)))) (by simp [inObs, SWn, Pv.look]) ?_
    unfold SWn
    simp [without]
    refine CallD.ob ib k2 k3 (by rw [e2, e3]; exact SW_same _ _) (by unfold SWn; simp only [List.append_assoc, List.cons_append, List.nil_append]; exact (by first | (refine kpL ?_; simp; done) | (intro k x hx; first | exact hx | (simp [hx, without_self]; done) | (simp [look_app, without_self, hx]; done) | (cases k <;> simp_all [look_app]; done)))) (by unfold SWn; simp only [List.append_assoc, List.cons_append, List.nil_append]; exact (by first | (refine kpL ?_; simp; done) | (intro k x hx; first | exact hx | (simp [hx, without_self]; done) | (simp [look_app, without_self, hx]; done) | (cases k <;> simp_all [look_app]; done)))) (by simp [inObs, SWn, Pv.look]) ?_
    unfold SWn
    simp [without]
    refine RetQ.at (SWn (l.length + 1 + a.subs.length + b.subs.length) (l.map T.e ++ [(T.pair a b).e] ++ a.subs.map T.e ++ b.subs.map T.e)) (.inr rfl) k3 (by rw [e3]; exact (SW_same l _)) (by unfold SWn; simp only [List.append_assoc, List.cons_append, List.nil_append]; exact (by first | (refine kpL ?_; simp; done) | (intro k x hx; first | exact hx | (simp [hx, without_self]; done) | (simp [look_app, without_self, hx]; done) | (cases k <;> simp_all [look_app]; done)))) (by unfold SWn; simp only [List.append_assoc, List.cons_append, List.nil_append]; exact (by first | (refine kpL ?_; simp; done) | (intro k x hx; first | exact hx | (simp [hx, without_self]; done) | (simp [look_app, without_self, hx]; done) | (cases k <;> simp_all [look_app]; done)))) ?_
    rw [e3]
    simp [ResIs, r_impl_SubtermsOf_1, resL, resV, tup]
  | nil =>
    intro l hl
    simp only [T.size] at hl
    have hs := SW_ok l
    have e1 : SWn (l.length + 1) (l.map T.e ++ [(T.nil).e]) = SW (l ++ (T.nil).subs) := SW_eq _ (by simp [T.subs]) (by simp [T.subs])
    have k1 : ObOk (SWn (l.length + 1) (l.map T.e ++ [(T.nil).e])) := by rw [e1]; exact SW_ok _
    rw [← SW_eq l rfl rfl]
    rw [← SW_eq l rfl rfl] at hs
    unfold SWn at hs
    refine FnG.mk mixed tysok2 f_impl_SubtermsOf_1 ok_impl_SubtermsOf_1 (by simp) hs.obj fun hbnd hbb => ?_; unfold c_impl_SubtermsOf_1
    simp only [SWn]
    ((repeat' first | with_reducible refine And.intro (by (first | omega | (unfold in64; omega) | (unfold lim; omega))) ?_ | simp | (with_reducible refine evCd_split (fun h => ?_) (fun h => ?_) <;> (try simp at h)) | (with_reducible refine evGd_split (fun h => ?_) (fun h => ?_) <;> (try simp at h)) | (with_reducible refine evDd_split (fun h => ?_) (fun h => ?_) <;> (try simp at h))) <;> (try first | contradiction | (exfalso; omega)))
    refine RetQ.at (SWn (l.length + 1) (l.map T.e ++ [(T.nil).e])) (.inr rfl) k1 (by rw [e1]; exact (SW_same l _)) (by unfold SWn; exact (by first | (refine kpL ?_; simp; done) | (intro k x hx; first | exact hx | (simp [hx, without_self]; done) | (simp [look_app, without_self, hx]; done) | (cases k <;> simp_all [look_app]; done)))) (by unfold SWn; exact (by first | (refine kpL ?_; simp; done) | (intro k x hx; first | exact hx | (simp [hx, without_self]; done) | (simp [look_app, without_self, hx]; done) | (cases k <;> simp_all [look_app]; done)))) ?_
    rw [e1]
    simp [ResIs, r_impl_SubtermsOf_1, resL, resV, tup]
  | var n =>
    intro l hl
    simp only [T.size] at hl
    have hs := SW_ok l
    have e1 : SWn (l.length + 1) (l.map T.e ++ [(T.var n).e]) = SW (l ++ (T.var n).subs) := SW_eq _ (by simp [T.subs]) (by simp [T.subs])
    have k1 : ObOk (SWn (l.length + 1) (l.map T.e ++ [(T.var n).e])) := by rw [e1]; exact SW_ok _
    rw [← SW_eq l rfl rfl]
    rw [← SW_eq l rfl rfl] at hs
    unfold SWn at hs
    refine FnG.mk mixed tysok2 f_impl_SubtermsOf_1 ok_impl_SubtermsOf_1 (by simp) hs.obj fun hbnd hbb => ?_; unfold c_impl_SubtermsOf_1
    simp only [SWn]
    ((repeat' first | with_reducible refine And.intro (by (first | omega | (unfold in64; omega) | (unfold lim; omega))) ?_ | simp | (with_reducible refine evCd_split (fun h => ?_) (fun h => ?_) <;> (try simp at h)) | (with_reducible refine evGd_split (fun h => ?_) (fun h => ?_) <;> (try simp at h)) | (with_reducible refine evDd_split (fun h => ?_) (fun h => ?_) <;> (try simp at h))) <;> (try first | contradiction | (exfalso; omega)))
    refine RetQ.at (SWn (l.length + 1) (l.map T.e ++ [(T.var n).e])) (.inr rfl) k1 (by rw [e1]; exact (SW_same l _)) (by unfold SWn; exact (by first | (refine kpL ?_; simp; done) | (intro k x hx; first | exact hx | (simp [hx, without_self]; done) | (simp [look_app, without_self, hx]; done) | (cases k <;> simp_all [look_app]; done)))) (by unfold SWn; exact (by first | (refine kpL ?_; simp; done) | (intro k x hx; first | exact hx | (simp [hx, without_self]; done) | (simp [look_app, without_self, hx]; done) | (cases k <;> simp_all [look_app]; done)))) ?_
    rw [e1]
    simp [ResIs, r_impl_SubtermsOf_1, resL, resV, tup]
  | sym n =>
    intro l hl
    simp only [T.size] at hl
    have hs := SW_ok l
    have e1 : SWn (l.length + 1) (l.map T.e ++ [(T.sym n).e]) = SW (l ++ (T.sym n).subs) := SW_eq _ (by simp [T.subs]) (by simp [T.subs])
    have k1 : ObOk (SWn (l.length + 1) (l.map T.e ++ [(T.sym n).e])) := by rw [e1]; exact SW_ok _
    rw [← SW_eq l rfl rfl]
    rw [← SW_eq l rfl rfl] at hs
    unfold SWn at hs
    refine FnG.mk mixed tysok2 f_impl_SubtermsOf_1 ok_impl_SubtermsOf_1 (by simp) hs.obj fun hbnd hbb => ?_; unfold c_impl_SubtermsOf_1
    simp only [SWn]
    ((repeat' first | with_reducible refine And.intro (by (first | omega | (unfold in64; omega) | (unfold lim; omega))) ?_ | simp | (with_reducible refine evCd_split (fun h => ?_) (fun h => ?_) <;> (try simp at h)) | (with_reducible refine evGd_split (fun h => ?_) (fun h => ?_) <;> (try simp at h)) | (with_reducible refine evDd_split (fun h => ?_) (fun h => ?_) <;> (try simp at h))) <;> (try first | contradiction | (exfalso; omega)))
    refine RetQ.at (SWn (l.length + 1) (l.map T.e ++ [(T.sym n).e])) (.inr rfl) k1 (by rw [e1]; exact (SW_same l _)) (by unfold SWn; exact (by first | (refine kpL ?_; simp; done) | (intro k x hx; first | exact hx | (simp [hx, without_self]; done) | (simp [look_app, without_self, hx]; done) | (cases k <;> simp_all [look_app]; done)))) (by unfold SWn; exact (by first | (refine kpL ?_; simp; done) | (intro k x hx; first | exact hx | (simp [hx, without_self]; done) | (simp [look_app, without_self, hx]; done) | (cases k <;> simp_all [look_app]; done)))) ?_
    rw [e1]
    simp [ResIs, r_impl_SubtermsOf_1, resL, resV, tup]
  | num n =>
    intro l hl
    simp only [T.size] at hl
    have hs := SW_ok l
    have e1 : SWn (l.length + 1) (l.map T.e ++ [(T.num n).e]) = SW (l ++ (T.num n).subs) := SW_eq _ (by simp [T.subs]) (by simp [T.subs])
    have k1 : ObOk (SWn (l.length + 1) (l.map T.e ++ [(T.num n).e])) := by rw [e1]; exact SW_ok _
    rw [← SW_eq l rfl rfl]
    rw [← SW_eq l rfl rfl] at hs
    unfold SWn at hs
    refine FnG.mk mixed tysok2 f_impl_SubtermsOf_1 ok_impl_SubtermsOf_1 (by simp) hs.obj fun hbnd hbb => ?_; unfold c_impl_SubtermsOf_1
    simp only [SWn]
    ((repeat' first | with_reducible refine And.intro (by (first | omega | (unfold in64; omega) | (unfold lim; omega))) ?_ | simp | (with_reducible refine evCd_split (fun h => ?_) (fun h => ?_) <;> (try simp at h)) | (with_reducible refine evGd_split (fun h => ?_) (fun h => ?_) <;> (try simp at h)) | (with_reducible refine evDd_split (fun h => ?_) (fun h => ?_) <;> (try simp at h))) <;> (try first | contradiction | (exfalso; omega)))
    refine RetQ.at (SWn (l.length + 1) (l.map T.e ++ [(T.num n).e])) (.inr rfl) k1 (by rw [e1]; exact (SW_same l _)) (by unfold SWn; exact (by first | (refine kpL ?_; simp; done) | (intro k x hx; first | exact hx | (simp [hx, without_self]; done) | (simp [look_app, without_self, hx]; done) | (cases k <;> simp_all [look_app]; done)))) (by unfold SWn; exact (by first | (refine kpL ?_; simp; done) | (intro k x hx; first | exact hx | (simp [hx, without_self]; done) | (simp [look_app, without_self, hx]; done) | (cases k <;> simp_all [look_app]; done)))) ?_
    rw [e1]
    simp [ResIs, r_impl_SubtermsOf_1, resL, resV, tup]
def jSub (l : List T) (i : Nat) (_ : Unit) : Prop := True
theorem subs_flat_len (l : List T) (h : ∀ x ∈ l, x.fit = true) : (l.flatMap T.subs).length ≤ l.length * 5000 := by
  induction l with
  | nil => simp
  | cons x r ih =>
    have h1 := h x (by simp)
    simp only [T.fit, Bool.and_eq_true, decide_eq_true_eq] at h1
    have := ih fun y hy => h y (by simp [hy])
    rw [List.flatMap_cons, List.length_append, subs_len, List.length_cons]
    omega
/-- What SubtermsOf computes. -/
def subT (l : List T) : List T := if l.all T.fit then asc ordT (l.flatMap T.subs) else []
set_option maxHeartbeats 1000000 in
set_option maxRecDepth 4000 in
theorem v_SubtermsOf (l : List T) (hl : l.length ≤ 200) : FnV Tryz.prog 16 [.slice 4 .no (l.map T.e)] (.slice 4 .no ((subT l).map T.e)) := by
  cases hall : l.all T.fit with
  | false =>
    refine FnV.mk mixed tysok2 f_impl_SubtermsOf ok_impl_SubtermsOf (by simp) (by simp [kin]) fun hbnd => ?_; unfold c_impl_SubtermsOf
    ((repeat' first | with_reducible refine And.intro (by (first | omega | (unfold in64; omega) | (unfold lim; omega))) ?_ | with_reducible refine CallDo.val (by simp) (v_termsOk _ (by omega)) ?_ | with_reducible refine CallD.val (by simp) (v_termsOk _ (by omega)) ?_ | simp [hall] | (with_reducible refine evCd_split (fun h => ?_) (fun h => ?_) <;> (try simp at h)) | (with_reducible refine evGd_split (fun h => ?_) (fun h => ?_) <;> (try simp at h)) | (with_reducible refine evDd_split (fun h => ?_) (fun h => ?_) <;> (try simp at h))) <;> (try first | contradiction | (exfalso; omega)))
    simp [RetV, r_impl_SubtermsOf, resL, resV, tup]
    simp [subT, hall]
  | true =>
    have hfit : ∀ x ∈ l, x.fit = true := by simpa using hall
    have hfl := subs_flat_len l hfit
    refine FnV.mk mixed tysok2 f_impl_SubtermsOf ok_impl_SubtermsOf (by simp) (by simp [kin]) fun hbnd => ?_; unfold c_impl_SubtermsOf
    ((repeat' first | with_reducible refine And.intro (by (first | omega | (unfold in64; omega) | (unfold lim; omega))) ?_ | with_reducible refine CallDo.val (by simp) (v_termsOk _ (by omega)) ?_ | with_reducible refine CallD.val (by simp) (v_termsOk _ (by omega)) ?_ | simp [hall] | (with_reducible refine evCd_split (fun h => ?_) (fun h => ?_) <;> (try simp at h)) | (with_reducible refine evGd_split (fun h => ?_) (fun h => ?_) <;> (try simp at h)) | (with_reducible refine evDd_split (fun h => ?_) (fun h => ?_) <;> (try simp at h))) <;> (try first | contradiction | (exfalso; omega)))
    refine evC_rng (fun i (_ : Unit) => ⟨[(3, .ptr (.obj 604) 0), (4, .ptr (.obj 605) 0), (12, .slice 4 .no (l.map T.e)), (13, .int .i64 l.length), (14, .int .i64 i)], (SW ((l.take i).flatMap T.subs)).b, (SW ((l.take i).flatMap T.subs)).e, 0, [.obj 603, .obj 604, .obj 605]⟩) l.length (jSub l) () (by simp [SW]; exact ⟨by simp [fresh, kinL, kin, iterE, inObs, Pv.look], subB_of (by simp [fresh, kinL, kin, iterE, inObs, Pv.look]), subE_of (by simp [fresh, kinL, kin, kinO, inObs, Pv.look]), by simp⟩) trivial (fun _ _ _ => ?_) (fun i _ hi _ _ => ?_)
    · have htk : l.take l.length = l := List.take_length
      simp only [htk, SW]
      ((repeat' first | with_reducible refine And.intro (by (first | omega | (unfold in64; omega) | (unfold lim; omega))) ?_ | with_reducible refine CallDo.val (by simp) (v_ascending _ (by omega)) ?_ | with_reducible refine CallD.val (by simp) (v_ascending _ (by omega)) ?_ | simp | (with_reducible refine evCd_split (fun h => ?_) (fun h => ?_) <;> (try simp at h)) | (with_reducible refine evGd_split (fun h => ?_) (fun h => ?_) <;> (try simp at h)) | (with_reducible refine evDd_split (fun h => ?_) (fun h => ?_) <;> (try simp at h))) <;> (try first | contradiction | (exfalso; omega)))
      simp [RetV, r_impl_SubtermsOf, resL, resV, tup]
      simp [subT, hall]
    · obtain ⟨x, hx⟩ : ∃ x, l[i]? = some x := ⟨_, List.getElem?_eq_getElem hi⟩
      have hx2 : ∀ h, l[i]'h = x := fun h => by rw [List.getElem?_eq_getElem h] at hx; simpa using hx
      have hxf := hfit x (List.mem_of_getElem? hx)
      simp only [T.fit, Bool.and_eq_true, decide_eq_true_eq] at hxf
      have hfi := subs_flat_len (l.take i) fun y hy => hfit y (List.mem_of_mem_take hy)
      have hli : (l.take i).length ≤ 200 := by simp; omega
      have hnx : (l.take (i + 1)).flatMap T.subs = (l.take i).flatMap T.subs ++ x.subs := by rw [List.take_succ, hx]; simp
      have hg := g_SubtermsOf1 x ((l.take i).flatMap T.subs) (by omega)
      rw [← hnx] at hg
      simp only [SW]
      ((repeat' first | with_reducible refine And.intro (by (first | omega | (unfold in64; omega) | (unfold lim; omega))) ?_ | simp [hi, hx, hx2] | (with_reducible refine evCd_split (fun h => ?_) (fun h => ?_) <;> (try simp at h)) | (with_reducible refine evGd_split (fun h => ?_) (fun h => ?_) <;> (try simp at h)) | (with_reducible refine evDd_split (fun h => ?_) (fun h => ?_) <;> (try simp at h))) <;> (try first | contradiction | (exfalso; omega)))
      refine CallDo.ob hg (SW_ok _) (by unfold SW; exact (by first | (refine kpL ?_; simp; done) | (intro k x hx; first | exact hx | (simp [hx, without_self]; done) | (simp [look_app, without_self, hx]; done) | (cases k <;> simp_all [look_app]; done)))) (by unfold SW; exact (by first | (refine kpL ?_; simp; done) | (intro k x hx; first | exact hx | (simp [hx, without_self]; done) | (simp [look_app, without_self, hx]; done) | (cases k <;> simp_all [look_app]; done)))) (by simp [inObs, SW, Pv.look]) ?_
      rintro r s' ⟨rfl, rfl⟩
      refine ⟨SW_same _ _, ?_⟩
      unfold SW
      simp [without]
      ((repeat' first | with_reducible refine And.intro (by (first | omega | (unfold in64; omega) | (unfold lim; omega))) ?_ | simp | (with_reducible refine evCd_split (fun h => ?_) (fun h => ?_) <;> (try simp at h)) | (with_reducible refine evGd_split (fun h => ?_) (fun h => ?_) <;> (try simp at h)) | (with_reducible refine evDd_split (fun h => ?_) (fun h => ?_) <;> (try simp at h))) <;> (try first | contradiction | (exfalso; omega)))
      refine LoopQ.rng () hi trivial (by simp; exact ⟨by simp [fresh, kinL, kin, iterE, inObs, Pv.look], subB_of (by simp [fresh, kinL, kin, iterE, inObs, Pv.look]), subE_of (by simp [fresh, kinL, kin, kinO, inObs, Pv.look]), by simp⟩)
end Go.Proofs.YtchidkafcdmciaaGreat
/- Plain laws: insertion into ascending lists; assignments; ground instances; subterms. -/
set_option linter.all false
namespace Go.Proofs.YtchidkafcdmciaaGreat
open Go Go.Pv

theorem insK_spec (l : List T) (t : T) : ∀ n, n ≤ l.length → (insK l t n = 0 ∨ ∃ x, l[insK l t n - 1]? = some x ∧ ordT x t < 0) ∧ ∀ j x, insK l t n ≤ j → j < n → l[j]? = some x → 0 ≤ ordT x t
  | 0, _ => by simp [insK]
  | n + 1, h => by
    obtain ⟨x, hx⟩ : ∃ x, l[n]? = some x := ⟨_, List.getElem?_eq_getElem (by omega)⟩
    simp only [insK, hx]
    by_cases ho : 0 ≤ ordT x t
    · rw [if_pos ho]
      obtain ⟨h1, h2⟩ := insK_spec l t n (by omega)
      refine ⟨h1, fun j y hj1 hj2 hy => ?_⟩
      rcases (by omega : j < n ∨ j = n) with h3 | rfl
      · exact h2 j y hj1 h3 hy
      · rw [hx] at hy; cases hy; exact ho
    · rw [if_neg ho]
      refine ⟨.inr ⟨x, by simpa using hx, by omega⟩, fun j y hj1 hj2 => by omega⟩
theorem SAsc_get {l : List T} (h : SAsc ordT l) {i j : Nat} {x y : T} (hij : i < j) (hx : l[i]? = some x) (hy : l[j]? = some y) : ordT x y < 0 := by
  obtain ⟨hi, rfl⟩ := List.getElem?_eq_some_iff.1 hx
  obtain ⟨hj, rfl⟩ := List.getElem?_eq_some_iff.1 hy
  exact List.pairwise_iff_getElem.1 h i j hi hj hij
theorem insL_facts {l : List T} (h : SAsc ordT l) (t : T) : SAsc ordT (insL l t) ∧ ∀ x, x ∈ insL l t ↔ x ∈ l ∨ x = t := by
  obtain ⟨k, hk⟩ : ∃ k, k = insK l t l.length := ⟨_, rfl⟩
  have hkl : k ≤ l.length := by rw [hk]; exact insK_le l t _
  obtain ⟨h1, h2⟩ := insK_spec l t l.length (Nat.le_refl _)
  unfold insL
  rw [← hk] at h1 h2 ⊢
  split
  · rename_i he
    have hm : t ∈ l := List.mem_of_getElem? he
    exact ⟨h, fun x => ⟨fun hx => .inl hx, fun hx => by rcases hx with hx | rfl; exact hx; exact hm⟩⟩
  · rename_i he
    have hlo : ∀ x ∈ l.take k, ordT x t < 0 := by
      intro x hx
      obtain ⟨i, hi, rfl⟩ := List.mem_iff_getElem.1 hx
      have hik : i < k := by simp at hi; omega
      rcases h1 with h1 | ⟨y, hy, hyt⟩
      · omega
      · simp only [List.getElem_take]
        rcases (by omega : i < k - 1 ∨ i = k - 1) with h3 | rfl
        · exact ordT_ok.ltr (SAsc_get h h3 (List.getElem?_eq_getElem (by omega)) hy) (by omega)
        · rw [List.getElem?_eq_getElem (by omega)] at hy
          simp at hy; rw [hy]; exact hyt
    have hhi : ∀ x ∈ l.drop k, ordT t x < 0 := by
      intro x hx
      obtain ⟨i, hi, rfl⟩ := List.mem_iff_getElem.1 hx
      simp at hi
      simp only [List.getElem_drop]
      have hget : l[k + i]? = some l[k + i] := List.getElem?_eq_getElem (by omega)
      have h3 := h2 (k + i) l[k + i] (by omega) (by omega) hget
      have h4 := ordT_neg t l[k + i]
      rcases (by omega : ordT t l[k + i] < 0 ∨ ordT t l[k + i] = 0) with h5 | h5
      · exact h5
      · exfalso
        have h6 := (ordT_zero _ _).1 h5
        rcases Nat.eq_zero_or_pos i with rfl | hpos
        · apply he; rw [h6]; simpa using hget
        · obtain ⟨y, hy⟩ : ∃ y, l[k]? = some y := ⟨_, List.getElem?_eq_getElem (by omega)⟩
          have h7 := SAsc_get h (show k < k + i by omega) hy hget
          have h8 := h2 k y (Nat.le_refl _) (by omega) hy
          rw [← h6] at h7
          omega
    have hpw : SAsc ordT (l.take k ++ t :: l.drop k) := by
      unfold SAsc
      rw [List.pairwise_append]
      refine ⟨h.sublist (List.take_sublist k l), ?_, ?_⟩
      · rw [List.pairwise_cons]
        exact ⟨hhi, h.sublist (List.drop_sublist k l)⟩
      · intro x hx y hy
        rcases List.mem_cons.1 hy with rfl | hy
        · exact hlo x hx
        · exact ordT_ok.ltr (hlo x hx) (by have := hhi y hy; omega)
    refine ⟨hpw, fun x => ?_⟩
    conv => rhs; rw [← List.take_append_drop k l]
    simp only [List.mem_append, List.mem_cons]
    constructor
    · rintro (h | rfl | h)
      · exact .inl (.inl h)
      · exact .inr rfl
      · exact .inl (.inr h)
    · rintro ((h | h) | rfl)
      · exact .inl h
      · exact .inr (.inr h)
      · exact .inr (.inl rfl)
theorem gnd_iff (t : T) : t.gnd = true ↔ ∀ v, t.occ v = false := by
  induction t with
  | var n => simp [T.gnd, T.occ]
  | pair a b iha ihb =>
    simp only [T.gnd, T.occ, Bool.and_eq_true, Bool.or_eq_false_iff, iha, ihb]
    exact ⟨fun h v => ⟨h.1 v, h.2 v⟩, fun h => ⟨fun v => (h v).1, fun v => (h v).2⟩⟩
  | _ => simp [T.gnd, T.occ]
/-- What holds of a universe that was drawn. -/
structure UF (u : List T) : Prop where
  asc : SAsc ordT u
  el : ∀ x ∈ u, x.ok = true ∧ x.gnd = true ∧ x.size ≤ 5
theorem uniC_facts (c : Cur) : ∀ i, UF (uniC c i).1 ∧ (0 < i → (uniC c i).1 ≠ [])
  | 0 => ⟨⟨List.Pairwise.nil, by simp [uniC]⟩, by omega⟩
  | i + 1 => by
    obtain ⟨⟨h1, h2⟩, _⟩ := uniC_facts c i
    have hb := (uniC c i).2.below_le 2 (by omega)
    obtain ⟨k, hk⟩ : ∃ k : Nat, k = ((uniC c i).2.below 2).toNat := ⟨_, rfl⟩
    obtain ⟨d1, d2, d3⟩ := drawT_fit 0 (by omega) (1 + 2 * k) (uniC c i).2.next
    have hU : (uniC c (i + 1)).1 = insL (uniC c i).1 (drawT (1 + 2 * k) 0 (uniC c i).2.next).1 := by rw [hk]; rfl
    rw [hU]
    generalize (drawT (1 + 2 * k) 0 (uniC c i).2.next).1 = t at *
    obtain ⟨f1, f2⟩ := insL_facts h1 t
    refine ⟨⟨f1, fun x hx => ?_⟩, fun _ e => ?_⟩
    · rcases (f2 x).1 hx with hx | rfl
      · exact h2 x hx
      · refine ⟨d1, (gnd_iff x).2 fun v => ?_, by simp at d3; omega⟩
        cases hv : x.occ v with
        | false => rfl
        | true => have := d2 v hv; omega
    · have := (f2 t).2 (.inr rfl)
      rw [e] at this
      simp at this
theorem UF.fit {u : List T} (h : UF u) {x : T} (hx : x ∈ u) : x.fit = true := by
  have := h.el x hx
  simp only [T.fit, Bool.and_eq_true, decide_eq_true_eq]
  exact ⟨this.1, by omega⟩
theorem UF.uniOk {u : List T} (h : UF u) (hl : 1 ≤ u.length ∧ u.length ≤ 8) : uniOk u = true := by
  rw [uniOk_iff]
  refine ⟨hl, fun k hk => ?_⟩
  have hm : u[k] ∈ u := List.getElem_mem hk
  simp only [uniAt, List.getElem?_eq_getElem hk]
  rcases Nat.eq_zero_or_pos k with rfl | hpos
  · simp [h.fit hm, (h.el _ hm).2.1]
  · rw [List.getElem?_eq_getElem (by omega : k - 1 < u.length)]
    have := SAsc_get h.asc (show k - 1 < k by omega) (List.getElem?_eq_getElem (by omega)) (List.getElem?_eq_getElem hk)
    simp [h.fit hm, (h.el _ hm).2.1, this]
theorem mem_asgn (u : List T) : ∀ (vars : List Int) (rows : List (List Bd)) (r : List Bd), r ∈ asgn u vars rows ↔ ∃ r0 ∈ rows, ∃ ts : List T, ts.length = vars.length ∧ (∀ t ∈ ts, t ∈ u) ∧ r = r0 ++ (vars.zip ts).map fun p => ⟨p.1, p.2⟩
  | [], rows, r => by
    simp only [asgn]
    constructor
    · exact fun h => ⟨r, h, [], rfl, by simp, by simp⟩
    · rintro ⟨r0, h, ts, h1, _, rfl⟩; simpa using h
  | v :: vs, rows, r => by
    simp only [asgn]
    rw [mem_asgn u vs]
    constructor
    · rintro ⟨r1, h1, ts, h2, h3, rfl⟩
      obtain ⟨r0, h4, h5⟩ := List.mem_flatMap.1 h1
      simp only [ext1, List.mem_map] at h5
      obtain ⟨t, h6, rfl⟩ := h5
      refine ⟨r0, h4, t :: ts, by simp [h2], fun x hx => ?_, by simp⟩
      rcases List.mem_cons.1 hx with rfl | hx
      · exact h6
      · exact h3 x hx
    · rintro ⟨r0, h1, ts, h2, h3, rfl⟩
      match ts, h2 with
      | t :: ts, h2 =>
        refine ⟨r0 ++ [⟨v, t⟩], List.mem_flatMap.2 ⟨r0, h1, List.mem_map.2 ⟨t, h3 t (by simp), rfl⟩⟩, ts, by simpa using h2, fun x hx => h3 x (by simp [hx]), by simp⟩
/-- An instance by ground values from u. -/
def Ins (t : T) (u : List T) (x : T) : Prop := ∃ σ : Int → T, (∀ v, t.occ v = true → σ v ∈ u) ∧ x = t.sub fun v => some (σ v)
theorem tvars_mem {t : T} (ht : t.fit = true) (v : Int) : v ∈ tvars t ↔ t.occ v = true := by
  simp only [tvars, ht, if_true, sortI]
  rw [(List.mergeSort_perm _ _).mem_iff, fold_mem]
  simp
theorem tvars_asc {t : T} (ht : t.fit = true) : (tvars t).Pairwise (· < ·) := by
  simp only [tvars, ht, if_true, sortI]
  have h1 := List.pairwise_mergeSort (le := fun x y : Int => decide (x ≤ y)) (fun a b c => by simp; omega) (fun a b => by simp; omega) (t.fold addV [])
  have h2 : ((t.fold addV []).mergeSort fun x y => decide (x ≤ y)).Nodup := (List.mergeSort_perm _ _).nodup_iff.2 (fold_nodup t [] (by simp))
  refine (List.Pairwise.and h1 h2).imp fun {a b} h => ?_
  have := h.1
  simp at this
  omega
theorem row_asc {vars : List Int} (hv : vars.Pairwise (· < ·)) : ∀ (ts : List T), Asc ((vars.zip ts).map fun p => (⟨p.1, p.2⟩ : Bd)) := by
  induction vars with
  | nil => intro ts; simp [Asc]
  | cons v vs ih =>
    intro ts
    cases ts with
    | nil => simp [Asc]
    | cons t ts =>
      obtain ⟨h1, h2⟩ := List.pairwise_cons.1 hv
      simp only [List.zip_cons_cons, List.map_cons, Asc, List.pairwise_cons]
      refine ⟨fun b hb => ?_, ih h2 ts⟩
      obtain ⟨p, hp, rfl⟩ := List.mem_map.1 hb
      exact h1 p.1 (List.of_mem_zip hp).1
theorem row_mem {vars : List Int} {ts : List T} (hl : ts.length = vars.length) {v : Int} (hv : v ∈ vars) : ∃ t ∈ ts, (⟨v, t⟩ : Bd) ∈ (vars.zip ts).map fun p => (⟨p.1, p.2⟩ : Bd) := by
  obtain ⟨i, hi, rfl⟩ := List.mem_iff_getElem.1 hv
  refine ⟨ts[i], List.getElem_mem _, List.mem_map.2 ⟨(vars[i], ts[i]), ?_, rfl⟩⟩
  rw [List.mem_iff_getElem]
  exact ⟨i, by simp; omega, by simp⟩
structure GF (t : T) (u : List T) : Prop where
  tf : t.fit = true
  sz : t.size ≤ 100
  uf : UF u
/-- The rows that GroundInstances puts into a term. -/
theorem row_facts {t : T} {u : List T} (h : GF t u) {r : List Bd} (hr : r ∈ asgn u (tvars t) [[]]) : Asc r ∧ (∀ b ∈ r, b.t ∈ u) ∧ r.length = (tvars t).length ∧ Ins t u (t.sub (bget r)) ∧ putOk r t = true ∧ putT r t = t.sub (bget r) := by
  rw [mem_asgn] at hr
  obtain ⟨r0, h0, ts, h1, h2, rfl⟩ := hr
  simp at h0
  subst h0
  simp only [List.nil_append]
  have ha := row_asc (tvars_asc h.tf) ts
  have hm : ∀ b ∈ (List.zip (tvars t) ts).map (fun p => (⟨p.1, p.2⟩ : Bd)), b.t ∈ u := fun b hb => by
    obtain ⟨p, hp, rfl⟩ := List.mem_map.1 hb
    exact h2 _ (List.of_mem_zip hp).2
  have hget : ∀ v, t.occ v = true → ∃ x ∈ u, bget ((List.zip (tvars t) ts).map (fun p => (⟨p.1, p.2⟩ : Bd))) v = some x := fun v hv => by
    obtain ⟨x, hx1, hx2⟩ := row_mem h1 ((tvars_mem h.tf v).2 hv)
    exact ⟨x, h2 x hx1, bget_mem ha hx2⟩
  have hz : (t.sub (bget ((List.zip (tvars t) ts).map (fun p => (⟨p.1, p.2⟩ : Bd))))).size ≤ 500 := by
    have := sub_size (f := bget ((List.zip (tvars t) ts).map (fun p => (⟨p.1, p.2⟩ : Bd)))) (B := 5) (by omega) t fun v x hv hx => by
      obtain ⟨y, hy, hy2⟩ := hget v hv
      rw [hy2] at hx
      have hyx := Option.some.inj hx
      rw [← hyx]
      exact (h.uf.el y hy).2.2
    have := h.sz
    omega
  refine ⟨ha, hm, by simp [h1], ⟨fun v => (bget ((List.zip (tvars t) ts).map (fun p => (⟨p.1, p.2⟩ : Bd))) v).getD .nil, fun v hv => ?_, sub_congr t fun v hv => ?_⟩, putOk_of ha t (fun b hb => h.uf.fit (hm b hb)) (by omega), putT_eq ha t⟩
  · obtain ⟨x, hx, hx2⟩ := hget v hv
    simpa [hx2] using hx
  · obtain ⟨x, hx, hx2⟩ := hget v hv
    simp [hx2]
theorem ins_row {t : T} {u : List T} (h : GF t u) {x : T} (hx : Ins t u x) : ∃ r ∈ asgn u (tvars t) [[]], x = t.sub (bget r) := by
  obtain ⟨σ, h1, rfl⟩ := hx
  have hr : ((tvars t).zip ((tvars t).map σ)).map (fun p => (⟨p.1, p.2⟩ : Bd)) ∈ asgn u (tvars t) [[]] := by
    rw [mem_asgn]
    exact ⟨[], by simp, (tvars t).map σ, by simp, fun y hy => by
      obtain ⟨v, hv, rfl⟩ := List.mem_map.1 hy
      exact h1 v ((tvars_mem h.tf v).1 hv), by simp⟩
  refine ⟨_, hr, sub_congr t fun v hv => ?_⟩
  have hm : (⟨v, σ v⟩ : Bd) ∈ ((tvars t).zip ((tvars t).map σ)).map (fun p => (⟨p.1, p.2⟩ : Bd)) := by
    refine List.mem_map.2 ⟨(v, σ v), ?_, rfl⟩
    obtain ⟨i, hi, he⟩ := List.mem_iff_getElem.1 ((tvars_mem h.tf v).2 hv)
    rw [List.mem_iff_getElem]
    exact ⟨i, by simp; omega, by simp [he]⟩
  exact (bget_mem (row_asc (tvars_asc h.tf) _) hm).symm
theorem Ins.facts {t : T} {u : List T} (h : GF t u) {x : T} (hx : Ins t u x) : x.fit = true ∧ x.gnd = true ∧ isI t x = true := by
  obtain ⟨σ, h1, rfl⟩ := hx
  have ht : t.ok = true := by have := h.tf; simp [T.fit] at this; exact this.1
  have hok := sub_ok (f := fun v => some (σ v)) t ht fun v y hv hy => by cases hy; exact (h.uf.el _ (h1 v hv)).1
  have hz := sub_size (f := fun v => some (σ v)) (B := 5) (by omega) t fun v y hv hy => by cases hy; exact (h.uf.el _ (h1 v hv)).2.2
  have hsz := h.sz
  have hf : (t.sub fun v => some (σ v)).fit = true := by
    simp only [T.fit, Bool.and_eq_true, decide_eq_true_eq]
    exact ⟨hok, by omega⟩
  have hg : ∀ s : T, (∀ v, s.occ v = true → σ v ∈ u) → (s.sub fun v => some (σ v)).gnd = true := by
    intro s
    induction s with
    | var n => intro hs; simp only [T.sub]; exact (h.uf.el _ (hs n (by simp [T.occ]))).2.1
    | pair a b iha ihb =>
      intro hs
      simp only [T.sub, T.gnd, Bool.and_eq_true]
      exact ⟨iha fun v hv => hs v (by simp [T.occ, hv]), ihb fun v hv => hs v (by simp [T.occ, hv])⟩
    | _ => intro _; simp [T.sub, T.gnd]
  refine ⟨hf, hg t h1, ?_⟩
  rw [isI_eq (by omega)]
  have hms := mtch_sub (fun v => some (σ v)) t [] (by simp [tlook])
  exact (match_facts h.tf (by omega) hf hms.1).ok
theorem subs_self (t : T) : t ∈ t.subs := by cases t <;> simp [T.subs]
theorem subs_trans {t : T} : ∀ {x y : T}, x ∈ t.subs → y ∈ x.subs → y ∈ t.subs := by
  induction t with
  | pair a b iha ihb =>
    intro x y hx hy
    simp only [T.subs, List.mem_cons, List.mem_append] at hx
    rcases hx with rfl | hx | hx
    · exact hy
    · simp only [T.subs, List.mem_cons, List.mem_append]; exact .inr (.inl (iha hx hy))
    · simp only [T.subs, List.mem_cons, List.mem_append]; exact .inr (.inr (ihb hx hy))
  | _ =>
    intro x y hx hy
    simp [T.subs] at hx
    subst hx
    exact hy
theorem subs_fit {t : T} (h : t.fit = true) : ∀ x ∈ t.subs, x.fit = true := by
  have : ∀ t : T, t.ok = true → ∀ x ∈ t.subs, x.ok = true ∧ x.size ≤ t.size := by
    intro t
    induction t with
    | pair a b iha ihb =>
      intro h x hx
      have hab : a.ok = true ∧ b.ok = true := by simpa [T.ok] using h
      simp only [T.subs, List.mem_cons, List.mem_append] at hx
      rcases hx with rfl | hx | hx
      · exact ⟨h, Nat.le_refl _⟩
      · have := iha hab.1 x hx; exact ⟨this.1, by simp only [T.size]; omega⟩
      · have := ihb hab.2 x hx; exact ⟨this.1, by simp only [T.size]; omega⟩
    | _ => intro h x hx; simp [T.subs] at hx; subst hx; exact ⟨h, Nat.le_refl _⟩
  intro x hx
  simp only [T.fit, Bool.and_eq_true, decide_eq_true_eq] at h ⊢
  have := this t h.1 x hx
  exact ⟨this.1, by omega⟩
theorem subs_closed (u : List T) : asc ordT ((asc ordT (u.flatMap T.subs)).flatMap T.subs) = asc ordT (u.flatMap T.subs) := by
  refine asc_ext ordT_ok fun x => ?_
  constructor
  · intro h
    obtain ⟨y, h1, h2⟩ := List.mem_flatMap.1 h
    rw [mem_asc] at h1
    obtain ⟨z, h3, h4⟩ := List.mem_flatMap.1 h1
    exact List.mem_flatMap.2 ⟨z, h3, subs_trans h4 h2⟩
  · intro h
    exact List.mem_flatMap.2 ⟨x, (mem_asc _ x).2 h, subs_self x⟩
/-- Instances of an instance. -/
theorem sub_sub (f g : Int → Option T) (t : T) : (t.sub f).sub g = t.sub fun v => match f v with | some x => some (x.sub g) | none => g v := by
  induction t with
  | var n =>
    simp only [T.sub]
    cases h : f n with
    | some x => simp
    | none => simp [T.sub]
  | pair a b iha ihb => simp [T.sub, iha, ihb]
  | _ => simp [T.sub]
theorem sub_gnd {t : T} (h : t.gnd = true) (g : Int → Option T) : t.sub g = t := by
  induction t with
  | var n => simp [T.gnd] at h
  | pair a b iha ihb => simp [T.gnd] at h; simp [T.sub, iha h.1, ihb h.2]
  | _ => simp [T.sub]
theorem occ_sub (f : Int → Option T) (t : T) (v : Int) : (t.sub f).occ v = true ↔ ∃ w, t.occ w = true ∧ (match f w with | some x => x.occ v = true | none => w = v) := by
  induction t with
  | var n =>
    simp only [T.sub, T.occ, beq_iff_eq]
    constructor
    · intro h
      refine ⟨n, rfl, ?_⟩
      cases hf : f n with
      | some x => rw [hf] at h; simpa using h
      | none => rw [hf] at h; simpa [T.occ] using h
    · rintro ⟨w, rfl, h⟩
      cases hf : f n with
      | some x => rw [hf] at h; simpa using h
      | none => rw [hf] at h; simpa [T.occ] using h
  | pair a b iha ihb =>
    simp only [T.sub, T.occ, Bool.or_eq_true, iha, ihb]
    constructor
    · rintro (⟨w, h1, h2⟩ | ⟨w, h1, h2⟩)
      · exact ⟨w, .inl h1, h2⟩
      · exact ⟨w, .inr h1, h2⟩
    · rintro ⟨w, h1 | h1, h2⟩
      · exact .inl ⟨w, h1, h2⟩
      · exact .inr ⟨w, h1, h2⟩
  | _ => simp [T.sub, T.occ]
end Go.Proofs.YtchidkafcdmciaaGreat
