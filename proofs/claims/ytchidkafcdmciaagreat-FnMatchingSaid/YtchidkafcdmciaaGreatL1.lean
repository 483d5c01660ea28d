/- Plain laws: what is drawn; binary search; matching. -/
import Derived.Test.YtchidkafcdmciaaGreatC15
set_option linter.all false
namespace Go.Proofs.YtchidkafcdmciaaGreat
open Go Go.Pv

/- What is drawn. -/
theorem atomT_ok (k : Int) (h0 : 0 ≤ k) (h1 : k < 7) : (atomT k).ok = true ∧ (∀ v, (atomT k).occ v = false) ∧ (atomT k).size = 1 := by
  obtain ⟨n, rfl⟩ : ∃ n : Nat, k = n := ⟨k.toNat, by omega⟩
  rcases (by omega : n = 0 ∨ n = 1 ∨ n = 2 ∨ n = 3 ∨ n = 4 ∨ n = 5 ∨ n = 6) with rfl | rfl | rfl | rfl | rfl | rfl | rfl <;> refine ⟨?_, fun v => ?_, ?_⟩ <;> first | rfl | decide
theorem drawT_fit (vars : Int) (hv : vars ≤ 100001) (n : Nat) : ∀ c : Cur, (drawT n vars c).1.ok = true ∧ (∀ v, (drawT n vars c).1.occ v = true → 0 ≤ v ∧ v < vars) ∧ (drawT n vars c).1.size ≤ 2 * n - 1 + (if n = 0 then 1 else 0) := by
  induction n using Nat.strongRecOn with
  | ind n ih =>
    intro c
    have h7 := c.next.below_le 7 (by omega)
    rw [drawT]
    split
    · rename_i h
      obtain ⟨a1, a2, a3⟩ := ih (n / 2) (by omega) c.next
      obtain ⟨b1, b2, b3⟩ := ih (n / 2) (by omega) (drawT (n / 2) vars c.next).2
      refine ⟨by simp [T.ok, a1, b1], fun v hv => ?_, ?_⟩
      · simp only [T.occ, Bool.or_eq_true] at hv
        rcases hv with hv | hv
        · exact a2 v hv
        · exact b2 v hv
      · simp only [T.size]
        split at a3 <;> split at b3 <;> split <;> omega
    · split
      · rename_i h
        have := c.next.below_le vars h.1
        refine ⟨by simp [T.ok]; omega, fun v hv => ?_, by simp only [T.size]; split <;> omega⟩
        simp [T.occ] at hv
        omega
      · obtain ⟨a1, a2, a3⟩ := atomT_ok _ h7.1 h7.2
        refine ⟨a1, fun v hv => ?_, ?_⟩
        · simp only [a2 v] at hv; cases hv
        · simp only [a3]; split <;> omega
theorem alikeT_fit (vars : Int) (hv : vars ≤ 100001) (t : T) (ht : t.ok = true) : ∀ c : Cur, (alikeT vars t c).1.ok = true ∧ (alikeT vars t c).1.size ≤ 7 * t.size := by
  induction t with
  | pair a b iha ihb =>
    intro c
    simp only [T.ok, Bool.and_eq_true] at ht
    obtain ⟨d1, _, d3⟩ := drawT_fit vars hv 4 c.next
    have ha := a.size_pos
    obtain ⟨a1, a2⟩ := iha ht.1 c.next
    obtain ⟨b1, b2⟩ := ihb ht.2 (alikeT vars a c.next).2
    simp only [alikeT]
    split
    · exact ⟨d1, by simp only [T.size]; simp at d3; omega⟩
    · exact ⟨by simp [T.ok, a1, b1], by simp only [T.size]; omega⟩
  | _ =>
    intro c
    obtain ⟨d1, _, d3⟩ := drawT_fit vars hv 4 c.next
    simp only [alikeT]
    split
    · exact ⟨d1, by simp only [T.size]; simp at d3; omega⟩
    · exact ⟨ht, by simp [T.size]⟩
/- Binary search. -/
theorem srch_spec (p : Nat → Bool) (n : Nat) (hm : ∀ k k', k ≤ k' → k' < n → p k = true → p k' = true) : ∀ (m i j : Nat), j - i ≤ m → i ≤ j → j ≤ n → (∀ k, k < i → p k = false) → (∀ k, j ≤ k → k < n → p k = true) →
    (i ≤ srch p i j ∧ srch p i j ≤ j) ∧ (∀ k, k < srch p i j → p k = false) ∧ (∀ k, srch p i j ≤ k → k < n → p k = true)
  | m, i, j, hd, hij, hj, h1, h2 => by
    rw [srch]
    split
    · rename_i hlt
      obtain ⟨m, rfl⟩ : ∃ m', m = m' + 1 := ⟨m - 1, by omega⟩
      split
      · rename_i hp
        have := srch_spec p n hm m i ((i + j) / 2) (by omega) (by omega) (by omega) h1 (fun k hk hkn => hm _ k hk hkn hp)
        exact ⟨⟨this.1.1, by omega⟩, this.2⟩
      · rename_i hp
        have := srch_spec p n hm m ((i + j) / 2 + 1) j (by omega) (by omega) hj (fun k hk => by
          by_cases hk' : p k = true
          · exact absurd (hm k ((i + j) / 2) (by omega) (by omega) hk') hp
          · simpa using hk') h2
        exact ⟨⟨by omega, this.1.2⟩, this.2⟩
    · obtain rfl : i = j := by omega
      exact ⟨⟨Nat.le_refl _, Nat.le_refl _⟩, h1, h2⟩
def Asc (l : List Bd) : Prop := l.Pairwise fun x y => x.v < y.v
theorem pget_eq {l : List Bd} (hs : Asc l) (v : Int) : pget l v = bget l v := by
  have hlt : ∀ (i j : Nat) (x y : Bd), i < j → l[i]? = some x → l[j]? = some y → x.v < y.v := by
    intro i j x y hij hx hy
    obtain ⟨h1, rfl⟩ := List.getElem?_eq_some_iff.1 hx
    obtain ⟨h2, rfl⟩ := List.getElem?_eq_some_iff.1 hy
    exact List.pairwise_iff_getElem.1 hs i j h1 h2 hij
  obtain ⟨p, hp⟩ : ∃ p : Nat → Bool, p = (fun i => match l[i]? with | some b => decide (v ≤ b.v) | none => false) := ⟨_, rfl⟩
  have hpe : ∀ i b, l[i]? = some b → p i = decide (v ≤ b.v) := fun i b hb => by rw [hp]; simp [hb]
  have hm : ∀ k k', k ≤ k' → k' < l.length → p k = true → p k' = true := by
    intro k k' hk hk' h
    have e1 : l[k]? = some l[k] := List.getElem?_eq_getElem (by omega)
    have e2 : l[k']? = some l[k'] := List.getElem?_eq_getElem hk'
    rw [hpe k _ e1] at h
    rw [hpe k' _ e2]
    simp only [decide_eq_true_eq] at h ⊢
    rcases Nat.lt_or_eq_of_le hk with hlt' | rfl
    · have := hlt k k' _ _ hlt' e1 e2; omega
    · exact h
  obtain ⟨⟨_, hle⟩, hbef, haft⟩ := srch_spec p l.length hm l.length 0 l.length (by omega) (by omega) (Nat.le_refl _) (fun k hk => by omega) (fun k h1 h2 => by omega)
  have hfnd : fnd l v = (match l[srch p 0 l.length]? with | some b => if b.v = v then ((srch p 0 l.length : Nat) : Int) else -1 | none => -1) := by rw [hp]; rfl
  generalize srch p 0 l.length = r at hle hbef haft hfnd
  by_cases hex : ∃ (k : Nat) (b : Bd), l[k]? = some b ∧ b.v = v
  · obtain ⟨k, b, hb, hbv⟩ := hex
    have hkl : k < l.length := (List.getElem?_eq_some_iff.1 hb).1
    have hk1 : r ≤ k := by
      rcases Nat.lt_or_ge k r with h | h
      · have := hbef k h; rw [hpe k b hb] at this; simp at this; omega
      · exact h
    have hr : l[r]? = some l[r] := List.getElem?_eq_getElem (by omega)
    have hrp := haft r (Nat.le_refl _) (by omega)
    rw [hpe r _ hr] at hrp
    simp only [decide_eq_true_eq] at hrp
    have hrk : r = k := by
      rcases Nat.lt_or_eq_of_le hk1 with h | h
      · have := hlt r k _ _ h hr hb; omega
      · exact h
    subst hrk
    have hfv : fnd l v = r := by rw [hfnd, hb]; simp [hbv]
    have h1 : pget l v = some b.t := by
      unfold pget
      rw [hfv, if_neg (by omega)]
      simp [hb]
    have h2 : l.find? (fun b => b.v == v) = some b := by
      rw [List.find?_eq_some_iff_getElem]
      refine ⟨by simp [hbv], r, hkl, ?_, fun j hj => ?_⟩
      · rw [List.getElem?_eq_getElem hkl] at hb; simpa using hb
      · have := hlt j r l[j] b hj (List.getElem?_eq_getElem (by omega)) hb
        simp
        omega
    rw [h1]
    simp [bget, h2]
  · have h2 : l.find? (fun b => b.v == v) = none := by
      rw [List.find?_eq_none]
      intro b hb
      obtain ⟨k, hk, rfl⟩ := List.mem_iff_getElem.1 hb
      simp
      intro e
      exact hex ⟨k, l[k], List.getElem?_eq_getElem hk, e⟩
    have hfv : fnd l v = -1 := by
      rw [hfnd]
      split
      · rename_i b hb
        rw [if_neg (fun e => hex ⟨r, b, hb, e⟩)]
      · rfl
    unfold pget
    rw [hfv]
    simp [bget, h2]
end Go.Proofs.YtchidkafcdmciaaGreat
