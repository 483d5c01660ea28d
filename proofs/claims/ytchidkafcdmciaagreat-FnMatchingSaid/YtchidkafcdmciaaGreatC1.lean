/- Contracts: names, sizes. -/
import Derived.Test.YtchidkafcdmciaaGreatG1
import Derived.Test.YtchidkafcdmciaaGreatTm
set_option linter.all false
namespace Go.Proofs.YtchidkafcdmciaaGreat
open Go Go.Pv

def invIsName (s : List UInt8) (k : Nat) (st : St) : Prop :=
  ∃ i : Nat, 1 ≤ i ∧ i ≤ s.length ∧ k = s.length - i ∧ ((s.drop 1).all inName = (s.drop i).all inName) ∧ st = ⟨[(0, .str s), (3, .int .i64 i)], [], [], 0, []⟩
set_option maxHeartbeats 1000000 in
theorem v_IsName (s : List UInt8) : FnV Tryz.prog 146 [.str s] (.bool (isName s)) := by
  refine FnV.mk mixed tysok f_impl_IsName ok_impl_IsName (by simp) (by simp [kin]) fun hb => ?_
  unfold c_impl_IsName
  simp
  (repeat' first | (with_reducible refine evCd_split (fun h => ?_) (fun h => ?_) <;> (try simp at h)) | (with_reducible refine evGd_split (fun h => ?_) (fun h => ?_) <;> (try simp at h)) | (with_reducible refine evDd_split (fun h => ?_) (fun h => ?_) <;> (try simp at h)) | with_reducible refine And.intro (by (first | omega | (unfold in64; omega))) ?_ | simp)
  case refine_1.refine_1.refine_1.refine_2 =>
    have hname : isName s = (s.drop 1).all inName := by simp [isName, low]; omega
    rw [hname]
    refine evC_loop (invIsName s) (s.length - 1) _ ⟨by simp, by simp [subB], by simp [subE], by simp⟩ ⟨1, by omega, by omega, rfl, rfl, rfl⟩ ?_
    rintro k st ⟨i, hi1, hi2, hk, hall, rfl⟩ hbt hbb
    rw [hall]
    simp
    refine evCd_split (fun hlt => ?_) (fun hge => ?_)
    · simp at hlt
      have hd : s.drop i = s[i]?.getD 0 :: s.drop (i + 1) := by rw [List.drop_eq_getElem_cons hlt]; simp [hlt]
      simp
      (repeat' first | (with_reducible refine evCd_split (fun h => ?_) (fun h => ?_) <;> (try simp at h)) | (with_reducible refine evGd_split (fun h => ?_) (fun h => ?_) <;> (try simp at h)) | (with_reducible refine evDd_split (fun h => ?_) (fun h => ?_) <;> (try simp at h)) | with_reducible refine And.intro (by (first | omega | (unfold in64; omega))) ?_ | simp)
      all_goals first
        | (simp [RetV, r_impl_IsName, resL, resV, tup, hd, inName, low]; omega)
        | (simp only [LoopQ_normal]; refine ⟨s.length - (i + 1), _, by omega, ⟨by simp, by simp [subB], by simp [subE], by simp⟩, i + 1, by omega, by omega, rfl, ?_, rfl⟩; rw [hall, hd]; simp [inName, low]; omega)
    · simp at hge
      have : s.drop i = [] := by simp; omega
      simp [RetV, r_impl_IsName, resL, resV, tup, this]
  all_goals simp [RetV, r_impl_IsName, resL, resV, tup, isName, low]
  all_goals omega

set_option maxHeartbeats 2000000 in
theorem v_nodesOf (m : Nat) : ∀ (t : Tm), t.sz ≤ m → ∀ (room : Int), 0 ≤ room ∧ room ≤ 10000 → FnV Tryz.prog 108 [enc t, .int .i64 room] (.int .i64 (nodes t room)) := by
  induction m with
  | zero => intro t ht; cases t; simp [Tm.sz] at ht
  | succ m ih =>
  rintro ⟨k, n, s, args⟩ ht room hroom
  refine FnV.mk mixed tysok f_impl_nodesOf ok_impl_nodesOf (by simp) (by simp [kin]) fun hbnd => ?_; unfold c_impl_nodesOf
  simp [Tm.kind, Tm.num, Tm.name, Tm.args]
  (repeat' first | (with_reducible refine evCd_split (fun h => ?_) (fun h => ?_) <;> (try simp at h)) | (with_reducible refine evGd_split (fun h => ?_) (fun h => ?_) <;> (try simp at h)) | (with_reducible refine evDd_split (fun h => ?_) (fun h => ?_) <;> (try simp at h)) | with_reducible refine And.intro (by (first | omega | (unfold in64; omega))) ?_ | simp)
  all_goals try refine CallDo.val (by simp) (v_IsName _) ?_
  all_goals try simp
  (repeat' first | (with_reducible refine evCd_split (fun h => ?_) (fun h => ?_) <;> (try simp at h)) | (with_reducible refine evGd_split (fun h => ?_) (fun h => ?_) <;> (try simp at h)) | (with_reducible refine evDd_split (fun h => ?_) (fun h => ?_) <;> (try simp at h)) | with_reducible refine And.intro (by (first | omega | (unfold in64; omega))) ?_ | simp)
  all_goals try simp [RetV, r_impl_nodesOf, resL, resV, tup]
  case succ.refine_2.refine_2.refine_1.refine_1.refine_2 =>
    rename_i h0 h1 h2 h3
    match args, h with
    | [a, b], _ =>
    simp [Tm.sz, Tm.szL] at ht
    subst h1 h2 h3
    simp
    (repeat' first | (with_reducible refine evCd_split (fun h => ?_) (fun h => ?_) <;> (try simp at h)) | (with_reducible refine evGd_split (fun h => ?_) (fun h => ?_) <;> (try simp at h)) | (with_reducible refine evDd_split (fun h => ?_) (fun h => ?_) <;> (try simp at h)) | with_reducible refine And.intro (by (first | omega | (unfold in64; omega))) ?_ | simp)
    refine CallDo.val (by simp) (ih a (by omega) (room - 1) (by omega)) ?_
    simp
    have ha := nodes_le a (room - 1)
    have ha' := nodes_cases a (room - 1)
    (repeat' first | (with_reducible refine evCd_split (fun h => ?_) (fun h => ?_) <;> (try simp at h)) | (with_reducible refine evGd_split (fun h => ?_) (fun h => ?_) <;> (try simp at h)) | (with_reducible refine evDd_split (fun h => ?_) (fun h => ?_) <;> (try simp at h)) | with_reducible refine And.intro (by (first | omega | (unfold in64; omega))) ?_ | simp)
    · simp [RetV, r_impl_nodesOf, resL, resV, tup]
      rw [nodes_eq]; simp; omega
    · refine CallDo.val (by simp) (ih b (by omega) (room - 1 - nodes a (room - 1)) (by omega)) ?_
      simp
      have hb := nodes_le b (room - 1 - nodes a (room - 1))
      have hb' := nodes_cases b (room - 1 - nodes a (room - 1))
      (repeat' first | (with_reducible refine evCd_split (fun h => ?_) (fun h => ?_) <;> (try simp at h)) | (with_reducible refine evGd_split (fun h => ?_) (fun h => ?_) <;> (try simp at h)) | (with_reducible refine evDd_split (fun h => ?_) (fun h => ?_) <;> (try simp at h)) | with_reducible refine And.intro (by (first | omega | (unfold in64; omega))) ?_ | simp)
      all_goals simp [RetV, r_impl_nodesOf, resL, resV, tup]
      all_goals rw [nodes_eq]; simp; omega
  all_goals rw [nodes_eq]
  all_goals simp_all [leafOk]
  all_goals first | omega | (split <;> simp at h ⊢)

theorem v_TermOk (t : Tm) : FnV Tryz.prog 54 [enc t] (.bool t.fits) := by
  refine FnV.mk mixed tysok f_impl_TermOk ok_impl_TermOk (by simp) (by simp [kin]) fun hbnd => ?_; unfold c_impl_TermOk
  simp
  refine CallDo.val (by simp) (v_nodesOf t.sz t (Nat.le_refl _) 5000 (by omega)) ?_
  simp
  simp [RetV, r_impl_TermOk, resL, resV, tup]
  simp [Tm.fits]
end Go.Proofs.YtchidkafcdmciaaGreat
