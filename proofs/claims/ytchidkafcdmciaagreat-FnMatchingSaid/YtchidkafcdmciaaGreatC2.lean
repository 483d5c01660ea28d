/- Contracts: small functions on terms. -/
import Derived.Test.YtchidkafcdmciaaGreatC1
set_option linter.all false
namespace Go.Proofs.YtchidkafcdmciaaGreat
open Go Go.Pv

theorem v_TermOkT (t : T) : FnV Tryz.prog 54 [t.e] (.bool t.fit) := by
  have := v_TermOk t.tm
  rwa [enc_tm, Tm.fits_T] at this
theorem v_pair (a b : T) : FnV Tryz.prog 64 [a.e, b.e] (T.pair a b).e := by
  refine FnV.mk mixed tysok f_impl_pair ok_impl_pair (by simp) (by simp [kin]) fun hbnd => ?_; unfold c_impl_pair
  simp
  (repeat' first | (with_reducible refine evCd_split (fun h => ?_) (fun h => ?_) <;> (try simp at h)) | (with_reducible refine evGd_split (fun h => ?_) (fun h => ?_) <;> (try simp at h)) | (with_reducible refine evDd_split (fun h => ?_) (fun h => ?_) <;> (try simp at h)) | with_reducible refine And.intro (by (first | omega | (unfold in64; omega))) ?_ | simp)
  all_goals try simp [RetV, r_impl_pair, resL, resV, tup]
theorem v_l02Pair (a b : T) : FnV Tryz.prog 104 [a.e, b.e] (T.pair a b).e := by
  refine FnV.mk mixed tysok f_spec_l02Pair ok_spec_l02Pair (by simp) (by simp [kin]) fun hbnd => ?_; unfold c_spec_l02Pair
  simp
  (repeat' first | (with_reducible refine evCd_split (fun h => ?_) (fun h => ?_) <;> (try simp at h)) | (with_reducible refine evGd_split (fun h => ?_) (fun h => ?_) <;> (try simp at h)) | (with_reducible refine evDd_split (fun h => ?_) (fun h => ?_) <;> (try simp at h)) | with_reducible refine And.intro (by (first | omega | (unfold in64; omega))) ?_ | simp)
  all_goals try simp [RetV, r_spec_l02Pair, resL, resV, tup]
theorem v_copyTerm (t : T) : FnV Tryz.prog 66 [t.e] t.e := by
  induction t with
  | pair a b iha ihb =>
    refine FnV.mk mixed tysok f_impl_copyTerm ok_impl_copyTerm (by simp) (by simp [kin]) fun hbnd => ?_; unfold c_impl_copyTerm
    simp
    (repeat' first | (with_reducible refine evCd_split (fun h => ?_) (fun h => ?_) <;> (try simp at h)) | (with_reducible refine evGd_split (fun h => ?_) (fun h => ?_) <;> (try simp at h)) | (with_reducible refine evDd_split (fun h => ?_) (fun h => ?_) <;> (try simp at h)) | with_reducible refine And.intro (by (first | omega | (unfold in64; omega))) ?_ | with_reducible refine CallDo.val (by simp) (iha) ?_ | with_reducible refine CallD.val (by simp) (iha) ?_ | with_reducible refine CallDo.val (by simp) (ihb) ?_ | with_reducible refine CallD.val (by simp) (ihb) ?_ | simp)
    all_goals simp [RetV, r_impl_copyTerm, resL, resV, tup]
  | _ =>
    refine FnV.mk mixed tysok f_impl_copyTerm ok_impl_copyTerm (by simp) (by simp [kin]) fun hbnd => ?_; unfold c_impl_copyTerm
    simp
    (repeat' first | (with_reducible refine evCd_split (fun h => ?_) (fun h => ?_) <;> (try simp at h)) | (with_reducible refine evGd_split (fun h => ?_) (fun h => ?_) <;> (try simp at h)) | (with_reducible refine evDd_split (fun h => ?_) (fun h => ?_) <;> (try simp at h)) | with_reducible refine And.intro (by (first | omega | (unfold in64; omega))) ?_ | simp)
    all_goals simp [RetV, r_impl_copyTerm, resL, resV, tup]
theorem v_occurs (v : Int) (t : T) : FnV Tryz.prog 68 [.int .i64 v, t.e] (.bool (t.occ v)) := by
  induction t with
  | pair a b iha ihb =>
    refine FnV.mk mixed tysok f_impl_occurs ok_impl_occurs (by simp) (by simp [kin]) fun hbnd => ?_; unfold c_impl_occurs
    simp
    (repeat' first | (with_reducible refine evCd_split (fun h => ?_) (fun h => ?_) <;> (try simp at h)) | (with_reducible refine evGd_split (fun h => ?_) (fun h => ?_) <;> (try simp at h)) | (with_reducible refine evDd_split (fun h => ?_) (fun h => ?_) <;> (try simp at h)) | with_reducible refine And.intro (by (first | omega | (unfold in64; omega))) ?_ | with_reducible refine CallDo.val (by simp) (iha) ?_ | with_reducible refine CallD.val (by simp) (iha) ?_ | with_reducible refine CallDo.val (by simp) (ihb) ?_ | with_reducible refine CallD.val (by simp) (ihb) ?_ | simp)
    all_goals simp [RetV, r_impl_occurs, resL, resV, tup]
    all_goals simp_all [T.occ]
  | _ =>
    refine FnV.mk mixed tysok f_impl_occurs ok_impl_occurs (by simp) (by simp [kin]) fun hbnd => ?_; unfold c_impl_occurs
    simp
    (repeat' first | (with_reducible refine evCd_split (fun h => ?_) (fun h => ?_) <;> (try simp at h)) | (with_reducible refine evGd_split (fun h => ?_) (fun h => ?_) <;> (try simp at h)) | (with_reducible refine evDd_split (fun h => ?_) (fun h => ?_) <;> (try simp at h)) | with_reducible refine And.intro (by (first | omega | (unfold in64; omega))) ?_ | simp)
    all_goals simp [RetV, r_impl_occurs, resL, resV, tup]
    all_goals simp [T.occ]
theorem v_orderInts (a b : Int) : FnV Tryz.prog 115 [.int .i64 a, .int .i64 b] (.int .i64 (ordI a b)) := by
  refine FnV.mk mixed tysok f_impl_orderInts ok_impl_orderInts (by simp) (by simp [kin]) fun hbnd => ?_; unfold c_impl_orderInts
  simp
  (repeat' first | (with_reducible refine evCd_split (fun h => ?_) (fun h => ?_) <;> (try simp at h)) | (with_reducible refine evGd_split (fun h => ?_) (fun h => ?_) <;> (try simp at h)) | (with_reducible refine evDd_split (fun h => ?_) (fun h => ?_) <;> (try simp at h)) | with_reducible refine And.intro (by (first | omega | (unfold in64; omega))) ?_ | simp)
  all_goals simp [RetV, r_impl_orderInts, resL, resV, tup]
  all_goals simp [ordI]
  all_goals omega
theorem v_orderTerms (a : T) : ∀ b : T, FnV Tryz.prog 59 [a.e, b.e] (.int .i64 (ordT a b)) := by
  induction a with
  | pair a1 a2 ih1 ih2 =>
    intro b
    cases b with
    | pair b1 b2 =>
      refine FnV.mk mixed tysok f_impl_orderTerms ok_impl_orderTerms (by simp) (by simp [kin]) fun hbnd => ?_; unfold c_impl_orderTerms
      simp
      (repeat' first | (with_reducible refine evCd_split (fun h => ?_) (fun h => ?_) <;> (try simp at h)) | (with_reducible refine evGd_split (fun h => ?_) (fun h => ?_) <;> (try simp at h)) | (with_reducible refine evDd_split (fun h => ?_) (fun h => ?_) <;> (try simp at h)) | with_reducible refine And.intro (by (first | omega | (unfold in64; omega))) ?_ | with_reducible refine CallDo.val (by simp) (ih1 _) ?_ | with_reducible refine CallD.val (by simp) (ih1 _) ?_ | with_reducible refine CallDo.val (by simp) (ih2 _) ?_ | with_reducible refine CallD.val (by simp) (ih2 _) ?_ | with_reducible refine CallDo.val (by simp) (v_orderInts _ _) ?_ | with_reducible refine CallD.val (by simp) (v_orderInts _ _) ?_ | simp)
      all_goals simp [RetV, r_impl_orderTerms, resL, resV, tup]
      all_goals simp_all [ordT]
    | _ =>
      refine FnV.mk mixed tysok f_impl_orderTerms ok_impl_orderTerms (by simp) (by simp [kin]) fun hbnd => ?_; unfold c_impl_orderTerms
      simp
      (repeat' first | (with_reducible refine evCd_split (fun h => ?_) (fun h => ?_) <;> (try simp at h)) | (with_reducible refine evGd_split (fun h => ?_) (fun h => ?_) <;> (try simp at h)) | (with_reducible refine evDd_split (fun h => ?_) (fun h => ?_) <;> (try simp at h)) | with_reducible refine And.intro (by (first | omega | (unfold in64; omega))) ?_ | with_reducible refine CallDo.val (by simp) (v_orderInts _ _) ?_ | with_reducible refine CallD.val (by simp) (v_orderInts _ _) ?_ | simp)
      all_goals simp [RetV, r_impl_orderTerms, resL, resV, tup]
      all_goals simp_all [ordT]
  | _ =>
    intro b
    cases b <;>
    (refine FnV.mk mixed tysok f_impl_orderTerms ok_impl_orderTerms (by simp) (by simp [kin]) fun hbnd => ?_; unfold c_impl_orderTerms
     simp
     (repeat' first | (with_reducible refine evCd_split (fun h => ?_) (fun h => ?_) <;> (try simp at h)) | (with_reducible refine evGd_split (fun h => ?_) (fun h => ?_) <;> (try simp at h)) | (with_reducible refine evDd_split (fun h => ?_) (fun h => ?_) <;> (try simp at h)) | with_reducible refine And.intro (by (first | omega | (unfold in64; omega))) ?_ | with_reducible refine CallDo.val (by simp) (v_orderInts _ _) ?_ | with_reducible refine CallD.val (by simp) (v_orderInts _ _) ?_ | simp)
     all_goals simp [RetV, r_impl_orderTerms, resL, resV, tup]
     all_goals simp_all [ordT, ordS])
theorem v_equalTerms (a b : T) : FnV Tryz.prog 114 [a.e, b.e] (.bool (decide (a = b))) := by
  refine FnV.mk mixed tysok f_impl_equalTerms ok_impl_equalTerms (by simp) (by simp [kin]) fun hbnd => ?_; unfold c_impl_equalTerms
  simp
  (repeat' first | (with_reducible refine evCd_split (fun h => ?_) (fun h => ?_) <;> (try simp at h)) | (with_reducible refine evGd_split (fun h => ?_) (fun h => ?_) <;> (try simp at h)) | (with_reducible refine evDd_split (fun h => ?_) (fun h => ?_) <;> (try simp at h)) | with_reducible refine And.intro (by (first | omega | (unfold in64; omega))) ?_ | with_reducible refine CallDo.val (by simp) (v_orderTerms _ _) ?_ | with_reducible refine CallD.val (by simp) (v_orderTerms _ _) ?_ | simp)
  all_goals simp [RetV, r_impl_equalTerms, resL, resV, tup]
  have := ordT_zero a b
  by_cases h : ordT a b = 0 <;> simp_all
theorem v_OccursIn (v : Int) (t : T) : FnV Tryz.prog 23 [.int .i64 v, t.e] (.bool (t.fit && t.occ v)) := by
  refine FnV.mk mixed tysok f_impl_OccursIn ok_impl_OccursIn (by simp) (by simp [kin]) fun hbnd => ?_; unfold c_impl_OccursIn
  simp
  (repeat' first | (with_reducible refine evCd_split (fun h => ?_) (fun h => ?_) <;> (try simp at h)) | (with_reducible refine evGd_split (fun h => ?_) (fun h => ?_) <;> (try simp at h)) | (with_reducible refine evDd_split (fun h => ?_) (fun h => ?_) <;> (try simp at h)) | with_reducible refine And.intro (by (first | omega | (unfold in64; omega))) ?_ | with_reducible refine CallDo.val (by simp) (v_TermOkT _) ?_ | with_reducible refine CallD.val (by simp) (v_TermOkT _) ?_ | with_reducible refine CallDo.val (by simp) (v_occurs _ _) ?_ | with_reducible refine CallD.val (by simp) (v_occurs _ _) ?_ | simp)
  all_goals simp [RetV, r_impl_OccursIn, resL, resV, tup]
  all_goals simp_all
open Classical in
def invValuesOk (l : List Bt) (k : Nat) (st : St) : Prop :=
  ∃ i : Nat, i ≤ l.length ∧ k = l.length - i ∧ (∀ j, j < i → okAt l j) ∧ st = ⟨[(0, .slice 5 .no (l.map Bt.e)), (8, .slice 5 .no (l.map Bt.e)), (9, .int .i64 l.length), (10, .int .i64 i)], [], [], 0, []⟩
open Classical in
set_option maxHeartbeats 1000000 in
theorem v_ValuesOk (l : List Bt) : FnV Tryz.prog 22 [.slice 5 .no (l.map Bt.e)] (.bool (decide (ValsOk l))) := by
  refine FnV.mk mixed tysok f_impl_ValuesOk ok_impl_ValuesOk (by simp) (by simp [kin]) fun hbnd => ?_; unfold c_impl_ValuesOk
  simp
  (repeat' first | (with_reducible refine evCd_split (fun h => ?_) (fun h => ?_) <;> (try simp at h)) | (with_reducible refine evGd_split (fun h => ?_) (fun h => ?_) <;> (try simp at h)) | (with_reducible refine evDd_split (fun h => ?_) (fun h => ?_) <;> (try simp at h)) | with_reducible refine And.intro (by (first | omega | (unfold in64; omega))) ?_ | simp)
  · simp [RetV, r_impl_ValuesOk, resL, resV, tup]
    intro h'; have := h'.1; omega
  · refine evC_loop (invValuesOk l) l.length _ ⟨by simp, by simp [subB], by simp [subE], by simp⟩ ⟨0, by omega, by omega, by simp, rfl⟩ ?_
    rintro k st ⟨i, hi, hk, hall, rfl⟩ hbt hbb
    simp
    refine evCd_split (fun hlt => ?_) (fun hge => ?_)
    · simp at hlt
      obtain ⟨b, hb⟩ : ∃ b, l[i]? = some b := ⟨_, List.getElem?_eq_getElem hlt⟩
      obtain ⟨c, hc⟩ : ∃ c, l[i - 1]? = some c := ⟨_, List.getElem?_eq_getElem (by omega)⟩
      clear hbt hbb
      simp [hb, hc]
      (repeat' first | (with_reducible refine evCd_split (fun h => ?_) (fun h => ?_) <;> (try simp at h)) | (with_reducible refine evGd_split (fun h => ?_) (fun h => ?_) <;> (try simp at h)) | (with_reducible refine evDd_split (fun h => ?_) (fun h => ?_) <;> (try simp at h)) | with_reducible refine And.intro (by (first | omega | (unfold in64; omega))) ?_ | with_reducible refine CallDo.val (by simp) (v_TermOk _) ?_ | with_reducible refine CallD.val (by simp) (v_TermOk _) ?_ | simp [hc])
      all_goals first
        | (simp [RetV, r_impl_ValuesOk, resL, resV, tup]; intro h'; have h1 := h'.2 i hlt b hb; have h2 := h1.2.1 c; have h3 := h1.2.2; first | omega | (have := h2 (by omega) hc; omega) | (rw [h3] at h; cases h) | simp_all)
        | (simp only [LoopQ_normal]; refine ⟨l.length - (i + 1), _, by omega, ⟨by simp, by simp [subB], by simp [subE], by simp⟩, i + 1, by omega, rfl, fun j hj => ?_, rfl⟩
           by_cases e : j = i
           · subst e; intro b' hb'; rw [hb] at hb'; cases hb'; refine ⟨by omega, fun c' h0 hc' => ?_, by assumption⟩; rw [hc] at hc'; cases hc'; omega
           · exact hall j (by omega))
    · simp at hge
      simp [RetV, r_impl_ValuesOk, resL, resV, tup]
      exact ⟨by omega, fun j hj => hall j (by omega)⟩
end Go.Proofs.YtchidkafcdmciaaGreat
