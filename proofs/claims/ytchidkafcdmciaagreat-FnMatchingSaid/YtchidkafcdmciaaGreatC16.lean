/- The law FnMatching. -/
import Derived.Test.YtchidkafcdmciaaGreatL3
set_option linter.all false
namespace Go.Proofs.YtchidkafcdmciaaGreat
open Go Go.Pv

theorem v_isI (t u : T) : FnV Tryz.prog 13 [u.e, t.e] (.bool (isI t u)) := v_IsInstance u t
def tC (t : T) : List PV := [.int .i64 t.kind, .int .i64 t.int, .str t.name, .slice 4 .no (t.args.map T.e)]
def invFM (d : List Int) (t u : T) (g l : List Bd) (k : Nat) (st : St) : Prop :=
  ∃ i : Nat, i ≤ l.length ∧ k = l.length - i ∧ st = ⟨[(0, .slice 1 .no (bytesE d)), (3, .ptr (.loc 0) 0), (4, .slice 5 .no (g.map Bd.e)), (5, .ptr (.loc 1) 0), (7, .slice 5 .no (l.map Bd.e)), (60, .slice 5 .no (l.map Bd.e)), (61, .int .i64 l.length), (62, .int .i64 i)],
    [(.loc 0, [.int .i64 t.kind, .int .i64 t.int, .str t.name, .slice 4 .no (t.args.map T.e)]), (.loc 1, [.int .i64 u.kind, .int .i64 u.int, .str u.name, .slice 4 .no (u.args.map T.e)])], [], 2, []⟩
set_option maxHeartbeats 2000000 in
set_option maxRecDepth 4000 in
theorem v_FnMatching (d : List Int) (hd : byteOk d) : FnV Tryz.prog 4 [.slice 1 .no (bytesE d)] (.bool true) := by
  by_cases hbig : 1048576 < d.length
  · refine FnV.mk mixed tysok f_laws_FnMatching ok_laws_FnMatching (by simp) (by simp [kin]) fun hbnd => ?_; unfold c_laws_FnMatching
    simp
    (repeat' first | (with_reducible refine evCd_split (fun h => ?_) (fun h => ?_) <;> (try simp at h)) | (with_reducible refine evGd_split (fun h => ?_) (fun h => ?_) <;> (try simp at h)) | (with_reducible refine evDd_split (fun h => ?_) (fun h => ?_) <;> (try simp at h)) | with_reducible refine And.intro (by (first | omega | (unfold in64; omega))) ?_ | simp)
    · simp [RetV, r_laws_FnMatching, resL, resV, tup]
    · omega
  · have hl : d.length ≤ 10000000 := by omega
    have hlm := law_facts (curAt d 0) (curAt d 20)
    have hgl := groundB_len 4 0 (curAt d 20)
    have hT : FnV Tryz.prog 8 [.slice 1 .no (bytesE d), .int .i64 0, .int .i64 8, .int .i64 4] (drawT 8 4 (curAt d 0)).1.e := v_MakeTerm d hd hl 0 (by omega) 8 (by omega) 4 (by omega)
    have hG : FnV Tryz.prog 19 [.slice 1 .no (bytesE d), .int .i64 20, .int .i64 4] (.slice 5 .no ((groundB 4 0 (curAt d 20)).map Bd.e)) := v_MakeGround d hd hl 20 (by omega) 4 (by omega)
    generalize (drawT 8 4 (curAt d 0)).1 = t at *
    generalize groundB 4 0 (curAt d 20) = g at *
    have hA : ∀ u : T, FnV Tryz.prog 24 [.slice 1 .no (bytesE d), .int .i64 40, u.e, .int .i64 3] (alikeT 3 u (curAt d 40)).1.e := fun u => v_MakeAlike d hd hl 40 (by omega) u 3 (by omega)
    have hisI : isI t (t.sub (bget g)) = true := by rw [isI_eq (by have := hlm.tsz; omega)]; exact hlm.mf.ok
    refine FnV.mk mixed tysok f_laws_FnMatching ok_laws_FnMatching (by simp) (by simp [kin]) fun hbnd => ?_; unfold c_laws_FnMatching
    simp
    (repeat' first | (with_reducible refine evCd_split (fun h => ?_) (fun h => ?_) <;> (try simp at h)) | (with_reducible refine evGd_split (fun h => ?_) (fun h => ?_) <;> (try simp at h)) | (with_reducible refine evDd_split (fun h => ?_) (fun h => ?_) <;> (try simp at h)) | with_reducible refine And.intro (by (first | omega | (unfold in64; omega))) ?_ | with_reducible refine CallDo.val (by simp) (hT) ?_ | with_reducible refine CallD.val (by simp) (hT) ?_ | with_reducible refine CallDo.val (by simp) (hG) ?_ | with_reducible refine CallD.val (by simp) (hG) ?_ | with_reducible refine CallDo.val (by simp) (v_Instantiate _ _ (by omega)) ?_ | with_reducible refine CallD.val (by simp) (v_Instantiate _ _ (by omega)) ?_ | with_reducible refine CallDo.val (by simp) (v_MatchTerm _ _) ?_ | with_reducible refine CallD.val (by simp) (v_MatchTerm _ _) ?_ | with_reducible refine CallDo.val (by simp) (v_same _ _) ?_ | with_reducible refine CallD.val (by simp) (v_same _ _) ?_ | with_reducible refine CallDo.val (by simp) (v_isI _ _) ?_ | with_reducible refine CallD.val (by simp) (v_isI _ _) ?_ | with_reducible refine CallDo.val (by simp) (v_ValuesOkB _) ?_ | with_reducible refine CallD.val (by simp) (v_ValuesOkB _) ?_ | with_reducible refine CallDo.val (by simp) (v_MakeValue _ (by omega) _) ?_ | with_reducible refine CallD.val (by simp) (v_MakeValue _ (by omega) _) ?_ | simp [hlm.inst, hlm.put, hlm.mf.ok, hlm.mf.vals, hisI])
    · omega
    · obtain ⟨u0, hu0⟩ : ∃ u0, u0 = t.sub (bget g) := ⟨_, rfl⟩
      have hmf := hlm.mf
      have helem := hlm.elem
      have hifit := hlm.ifit
      have htfit := hlm.tfit
      have htsz := hlm.tsz
      clear hlm
      rw [← hu0] at hmf helem hifit hisI ⊢
      refine evC_loop (invFM d t u0 g (mBs t u0)) (mBs t u0).length _ ⟨by simp [fresh, kinL, kin, iterE, inObs, Pv.look], (by intro k x hx; have hm := look_mem hx; clear hx; simp at hm; first | (obtain ⟨rfl, rfl⟩ := hm; simp [fresh, kinL, kin, iterE, inObs, Pv.look]; done) | (rcases hm with ⟨rfl, rfl⟩ | ⟨rfl, rfl⟩ <;> simp [fresh, kinL, kin, iterE, inObs, Pv.look]; done) | (rcases hm with ⟨rfl, rfl⟩ | ⟨rfl, rfl⟩ | ⟨rfl, rfl⟩ <;> simp [fresh, kinL, kin, iterE, inObs, Pv.look]; done) | (rcases hm with ⟨rfl, rfl⟩ | ⟨rfl, rfl⟩ | ⟨rfl, rfl⟩ | ⟨rfl, rfl⟩ <;> simp [fresh, kinL, kin, iterE, inObs, Pv.look]; done) | (rcases hm with ⟨rfl, rfl⟩ | ⟨rfl, rfl⟩ | ⟨rfl, rfl⟩ | ⟨rfl, rfl⟩ | ⟨rfl, rfl⟩ <;> simp [fresh, kinL, kin, iterE, inObs, Pv.look]; done) | (rcases hm with ⟨rfl, rfl⟩ | ⟨rfl, rfl⟩ | ⟨rfl, rfl⟩ | ⟨rfl, rfl⟩ | ⟨rfl, rfl⟩ | ⟨rfl, rfl⟩ <;> simp [fresh, kinL, kin, iterE, inObs, Pv.look]; done)), (by first | (simp [subE]; done) | (intro k x hx; have hm := look_mem hx; clear hx; simp at hm; obtain ⟨rfl, rfl⟩ := hm; simp [fresh, kinL, kin, kinO, inObs, Pv.look]; done)), by simp⟩ ⟨0, by omega, by omega, rfl⟩ ?_
      rintro k st ⟨i, hi, hk, rfl⟩ hbt hbb
      clear hbt hbb
      have hml : (mBs t u0).length ≤ 400 := by
        have h1 := hmf.vals
        simp only [valsOk, decide_eq_true_eq] at h1
        have := h1.1
        simpa using this
      by_cases hlt : i < (mBs t u0).length
      · obtain ⟨b, hb⟩ : ∃ b, b = (mBs t u0)[i] := ⟨_, rfl⟩
        obtain ⟨⟨hv0, hv1⟩, hoc, x, hgx, hbt⟩ := helem b (by rw [hb]; simp)
        have hbi : ∀ h, (mBs t u0)[i]'h = b := fun h => hb.symm
        have hgi : b.v.toNat < g.length := by omega
        have hgx' : ∀ h, g[b.v.toNat]'h = x := fun h => by rw [List.getElem?_eq_getElem h] at hgx; simpa using hgx
        have hn1 : ¬b.v < 0 := by omega
        have hn2 : ¬3 < b.v := by omega
        simp [hlt, hbi, hn1, hn2, hv0, hgx, hbt, hgl]
        (repeat' first | (with_reducible refine evCd_split (fun h => ?_) (fun h => ?_) <;> (try simp at h)) | (with_reducible refine evGd_split (fun h => ?_) (fun h => ?_) <;> (try simp at h)) | (with_reducible refine evDd_split (fun h => ?_) (fun h => ?_) <;> (try simp at h)) | with_reducible refine And.intro (by (first | omega | (unfold in64; omega))) ?_ | with_reducible refine CallDo.val (by simp) (v_same _ _) ?_ | with_reducible refine CallD.val (by simp) (v_same _ _) ?_ | with_reducible refine CallDo.val (by simp) (v_OccursIn _ _) ?_ | with_reducible refine CallD.val (by simp) (v_OccursIn _ _) ?_ | simp [hgx, hbt, hoc, htfit])
        refine LoopQ.next ((mBs t u0).length - (i + 1)) (by omega) ⟨i + 1, by omega, rfl, rfl⟩ ⟨by simp [fresh, kinL, kin, iterE, inObs, Pv.look], (by intro k x hx; have hm := look_mem hx; clear hx; simp at hm; first | (obtain ⟨rfl, rfl⟩ := hm; simp [fresh, kinL, kin, iterE, inObs, Pv.look]; done) | (rcases hm with ⟨rfl, rfl⟩ | ⟨rfl, rfl⟩ <;> simp [fresh, kinL, kin, iterE, inObs, Pv.look]; done) | (rcases hm with ⟨rfl, rfl⟩ | ⟨rfl, rfl⟩ | ⟨rfl, rfl⟩ <;> simp [fresh, kinL, kin, iterE, inObs, Pv.look]; done) | (rcases hm with ⟨rfl, rfl⟩ | ⟨rfl, rfl⟩ | ⟨rfl, rfl⟩ | ⟨rfl, rfl⟩ <;> simp [fresh, kinL, kin, iterE, inObs, Pv.look]; done) | (rcases hm with ⟨rfl, rfl⟩ | ⟨rfl, rfl⟩ | ⟨rfl, rfl⟩ | ⟨rfl, rfl⟩ | ⟨rfl, rfl⟩ <;> simp [fresh, kinL, kin, iterE, inObs, Pv.look]; done) | (rcases hm with ⟨rfl, rfl⟩ | ⟨rfl, rfl⟩ | ⟨rfl, rfl⟩ | ⟨rfl, rfl⟩ | ⟨rfl, rfl⟩ | ⟨rfl, rfl⟩ <;> simp [fresh, kinL, kin, iterE, inObs, Pv.look]; done)), (by first | (simp [subE]; done) | (intro k x hx; have hm := look_mem hx; clear hx; simp at hm; obtain ⟨rfl, rfl⟩ := hm; simp [fresh, kinL, kin, kinO, inObs, Pv.look]; done)), by simp⟩
      · have hau := alikeT_fit 3 (by omega) u0 hifit.1 (curAt d 40)
        have hA' := hA u0
        generalize (alikeT 3 u0 (curAt d 40)).1 = u1 at hA' hau
        have hu1 : u1.fit = true := by simp only [T.fit, Bool.and_eq_true, decide_eq_true_eq]; exact ⟨hau.1, by omega⟩
        have hisI1 : isI t u1 = mOk t u1 := isI_eq (by omega)
        have hvars := v_TermVars t
        have hlen := hmf.len
        cases hok : mOk t u1 with
        | true =>
          have hm1 : (mtch t u1 []).1 = true := by simp [mOk] at hok; exact hok.1.2
          have hmf1 := match_facts htfit (by omega) hu1 hm1
          have hml1 : (mBs t u1).length ≤ 1000000 := by
            have h1 := hmf1.vals
            simp only [valsOk, decide_eq_true_eq] at h1
            have := h1.1
            simp at this
            omega
          simp [hlt]
          (repeat' first | (with_reducible refine evCd_split (fun h => ?_) (fun h => ?_) <;> (try simp at h)) | (with_reducible refine evGd_split (fun h => ?_) (fun h => ?_) <;> (try simp at h)) | (with_reducible refine evDd_split (fun h => ?_) (fun h => ?_) <;> (try simp at h)) | with_reducible refine And.intro (by (first | omega | (unfold in64; omega))) ?_ | with_reducible refine CallDo.val (by simp) (hA') ?_ | with_reducible refine CallD.val (by simp) (hA') ?_ | with_reducible refine CallDo.val (by simp) (v_MatchTerm _ _) ?_ | with_reducible refine CallD.val (by simp) (v_MatchTerm _ _) ?_ | with_reducible refine CallDo.val (by simp) (v_Instantiate _ _ hml1) ?_ | with_reducible refine CallD.val (by simp) (v_Instantiate _ _ hml1) ?_ | with_reducible refine CallDo.val (by simp) (hvars) ?_ | with_reducible refine CallD.val (by simp) (hvars) ?_ | with_reducible refine CallDo.val (by simp) (v_same _ _) ?_ | with_reducible refine CallD.val (by simp) (v_same _ _) ?_ | with_reducible refine CallDo.val (by simp) (v_isI _ _) ?_ | with_reducible refine CallD.val (by simp) (v_isI _ _) ?_ | simp [hok, hmf1.inst, hmf1.put, hisI1, hlen])
          simp [RetV, r_laws_FnMatching, resL, resV, tup]
        | false =>
          have hbs : mBs t u1 = [] := by simp [mBs, hok]
          simp [hlt]
          (repeat' first | (with_reducible refine evCd_split (fun h => ?_) (fun h => ?_) <;> (try simp at h)) | (with_reducible refine evGd_split (fun h => ?_) (fun h => ?_) <;> (try simp at h)) | (with_reducible refine evDd_split (fun h => ?_) (fun h => ?_) <;> (try simp at h)) | with_reducible refine And.intro (by (first | omega | (unfold in64; omega))) ?_ | with_reducible refine CallDo.val (by simp) (hA') ?_ | with_reducible refine CallD.val (by simp) (hA') ?_ | with_reducible refine CallDo.val (by simp) (v_MatchTerm _ _) ?_ | with_reducible refine CallD.val (by simp) (v_MatchTerm _ _) ?_ | with_reducible refine CallDo.val (by simp) (v_Instantiate _ [] (by simp)) ?_ | with_reducible refine CallD.val (by simp) (v_Instantiate _ [] (by simp)) ?_ | with_reducible refine CallDo.val (by simp) (hvars) ?_ | with_reducible refine CallD.val (by simp) (hvars) ?_ | with_reducible refine CallDo.val (by simp) (v_same _ _) ?_ | with_reducible refine CallD.val (by simp) (v_same _ _) ?_ | with_reducible refine CallDo.val (by simp) (v_isI _ _) ?_ | with_reducible refine CallD.val (by simp) (v_isI _ _) ?_ | simp [hok, hbs, hisI1, hlen])
          all_goals simp [RetV, r_laws_FnMatching, resL, resV, tup]
end Go.Proofs.YtchidkafcdmciaaGreat
