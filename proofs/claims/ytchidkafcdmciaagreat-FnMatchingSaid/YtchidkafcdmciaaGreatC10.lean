/- Contracts: MatchTerm, Instantiate. -/
import Derived.Test.YtchidkafcdmciaaGreatC9
set_option linter.all false
namespace Go.Proofs.YtchidkafcdmciaaGreat
open Go Go.Pv

theorem kinL_appT (S : Key → Prop) : ∀ a b : List PV, kinL S (a ++ b) ↔ kinL S a ∧ kinL S b
  | [], b => by simp [kinL]
  | x :: r, b => by simp only [List.cons_append, kinL, kinL_appT S r b, and_assoc]
def toB (x : Int × T) : Bd := ⟨x.1, x.2⟩
def invMT (m : List (Int × T)) (k : Nat) (st : St) : Prop :=
  ∃ (seen : List Nat) (xs : List Bd), seen.Nodup ∧ (∀ b ∈ seen, b < m.length) ∧ k = m.length - seen.length ∧ xs = (seen.filterMap fun b => m[b]?).map toB ∧ xs.length = seen.length ∧ st = ⟨[(7, .row 5 (.obj 303) xs.length), (33, .ptr (.loc 2) 0)], [(.obj 302, mE m), (.loc 2, iterE m.length seen (.obj 302))], [(.obj 303, ⟨xs.length, 30, 5, some (xs.map Bd.e)⟩)], 3, [.obj 303, .obj 302]⟩
/-- What MatchTerm computes. -/
def mOk (p t : T) : Bool := p.fit && t.fit && (mtch p t []).1 && decide ((mtch p t []).2.length ≤ 400)
def mBs (p t : T) : List Bd := if mOk p t then sortB ((mtch p t []).2.map toB) else []
theorem tlook_none {k : Int} : ∀ {m : List (Int × T)}, tlook k m = none → k ∉ m.map (·.1)
  | [], _ => by simp
  | (i, v) :: r, h => by
    simp only [tlook] at h
    split at h
    · cases h
    · rename_i hne
      have := tlook_none h
      simp only [List.map_cons, List.mem_cons, not_or]
      exact ⟨hne, this⟩
theorem mtch_nodup (p : T) : ∀ (t : T) (m : List (Int × T)), (m.map (·.1)).Nodup → ((mtch p t m).2.map (·.1)).Nodup := by
  induction p with
  | var n =>
    intro t m hm
    simp only [mtch]
    split
    · exact hm
    · rename_i h
      have := tlook_none h
      rw [List.map_append, List.nodup_append]
      refine ⟨hm, by simp, ?_⟩
      intro a ha b hb e
      simp at hb
      subst hb e
      exact this ha
  | pair a b iha ihb =>
    intro t m hm
    cases t with
    | pair c d =>
      simp only [mtch]
      split
      · exact ihb d _ (iha c m hm)
      · exact iha c m hm
    | _ => simpa [mtch] using hm
  | _ => intro t m hm; cases t <;> simpa [mtch] using hm
theorem sortB_perm {a b : List Bd} (h : a.Perm b) (hd : (b.map (·.v)).Nodup) : sortB a = sortB b := by
  have ht : ∀ a b c : Bd, (decide (a.v ≤ b.v)) = true → (decide (b.v ≤ c.v)) = true → (decide (a.v ≤ c.v)) = true := by intro a b c; simp; omega
  have hto : ∀ a b : Bd, (decide (a.v ≤ b.v) || decide (b.v ≤ a.v)) = true := by intro a b; simp; omega
  exact sortB_uniq ((List.mergeSort_perm a _).trans h) hd ((List.pairwise_mergeSort ht hto a).imp (by simp))
theorem bds_snoc (xs : List Bd) (x : Bd) : xs.map Bd.e ++ [x.e] = (xs ++ [x]).map Bd.e := by simp
set_option maxHeartbeats 1000000 in
theorem v_MatchTerm (p t : T) : FnV Tryz.prog 21 [p.e, t.e] (.tuple [.slice 5 .no ((mBs p t).map Bd.e), .bool (mOk p t)]) := by
  refine FnV.mk mixed tysok f_impl_MatchTerm ok_impl_MatchTerm (by simp) (by simp [kin]) fun hbnd => ?_; unfold c_impl_MatchTerm
  simp
  (repeat' first | (with_reducible refine evCd_split (fun h => ?_) (fun h => ?_) <;> (try simp at h)) | (with_reducible refine evGd_split (fun h => ?_) (fun h => ?_) <;> (try simp at h)) | (with_reducible refine evDd_split (fun h => ?_) (fun h => ?_) <;> (try simp at h)) | with_reducible refine And.intro (by (first | omega | (unfold in64; omega))) ?_ | with_reducible refine CallDo.val (by simp) (v_TermOkT _) ?_ | with_reducible refine CallD.val (by simp) (v_TermOkT _) ?_ | simp)
  · rename_i hp
    refine CallDo.ob (g_matched 302 p t []) (SM_ok 302 _) (by unfold SM; exact (by intro k x hx; first | exact hx | (simp [hx, without_self]; done) | (simp [look_app, without_self, hx]; done) | (cases k <;> simp_all [look_app]; done) | (have hm := look_mem hx; clear hx; simp at hm; first | (obtain ⟨rfl, rfl⟩ := hm; simp; done) | (rcases hm with ⟨rfl, rfl⟩ | ⟨rfl, rfl⟩ <;> simp; done) | (rcases hm with ⟨rfl, rfl⟩ | ⟨rfl, rfl⟩ | ⟨rfl, rfl⟩ <;> simp; done) | (rcases hm with ⟨rfl, rfl⟩ | ⟨rfl, rfl⟩ | ⟨rfl, rfl⟩ | ⟨rfl, rfl⟩ <;> simp; done) | (rcases hm with ⟨rfl, rfl⟩ | ⟨rfl, rfl⟩ | ⟨rfl, rfl⟩ | ⟨rfl, rfl⟩ | ⟨rfl, rfl⟩ <;> simp; done) | (rcases hm with ⟨rfl, rfl⟩ | ⟨rfl, rfl⟩ | ⟨rfl, rfl⟩ | ⟨rfl, rfl⟩ | ⟨rfl, rfl⟩ | ⟨rfl, rfl⟩ <;> simp; done)))) (by unfold SM; exact (by intro k x hx; first | exact hx | (simp [hx, without_self]; done) | (simp [look_app, without_self, hx]; done) | (cases k <;> simp_all [look_app]; done) | (have hm := look_mem hx; clear hx; simp at hm; first | (obtain ⟨rfl, rfl⟩ := hm; simp; done) | (rcases hm with ⟨rfl, rfl⟩ | ⟨rfl, rfl⟩ <;> simp; done) | (rcases hm with ⟨rfl, rfl⟩ | ⟨rfl, rfl⟩ | ⟨rfl, rfl⟩ <;> simp; done) | (rcases hm with ⟨rfl, rfl⟩ | ⟨rfl, rfl⟩ | ⟨rfl, rfl⟩ | ⟨rfl, rfl⟩ <;> simp; done) | (rcases hm with ⟨rfl, rfl⟩ | ⟨rfl, rfl⟩ | ⟨rfl, rfl⟩ | ⟨rfl, rfl⟩ | ⟨rfl, rfl⟩ <;> simp; done) | (rcases hm with ⟨rfl, rfl⟩ | ⟨rfl, rfl⟩ | ⟨rfl, rfl⟩ | ⟨rfl, rfl⟩ | ⟨rfl, rfl⟩ | ⟨rfl, rfl⟩ <;> simp; done)))) (by simp [inObs, SM]) ?_
    rintro r s' ⟨rfl, rfl⟩
    refine ⟨SM_same 302 _ _, ?_⟩
    generalize hm : mtch p t [] = res
    obtain ⟨ok, m⟩ := res
    unfold SM
    have hmlen : ∀ f : Key → Option (List PV), f (.obj 302) = some (mE m) → mlenV f (.gmap (.obj 302)) = some (True, .int .i64 m.length) := fun f h => mlenV_mE f _ m h
    simp [without]
    (repeat' first | (with_reducible refine evCd_split (fun h => ?_) (fun h => ?_) <;> (try simp at h)) | (with_reducible refine evGd_split (fun h => ?_) (fun h => ?_) <;> (try simp at h)) | (with_reducible refine evDd_split (fun h => ?_) (fun h => ?_) <;> (try simp at h)) | with_reducible refine And.intro (by (first | omega | (unfold in64; omega))) ?_ | simp [hmlen])
    · simp [RetV, r_impl_MatchTerm, resL, resV, tup]
      simp_all [mBs, mOk]
      omega
    · rename_i hok hlen
      have hnd : ((m.map toB).map (·.v)).Nodup := by
        have := mtch_nodup p t [] (by simp)
        rw [hm] at this
        simpa [toB, Function.comp_def] using this
      refine evC_loop (invMT m) m.length _ ⟨by simp [fresh, kinL, kin, iterE, inObs, Pv.look, kinL_mE], (by intro k x hx; have hm := look_mem hx; clear hx; simp at hm; first | (obtain ⟨rfl, rfl⟩ := hm; simp [fresh, kinL, kin, iterE, inObs, Pv.look, kinL_mE]; done) | (rcases hm with ⟨rfl, rfl⟩ | ⟨rfl, rfl⟩ <;> simp [fresh, kinL, kin, iterE, inObs, Pv.look, kinL_mE]; done) | (rcases hm with ⟨rfl, rfl⟩ | ⟨rfl, rfl⟩ | ⟨rfl, rfl⟩ <;> simp [fresh, kinL, kin, iterE, inObs, Pv.look, kinL_mE]; done) | (rcases hm with ⟨rfl, rfl⟩ | ⟨rfl, rfl⟩ | ⟨rfl, rfl⟩ | ⟨rfl, rfl⟩ <;> simp [fresh, kinL, kin, iterE, inObs, Pv.look, kinL_mE]; done) | (rcases hm with ⟨rfl, rfl⟩ | ⟨rfl, rfl⟩ | ⟨rfl, rfl⟩ | ⟨rfl, rfl⟩ | ⟨rfl, rfl⟩ <;> simp [fresh, kinL, kin, iterE, inObs, Pv.look, kinL_mE]; done) | (rcases hm with ⟨rfl, rfl⟩ | ⟨rfl, rfl⟩ | ⟨rfl, rfl⟩ | ⟨rfl, rfl⟩ | ⟨rfl, rfl⟩ | ⟨rfl, rfl⟩ <;> simp [fresh, kinL, kin, iterE, inObs, Pv.look, kinL_mE]; done)), (by first | (simp [subE]; done) | (intro k x hx; have hm := look_mem hx; clear hx; simp at hm; obtain ⟨rfl, rfl⟩ := hm; simp [fresh, kinL, kin, kinO, inObs, Pv.look, kinL_mE]; done)), by simp⟩ ⟨[], [], by simp, by simp, by simp, by simp, by simp, rfl⟩ ?_
      rintro k st ⟨seen, xs, hd, hlt, hk, hxs, hxl, rfl⟩ hbt hbb
      clear hbt hbb
      have hle := seen_le hd hlt
      simp
      refine ev1n_mE (mk := .obj 302) (seen := seen) (l := m) (by simp) (by simp) rfl (fun hall => ?_) (fun b x hx hb => ?_)
      · simp
        have hperm : xs.Perm (m.map toB) := by rw [hxs]; exact (seen_all hd hlt hall).map _
        have hxd : (xs.map (·.v)).Nodup := (hperm.map _).nodup_iff.2 hnd
        refine CallDo.ob (g_sortBindings 303 (by decide) xs (by omega) hxd) (SR_ok 303 xs) (by unfold SR; exact (by intro k x hx; first | exact hx | (simp [hx, without_self]; done) | (simp [look_app, without_self, hx]; done) | (cases k <;> simp_all [look_app]; done) | (have hm := look_mem hx; clear hx; simp at hm; first | (obtain ⟨rfl, rfl⟩ := hm; simp; done) | (rcases hm with ⟨rfl, rfl⟩ | ⟨rfl, rfl⟩ <;> simp; done) | (rcases hm with ⟨rfl, rfl⟩ | ⟨rfl, rfl⟩ | ⟨rfl, rfl⟩ <;> simp; done) | (rcases hm with ⟨rfl, rfl⟩ | ⟨rfl, rfl⟩ | ⟨rfl, rfl⟩ | ⟨rfl, rfl⟩ <;> simp; done) | (rcases hm with ⟨rfl, rfl⟩ | ⟨rfl, rfl⟩ | ⟨rfl, rfl⟩ | ⟨rfl, rfl⟩ | ⟨rfl, rfl⟩ <;> simp; done) | (rcases hm with ⟨rfl, rfl⟩ | ⟨rfl, rfl⟩ | ⟨rfl, rfl⟩ | ⟨rfl, rfl⟩ | ⟨rfl, rfl⟩ | ⟨rfl, rfl⟩ <;> simp; done)))) (by unfold SR; exact (by intro k x hx; first | exact hx | (simp [hx, without_self]; done) | (simp [look_app, without_self, hx]; done) | (cases k <;> simp_all [look_app]; done) | (have hm := look_mem hx; clear hx; simp at hm; first | (obtain ⟨rfl, rfl⟩ := hm; simp; done) | (rcases hm with ⟨rfl, rfl⟩ | ⟨rfl, rfl⟩ <;> simp; done) | (rcases hm with ⟨rfl, rfl⟩ | ⟨rfl, rfl⟩ | ⟨rfl, rfl⟩ <;> simp; done) | (rcases hm with ⟨rfl, rfl⟩ | ⟨rfl, rfl⟩ | ⟨rfl, rfl⟩ | ⟨rfl, rfl⟩ <;> simp; done) | (rcases hm with ⟨rfl, rfl⟩ | ⟨rfl, rfl⟩ | ⟨rfl, rfl⟩ | ⟨rfl, rfl⟩ | ⟨rfl, rfl⟩ <;> simp; done) | (rcases hm with ⟨rfl, rfl⟩ | ⟨rfl, rfl⟩ | ⟨rfl, rfl⟩ | ⟨rfl, rfl⟩ | ⟨rfl, rfl⟩ | ⟨rfl, rfl⟩ <;> simp; done)))) (by simp [SR, inObs, Pv.look]) ?_
        rintro r s' ⟨rfl, rfl⟩
        refine ⟨SR_same 303 _ _, ?_⟩
        unfold SR
        simp [without, sortB_length]
        simp [RetV, r_impl_MatchTerm, resL, resV, tup]
        have hmo : mOk p t = true := by simp_all [mOk]; omega
        simp [mBs, hmo, hm, sortB_perm hperm hnd]
      · obtain ⟨v, x⟩ := x
        have hment : ∀ f : Key → Option (List PV), f (.loc 2) = some (iterE m.length (seen ++ [b]) (.obj 302)) → f (.obj 302) = some (mE m) → mentV f (.ptr (.loc 2) 0) = some (True, .tuple [.int .i64 v, x.e]) := fun f h1 h2 => mentV_mE f (.loc 2) (.obj 302) m.length seen b m (v, x) h1 h2 rfl hx
        have hbl : b < m.length := (List.getElem?_eq_some_iff.1 hx).1
        have hsl := seen_lt hd hlt hbl hb
        simp [hment]
        (repeat' first | (with_reducible refine evCd_split (fun h => ?_) (fun h => ?_) <;> (try simp at h)) | (with_reducible refine evGd_split (fun h => ?_) (fun h => ?_) <;> (try simp at h)) | (with_reducible refine evDd_split (fun h => ?_) (fun h => ?_) <;> (try simp at h)) | with_reducible refine And.intro (by (first | omega | (unfold in64; omega))) ?_ | with_reducible refine CallDo.val (by simp) (v_copyTerm _) ?_ | with_reducible refine CallD.val (by simp) (v_copyTerm _) ?_ | simp)
        refine ⟨by unfold lim; omega, ?_⟩
        refine LoopQ.next (m.length - (seen.length + 1)) (by omega) ⟨seen ++ [b], xs ++ [⟨v, x⟩], nodup_snoc hd hb, (by simp; intro c hc; rcases hc with hc | rfl; exact hlt c hc; exact hbl), by simp, by rw [List.filterMap_append, List.map_append, ← hxs]; simp [hx, toB], by simp [hxl], rfl⟩ ⟨by simp [fresh, kinL, kin, iterE, inObs, Pv.look, kinL_mE, kinL_appT], (by intro k x hx; have hm := look_mem hx; clear hx; simp at hm; first | (obtain ⟨rfl, rfl⟩ := hm; simp [fresh, kinL, kin, iterE, inObs, Pv.look, kinL_mE, kinL_appT]; done) | (rcases hm with ⟨rfl, rfl⟩ | ⟨rfl, rfl⟩ <;> simp [fresh, kinL, kin, iterE, inObs, Pv.look, kinL_mE, kinL_appT]; done) | (rcases hm with ⟨rfl, rfl⟩ | ⟨rfl, rfl⟩ | ⟨rfl, rfl⟩ <;> simp [fresh, kinL, kin, iterE, inObs, Pv.look, kinL_mE, kinL_appT]; done) | (rcases hm with ⟨rfl, rfl⟩ | ⟨rfl, rfl⟩ | ⟨rfl, rfl⟩ | ⟨rfl, rfl⟩ <;> simp [fresh, kinL, kin, iterE, inObs, Pv.look, kinL_mE, kinL_appT]; done) | (rcases hm with ⟨rfl, rfl⟩ | ⟨rfl, rfl⟩ | ⟨rfl, rfl⟩ | ⟨rfl, rfl⟩ | ⟨rfl, rfl⟩ <;> simp [fresh, kinL, kin, iterE, inObs, Pv.look, kinL_mE, kinL_appT]; done) | (rcases hm with ⟨rfl, rfl⟩ | ⟨rfl, rfl⟩ | ⟨rfl, rfl⟩ | ⟨rfl, rfl⟩ | ⟨rfl, rfl⟩ | ⟨rfl, rfl⟩ <;> simp [fresh, kinL, kin, iterE, inObs, Pv.look, kinL_mE, kinL_appT]; done)), (by first | (simp [subE]; done) | (intro k x hx; have hm := look_mem hx; clear hx; simp at hm; obtain ⟨rfl, rfl⟩ := hm; simp [fresh, kinL, kin, kinO, inObs, Pv.look, kinL_mE, kinL_appT]; done)), by simp⟩
    · simp [RetV, r_impl_MatchTerm, resL, resV, tup]
      simp_all [mBs, mOk]
  all_goals simp [RetV, r_impl_MatchTerm, resL, resV, tup]
  all_goals simp_all [mBs, mOk]
open Classical in
/-- What ValuesOk computes. -/
noncomputable def valsOk (l : List Bd) : Bool := decide (ValsOk (l.map Bd.b))
theorem v_ValuesOkB (l : List Bd) : FnV Tryz.prog 22 [.slice 5 .no (l.map Bd.e)] (.bool (valsOk l)) := by
  have := v_ValuesOk (l.map Bd.b)
  have h : (l.map Bd.b).map Bt.e = l.map Bd.e := by rw [List.map_map]; exact List.map_congr_left fun b _ => Bd.b_e b
  rw [h] at this
  exact this
/-- What Instantiate computes. -/
noncomputable def instOk (t : T) (l : List Bd) : Bool := t.fit && valsOk l && putOk l t
theorem v_Instantiate (t : T) (l : List Bd) (hl : l.length ≤ 1000000) : FnV Tryz.prog 20 [t.e, .slice 5 .no (l.map Bd.e)] (.tuple [(if instOk t l then putT l t else .nil).e, .bool (instOk t l)]) := by
  refine FnV.mk mixed tysok f_impl_Instantiate ok_impl_Instantiate (by simp) (by simp [kin]) fun hbnd => ?_; unfold c_impl_Instantiate
  simp
  (repeat' first | (with_reducible refine evCd_split (fun h => ?_) (fun h => ?_) <;> (try simp at h)) | (with_reducible refine evGd_split (fun h => ?_) (fun h => ?_) <;> (try simp at h)) | (with_reducible refine evDd_split (fun h => ?_) (fun h => ?_) <;> (try simp at h)) | with_reducible refine And.intro (by (first | omega | (unfold in64; omega))) ?_ | with_reducible refine CallDo.val (by simp) (v_TermOkT _) ?_ | with_reducible refine CallD.val (by simp) (v_TermOkT _) ?_ | with_reducible refine CallDo.val (by simp) (v_ValuesOkB _) ?_ | with_reducible refine CallD.val (by simp) (v_ValuesOkB _) ?_ | with_reducible refine CallDo.val (by simp) (v_put _ _ hl) ?_ | with_reducible refine CallD.val (by simp) (v_put _ _ hl) ?_ | simp)
  all_goals simp [RetV, r_impl_Instantiate, resL, resV, tup]
  all_goals simp_all [instOk]
end Go.Proofs.YtchidkafcdmciaaGreat
