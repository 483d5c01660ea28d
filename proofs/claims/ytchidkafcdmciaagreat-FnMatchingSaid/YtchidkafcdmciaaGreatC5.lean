/- Contracts: instances. -/
import Derived.Test.YtchidkafcdmciaaGreatC4
set_option linter.all false
namespace Go.Proofs.YtchidkafcdmciaaGreat
open Go Go.Pv

/-- How many entries say something. -/
def says (x : Int × T) : Bool := !(decide (x.2 = .var x.1))
theorem is_var (x : T) (v : Int) : x = .var v ↔ x.kind = 1 ∧ x.int = v := by cases x <;> simp
theorem mtch_len (p : T) : ∀ (t : T) (m : List (Int × T)), (mtch p t m).2.length ≤ m.length + p.size := by
  induction p with
  | var n => intro t m; simp only [mtch]; split <;> simp [T.size]
  | pair a b iha ihb =>
    intro t m
    cases t with
    | pair c d =>
      simp only [mtch, T.size]
      have h1 := iha c m
      have h2 := ihb d (mtch a c m).2
      split
      · omega
      · simp only; omega
    | _ => simp [mtch, T.size]
  | _ => intro t m; cases t <;> simp [mtch, T.size]
def invInst (m : List (Int × T)) (k : Nat) (st : St) : Prop :=
  ∃ (seen : List Nat) (n : Nat), seen.Nodup ∧ (∀ b ∈ seen, b < m.length) ∧ k = m.length - seen.length ∧ n = ((seen.filterMap fun b => m[b]?).filter says).length ∧ st = ⟨[(6, .int .i64 n), (26, .ptr (.loc 2) 0)], [(.obj 301, mE m), (.loc 2, iterE m.length seen (.obj 301))], [], 3, [.obj 301]⟩
set_option maxHeartbeats 1000000 in
theorem v_IsInstance (t p : T) : FnV Tryz.prog 13 [t.e, p.e] (.bool (p.fit && t.fit && (mtch p t []).1 && decide (((mtch p t []).2.filter says).length ≤ 400))) := by
  refine FnV.mk mixed tysok f_impl_IsInstance ok_impl_IsInstance (by simp) (by simp [kin]) fun hbnd => ?_; unfold c_impl_IsInstance
  simp
  (repeat' first | (with_reducible refine evCd_split (fun h => ?_) (fun h => ?_) <;> (try simp at h)) | (with_reducible refine evGd_split (fun h => ?_) (fun h => ?_) <;> (try simp at h)) | (with_reducible refine evDd_split (fun h => ?_) (fun h => ?_) <;> (try simp at h)) | with_reducible refine And.intro (by (first | omega | (unfold in64; omega))) ?_ | with_reducible refine CallDo.val (by simp) (v_TermOkT _) ?_ | with_reducible refine CallD.val (by simp) (v_TermOkT _) ?_ | simp)
  · rename_i hp
    refine CallDo.ob (g_matched 301 p t []) (SM_ok 301 _) (by unfold SM; exact (by intro k x hx; first | exact hx | (simp [hx, without_self]; done) | (simp [look_app, without_self, hx]; done) | (cases k <;> simp_all [look_app]; done) | (have hm := look_mem hx; clear hx; simp at hm; first | (obtain ⟨rfl, rfl⟩ := hm; simp; done) | (rcases hm with ⟨rfl, rfl⟩ | ⟨rfl, rfl⟩ <;> simp; done) | (rcases hm with ⟨rfl, rfl⟩ | ⟨rfl, rfl⟩ | ⟨rfl, rfl⟩ <;> simp; done) | (rcases hm with ⟨rfl, rfl⟩ | ⟨rfl, rfl⟩ | ⟨rfl, rfl⟩ | ⟨rfl, rfl⟩ <;> simp; done) | (rcases hm with ⟨rfl, rfl⟩ | ⟨rfl, rfl⟩ | ⟨rfl, rfl⟩ | ⟨rfl, rfl⟩ | ⟨rfl, rfl⟩ <;> simp; done) | (rcases hm with ⟨rfl, rfl⟩ | ⟨rfl, rfl⟩ | ⟨rfl, rfl⟩ | ⟨rfl, rfl⟩ | ⟨rfl, rfl⟩ | ⟨rfl, rfl⟩ <;> simp; done)))) (by unfold SM; exact (by intro k x hx; first | exact hx | (simp [hx, without_self]; done) | (simp [look_app, without_self, hx]; done) | (cases k <;> simp_all [look_app]; done) | (have hm := look_mem hx; clear hx; simp at hm; first | (obtain ⟨rfl, rfl⟩ := hm; simp; done) | (rcases hm with ⟨rfl, rfl⟩ | ⟨rfl, rfl⟩ <;> simp; done) | (rcases hm with ⟨rfl, rfl⟩ | ⟨rfl, rfl⟩ | ⟨rfl, rfl⟩ <;> simp; done) | (rcases hm with ⟨rfl, rfl⟩ | ⟨rfl, rfl⟩ | ⟨rfl, rfl⟩ | ⟨rfl, rfl⟩ <;> simp; done) | (rcases hm with ⟨rfl, rfl⟩ | ⟨rfl, rfl⟩ | ⟨rfl, rfl⟩ | ⟨rfl, rfl⟩ | ⟨rfl, rfl⟩ <;> simp; done) | (rcases hm with ⟨rfl, rfl⟩ | ⟨rfl, rfl⟩ | ⟨rfl, rfl⟩ | ⟨rfl, rfl⟩ | ⟨rfl, rfl⟩ | ⟨rfl, rfl⟩ <;> simp; done)))) (by simp [inObs, SM]) ?_
    rintro r s' ⟨rfl, rfl⟩
    refine ⟨SM_same 301 _ _, ?_⟩
    generalize hm : mtch p t [] = res
    obtain ⟨ok, m⟩ := res
    unfold SM
    simp [without]
    (repeat' first | (with_reducible refine evCd_split (fun h => ?_) (fun h => ?_) <;> (try simp at h)) | (with_reducible refine evGd_split (fun h => ?_) (fun h => ?_) <;> (try simp at h)) | (with_reducible refine evDd_split (fun h => ?_) (fun h => ?_) <;> (try simp at h)) | with_reducible refine And.intro (by (first | omega | (unfold in64; omega))) ?_ | simp)
    · simp [RetV, r_impl_IsInstance, resL, resV, tup]
      simp_all
    · refine evC_loop (invInst m) m.length _ ⟨by simp [fresh, kinL, kin, iterE, inObs, Pv.look, kinL_mE], (by intro k x hx; have hm := look_mem hx; clear hx; simp at hm; first | (obtain ⟨rfl, rfl⟩ := hm; simp [fresh, kinL, kin, iterE, inObs, Pv.look, kinL_mE]; done) | (rcases hm with ⟨rfl, rfl⟩ | ⟨rfl, rfl⟩ <;> simp [fresh, kinL, kin, iterE, inObs, Pv.look, kinL_mE]; done) | (rcases hm with ⟨rfl, rfl⟩ | ⟨rfl, rfl⟩ | ⟨rfl, rfl⟩ <;> simp [fresh, kinL, kin, iterE, inObs, Pv.look, kinL_mE]; done) | (rcases hm with ⟨rfl, rfl⟩ | ⟨rfl, rfl⟩ | ⟨rfl, rfl⟩ | ⟨rfl, rfl⟩ <;> simp [fresh, kinL, kin, iterE, inObs, Pv.look, kinL_mE]; done) | (rcases hm with ⟨rfl, rfl⟩ | ⟨rfl, rfl⟩ | ⟨rfl, rfl⟩ | ⟨rfl, rfl⟩ | ⟨rfl, rfl⟩ <;> simp [fresh, kinL, kin, iterE, inObs, Pv.look, kinL_mE]; done) | (rcases hm with ⟨rfl, rfl⟩ | ⟨rfl, rfl⟩ | ⟨rfl, rfl⟩ | ⟨rfl, rfl⟩ | ⟨rfl, rfl⟩ | ⟨rfl, rfl⟩ <;> simp [fresh, kinL, kin, iterE, inObs, Pv.look, kinL_mE]; done)), (by first | (simp [subE]; done) | (intro k x hx; have hm := look_mem hx; clear hx; simp at hm; obtain ⟨rfl, rfl⟩ := hm; simp [fresh, kinL, kin, kinO, inObs, Pv.look, kinL_mE]; done)), by simp⟩ ⟨[], 0, by simp, by simp, by simp, by simp, rfl⟩ ?_
      rintro k st ⟨seen, n, hd, hlt, hk, hn, rfl⟩ hbt hbb
      clear hbt hbb
      simp
      refine ev1n_mE (mk := .obj 301) (seen := seen) (l := m) (by simp) (by simp) rfl (fun hall => ?_) (fun b x hx hb => ?_)
      · simp
        have hperm := seen_all hd hlt hall
        have hnn : n = (m.filter says).length := by rw [hn]; exact (hperm.filter _).length_eq
        simp [RetV, r_impl_IsInstance, resL, resV, tup]
        rw [← hnn]
        simp_all
        omega
      · have hbl : b < m.length := (List.getElem?_eq_some_iff.1 hx).1
        have hsl := seen_lt hd hlt hbl hb
        have hml : m.length ≤ 5000 := by
          have h1 := mtch_len p t []
          rw [hm] at h1
          simp [T.fit] at hp h1
          omega
        have hnl : n ≤ seen.length := by
          rw [hn]
          exact Nat.le_trans (List.length_filter_le _ _) (List.length_filterMap_le _ _)
        obtain ⟨v, x⟩ := x
        have hment : ∀ f : Key → Option (List PV), f (.loc 2) = some (iterE m.length (seen ++ [b]) (.obj 301)) → f (.obj 301) = some (mE m) → mentV f (.ptr (.loc 2) 0) = some (True, .tuple [.int .i64 v, x.e]) := fun f h1 h2 => mentV_mE f (.loc 2) (.obj 301) m.length seen b m (v, x) h1 h2 rfl hx
        have hstep : ((((seen ++ [b]).filterMap fun b => m[b]?).filter says).length : Int) = n + (if x.kind = 1 ∧ x.int = v then 0 else 1) := by
          rw [List.filterMap_append, List.filter_append, List.length_append, ← hn]
          simp only [List.filterMap_cons, hx, List.filterMap_nil, List.filter_cons, says, is_var]
          by_cases h : x.kind = 1 ∧ x.int = v <;> simp [h]
        simp [hment]
        (repeat' first | (with_reducible refine evCd_split (fun h => ?_) (fun h => ?_) <;> (try simp at h)) | (with_reducible refine evGd_split (fun h => ?_) (fun h => ?_) <;> (try simp at h)) | (with_reducible refine evDd_split (fun h => ?_) (fun h => ?_) <;> (try simp at h)) | with_reducible refine And.intro (by (first | omega | (unfold in64; omega))) ?_ | simp)
        all_goals refine LoopQ.next (m.length - (seen.length + 1)) (by omega) ⟨seen ++ [b], _, nodup_snoc hd hb, (by simp; intro c hc; rcases hc with hc | rfl; exact hlt c hc; exact hbl), by simp, rfl, rfl⟩ ⟨by simp [fresh, kinL, kin, iterE, inObs, Pv.look, kinL_mE, -List.filterMap_append, hstep, *], (by intro k x hx; have hm := look_mem hx; clear hx; simp at hm; first | (obtain ⟨rfl, rfl⟩ := hm; simp [fresh, kinL, kin, iterE, inObs, Pv.look, kinL_mE, -List.filterMap_append, hstep, *]; done) | (rcases hm with ⟨rfl, rfl⟩ | ⟨rfl, rfl⟩ <;> simp [fresh, kinL, kin, iterE, inObs, Pv.look, kinL_mE, -List.filterMap_append, hstep, *]; done) | (rcases hm with ⟨rfl, rfl⟩ | ⟨rfl, rfl⟩ | ⟨rfl, rfl⟩ <;> simp [fresh, kinL, kin, iterE, inObs, Pv.look, kinL_mE, -List.filterMap_append, hstep, *]; done) | (rcases hm with ⟨rfl, rfl⟩ | ⟨rfl, rfl⟩ | ⟨rfl, rfl⟩ | ⟨rfl, rfl⟩ <;> simp [fresh, kinL, kin, iterE, inObs, Pv.look, kinL_mE, -List.filterMap_append, hstep, *]; done) | (rcases hm with ⟨rfl, rfl⟩ | ⟨rfl, rfl⟩ | ⟨rfl, rfl⟩ | ⟨rfl, rfl⟩ | ⟨rfl, rfl⟩ <;> simp [fresh, kinL, kin, iterE, inObs, Pv.look, kinL_mE, -List.filterMap_append, hstep, *]; done) | (rcases hm with ⟨rfl, rfl⟩ | ⟨rfl, rfl⟩ | ⟨rfl, rfl⟩ | ⟨rfl, rfl⟩ | ⟨rfl, rfl⟩ | ⟨rfl, rfl⟩ <;> simp [fresh, kinL, kin, iterE, inObs, Pv.look, kinL_mE, -List.filterMap_append, hstep, *]; done)), (by first | (simp [subE]; done) | (intro k x hx; have hm := look_mem hx; clear hx; simp at hm; obtain ⟨rfl, rfl⟩ := hm; simp [fresh, kinL, kin, kinO, inObs, Pv.look, kinL_mE, -List.filterMap_append, hstep, *]; done)), by simp⟩
  all_goals simp [RetV, r_impl_IsInstance, resL, resV, tup]
  all_goals simp_all
end Go.Proofs.YtchidkafcdmciaaGreat
