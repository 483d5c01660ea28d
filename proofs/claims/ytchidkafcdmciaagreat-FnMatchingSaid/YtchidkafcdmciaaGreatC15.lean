/- Contracts: sameness. -/
import Derived.Test.YtchidkafcdmciaaGreatC14
set_option linter.all false
namespace Go.Proofs.YtchidkafcdmciaaGreat
open Go Go.Pv

theorem T_ext {t u : T} (h1 : t.kind = u.kind) (h2 : t.int = u.int) (h3 : t.name = u.name) (h4 : t.args = u.args) : t = u := by
  cases t <;> cases u <;> simp_all
def invSame (t u : T) (k : Nat) (st : St) : Prop :=
  ∃ i : Nat, i ≤ t.args.length ∧ k = t.args.length - i ∧ t.args.take i = u.args.take i ∧ st = ⟨[(3, .ptr (.loc 1) 0), (36, .slice 4 .no (t.args.map T.e)), (37, .int .i64 t.args.length), (38, .int .i64 i)], [(.loc 1, [.int .i64 u.kind, .int .i64 u.int, .str u.name, .slice 4 .no (u.args.map T.e)])], [], 2, []⟩
set_option maxHeartbeats 1000000 in
set_option maxRecDepth 4000 in
theorem v_sameG (t : T) (ih : ∀ x ∈ t.args, ∀ u : T, FnV Tryz.prog 15 [x.e, u.e] (.bool (decide (x = u)))) (u : T) : FnV Tryz.prog 15 [t.e, u.e] (.bool (decide (t = u))) := by
  have hle : t.args.length ≤ 2 := by cases t <;> simp
  refine FnV.mk mixed tysok f_laws_same ok_laws_same (by simp) (by simp [kin]) fun hbnd => ?_; unfold c_laws_same
  simp
  (repeat' first | (with_reducible refine evCd_split (fun h => ?_) (fun h => ?_) <;> (try simp at h)) | (with_reducible refine evGd_split (fun h => ?_) (fun h => ?_) <;> (try simp at h)) | (with_reducible refine evDd_split (fun h => ?_) (fun h => ?_) <;> (try simp at h)) | with_reducible refine And.intro (by (first | omega | (unfold in64; omega))) ?_ | simp)
  · simp [RetV, r_laws_same, resL, resV, tup]
    intro e; subst e; simp_all
  · refine evC_loop (invSame t u) t.args.length _ ⟨by simp [fresh, kinL, kin, iterE, inObs, Pv.look], (by intro k x hx; have hm := look_mem hx; clear hx; simp at hm; first | (obtain ⟨rfl, rfl⟩ := hm; simp [fresh, kinL, kin, iterE, inObs, Pv.look]; done) | (rcases hm with ⟨rfl, rfl⟩ | ⟨rfl, rfl⟩ <;> simp [fresh, kinL, kin, iterE, inObs, Pv.look]; done) | (rcases hm with ⟨rfl, rfl⟩ | ⟨rfl, rfl⟩ | ⟨rfl, rfl⟩ <;> simp [fresh, kinL, kin, iterE, inObs, Pv.look]; done) | (rcases hm with ⟨rfl, rfl⟩ | ⟨rfl, rfl⟩ | ⟨rfl, rfl⟩ | ⟨rfl, rfl⟩ <;> simp [fresh, kinL, kin, iterE, inObs, Pv.look]; done) | (rcases hm with ⟨rfl, rfl⟩ | ⟨rfl, rfl⟩ | ⟨rfl, rfl⟩ | ⟨rfl, rfl⟩ | ⟨rfl, rfl⟩ <;> simp [fresh, kinL, kin, iterE, inObs, Pv.look]; done) | (rcases hm with ⟨rfl, rfl⟩ | ⟨rfl, rfl⟩ | ⟨rfl, rfl⟩ | ⟨rfl, rfl⟩ | ⟨rfl, rfl⟩ | ⟨rfl, rfl⟩ <;> simp [fresh, kinL, kin, iterE, inObs, Pv.look]; done)), (by first | (simp [subE]; done) | (intro k x hx; have hm := look_mem hx; clear hx; simp at hm; obtain ⟨rfl, rfl⟩ := hm; simp [fresh, kinL, kin, kinO, inObs, Pv.look]; done)), by simp⟩ ⟨0, by omega, by omega, by simp, rfl⟩ ?_
    rintro k st ⟨i, hi, hk, htk, rfl⟩ hbt hbb
    clear hbt hbb
    by_cases hlt : i < t.args.length
    · have hlu : i < u.args.length := by omega
      simp [hlt, hlu]
      (repeat' first | (with_reducible refine evCd_split (fun h => ?_) (fun h => ?_) <;> (try simp at h)) | (with_reducible refine evGd_split (fun h => ?_) (fun h => ?_) <;> (try simp at h)) | (with_reducible refine evDd_split (fun h => ?_) (fun h => ?_) <;> (try simp at h)) | with_reducible refine And.intro (by (first | omega | (unfold in64; omega))) ?_ | with_reducible refine CallDo.val (by simp) (ih _ (List.getElem_mem hlt) _) ?_ | with_reducible refine CallD.val (by simp) (ih _ (List.getElem_mem hlt) _) ?_ | simp)
      · simp [RetV, r_laws_same, resL, resV, tup]
        intro e; subst e; simp_all
      · refine LoopQ.next (t.args.length - (i + 1)) (by omega) ⟨i + 1, by omega, rfl, ?_, rfl⟩ ⟨by simp [fresh, kinL, kin, iterE, inObs, Pv.look], (by intro k x hx; have hm := look_mem hx; clear hx; simp at hm; first | (obtain ⟨rfl, rfl⟩ := hm; simp [fresh, kinL, kin, iterE, inObs, Pv.look]; done) | (rcases hm with ⟨rfl, rfl⟩ | ⟨rfl, rfl⟩ <;> simp [fresh, kinL, kin, iterE, inObs, Pv.look]; done) | (rcases hm with ⟨rfl, rfl⟩ | ⟨rfl, rfl⟩ | ⟨rfl, rfl⟩ <;> simp [fresh, kinL, kin, iterE, inObs, Pv.look]; done) | (rcases hm with ⟨rfl, rfl⟩ | ⟨rfl, rfl⟩ | ⟨rfl, rfl⟩ | ⟨rfl, rfl⟩ <;> simp [fresh, kinL, kin, iterE, inObs, Pv.look]; done) | (rcases hm with ⟨rfl, rfl⟩ | ⟨rfl, rfl⟩ | ⟨rfl, rfl⟩ | ⟨rfl, rfl⟩ | ⟨rfl, rfl⟩ <;> simp [fresh, kinL, kin, iterE, inObs, Pv.look]; done) | (rcases hm with ⟨rfl, rfl⟩ | ⟨rfl, rfl⟩ | ⟨rfl, rfl⟩ | ⟨rfl, rfl⟩ | ⟨rfl, rfl⟩ | ⟨rfl, rfl⟩ <;> simp [fresh, kinL, kin, iterE, inObs, Pv.look]; done)), (by first | (simp [subE]; done) | (intro k x hx; have hm := look_mem hx; clear hx; simp at hm; obtain ⟨rfl, rfl⟩ := hm; simp [fresh, kinL, kin, kinO, inObs, Pv.look]; done)), by simp⟩
        rw [List.take_succ, List.take_succ, htk, List.getElem?_eq_getElem hlt, List.getElem?_eq_getElem hlu, h]
    · simp [hlt]
      (repeat' first | (with_reducible refine evCd_split (fun h => ?_) (fun h => ?_) <;> (try simp at h)) | (with_reducible refine evGd_split (fun h => ?_) (fun h => ?_) <;> (try simp at h)) | (with_reducible refine evDd_split (fun h => ?_) (fun h => ?_) <;> (try simp at h)) | with_reducible refine And.intro (by (first | omega | (unfold in64; omega))) ?_ | simp)
      simp [RetV, r_laws_same, resL, resV, tup]
      have : t.args = u.args := by
        rw [List.take_of_length_le (by omega), List.take_of_length_le (by omega)] at htk
        exact htk
      simp_all
      exact T_ext (by assumption) (by assumption) (by assumption) (by assumption)
  all_goals simp [RetV, r_laws_same, resL, resV, tup]
  all_goals (intro e; subst e; simp_all)
theorem v_same (t : T) : ∀ u : T, FnV Tryz.prog 15 [t.e, u.e] (.bool (decide (t = u))) := by
  induction t with
  | pair a b iha ihb =>
    refine v_sameG _ fun x hx => ?_
    simp at hx
    rcases hx with rfl | rfl
    · exact iha
    · exact ihb
  | _ => exact v_sameG _ fun x hx => by simp at hx
end Go.Proofs.YtchidkafcdmciaaGreat
