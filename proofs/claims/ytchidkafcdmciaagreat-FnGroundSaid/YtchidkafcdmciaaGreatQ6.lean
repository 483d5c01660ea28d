/- Contracts: ground instances. -/
import Derived.Test.YtchidkafcdmciaaGreatQ5
set_option linter.all false
namespace Go.Proofs.YtchidkafcdmciaaGreat
open Go Go.Pv

theorem pwr_pow {b : Nat} (hb : 0 < b) : ∀ n out, pwr b n out ≤ 512 → out * b ^ n ≤ 512
  | 0, out, h => by simpa [pwr] using h
  | n + 1, out, h => by
    simp only [pwr] at h
    split at h
    · have := pwr_pow hb n (out * b) h
      rw [Nat.pow_succ, Nat.mul_comm (b ^ n), ← Nat.mul_assoc]; exact this
    · rename_i hc
      have : b = 1 := by omega
      subst this
      simp; exact h
theorem powr_pow {b n : Nat} (hb : 0 < b) (h : powr b n ≤ 512) : b ^ n ≤ 512 := by
  have := pwr_pow hb n 1 (by unfold powr at h; omega)
  omega
theorem asgn_len (u : List T) : ∀ (vars : List Int) (rows : List (List Bd)), (asgn u vars rows).length = rows.length * u.length ^ vars.length
  | [], rows => by simp [asgn]
  | v :: vs, rows => by
    simp only [asgn, asgn_len u vs, flat_ext_len, List.length_cons, Nat.pow_succ]
    rw [Nat.mul_assoc, Nat.mul_comm u.length]
theorem asgn_row {u : List T} (hu : 0 < u.length) {vars : List Int} {i : Nat} {rows : List (List Bd)} (h : asgn u (vars.drop i) rows = asgn u vars [[]]) {r : List Bd} (hr : r ∈ rows) : r.length ≤ vars.length := by
  obtain ⟨x, hx⟩ : ∃ x, x ∈ u := ⟨u[0], List.getElem_mem hu⟩
  have h1 : r ++ ((vars.drop i).zip (List.replicate (vars.drop i).length x)).map (fun p => (⟨p.1, p.2⟩ : Bd)) ∈ asgn u (vars.drop i) rows := by
    rw [mem_asgn]
    exact ⟨r, hr, List.replicate (vars.drop i).length x, by simp, fun t ht => by rw [(List.mem_replicate.1 ht).2]; exact hx, rfl⟩
  rw [h, mem_asgn] at h1
  obtain ⟨r0, h2, ts, h3, _, h4⟩ := h1
  simp at h2
  subst h2
  have := congrArg List.length h4
  simp at this
  omega
theorem asgn_rlen {u : List T} {vars : List Int} {r : List Bd} (hr : r ∈ asgn u vars [[]]) : r.length = vars.length := by
  rw [mem_asgn] at hr
  obtain ⟨r0, h2, ts, h3, _, rfl⟩ := hr
  simp at h2
  subst h2
  simp [h3]
theorem tvars_le {t : T} (ht : t.fit = true) : (tvars t).length ≤ 5000 := by
  simp only [tvars, ht, if_true, sortI_length]
  have h1 := fold_len t []
  simp only [T.fit, Bool.and_eq_true, decide_eq_true_eq] at ht
  simp at h1
  omega
/-- What GroundInstances computes. -/
def giOk (t : T) (u : List T) : Bool := t.fit && uniOk u && decide (powr u.length (tvars t).length ≤ 512) && (asgn u (tvars t) [[]]).all fun r => putOk r t
def gi (t : T) (u : List T) : List T := if giOk t u then asc ordT ((asgn u (tvars t) [[]]).map fun r => putT r t) else []
def jGi (t : T) (rows : List (List Bd)) (i : Nat) (acc : List T) : Prop := (∀ r ∈ rows.take i, putOk r t = true) ∧ acc = (rows.take i).map fun r => putT r t
set_option maxHeartbeats 1000000 in
set_option maxRecDepth 4000 in
theorem v_GroundInstances (t : T) (u : List T) : FnV Tryz.prog 10 [t.e, .slice 4 .no (u.map T.e)] (.slice 4 .no ((gi t u).map T.e)) := by
  cases ht : t.fit with
  | false =>
    refine FnV.mk mixed tysok2 f_impl_GroundInstances ok_impl_GroundInstances (by simp) (by simp [kin]) fun hbnd => ?_; unfold c_impl_GroundInstances
    ((repeat' first | with_reducible refine And.intro (by (first | omega | (unfold in64; omega) | (unfold lim; omega))) ?_ | with_reducible refine CallDo.val (by simp) (v_TermOkT _) ?_ | with_reducible refine CallD.val (by simp) (v_TermOkT _) ?_ | with_reducible refine CallDo.val (by simp) (v_UniverseOk _) ?_ | with_reducible refine CallD.val (by simp) (v_UniverseOk _) ?_ | simp [ht] | (with_reducible refine evCd_split (fun h => ?_) (fun h => ?_) <;> (try simp at h)) | (with_reducible refine evGd_split (fun h => ?_) (fun h => ?_) <;> (try simp at h)) | (with_reducible refine evDd_split (fun h => ?_) (fun h => ?_) <;> (try simp at h))) <;> (try first | contradiction | (exfalso; omega)))
    simp [RetV, r_impl_GroundInstances, resL, resV, tup]
    simp [gi, giOk, ht]
  | true =>
    cases hu : uniOk u with
    | false =>
      refine FnV.mk mixed tysok2 f_impl_GroundInstances ok_impl_GroundInstances (by simp) (by simp [kin]) fun hbnd => ?_; unfold c_impl_GroundInstances
      ((repeat' first | with_reducible refine And.intro (by (first | omega | (unfold in64; omega) | (unfold lim; omega))) ?_ | with_reducible refine CallDo.val (by simp) (v_TermOkT _) ?_ | with_reducible refine CallD.val (by simp) (v_TermOkT _) ?_ | with_reducible refine CallDo.val (by simp) (v_UniverseOk _) ?_ | with_reducible refine CallD.val (by simp) (v_UniverseOk _) ?_ | simp [ht, hu] | (with_reducible refine evCd_split (fun h => ?_) (fun h => ?_) <;> (try simp at h)) | (with_reducible refine evGd_split (fun h => ?_) (fun h => ?_) <;> (try simp at h)) | (with_reducible refine evDd_split (fun h => ?_) (fun h => ?_) <;> (try simp at h))) <;> (try first | contradiction | (exfalso; omega)))
      simp [RetV, r_impl_GroundInstances, resL, resV, tup]
      simp [gi, giOk, ht, hu]
    | true =>
      have hul := ((uniOk_iff u).1 hu).1
      have hvl := tvars_le ht
      by_cases hp : powr u.length (tvars t).length ≤ 512
      · have hpow := powr_pow (by omega) hp
        have hrl : (asgn u (tvars t) [[]]).length ≤ 512 := by rw [asgn_len]; simpa using hpow
        have hA := v_assignments (tvars t) u (by omega) (by omega) (by omega) fun i rows h r hr => Nat.le_trans (asgn_row (by omega) h hr) (by omega)
        have hrr : ∀ r ∈ asgn u (tvars t) [[]], r.length ≤ 1000000 := fun r hr => by rw [asgn_rlen hr]; omega
        have hp2 : ¬(512 : Int) < powr u.length (tvars t).length := by omega
        obtain ⟨rows, hrows⟩ : ∃ rows, rows = asgn u (tvars t) [[]] := ⟨_, rfl⟩
        have hgi : giOk t u = rows.all fun r => putOk r t := by simp [giOk, ht, hu, hp, hrows]
        have hgi2 : giOk t u = true → gi t u = asc ordT (rows.map fun r => putT r t) := fun h => by rw [gi, if_pos h, hrows]
        rw [← hrows] at hA hrr hrl
        refine FnV.mk mixed tysok2 f_impl_GroundInstances ok_impl_GroundInstances (by simp) (by simp [kin]) fun hbnd => ?_; unfold c_impl_GroundInstances
        ((repeat' first | with_reducible refine And.intro (by (first | omega | (unfold in64; omega) | (unfold lim; omega))) ?_ | with_reducible refine CallDo.val (by simp) (v_TermOkT _) ?_ | with_reducible refine CallD.val (by simp) (v_TermOkT _) ?_ | with_reducible refine CallDo.val (by simp) (v_UniverseOk _) ?_ | with_reducible refine CallD.val (by simp) (v_UniverseOk _) ?_ | with_reducible refine CallDo.val (by simp) (v_TermVars _) ?_ | with_reducible refine CallD.val (by simp) (v_TermVars _) ?_ | with_reducible refine CallDo.val (by simp) (v_power _ _ (by omega) (by omega)) ?_ | with_reducible refine CallD.val (by simp) (v_power _ _ (by omega) (by omega)) ?_ | with_reducible refine CallDo.val (by simp) (hA) ?_ | with_reducible refine CallD.val (by simp) (hA) ?_ | simp [ht, hu, hp2] | (with_reducible refine evCd_split (fun h => ?_) (fun h => ?_) <;> (try simp at h)) | (with_reducible refine evGd_split (fun h => ?_) (fun h => ?_) <;> (try simp at h)) | (with_reducible refine evDd_split (fun h => ?_) (fun h => ?_) <;> (try simp at h))) <;> (try first | contradiction | (exfalso; omega)))
        refine evC_rng (fun i (acc : List T) => ⟨[(2, .ptr (.loc 0) 0), (30, .slice 1 .no (rows.map rowE)), (31, .int .i64 rows.length), (6, .slice 4 (.own (.loc 1)) (acc.map T.e)), (32, .int .i64 i)], [(.loc 0, [.int .i64 t.kind, .int .i64 t.int, .str t.name, .slice 4 .no (t.args.map T.e)])], [(.loc 1, ⟨acc.length, 26, 4, none⟩)], 2, []⟩) rows.length (jGi t rows) [] ⟨by simp [fresh, kinL, kin, iterE, inObs, Pv.look], subB_of (by simp [fresh, kinL, kin, iterE, inObs, Pv.look]), subE_of (by simp [fresh, kinL, kin, kinO, inObs, Pv.look]), by simp⟩ ⟨by simp, by simp⟩ (fun acc hj _ => ?_) (fun i acc hi hj _ => ?_)
        · obtain ⟨h1, h2⟩ := hj
          rw [List.take_length] at h1 h2
          have hok : giOk t u = true := by rw [hgi]; simpa using h1
          have hal : acc.length ≤ 512 := by rw [h2]; simpa using hrl
          ((repeat' first | with_reducible refine And.intro (by (first | omega | (unfold in64; omega) | (unfold lim; omega))) ?_ | with_reducible refine CallDo.val (by simp) (v_ascending _ (by omega)) ?_ | with_reducible refine CallD.val (by simp) (v_ascending _ (by omega)) ?_ | simp | (with_reducible refine evCd_split (fun h => ?_) (fun h => ?_) <;> (try simp at h)) | (with_reducible refine evGd_split (fun h => ?_) (fun h => ?_) <;> (try simp at h)) | (with_reducible refine evDd_split (fun h => ?_) (fun h => ?_) <;> (try simp at h))) <;> (try first | contradiction | (exfalso; omega)))
          simp [RetV, r_impl_GroundInstances, resL, resV, tup]
          rw [hgi2 hok, h2]
        · obtain ⟨h1, h2⟩ := hj
          obtain ⟨r, hr⟩ : ∃ r, rows[i]? = some r := ⟨_, List.getElem?_eq_getElem hi⟩
          have hr2 : ∀ h, rows[i]'h = r := fun h => by rw [List.getElem?_eq_getElem h] at hr; simpa using hr
          have hrm := List.mem_of_getElem? hr
          have hre : rowE r = .slice 5 .no (r.map Bd.e) := rfl
          have hal : acc.length ≤ 512 := by rw [h2]; simp; omega
          cases hok : putOk r t with
          | false =>
            ((repeat' first | with_reducible refine And.intro (by (first | omega | (unfold in64; omega) | (unfold lim; omega))) ?_ | with_reducible refine CallDo.val (by simp) (v_put _ _ (hrr r hrm)) ?_ | with_reducible refine CallD.val (by simp) (v_put _ _ (hrr r hrm)) ?_ | simp [hi, hr, hr2, hre, hok] | (with_reducible refine evCd_split (fun h => ?_) (fun h => ?_) <;> (try simp at h)) | (with_reducible refine evGd_split (fun h => ?_) (fun h => ?_) <;> (try simp at h)) | (with_reducible refine evDd_split (fun h => ?_) (fun h => ?_) <;> (try simp at h))) <;> (try first | contradiction | (exfalso; omega)))
            simp [RetV, r_impl_GroundInstances, resL, resV, tup]
            have hno : giOk t u = false := by rw [hgi, List.all_eq_false]; exact ⟨r, hrm, by simp [hok]⟩
            simp [gi, hno]
          | true =>
            ((repeat' first | with_reducible refine And.intro (by (first | omega | (unfold in64; omega) | (unfold lim; omega))) ?_ | with_reducible refine CallDo.val (by simp) (v_put _ _ (hrr r hrm)) ?_ | with_reducible refine CallD.val (by simp) (v_put _ _ (hrr r hrm)) ?_ | simp [hi, hr, hr2, hre, hok] | (with_reducible refine evCd_split (fun h => ?_) (fun h => ?_) <;> (try simp at h)) | (with_reducible refine evGd_split (fun h => ?_) (fun h => ?_) <;> (try simp at h)) | (with_reducible refine evDd_split (fun h => ?_) (fun h => ?_) <;> (try simp at h))) <;> (try first | contradiction | (exfalso; omega)))
            refine LoopQ.rng (acc ++ [putT r t]) hi ⟨?_, ?_⟩ ⟨by simp [fresh, kinL, kin, iterE, inObs, Pv.look, kinL_appT], subB_of (by simp [fresh, kinL, kin, iterE, inObs, Pv.look, kinL_appT]), subE_of (by simp [fresh, kinL, kin, kinO, inObs, Pv.look, kinL_appT]), by simp⟩
            · rw [List.take_succ, hr]
              intro x hx
              rcases List.mem_append.1 hx with hx | hx
              · exact h1 x hx
              · simp at hx; subst hx; exact hok
            · rw [List.take_succ, hr, h2]; simp
      · have hp2 : (512 : Int) < powr u.length (tvars t).length := by omega
        refine FnV.mk mixed tysok2 f_impl_GroundInstances ok_impl_GroundInstances (by simp) (by simp [kin]) fun hbnd => ?_; unfold c_impl_GroundInstances
        ((repeat' first | with_reducible refine And.intro (by (first | omega | (unfold in64; omega) | (unfold lim; omega))) ?_ | with_reducible refine CallDo.val (by simp) (v_TermOkT _) ?_ | with_reducible refine CallD.val (by simp) (v_TermOkT _) ?_ | with_reducible refine CallDo.val (by simp) (v_UniverseOk _) ?_ | with_reducible refine CallD.val (by simp) (v_UniverseOk _) ?_ | with_reducible refine CallDo.val (by simp) (v_TermVars _) ?_ | with_reducible refine CallD.val (by simp) (v_TermVars _) ?_ | with_reducible refine CallDo.val (by simp) (v_power _ _ (by omega) (by omega)) ?_ | with_reducible refine CallD.val (by simp) (v_power _ _ (by omega) (by omega)) ?_ | simp [ht, hu, hp2] | (with_reducible refine evCd_split (fun h => ?_) (fun h => ?_) <;> (try simp at h)) | (with_reducible refine evGd_split (fun h => ?_) (fun h => ?_) <;> (try simp at h)) | (with_reducible refine evDd_split (fun h => ?_) (fun h => ?_) <;> (try simp at h))) <;> (try first | contradiction | (exfalso; omega)))
        simp [RetV, r_impl_GroundInstances, resL, resV, tup]
        simp [gi, giOk, ht, hu, hp]
end Go.Proofs.YtchidkafcdmciaaGreat
/- Contracts: ground terms up to size 3. -/
set_option linter.all false
namespace Go.Proofs.YtchidkafcdmciaaGreat
open Go Go.Pv

def gtM (u acc : List T) : List PV := mapE ((1, .slice 4 .no (u.map T.e)) :: (if acc = [] then [] else [(3, .slice 4 (.own (.loc 33)) (acc.map T.e))]))
def gtE (u acc : List T) : List (Key × Own) := (.loc 1, ⟨u.length, 26, 4, none⟩) :: (if acc = [] then [] else [(.loc 33, ⟨acc.length, 26, 4, none⟩)])
def gtO (acc : List T) : List Key := if acc = [] then [] else [.loc 33]
def prs (u : List T) (x : T) : List T := u.map fun y => .pair x y
theorem kinL_gtM (S : Key → Prop) (h : S (.loc 33)) (u acc : List T) : kinL S (gtM u acc) := by
  unfold gtM mapE
  split <;> simp [flat, kinL, kin, h]
def gt0 (u : List T) (b : Bool) : St := match b with
  | false => ⟨[(1, .int .i64 3), (5, .gmap (.loc 0)), (6, .slice 4 (.own (.loc 1)) (u.map T.e)), (7, .int .i64 3)], [(.loc 0, gtM u [])], gtE u [], 2, []⟩
  | true => ⟨[(1, .int .i64 3), (6, .slice 4 (.own (.loc 1)) ((u ++ u.flatMap (prs u)).map T.e)), (7, .int .i64 5)], [], [(.loc 1, ⟨(u ++ u.flatMap (prs u)).length, 26, 4, none⟩)], 2, []⟩
def gt1 (u : List T) (b : Bool) : St := match b with
  | false => ⟨[(1, .int .i64 3), (5, .gmap (.loc 0)), (6, .slice 4 (.own (.loc 1)) (u.map T.e)), (7, .int .i64 3), (8, .int .i64 1)], [(.loc 0, gtM u [])], gtE u [], 2, []⟩
  | true => ⟨[(1, .int .i64 3), (5, .gmap (.loc 0)), (6, .slice 4 (.own (.loc 1)) (u.map T.e)), (7, .int .i64 3), (8, .int .i64 3)], [(.loc 0, gtM u (u.flatMap (prs u)))], gtE u (u.flatMap (prs u)), 2, gtO (u.flatMap (prs u))⟩
def gt2 (u : List T) (i : Nat) (acc : List T) : St := ⟨[(1, .int .i64 3), (5, .gmap (.loc 0)), (6, .slice 4 (.own (.loc 1)) (u.map T.e)), (7, .int .i64 3), (8, .int .i64 1), (45, .slice 4 .no (u.map T.e)), (46, .int .i64 u.length), (47, .int .i64 i)], [(.loc 0, gtM u acc)], gtE u acc, 10, gtO acc⟩
def gt3 (u : List T) (i : Nat) (x : T) (j : Nat) (acc : List T) : St := ⟨[(1, .int .i64 3), (5, .gmap (.loc 0)), (6, .slice 4 (.own (.loc 1)) (u.map T.e)), (7, .int .i64 3), (8, .int .i64 1), (10, .ptr (.loc 10) 0), (45, .slice 4 .no (u.map T.e)), (46, .int .i64 u.length), (47, .int .i64 i), (56, .slice 4 .no (u.map T.e)), (57, .int .i64 u.length), (58, .int .i64 j)], [(.loc 0, gtM u acc), (.loc 10, [.int .i64 x.kind, .int .i64 x.int, .str x.name, .slice 4 .no (x.args.map T.e)])], gtE u acc, 30, gtO acc⟩
def jG0 (_ : Bool) : Prop := True
def jG2 (u : List T) (i : Nat) (acc : List T) : Prop := acc = (u.take i).flatMap (prs u)
def jG3 (u : List T) (i : Nat) (x : T) (j : Nat) (acc : List T) : Prop := acc = (u.take i).flatMap (prs u) ++ prs (u.take j) x
theorem prs_len (u : List T) : ∀ l : List T, (l.flatMap (prs u)).length = l.length * u.length
  | [] => by simp
  | x :: r => by simp [prs_len u r, prs, Nat.succ_mul, Nat.add_comm]
def gL (u acc : List T) : List (Int × PV) := [(1, .slice 4 .no (u.map T.e)), (3, .slice 4 (.own (.loc 33)) (acc.map T.e))]
theorem gtA (u : List T) (k : Int) {f : Key → Option (List PV)} (h : f (.loc 0) = some (mapE [(1, .slice 4 .no (u.map T.e))])) : mgetV f false (.slice 4 .nil []) false (.gmap (.loc 0)) (.int .i64 k) = some (True, if k = 1 then .slice 4 .no (u.map T.e) else .slice 4 .nil []) := by
  rw [mgetV_mapE f _ _ _ _ _ h]
  by_cases e : k = 1 <;> simp [alook, e]
theorem gtB (u acc : List T) (k : Int) {f : Key → Option (List PV)} (h : f (.loc 0) = some (mapE [(1, .slice 4 .no (u.map T.e)), (3, .slice 4 (.own (.loc 33)) (acc.map T.e))])) : mgetV f false (.slice 4 .nil []) false (.gmap (.loc 0)) (.int .i64 k) = some (True, if k = 1 then .slice 4 .no (u.map T.e) else if k = 3 then .slice 4 (.own (.loc 33)) (acc.map T.e) else .slice 4 .nil []) := by
  rw [mgetV_mapE f _ _ _ _ _ h]
  by_cases e : k = 1
  · simp [alook, e]
  · by_cases e3 : k = 3 <;> simp [alook, e, e3]
set_option maxHeartbeats 2000000 in
set_option maxRecDepth 8000 in
theorem v_GroundTerms3 (u : List T) (hu : uniOk u = true) (hf : ∀ x ∈ u, ∀ y ∈ u, (T.pair x y).fit = true) (hlen : (asc ordT (u ++ u.flatMap (prs u))).length ≤ 512) : FnV Tryz.prog 18 [.slice 4 .no (u.map T.e), .int .i64 3] (.slice 4 .no ((asc ordT (u ++ u.flatMap (prs u))).map T.e)) := by
  have hul := ((uniOk_iff u).1 hu).1
  have hpl := prs_len u u
  have hpl2 : u.length * u.length ≤ 8 * u.length := Nat.mul_le_mul_right _ hul.2
  refine FnV.mk mixed tysok2 f_impl_GroundTerms ok_impl_GroundTerms (by simp) (by simp [kin]) fun hbnd => ?_; unfold c_impl_GroundTerms
  ((repeat' first | with_reducible refine And.intro (by (first | omega | (unfold in64; omega) | (unfold lim; omega))) ?_ | with_reducible refine CallDo.val (by simp) (v_UniverseOk _) ?_ | with_reducible refine CallD.val (by simp) (v_UniverseOk _) ?_ | simp [hu] | (with_reducible refine evCd_split (fun h => ?_) (fun h => ?_) <;> (try simp at h)) | (with_reducible refine evGd_split (fun h => ?_) (fun h => ?_) <;> (try simp at h)) | (with_reducible refine evDd_split (fun h => ?_) (fun h => ?_) <;> (try simp at h))) <;> (try first | contradiction | (exfalso; omega)))
  have hal : (u ++ u.flatMap (prs u)).length ≤ 1000000 := by rw [List.length_append, hpl]; omega
  have hasc := v_ascending (u ++ u.flatMap (prs u)) hal
  refine evC_whl (gt0 u) (fun b => if b then 0 else 1) jG0 false (by simp [gt0, gtM, gtE, aput, aset]; exact ⟨by simp [fresh, kinL, kin, iterE, inObs, Pv.look, mapE, flat], subB_of (by simp [fresh, kinL, kin, iterE, inObs, Pv.look, mapE, flat]), subE_of (by simp [fresh, kinL, kin, kinO, inObs, Pv.look, mapE, flat]), by simp⟩) trivial ?_
  rintro (_ | _) _ _
  · simp [gt0, gtM, gtE]
    ((repeat' first | with_reducible refine And.intro (by (first | omega | (unfold in64; omega) | (unfold lim; omega))) ?_ | simp | (with_reducible refine evCd_split (fun h => ?_) (fun h => ?_) <;> (try simp at h)) | (with_reducible refine evGd_split (fun h => ?_) (fun h => ?_) <;> (try simp at h)) | (with_reducible refine evDd_split (fun h => ?_) (fun h => ?_) <;> (try simp at h))) <;> (try first | contradiction | (exfalso; omega)))
    refine evC_whl (gt1 u) (fun b => if b then 0 else 1) jG0 false (by simp [gt1, gtM, gtE]; exact ⟨by simp [fresh, kinL, kin, iterE, inObs, Pv.look, mapE, flat], subB_of (by simp [fresh, kinL, kin, iterE, inObs, Pv.look, mapE, flat]), subE_of (by simp [fresh, kinL, kin, kinO, inObs, Pv.look, mapE, flat]), by simp⟩) trivial ?_
    rintro (_ | _) _ _
    · simp [gt1, gtM, gtE]
      ((repeat' first | with_reducible refine And.intro (by (first | omega | (unfold in64; omega) | (unfold lim; omega))) ?_ | simp [gtA u] | (with_reducible refine evCd_split (fun h => ?_) (fun h => ?_) <;> (try simp at h)) | (with_reducible refine evGd_split (fun h => ?_) (fun h => ?_) <;> (try simp at h)) | (with_reducible refine evDd_split (fun h => ?_) (fun h => ?_) <;> (try simp at h))) <;> (try first | contradiction | (exfalso; omega)))
      refine evC_rng (gt2 u) u.length (jG2 u) [] (by simp [gt2, gtM, gtE, gtO]; exact ⟨by simp [fresh, kinL, kin, iterE, inObs, Pv.look, mapE, flat], subB_of (by simp [fresh, kinL, kin, iterE, inObs, Pv.look, mapE, flat]), subE_of (by simp [fresh, kinL, kin, kinO, inObs, Pv.look, mapE, flat]), by simp⟩) (by simp [jG2]) (fun acc hj2 _ => ?_) (fun i acc hi hj2 _ => ?_)
      · have hac : acc = u.flatMap (prs u) := by unfold jG2 at hj2; rw [hj2, List.take_length]
        have hne : acc ≠ [] := by
          intro e
          have := congrArg List.length hac
          rw [prs_len, e] at this
          simp only [List.length_nil] at this
          have := Nat.mul_pos (show 0 < u.length by omega) (show 0 < u.length by omega)
          omega
        rw [hac] at hne ⊢
        simp [gt2, gtM, gtE, gtO, hne]
        ((repeat' first | with_reducible refine And.intro (by (first | omega | (unfold in64; omega) | (unfold lim; omega))) ?_ | simp | (with_reducible refine evCd_split (fun h => ?_) (fun h => ?_) <;> (try simp at h)) | (with_reducible refine evGd_split (fun h => ?_) (fun h => ?_) <;> (try simp at h)) | (with_reducible refine evDd_split (fun h => ?_) (fun h => ?_) <;> (try simp at h))) <;> (try first | contradiction | (exfalso; omega)))
        refine LoopQ.whl true (by simp) trivial (by simp [gt1, gtM, gtE, gtO, hne]; exact ⟨by simp [fresh, kinL, kin, iterE, inObs, Pv.look, mapE, flat], subB_of (by simp [fresh, kinL, kin, iterE, inObs, Pv.look, mapE, flat]), subE_of (by simp [fresh, kinL, kin, kinO, inObs, Pv.look, mapE, flat]), by simp⟩)
      · obtain ⟨x, hx⟩ : ∃ x, u[i]? = some x := ⟨_, List.getElem?_eq_getElem hi⟩
        have hx2 : ∀ h, u[i]'h = x := fun h => by rw [List.getElem?_eq_getElem h] at hx; simpa using hx
        unfold jG2 at hj2
        cases acc with
        | nil =>
          simp [gt2, gtM, gtE, gtO]
          ((repeat' first | with_reducible refine And.intro (by (first | omega | (unfold in64; omega) | (unfold lim; omega))) ?_ | simp [hi, hx, hx2, gtA u] | (with_reducible refine evCd_split (fun h => ?_) (fun h => ?_) <;> (try simp at h)) | (with_reducible refine evGd_split (fun h => ?_) (fun h => ?_) <;> (try simp at h)) | (with_reducible refine evDd_split (fun h => ?_) (fun h => ?_) <;> (try simp at h))) <;> (try first | contradiction | (exfalso; omega)))
          refine evC_rng (gt3 u i x) u.length (jG3 u i x) ([]) (by simp [gt3, gtM, gtE, gtO]; exact ⟨by simp [fresh, kinL, kin, iterE, inObs, Pv.look, mapE, flat], subB_of (by simp [fresh, kinL, kin, iterE, inObs, Pv.look, mapE, flat]), subE_of (by simp [fresh, kinL, kin, kinO, inObs, Pv.look, mapE, flat]), by simp⟩) (by unfold jG3; rw [hj2]; simp [prs]) (fun acc2 hj3 _ => ?_) (fun j acc2 hj0 hj3 _ => ?_)
          · have hne : acc2 ≠ [] := by
              unfold jG3 at hj3
              rw [hj3]; simp [prs]
              intro _ e; rw [e] at hul; simp at hul
            obtain ⟨a0, acc2, rfl⟩ : ∃ a0 r, acc2 = a0 :: r := by cases acc2 with | nil => exact absurd rfl hne | cons a r => exact ⟨a, r, rfl⟩
            simp [gt3, gtM, gtE, gtO]
            ((repeat' first | with_reducible refine And.intro (by (first | omega | (unfold in64; omega) | (unfold lim; omega))) ?_ | simp | (with_reducible refine evCd_split (fun h => ?_) (fun h => ?_) <;> (try simp at h)) | (with_reducible refine evGd_split (fun h => ?_) (fun h => ?_) <;> (try simp at h)) | (with_reducible refine evDd_split (fun h => ?_) (fun h => ?_) <;> (try simp at h))) <;> (try first | contradiction | (exfalso; omega)))
            refine LoopQ.rng (a0 :: acc2) hi ?_ (by simp [gt2, gtM, gtE, gtO]; exact ⟨by simp [fresh, kinL, kin, iterE, inObs, Pv.look, mapE, flat], subB_of (by simp [fresh, kinL, kin, iterE, inObs, Pv.look, mapE, flat]), subE_of (by simp [fresh, kinL, kin, kinO, inObs, Pv.look, mapE, flat]), by simp⟩)
            unfold jG2
            unfold jG3 at hj3
            rw [hj3, List.take_length, List.take_succ, hx]
            simp
          · obtain ⟨y, hy⟩ : ∃ y, u[j]? = some y := ⟨_, List.getElem?_eq_getElem hj0⟩
            have hy2 : ∀ h, u[j]'h = y := fun h => by rw [List.getElem?_eq_getElem h] at hy; simpa using hy
            have hfxy := hf x (List.mem_of_getElem? hx) y (List.mem_of_getElem? hy)
            have hacl : acc2.length ≤ 1000000 := by
              unfold jG3 at hj3
              rw [hj3, List.length_append, prs_len]
              have h1 : (u.take i).length ≤ 8 := by simp; omega
              have h2 : (u.take i).length * u.length ≤ 8 * u.length := Nat.mul_le_mul_right _ h1
              have h3 : (prs (u.take j) x).length ≤ 8 := by simp [prs]; omega
              omega
            cases acc2 with
            | nil =>
              simp [gt3, gtM, gtE, gtO]
              ((repeat' first | with_reducible refine And.intro (by (first | omega | (unfold in64; omega) | (unfold lim; omega))) ?_ | with_reducible refine CallDo.val (by simp) (v_pair _ _) ?_ | with_reducible refine CallD.val (by simp) (v_pair _ _) ?_ | with_reducible refine CallDo.val (by simp) (v_TermOkT _) ?_ | with_reducible refine CallD.val (by simp) (v_TermOkT _) ?_ | simp [hj0, hy, hy2, hfxy, gtA u, aput, aset] | (with_reducible refine evCd_split (fun h => ?_) (fun h => ?_) <;> (try simp at h)) | (with_reducible refine evGd_split (fun h => ?_) (fun h => ?_) <;> (try simp at h)) | (with_reducible refine evDd_split (fun h => ?_) (fun h => ?_) <;> (try simp at h))) <;> (try first | contradiction | (exfalso; omega)))
              refine LoopQ.rng ([] ++ [.pair x y]) hj0 ?_ (by simp [gt3, gtM, gtE, gtO]; exact ⟨by simp [fresh, kinL, kin, iterE, inObs, Pv.look, mapE, flat, kinL_appT], subB_of (by simp [fresh, kinL, kin, iterE, inObs, Pv.look, mapE, flat, kinL_appT]), subE_of (by simp [fresh, kinL, kin, kinO, inObs, Pv.look, mapE, flat, kinL_appT]), by simp⟩)
              unfold jG3 at hj3 ⊢
              have e1 : prs (u.take (j + 1)) x = prs (u.take j) x ++ [.pair x y] := by rw [List.take_succ, hy]; simp [prs]
              rw [e1, ← List.append_assoc, ← hj3]
            | cons a0 acc2 =>
              have hgB := fun k f => gtB u (a0 :: acc2) k (f := f)
              simp only [List.map_cons] at hgB
              simp at hacl
              simp [gt3, gtM, gtE, gtO]
              ((repeat' first | with_reducible refine And.intro (by (first | omega | (unfold in64; omega) | (unfold lim; omega))) ?_ | with_reducible refine CallDo.val (by simp) (v_pair _ _) ?_ | with_reducible refine CallD.val (by simp) (v_pair _ _) ?_ | with_reducible refine CallDo.val (by simp) (v_TermOkT _) ?_ | with_reducible refine CallD.val (by simp) (v_TermOkT _) ?_ | simp [hj0, hy, hy2, hfxy, hgB, aput, aset] | (with_reducible refine evCd_split (fun h => ?_) (fun h => ?_) <;> (try simp at h)) | (with_reducible refine evGd_split (fun h => ?_) (fun h => ?_) <;> (try simp at h)) | (with_reducible refine evDd_split (fun h => ?_) (fun h => ?_) <;> (try simp at h))) <;> (try first | contradiction | (exfalso; omega)))
              refine LoopQ.rng ((a0 :: acc2) ++ [.pair x y]) hj0 ?_ (by simp [gt3, gtM, gtE, gtO]; exact ⟨by simp [fresh, kinL, kin, iterE, inObs, Pv.look, mapE, flat, kinL_appT], subB_of (by simp [fresh, kinL, kin, iterE, inObs, Pv.look, mapE, flat, kinL_appT]), subE_of (by simp [fresh, kinL, kin, kinO, inObs, Pv.look, mapE, flat, kinL_appT]), by simp⟩)
              unfold jG3 at hj3 ⊢
              have e1 : prs (u.take (j + 1)) x = prs (u.take j) x ++ [.pair x y] := by rw [List.take_succ, hy]; simp [prs]
              rw [e1, ← List.append_assoc, ← hj3]
        | cons a0 acc =>
          have hgB := fun k f => gtB u (a0 :: acc) k (f := f)
          simp only [List.map_cons] at hgB
          simp [gt2, gtM, gtE, gtO]
          ((repeat' first | with_reducible refine And.intro (by (first | omega | (unfold in64; omega) | (unfold lim; omega))) ?_ | simp [hi, hx, hx2, hgB] | (with_reducible refine evCd_split (fun h => ?_) (fun h => ?_) <;> (try simp at h)) | (with_reducible refine evGd_split (fun h => ?_) (fun h => ?_) <;> (try simp at h)) | (with_reducible refine evDd_split (fun h => ?_) (fun h => ?_) <;> (try simp at h))) <;> (try first | contradiction | (exfalso; omega)))
          refine evC_rng (gt3 u i x) u.length (jG3 u i x) ((a0 :: acc)) (by simp [gt3, gtM, gtE, gtO]; exact ⟨by simp [fresh, kinL, kin, iterE, inObs, Pv.look, mapE, flat], subB_of (by simp [fresh, kinL, kin, iterE, inObs, Pv.look, mapE, flat]), subE_of (by simp [fresh, kinL, kin, kinO, inObs, Pv.look, mapE, flat]), by simp⟩) (by unfold jG3; rw [hj2]; simp [prs]) (fun acc2 hj3 _ => ?_) (fun j acc2 hj0 hj3 _ => ?_)
          · have hne : acc2 ≠ [] := by
              unfold jG3 at hj3
              rw [hj3]; simp [prs]
              intro _ e; rw [e] at hul; simp at hul
            obtain ⟨a0, acc2, rfl⟩ : ∃ a0 r, acc2 = a0 :: r := by cases acc2 with | nil => exact absurd rfl hne | cons a r => exact ⟨a, r, rfl⟩
            simp [gt3, gtM, gtE, gtO]
            ((repeat' first | with_reducible refine And.intro (by (first | omega | (unfold in64; omega) | (unfold lim; omega))) ?_ | simp | (with_reducible refine evCd_split (fun h => ?_) (fun h => ?_) <;> (try simp at h)) | (with_reducible refine evGd_split (fun h => ?_) (fun h => ?_) <;> (try simp at h)) | (with_reducible refine evDd_split (fun h => ?_) (fun h => ?_) <;> (try simp at h))) <;> (try first | contradiction | (exfalso; omega)))
            refine LoopQ.rng (a0 :: acc2) hi ?_ (by simp [gt2, gtM, gtE, gtO]; exact ⟨by simp [fresh, kinL, kin, iterE, inObs, Pv.look, mapE, flat], subB_of (by simp [fresh, kinL, kin, iterE, inObs, Pv.look, mapE, flat]), subE_of (by simp [fresh, kinL, kin, kinO, inObs, Pv.look, mapE, flat]), by simp⟩)
            unfold jG2
            unfold jG3 at hj3
            rw [hj3, List.take_length, List.take_succ, hx]
            simp
          · obtain ⟨y, hy⟩ : ∃ y, u[j]? = some y := ⟨_, List.getElem?_eq_getElem hj0⟩
            have hy2 : ∀ h, u[j]'h = y := fun h => by rw [List.getElem?_eq_getElem h] at hy; simpa using hy
            have hfxy := hf x (List.mem_of_getElem? hx) y (List.mem_of_getElem? hy)
            have hacl : acc2.length ≤ 1000000 := by
              unfold jG3 at hj3
              rw [hj3, List.length_append, prs_len]
              have h1 : (u.take i).length ≤ 8 := by simp; omega
              have h2 : (u.take i).length * u.length ≤ 8 * u.length := Nat.mul_le_mul_right _ h1
              have h3 : (prs (u.take j) x).length ≤ 8 := by simp [prs]; omega
              omega
            cases acc2 with
            | nil =>
              simp [gt3, gtM, gtE, gtO]
              ((repeat' first | with_reducible refine And.intro (by (first | omega | (unfold in64; omega) | (unfold lim; omega))) ?_ | with_reducible refine CallDo.val (by simp) (v_pair _ _) ?_ | with_reducible refine CallD.val (by simp) (v_pair _ _) ?_ | with_reducible refine CallDo.val (by simp) (v_TermOkT _) ?_ | with_reducible refine CallD.val (by simp) (v_TermOkT _) ?_ | simp [hj0, hy, hy2, hfxy, gtA u, aput, aset] | (with_reducible refine evCd_split (fun h => ?_) (fun h => ?_) <;> (try simp at h)) | (with_reducible refine evGd_split (fun h => ?_) (fun h => ?_) <;> (try simp at h)) | (with_reducible refine evDd_split (fun h => ?_) (fun h => ?_) <;> (try simp at h))) <;> (try first | contradiction | (exfalso; omega)))
              refine LoopQ.rng ([] ++ [.pair x y]) hj0 ?_ (by simp [gt3, gtM, gtE, gtO]; exact ⟨by simp [fresh, kinL, kin, iterE, inObs, Pv.look, mapE, flat, kinL_appT], subB_of (by simp [fresh, kinL, kin, iterE, inObs, Pv.look, mapE, flat, kinL_appT]), subE_of (by simp [fresh, kinL, kin, kinO, inObs, Pv.look, mapE, flat, kinL_appT]), by simp⟩)
              unfold jG3 at hj3 ⊢
              have e1 : prs (u.take (j + 1)) x = prs (u.take j) x ++ [.pair x y] := by rw [List.take_succ, hy]; simp [prs]
              rw [e1, ← List.append_assoc, ← hj3]
            | cons a0 acc2 =>
              have hgB := fun k f => gtB u (a0 :: acc2) k (f := f)
              simp only [List.map_cons] at hgB
              simp at hacl
              simp [gt3, gtM, gtE, gtO]
              ((repeat' first | with_reducible refine And.intro (by (first | omega | (unfold in64; omega) | (unfold lim; omega))) ?_ | with_reducible refine CallDo.val (by simp) (v_pair _ _) ?_ | with_reducible refine CallD.val (by simp) (v_pair _ _) ?_ | with_reducible refine CallDo.val (by simp) (v_TermOkT _) ?_ | with_reducible refine CallD.val (by simp) (v_TermOkT _) ?_ | simp [hj0, hy, hy2, hfxy, hgB, aput, aset] | (with_reducible refine evCd_split (fun h => ?_) (fun h => ?_) <;> (try simp at h)) | (with_reducible refine evGd_split (fun h => ?_) (fun h => ?_) <;> (try simp at h)) | (with_reducible refine evDd_split (fun h => ?_) (fun h => ?_) <;> (try simp at h))) <;> (try first | contradiction | (exfalso; omega)))
              refine LoopQ.rng ((a0 :: acc2) ++ [.pair x y]) hj0 ?_ (by simp [gt3, gtM, gtE, gtO]; exact ⟨by simp [fresh, kinL, kin, iterE, inObs, Pv.look, mapE, flat, kinL_appT], subB_of (by simp [fresh, kinL, kin, iterE, inObs, Pv.look, mapE, flat, kinL_appT]), subE_of (by simp [fresh, kinL, kin, kinO, inObs, Pv.look, mapE, flat, kinL_appT]), by simp⟩)
              unfold jG3 at hj3 ⊢
              have e1 : prs (u.take (j + 1)) x = prs (u.take j) x ++ [.pair x y] := by rw [List.take_succ, hy]; simp [prs]
              rw [e1, ← List.append_assoc, ← hj3]
    · have hne : u.flatMap (prs u) ≠ [] := by
        intro e
        have := congrArg List.length e
        rw [prs_len] at this
        simp only [List.length_nil] at this
        have := Nat.mul_pos (show 0 < u.length by omega) (show 0 < u.length by omega)
        omega
      obtain ⟨P, hP⟩ : ∃ P, P = u.flatMap (prs u) := ⟨_, rfl⟩
      have hPl : P.length ≤ 1000 := by rw [hP, prs_len]; omega
      simp only [gt1]
      rw [← hP] at hne ⊢
      simp [gtM, gtE, gtO, hne]
      ((repeat' first | with_reducible refine And.intro (by (first | omega | (unfold in64; omega) | (unfold lim; omega))) ?_ | simp [gtB u P] | (with_reducible refine evCd_split (fun h => ?_) (fun h => ?_) <;> (try simp at h)) | (with_reducible refine evGd_split (fun h => ?_) (fun h => ?_) <;> (try simp at h)) | (with_reducible refine evDd_split (fun h => ?_) (fun h => ?_) <;> (try simp at h))) <;> (try first | contradiction | (exfalso; omega)))
      refine LoopQ.whl true (by simp) trivial (by simp [gt0, ← hP]; exact ⟨by simp [fresh, kinL, kin, iterE, inObs, Pv.look, kinL_appT], subB_of (by simp [fresh, kinL, kin, iterE, inObs, Pv.look, kinL_appT]), subE_of (by simp [fresh, kinL, kin, kinO, inObs, Pv.look, kinL_appT]), by simp⟩)
  · obtain ⟨A, hA⟩ : ∃ A, A = u ++ u.flatMap (prs u) := ⟨_, rfl⟩
    simp only [gt0, ← hA] at hasc hlen ⊢
    have hlen2 : ¬(512 : Int) < ((asc ordT A).length : Nat) := by omega
    ((repeat' first | with_reducible refine And.intro (by (first | omega | (unfold in64; omega) | (unfold lim; omega))) ?_ | with_reducible refine CallDo.val (by simp) (hasc) ?_ | with_reducible refine CallD.val (by simp) (hasc) ?_ | simp [hlen2] | (with_reducible refine evCd_split (fun h => ?_) (fun h => ?_) <;> (try simp at h)) | (with_reducible refine evGd_split (fun h => ?_) (fun h => ?_) <;> (try simp at h)) | (with_reducible refine evDd_split (fun h => ?_) (fun h => ?_) <;> (try simp at h))) <;> (try first | contradiction | (exfalso; omega)))
    simp [RetV, r_impl_GroundTerms, resL, resV, tup]
end Go.Proofs.YtchidkafcdmciaaGreat
/- Plain law: what FnGround asks. -/
set_option linter.all false
namespace Go.Proofs.YtchidkafcdmciaaGreat
open Go Go.Pv

theorem asc_len (l : List T) : (asc ordT l).length ≤ l.length := by
  have := dd_len (srtC ordT l) none
  rw [srtC_len] at this
  exact this
theorem powr_small : ∀ b, b < 4 → ∀ n, n < 4 → powr b n ≤ 512 := by decide
theorem gi_facts {t : T} {u : List T} (h : GF t u) (hu : uniOk u = true) (hul : u.length ≤ 3) (hv : (tvars t).length ≤ 3) : giOk t u = true ∧ (∀ x, x ∈ gi t u ↔ Ins t u x) ∧ SAsc ordT (gi t u) ∧ (gi t u).length ≤ 512 := by
  have hp := powr_small u.length (by omega) (tvars t).length (by omega)
  have hok : giOk t u = true := by
    simp only [giOk, h.tf, hu, hp, Bool.true_and, decide_true, List.all_eq_true]
    exact fun r hr => (row_facts h hr).2.2.2.2.1
  have hg : gi t u = asc ordT ((asgn u (tvars t) [[]]).map fun r => putT r t) := by rw [gi, if_pos hok]
  refine ⟨hok, fun x => ?_, by rw [hg]; exact asc_sasc ordT_ok _, ?_⟩
  · rw [hg, mem_asc, List.mem_map]
    constructor
    · rintro ⟨r, hr, rfl⟩
      have := row_facts h hr
      rw [this.2.2.2.2.2]; exact this.2.2.2.1
    · intro hx
      obtain ⟨r, hr, rfl⟩ := ins_row h hx
      exact ⟨r, hr, (row_facts h hr).2.2.2.2.2⟩
  · rw [hg]
    refine Nat.le_trans (asc_len _) ?_
    rw [List.length_map, asgn_len]
    have hul1 := ((uniOk_iff u).1 hu).1
    simpa using powr_pow (by omega) hp
theorem bget2 (x0 : T) (w : Int) : bget [⟨0, .var 1⟩, ⟨2, x0⟩] w = if w = 0 then some (.var 1) else if w = 2 then some x0 else none := by
  by_cases h0 : w = 0
  · subst h0; simp [bget]
  · by_cases h2 : w = 2
    · subst h2; simp [bget]
    · have e0 : ((0 : Int) == w) = false := by simp; omega
      have e2 : ((2 : Int) == w) = false := by simp; omega
      simp [bget, h0, h2, e0, e2]
/-- All that FnGround asks. -/
structure LG (t : T) (u : List T) (x0 : T) : Prop where
  uok : uniOk u = true
  ul : 1 ≤ u.length ∧ u.length ≤ 3
  all1 : 1 ≤ (gi t u).length ∧ (gi t u).length ≤ 512
  some1 : 1 ≤ (gi (t.sub (bget [⟨0, .var 1⟩, ⟨2, x0⟩])) u).length ∧ (gi (t.sub (bget [⟨0, .var 1⟩, ⟨2, x0⟩])) u).length ≤ 512
  le : (gi (t.sub (bget [⟨0, .var 1⟩, ⟨2, x0⟩])) u).length ≤ (gi t u).length
  el : ∀ x ∈ gi t u, x.fit = true ∧ x.gnd = true ∧ isI t x = true
  asc : SAsc ordT (gi t u)
  sub : ∀ x ∈ gi (t.sub (bget [⟨0, .var 1⟩, ⟨2, x0⟩])) u, x ∈ gi t u
  parts : subT (subT u) = subT u
  pl : (subT u).length ≤ 200
  prf : ∀ x ∈ u, ∀ y ∈ u, (T.pair x y).fit = true
  gt : u.length ≤ (Pv.asc ordT (u ++ u.flatMap (prs u))).length ∧ (Pv.asc ordT (u ++ u.flatMap (prs u))).length ≤ 512
theorem law_ground {t : T} {u : List T} {x0 : T} (d1 : t.ok = true) (d2 : ∀ v, t.occ v = true → 0 ≤ v ∧ v < 3) (d3 : t.size ≤ 15) (hu : UF u) (hul : 1 ≤ u.length ∧ u.length ≤ 3) (hx0 : x0 ∈ u) : LG t u x0 := by
  have htf : t.fit = true := by simp only [T.fit, Bool.and_eq_true, decide_eq_true_eq]; exact ⟨d1, by omega⟩
  have huok := hu.uniOk (by omega)
  have hx := hu.el x0 hx0
  have hgt : GF t u := ⟨htf, by omega, hu⟩
  have hvt : (tvars t).length ≤ 3 := by
    have := nodup_len (l := tvars t) (l' := [0, 1, 2]) ((tvars_asc htf).imp fun h => by omega) fun v hv => by
      have := d2 v ((tvars_mem htf v).1 hv)
      simp; omega
    simpa using this
  obtain ⟨f1, f2, f3, f4⟩ := gi_facts hgt huok hul.2 hvt
  obtain ⟨b, hb⟩ : ∃ b, b = t.sub (bget [⟨0, .var 1⟩, ⟨2, x0⟩]) := ⟨_, rfl⟩
  have hbv : ∀ w x, bget [⟨0, .var 1⟩, ⟨2, x0⟩] w = some x → x.ok = true ∧ x.size ≤ 5 := fun w x h => by
    rw [bget2] at h
    split at h
    · cases h; simp [T.ok, T.size]
    · split at h
      · cases h; exact ⟨hx.1, hx.2.2⟩
      · cases h
  have hbok : b.ok = true := by rw [hb]; exact sub_ok t d1 fun w x _ h => (hbv w x h).1
  have hbsz : b.size ≤ 75 := by
    rw [hb]
    have := sub_size (f := bget [⟨0, .var 1⟩, ⟨2, x0⟩]) (B := 5) (by omega) t fun w x _ h => (hbv w x h).2
    omega
  have hbf : b.fit = true := by simp only [T.fit, Bool.and_eq_true, decide_eq_true_eq]; exact ⟨hbok, by omega⟩
  have hbocc : ∀ v, b.occ v = true → v = 1 := fun v hv => by
    rw [hb, occ_sub] at hv
    obtain ⟨w, h1, h2⟩ := hv
    rw [bget2] at h2
    have hw := d2 w h1
    by_cases e0 : w = 0
    · simp [e0, T.occ] at h2; exact h2.symm
    · by_cases e2 : w = 2
      · simp [e2] at h2
        have := (gnd_iff x0).1 hx.2.1 v; rw [h2] at this; cases this
      · simp [e0, e2] at h2; omega
  have hgb : GF b u := ⟨hbf, by omega, hu⟩
  have hvb : (tvars b).length ≤ 3 := by
    have := nodup_len (l := tvars b) (l' := [1]) ((tvars_asc hbf).imp fun h => by omega) fun v hv => by
      have := hbocc v ((tvars_mem hbf v).1 hv)
      simp [this]
    simp at this; omega
  obtain ⟨g1, g2, g3, g4⟩ := gi_facts hgb huok hul.2 hvb
  have hsub : ∀ x, Ins b u x → Ins t u x := by
    rintro x ⟨σ, h1, rfl⟩
    refine ⟨fun v => if v = 2 then x0 else σ 1, fun v hv => ?_, ?_⟩
    · have hv3 := d2 v hv
      by_cases e2 : v = 2
      · simpa [e2] using hx0
      · simp only [e2, if_false]
        refine h1 1 ?_
        rw [hb, occ_sub]
        refine ⟨v, hv, ?_⟩
        rw [bget2]
        by_cases e0 : v = 0
        · simp [e0, T.occ]
        · simp only [e0, e2, if_false]; omega
    · rw [hb, sub_sub]
      refine sub_congr t fun v hv => ?_
      have hv3 := d2 v hv
      rw [bget2]
      by_cases e0 : v = 0
      · simp [e0, T.sub]
      · by_cases e2 : v = 2
        · simp [e2, sub_gnd hx.2.1]
        · have : v = 1 := by omega
          subst this
          simp
  have hne : ∀ s : T, ∃ x, Ins s u x := fun s => ⟨_, fun _ => x0, fun _ _ => hx0, rfl⟩
  have hpos : ∀ l : List T, (∃ x, x ∈ l) → 1 ≤ l.length := fun l ⟨x, hx⟩ => List.length_pos_of_mem hx
  have hsubm : ∀ x ∈ gi b u, x ∈ gi t u := fun x hx => (f2 x).2 (hsub x ((g2 x).1 hx))
  have hfit : ∀ x ∈ u, x.fit = true := fun x hx => hu.fit hx
  have hall : u.all T.fit = true := by simpa using hfit
  have hsT : subT u = asc ordT (u.flatMap T.subs) := by simp only [subT, hall, if_true]
  have hall2 : (subT u).all T.fit = true := by
    rw [List.all_eq_true]
    intro x hx
    rw [hsT, mem_asc] at hx
    obtain ⟨y, hy, hxy⟩ := List.mem_flatMap.1 hx
    exact subs_fit (hfit y hy) x hxy
  have hfl : ∀ l : List T, (∀ x ∈ l, x.size ≤ 5) → (l.flatMap T.subs).length ≤ l.length * 5 := by
    intro l
    induction l with
    | nil => simp
    | cons x r ih =>
      intro h
      have := ih fun y hy => h y (by simp [hy])
      have := h x (by simp)
      rw [List.flatMap_cons, List.length_append, subs_len, List.length_cons]
      omega
  refine ⟨huok, hul, ⟨hpos _ (by obtain ⟨x, hx⟩ := hne t; exact ⟨x, (f2 x).2 hx⟩), f4⟩, ?_, ?_, fun x hx => Ins.facts hgt ((f2 x).1 hx), f3, ?_, ?_, ?_, ?_, ?_⟩
  · rw [← hb]; exact ⟨hpos _ (by obtain ⟨x, hx⟩ := hne b; exact ⟨x, (g2 x).2 hx⟩), g4⟩
  · rw [← hb]; exact nodup_len (g3.nodup ordT_ok) hsubm
  · rw [← hb]; exact hsubm
  · have : ∀ l : List T, l.all T.fit = true → subT l = asc ordT (l.flatMap T.subs) := fun l h => by simp only [subT, h, if_true]
    rw [this _ hall2, hsT]
    exact subs_closed u
  · rw [hsT]
    have h1 := asc_len (u.flatMap T.subs)
    have h2 := hfl u fun x hx => (hu.el x hx).2.2
    omega
  · intro x hx y hy
    have h1 := hu.el x hx
    have h2 := hu.el y hy
    simp only [T.fit, Bool.and_eq_true, decide_eq_true_eq, T.ok]
    have hz : (T.pair x y).size = 1 + x.size + y.size := by simp [T.size]
    exact ⟨⟨h1.1, h2.1⟩, by omega⟩
  · constructor
    · exact nodup_len (hu.asc.nodup ordT_ok) fun x hx => (mem_asc _ x).2 (by simp [hx])
    · refine Nat.le_trans (asc_len _) ?_
      rw [List.length_append, prs_len]
      have : u.length * u.length ≤ 3 * u.length := Nat.mul_le_mul_right _ hul.2
      omega
end Go.Proofs.YtchidkafcdmciaaGreat
/- The law FnGround. -/
set_option linter.all false
namespace Go.Proofs.YtchidkafcdmciaaGreat
open Go Go.Pv

def jF0 (_ : Nat) (_ : Unit) : Prop := True
def jF2 (x : T) (al : List T) (j : Nat) (f : Bool) : Prop := f = decide (x ∈ al.take j)
set_option maxHeartbeats 4000000 in
set_option maxRecDepth 8000 in
theorem v_FnGround (d : List Int) (hd : byteOk d) : FnV Tryz.prog 3 [.slice 1 .no (bytesE d)] (.bool true) := by
  by_cases hbig : 1048576 < d.length
  · have hbi : (1048576 : Int) < d.length := by omega
    refine FnV.mk mixed tysok2 f_laws_FnGround ok_laws_FnGround (by simp) (by simp [kin]) fun hbnd => ?_; unfold c_laws_FnGround
    ((repeat' first | with_reducible refine And.intro (by (first | omega | (unfold in64; omega) | (unfold lim; omega))) ?_ | simp [hbi] | (with_reducible refine evCd_split (fun h => ?_) (fun h => ?_) <;> (try simp at h)) | (with_reducible refine evGd_split (fun h => ?_) (fun h => ?_) <;> (try simp at h)) | (with_reducible refine evDd_split (fun h => ?_) (fun h => ?_) <;> (try simp at h))) <;> (try first | contradiction | (exfalso; omega)))
    simp [RetV, r_laws_FnGround, resL, resV, tup]
  · have hl : d.length ≤ 10000000 := by omega
    have hU : FnV Tryz.prog 7 [.slice 1 .no (bytesE d), .int .i64 0, .int .i64 3] (.slice 4 .no ((uniC (curAt d 0).next (1 + ((curAt d 0).below 3).toNat)).1.map T.e)) := v_MakeUniverse d hd hl 0 (by omega) 3 (by omega)
    have hT : FnV Tryz.prog 8 [.slice 1 .no (bytesE d), .int .i64 20, .int .i64 8, .int .i64 3] (drawT 8 3 (curAt d 20)).1.e := v_MakeTerm d hd hl 20 (by omega) 8 (by omega) 3 (by omega)
    obtain ⟨uf, une⟩ := uniC_facts (curAt d 0).next (1 + ((curAt d 0).below 3).toNat)
    have ulen := uniC_len (curAt d 0).next (1 + ((curAt d 0).below 3).toNat)
    have hb3 := (curAt d 0).below_le 3 (by omega)
    obtain ⟨d1, d2, d3⟩ := drawT_fit 3 (by omega) 8 (curAt d 20)
    generalize (uniC (curAt d 0).next (1 + ((curAt d 0).below 3).toNat)).1 = u at *
    generalize (drawT 8 3 (curAt d 20)).1 = t at *
    have hune := une (by omega)
    have hul : 1 ≤ u.length ∧ u.length ≤ 3 := ⟨List.length_pos_iff.2 hune, by omega⟩
    obtain ⟨x0, hx0⟩ : ∃ x, u[0]? = some x := ⟨_, List.getElem?_eq_getElem (by omega)⟩
    have hx02 : ∀ h, u[0]'h = x0 := fun h => by rw [List.getElem?_eq_getElem h] at hx0; simpa using hx0
    have hlg := law_ground d1 d2 (by simpa using d3) uf hul (List.mem_of_getElem? hx0)
    obtain ⟨b, hb⟩ : ∃ b, b = t.sub (bget [⟨0, .var 1⟩, ⟨2, x0⟩]) := ⟨_, rfl⟩
    have hV : FnV Tryz.prog 9 [t.e, .slice 5 .no [(Bd.mk 0 (.var 1)).e, (Bd.mk 2 x0).e]] b.e := by
      rw [hb]; exact v_MakeValue [⟨0, .var 1⟩, ⟨2, x0⟩] (by simp) t
    have hG1 := v_GroundInstances t u
    have hG2 := v_GroundInstances b u
    have ha1 := hlg.all1
    have hs1 := hlg.some1
    have hle := hlg.le
    have hsub := hlg.sub
    rw [← hb] at hs1 hle hsub
    have hel := hlg.el
    have hasc := hlg.asc
    have huok := hlg.uok
    have hS1 := v_SubtermsOf u (by omega)
    have hS2 := v_SubtermsOf (subT u) hlg.pl
    rw [hlg.parts] at hS2
    have hLi := v_list (subT u) (subT u) (by have := hlg.pl; omega)
    have hGT := v_GroundTerms3 u huok hlg.prf hlg.gt.2
    have hgt1 := hlg.gt.1
    generalize gi t u = al at *
    generalize gi b u = so at *
    generalize asc ordT (u ++ u.flatMap (prs u)) = gt at *
    generalize subT u = pa at *
    have hu0 : 0 < u.length := by omega
    have hn1 : ¬(al.length : Int) < 1 := by omega
    have hn2 : ¬(so.length : Int) < 1 := by omega
    have hn3 : ¬(al.length : Int) < so.length := by omega
    refine FnV.mk mixed tysok2 f_laws_FnGround ok_laws_FnGround (by simp) (by simp [kin]) fun hbnd => ?_; unfold c_laws_FnGround
    ((repeat' first | with_reducible refine And.intro (by (first | omega | (unfold in64; omega) | (unfold lim; omega))) ?_ | with_reducible refine CallDo.val (by simp) (hU) ?_ | with_reducible refine CallD.val (by simp) (hU) ?_ | with_reducible refine CallDo.val (by simp) (hT) ?_ | with_reducible refine CallD.val (by simp) (hT) ?_ | with_reducible refine CallDo.val (by simp) (hV) ?_ | with_reducible refine CallD.val (by simp) (hV) ?_ | with_reducible refine CallDo.val (by simp) (hG1) ?_ | with_reducible refine CallD.val (by simp) (hG1) ?_ | with_reducible refine CallDo.val (by simp) (hG2) ?_ | with_reducible refine CallD.val (by simp) (hG2) ?_ | with_reducible refine CallDo.val (by simp) (v_UniverseOk _) ?_ | with_reducible refine CallD.val (by simp) (v_UniverseOk _) ?_ | simp [hu0, hx0, hx02, hn1, hn2, hn3, huok] | (with_reducible refine evCd_split (fun h => ?_) (fun h => ?_) <;> (try simp at h)) | (with_reducible refine evGd_split (fun h => ?_) (fun h => ?_) <;> (try simp at h)) | (with_reducible refine evDd_split (fun h => ?_) (fun h => ?_) <;> (try simp at h))) <;> (try first | contradiction | (exfalso; omega)))
    refine evC_rngK [3, 4, 6, 7, 58, 59] (fun i (_ : Unit) => [(60, .int .i64 i)]) al.length jF0 () ⟨by simp [fresh, kinL, kin, iterE, inObs, Pv.look], subB_of (by simp [fresh, kinL, kin, iterE, inObs, Pv.look]), subE_of (by simp [fresh, kinL, kin, kinO, inObs, Pv.look]), by simp⟩ trivial (fun _ _ _ => ?_) (fun i _ hi _ _ => ?_)
    · ((repeat' first | with_reducible refine And.intro (by (first | omega | (unfold in64; omega) | (unfold lim; omega))) ?_ | simp | (with_reducible refine evCd_split (fun h => ?_) (fun h => ?_) <;> (try simp at h)) | (with_reducible refine evGd_split (fun h => ?_) (fun h => ?_) <;> (try simp at h)) | (with_reducible refine evDd_split (fun h => ?_) (fun h => ?_) <;> (try simp at h))) <;> (try first | contradiction | (exfalso; omega)))
      refine evC_rngK [3, 6, 89, 90] (fun i (_ : Unit) => [(91, .int .i64 i)]) so.length jF0 () ⟨by simp [fresh, kinL, kin, iterE, inObs, Pv.look], subB_of (by simp [fresh, kinL, kin, iterE, inObs, Pv.look]), subE_of (by simp [fresh, kinL, kin, kinO, inObs, Pv.look]), by simp⟩ trivial (fun _ _ _ => ?_) (fun i _ hi _ _ => ?_)
      · ((repeat' first | with_reducible refine And.intro (by (first | omega | (unfold in64; omega) | (unfold lim; omega))) ?_ | with_reducible refine CallDo.val (by simp) (hS1) ?_ | with_reducible refine CallD.val (by simp) (hS1) ?_ | with_reducible refine CallDo.val (by simp) (hS2) ?_ | with_reducible refine CallD.val (by simp) (hS2) ?_ | with_reducible refine CallDo.val (by simp) (hLi) ?_ | with_reducible refine CallD.val (by simp) (hLi) ?_ | with_reducible refine CallDo.val (by simp) (hGT) ?_ | with_reducible refine CallD.val (by simp) (hGT) ?_ | simp | (with_reducible refine evCd_split (fun h => ?_) (fun h => ?_) <;> (try simp at h)) | (with_reducible refine evGd_split (fun h => ?_) (fun h => ?_) <;> (try simp at h)) | (with_reducible refine evDd_split (fun h => ?_) (fun h => ?_) <;> (try simp at h))) <;> (try first | contradiction | (exfalso; omega)))
        simp [RetV, r_laws_FnGround, resL, resV, tup]
        omega
      · obtain ⟨x, hx⟩ : ∃ x, so[i]? = some x := ⟨_, List.getElem?_eq_getElem hi⟩
        have hx2 : ∀ h, so[i]'h = x := fun h => by rw [List.getElem?_eq_getElem h] at hx; simpa using hx
        have hxm := hsub x (List.mem_of_getElem? hx)
        ((repeat' first | with_reducible refine And.intro (by (first | omega | (unfold in64; omega) | (unfold lim; omega))) ?_ | simp [hi, hx, hx2] | (with_reducible refine evCd_split (fun h => ?_) (fun h => ?_) <;> (try simp at h)) | (with_reducible refine evGd_split (fun h => ?_) (fun h => ?_) <;> (try simp at h)) | (with_reducible refine evDd_split (fun h => ?_) (fun h => ?_) <;> (try simp at h))) <;> (try first | contradiction | (exfalso; omega)))
        refine evC_rngK [3, 6, 11, 89, 90, 91, 95, 96] (fun j (f : Bool) => [(12, .bool f), (97, .int .i64 j)]) al.length (jF2 x al) false ⟨by simp [fresh, kinL, kin, iterE, inObs, Pv.look], subB_of (by simp [fresh, kinL, kin, iterE, inObs, Pv.look]), subE_of (by simp [fresh, kinL, kin, kinO, inObs, Pv.look]), by simp⟩ (by simp [jF2]) (fun f hj _ => ?_) (fun j f hj0 hj _ => ?_)
        · have hf : f = true := by unfold jF2 at hj; rw [hj, List.take_length]; simpa using hxm
          ((repeat' first | with_reducible refine And.intro (by (first | omega | (unfold in64; omega) | (unfold lim; omega))) ?_ | simp [hf] | (with_reducible refine evCd_split (fun h => ?_) (fun h => ?_) <;> (try simp at h)) | (with_reducible refine evGd_split (fun h => ?_) (fun h => ?_) <;> (try simp at h)) | (with_reducible refine evDd_split (fun h => ?_) (fun h => ?_) <;> (try simp at h))) <;> (try first | contradiction | (exfalso; omega)))
          refine LoopQ.rng () hi trivial ⟨by simp [fresh, kinL, kin, iterE, inObs, Pv.look], subB_of (by simp [fresh, kinL, kin, iterE, inObs, Pv.look]), subE_of (by simp [fresh, kinL, kin, kinO, inObs, Pv.look]), by simp⟩
        · obtain ⟨y, hy⟩ : ∃ y, al[j]? = some y := ⟨_, List.getElem?_eq_getElem hj0⟩
          have hy2 : ∀ h, al[j]'h = y := fun h => by rw [List.getElem?_eq_getElem h] at hy; simpa using hy
          unfold jF2 at hj
          cases f with
          | true =>
            ((repeat' first | with_reducible refine And.intro (by (first | omega | (unfold in64; omega) | (unfold lim; omega))) ?_ | with_reducible refine CallDo.val (by simp) (v_same _ _) ?_ | with_reducible refine CallD.val (by simp) (v_same _ _) ?_ | simp [hj0, hy, hy2] | (with_reducible refine evCd_split (fun h => ?_) (fun h => ?_) <;> (try simp at h)) | (with_reducible refine evGd_split (fun h => ?_) (fun h => ?_) <;> (try simp at h)) | (with_reducible refine evDd_split (fun h => ?_) (fun h => ?_) <;> (try simp at h))) <;> (try first | contradiction | (exfalso; omega)))
            refine LoopQ.rng true hj0 ?_ ⟨by simp [fresh, kinL, kin, iterE, inObs, Pv.look], subB_of (by simp [fresh, kinL, kin, iterE, inObs, Pv.look]), subE_of (by simp [fresh, kinL, kin, kinO, inObs, Pv.look]), by simp⟩
            unfold jF2
            rw [List.take_succ, hy]
            simp at hj ⊢
            exact .inl hj
          | false =>
            ((repeat' first | with_reducible refine And.intro (by (first | omega | (unfold in64; omega) | (unfold lim; omega))) ?_ | with_reducible refine CallDo.val (by simp) (v_same _ _) ?_ | with_reducible refine CallD.val (by simp) (v_same _ _) ?_ | simp [hj0, hy, hy2] | (with_reducible refine evCd_split (fun h => ?_) (fun h => ?_) <;> (try simp at h)) | (with_reducible refine evGd_split (fun h => ?_) (fun h => ?_) <;> (try simp at h)) | (with_reducible refine evDd_split (fun h => ?_) (fun h => ?_) <;> (try simp at h))) <;> (try first | contradiction | (exfalso; omega)))
            refine LoopQ.rng (decide (x = y)) hj0 ?_ ⟨by simp [fresh, kinL, kin, iterE, inObs, Pv.look], subB_of (by simp [fresh, kinL, kin, iterE, inObs, Pv.look]), subE_of (by simp [fresh, kinL, kin, kinO, inObs, Pv.look]), by simp⟩
            unfold jF2
            rw [List.take_succ, hy]
            simp at hj ⊢
            exact fun h => absurd h hj
    · obtain ⟨x, hx⟩ : ∃ x, al[i]? = some x := ⟨_, List.getElem?_eq_getElem hi⟩
      have hx2 : ∀ h, al[i]'h = x := fun h => by rw [List.getElem?_eq_getElem h] at hx; simpa using hx
      obtain ⟨e1, e2, e3⟩ := hel x (List.mem_of_getElem? hx)
      rcases Nat.eq_zero_or_pos i with rfl | hpos
      · ((repeat' first | with_reducible refine And.intro (by (first | omega | (unfold in64; omega) | (unfold lim; omega))) ?_ | with_reducible refine CallDo.val (by simp) (v_IsGround _) ?_ | with_reducible refine CallD.val (by simp) (v_IsGround _) ?_ | with_reducible refine CallDo.val (by simp) (v_isI _ _) ?_ | with_reducible refine CallD.val (by simp) (v_isI _ _) ?_ | with_reducible refine CallDo.val (by simp) (v_CompareTerms _ _) ?_ | with_reducible refine CallD.val (by simp) (v_CompareTerms _ _) ?_ | simp [hi, hx, hx2, e1, e2, e3] | (with_reducible refine evCd_split (fun h => ?_) (fun h => ?_) <;> (try simp at h)) | (with_reducible refine evGd_split (fun h => ?_) (fun h => ?_) <;> (try simp at h)) | (with_reducible refine evDd_split (fun h => ?_) (fun h => ?_) <;> (try simp at h))) <;> (try first | contradiction | (exfalso; omega)))
        refine LoopQ.rng () hi trivial ⟨by simp [fresh, kinL, kin, iterE, inObs, Pv.look], subB_of (by simp [fresh, kinL, kin, iterE, inObs, Pv.look]), subE_of (by simp [fresh, kinL, kin, kinO, inObs, Pv.look]), by simp⟩
      · obtain ⟨y, hy⟩ : ∃ y, al[i - 1]? = some y := ⟨_, List.getElem?_eq_getElem (by omega)⟩
        have hy2 : ∀ h, al[i - 1]'h = y := fun h => by rw [List.getElem?_eq_getElem h] at hy; simpa using hy
        have hyf := (hel y (List.mem_of_getElem? hy)).1
        have hlt := SAsc_get hasc (show i - 1 < i by omega) hy hx
        have hlt2 : ¬0 ≤ ordT y x := by omega
        have e4 : ((i : Int) - 1).toNat = i - 1 := by omega
        ((repeat' first | with_reducible refine And.intro (by (first | omega | (unfold in64; omega) | (unfold lim; omega))) ?_ | with_reducible refine CallDo.val (by simp) (v_IsGround _) ?_ | with_reducible refine CallD.val (by simp) (v_IsGround _) ?_ | with_reducible refine CallDo.val (by simp) (v_isI _ _) ?_ | with_reducible refine CallD.val (by simp) (v_isI _ _) ?_ | with_reducible refine CallDo.val (by simp) (v_CompareTerms _ _) ?_ | with_reducible refine CallD.val (by simp) (v_CompareTerms _ _) ?_ | simp [hi, hx, hx2, e1, e2, e3, hy, hy2, hyf, hlt2, e4, hpos] | (with_reducible refine evCd_split (fun h => ?_) (fun h => ?_) <;> (try simp at h)) | (with_reducible refine evGd_split (fun h => ?_) (fun h => ?_) <;> (try simp at h)) | (with_reducible refine evDd_split (fun h => ?_) (fun h => ?_) <;> (try simp at h))) <;> (try first | contradiction | (exfalso; omega)))
        refine LoopQ.rng () hi trivial ⟨by simp [fresh, kinL, kin, iterE, inObs, Pv.look], subB_of (by simp [fresh, kinL, kin, iterE, inObs, Pv.look]), subE_of (by simp [fresh, kinL, kin, kinO, inObs, Pv.look]), by simp⟩
end Go.Proofs.YtchidkafcdmciaaGreat
