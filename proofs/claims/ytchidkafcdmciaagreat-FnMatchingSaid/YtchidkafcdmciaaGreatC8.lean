/- Contracts: a set of integers in order; the variables of a term. -/
import Derived.Test.YtchidkafcdmciaaGreatC7
set_option linter.all false
namespace Go.Proofs.YtchidkafcdmciaaGreat
open Go Go.Pv

theorem sortI_perm {a b : List Int} (h : a.Perm b) : sortI a = sortI b := by
  have ht : ∀ a b c : Int, (decide (a ≤ b)) = true → (decide (b ≤ c)) = true → (decide (a ≤ c)) = true := by intro a b c; simp; omega
  have hto : ∀ a b : Int, (decide (a ≤ b) || decide (b ≤ a)) = true := by intro a b; simp; omega
  have h1 := List.pairwise_mergeSort ht hto a
  have h2 := List.pairwise_mergeSort ht hto b
  refine List.Perm.eq_of_pairwise (le := fun x y : Int => (decide (x ≤ y)) = true) (fun x y _ _ h1 h2 => by simp at h1 h2; omega) h1 h2 ?_
  exact (List.mergeSort_perm a _).trans (h.trans (List.mergeSort_perm b _).symm)
def invSI (l : List Int) (k : Nat) (st : St) : Prop :=
  ∃ (seen : List Nat) (xs : List Int), seen.Nodup ∧ (∀ b ∈ seen, b < l.length) ∧ k = l.length - seen.length ∧ xs = seen.filterMap (fun b => l[b]?) ∧ xs.length = seen.length ∧ st = ⟨[(3, .row 1 (.obj 306) xs.length), (7, .ptr (.loc 0) 0)], [(.obj 304, bE l), (.loc 0, iterE l.length seen (.obj 304))], [(.obj 306, ⟨xs.length, 3, 1, some (intsE xs)⟩)], 1, [.obj 306, .obj 304]⟩
@[simp] theorem intsE_length (xs : List Int) : (intsE xs).length = xs.length := by simp [intsE]
@[simp] theorem strip_ints (xs : List Int) : stripL (intsE xs) = intsE xs := by
  induction xs with
  | nil => rfl
  | cons x r ih => simp only [intsE, List.map_cons, stripL, strip] at ih ⊢; rw [ih]
@[simp] theorem intsE_nil : intsE [] = [] := rfl
theorem intsE_snoc (xs : List Int) (x : Int) : intsE xs ++ [PV.int .i64 x] = intsE (xs ++ [x]) := by simp [intsE]
set_option maxHeartbeats 1000000 in
theorem g_sortedInts (l : List Int) (hl : l.length ≤ 1000000) : FnG Tryz.prog 72 [.gmap (.obj 304)] (SB l) fun r s' => r = .slice 1 .no (intsE (sortI l)) ∧ s' = SB l := by
  have hs := SB_ok l
  unfold SB at hs ⊢
  refine FnG.mk mixed tysok f_impl_sortedInts ok_impl_sortedInts (by simp) hs.obj fun hbnd hbb => ?_; unfold c_impl_sortedInts
  simp
  refine evC_loop (invSI l) l.length _ ⟨by simp [fresh, kinL, kin, iterE, inObs, Pv.look, kinL_bE, kinL_ints], (by intro k x hx; have hm := look_mem hx; clear hx; simp at hm; first | (obtain ⟨rfl, rfl⟩ := hm; simp [fresh, kinL, kin, iterE, inObs, Pv.look, kinL_bE, kinL_ints]; done) | (rcases hm with ⟨rfl, rfl⟩ | ⟨rfl, rfl⟩ <;> simp [fresh, kinL, kin, iterE, inObs, Pv.look, kinL_bE, kinL_ints]; done) | (rcases hm with ⟨rfl, rfl⟩ | ⟨rfl, rfl⟩ | ⟨rfl, rfl⟩ <;> simp [fresh, kinL, kin, iterE, inObs, Pv.look, kinL_bE, kinL_ints]; done) | (rcases hm with ⟨rfl, rfl⟩ | ⟨rfl, rfl⟩ | ⟨rfl, rfl⟩ | ⟨rfl, rfl⟩ <;> simp [fresh, kinL, kin, iterE, inObs, Pv.look, kinL_bE, kinL_ints]; done) | (rcases hm with ⟨rfl, rfl⟩ | ⟨rfl, rfl⟩ | ⟨rfl, rfl⟩ | ⟨rfl, rfl⟩ | ⟨rfl, rfl⟩ <;> simp [fresh, kinL, kin, iterE, inObs, Pv.look, kinL_bE, kinL_ints]; done) | (rcases hm with ⟨rfl, rfl⟩ | ⟨rfl, rfl⟩ | ⟨rfl, rfl⟩ | ⟨rfl, rfl⟩ | ⟨rfl, rfl⟩ | ⟨rfl, rfl⟩ <;> simp [fresh, kinL, kin, iterE, inObs, Pv.look, kinL_bE, kinL_ints]; done)), (by first | (simp [subE]; done) | (intro k x hx; have hm := look_mem hx; clear hx; simp at hm; obtain ⟨rfl, rfl⟩ := hm; simp [fresh, kinL, kin, kinO, inObs, Pv.look, kinL_bE, kinL_ints]; done)), by simp⟩ ⟨[], [], by simp, by simp, by simp, by simp, by simp, rfl⟩ ?_
  rintro k st ⟨seen, xs, hd, hlt, hk, hxs, hxl, rfl⟩ hbt hbb
  clear hbt hbb
  have hle := seen_le hd hlt
  simp
  refine ev1n_bE (mk := .obj 304) (seen := seen) (l := l) (by simp) (by simp) rfl (fun hall => ?_) (fun b x hx hb => ?_)
  · simp
    have hperm := seen_all hd hlt hall
    rw [← hxs] at hperm
    refine CallDo.ob (g_sortInts 306 xs (by omega)) (SI_ok 306 xs) (by unfold SI; exact (by intro k x hx; first | exact hx | (simp [hx, without_self]; done) | (simp [look_app, without_self, hx]; done) | (cases k <;> simp_all [look_app]; done) | (have hm := look_mem hx; clear hx; simp at hm; first | (obtain ⟨rfl, rfl⟩ := hm; simp; done) | (rcases hm with ⟨rfl, rfl⟩ | ⟨rfl, rfl⟩ <;> simp; done) | (rcases hm with ⟨rfl, rfl⟩ | ⟨rfl, rfl⟩ | ⟨rfl, rfl⟩ <;> simp; done) | (rcases hm with ⟨rfl, rfl⟩ | ⟨rfl, rfl⟩ | ⟨rfl, rfl⟩ | ⟨rfl, rfl⟩ <;> simp; done) | (rcases hm with ⟨rfl, rfl⟩ | ⟨rfl, rfl⟩ | ⟨rfl, rfl⟩ | ⟨rfl, rfl⟩ | ⟨rfl, rfl⟩ <;> simp; done) | (rcases hm with ⟨rfl, rfl⟩ | ⟨rfl, rfl⟩ | ⟨rfl, rfl⟩ | ⟨rfl, rfl⟩ | ⟨rfl, rfl⟩ | ⟨rfl, rfl⟩ <;> simp; done)))) (by unfold SI; exact (by intro k x hx; first | exact hx | (simp [hx, without_self]; done) | (simp [look_app, without_self, hx]; done) | (cases k <;> simp_all [look_app]; done) | (have hm := look_mem hx; clear hx; simp at hm; first | (obtain ⟨rfl, rfl⟩ := hm; simp; done) | (rcases hm with ⟨rfl, rfl⟩ | ⟨rfl, rfl⟩ <;> simp; done) | (rcases hm with ⟨rfl, rfl⟩ | ⟨rfl, rfl⟩ | ⟨rfl, rfl⟩ <;> simp; done) | (rcases hm with ⟨rfl, rfl⟩ | ⟨rfl, rfl⟩ | ⟨rfl, rfl⟩ | ⟨rfl, rfl⟩ <;> simp; done) | (rcases hm with ⟨rfl, rfl⟩ | ⟨rfl, rfl⟩ | ⟨rfl, rfl⟩ | ⟨rfl, rfl⟩ | ⟨rfl, rfl⟩ <;> simp; done) | (rcases hm with ⟨rfl, rfl⟩ | ⟨rfl, rfl⟩ | ⟨rfl, rfl⟩ | ⟨rfl, rfl⟩ | ⟨rfl, rfl⟩ | ⟨rfl, rfl⟩ <;> simp; done)))) (by simp [SI, inObs, Pv.look]) ?_
    rintro r s' ⟨rfl, rfl⟩
    refine ⟨⟨fun _ => rfl, fun k => by simp only [SI, Pv.look]; split <;> rfl⟩, ?_⟩
    unfold SI
    simp [without, sortI_length]
    refine RetQ.at _ (.inl rfl) hs (Same.refl _) (by intro k x hx; first | exact hx | (simp [hx, without_self]; done) | (simp [look_app, without_self, hx]; done) | (cases k <;> simp_all [look_app]; done) | (have hm := look_mem hx; clear hx; simp at hm; first | (obtain ⟨rfl, rfl⟩ := hm; simp; done) | (rcases hm with ⟨rfl, rfl⟩ | ⟨rfl, rfl⟩ <;> simp; done) | (rcases hm with ⟨rfl, rfl⟩ | ⟨rfl, rfl⟩ | ⟨rfl, rfl⟩ <;> simp; done) | (rcases hm with ⟨rfl, rfl⟩ | ⟨rfl, rfl⟩ | ⟨rfl, rfl⟩ | ⟨rfl, rfl⟩ <;> simp; done) | (rcases hm with ⟨rfl, rfl⟩ | ⟨rfl, rfl⟩ | ⟨rfl, rfl⟩ | ⟨rfl, rfl⟩ | ⟨rfl, rfl⟩ <;> simp; done) | (rcases hm with ⟨rfl, rfl⟩ | ⟨rfl, rfl⟩ | ⟨rfl, rfl⟩ | ⟨rfl, rfl⟩ | ⟨rfl, rfl⟩ | ⟨rfl, rfl⟩ <;> simp; done))) (by intro k x hx; first | exact hx | (simp [hx, without_self]; done) | (simp [look_app, without_self, hx]; done) | (cases k <;> simp_all [look_app]; done) | (have hm := look_mem hx; clear hx; simp at hm; first | (obtain ⟨rfl, rfl⟩ := hm; simp; done) | (rcases hm with ⟨rfl, rfl⟩ | ⟨rfl, rfl⟩ <;> simp; done) | (rcases hm with ⟨rfl, rfl⟩ | ⟨rfl, rfl⟩ | ⟨rfl, rfl⟩ <;> simp; done) | (rcases hm with ⟨rfl, rfl⟩ | ⟨rfl, rfl⟩ | ⟨rfl, rfl⟩ | ⟨rfl, rfl⟩ <;> simp; done) | (rcases hm with ⟨rfl, rfl⟩ | ⟨rfl, rfl⟩ | ⟨rfl, rfl⟩ | ⟨rfl, rfl⟩ | ⟨rfl, rfl⟩ <;> simp; done) | (rcases hm with ⟨rfl, rfl⟩ | ⟨rfl, rfl⟩ | ⟨rfl, rfl⟩ | ⟨rfl, rfl⟩ | ⟨rfl, rfl⟩ | ⟨rfl, rfl⟩ <;> simp; done))) ?_
    simp [ResIs, r_impl_sortedInts, resL, resV, tup]
    rw [sortI_perm hperm]
    simp [kin, kinL_ints]
  · have hment : ∀ f : Key → Option (List PV), f (.loc 0) = some (iterE l.length (seen ++ [b]) (.obj 304)) → f (.obj 304) = some (bE l) → mentV f (.ptr (.loc 0) 0) = some (True, .tuple [.int .i64 x, .bool true]) := fun f h1 h2 => mentV_bE f (.loc 0) (.obj 304) l.length seen b l x h1 h2 rfl hx
    have hbl : b < l.length := (List.getElem?_eq_some_iff.1 hx).1
    have hsl := seen_lt hd hlt hbl hb
    simp [hment, intsE_snoc]
    refine ⟨by unfold lim; omega, ?_⟩
    refine LoopQ.next (l.length - (seen.length + 1)) (by omega) ⟨seen ++ [b], xs ++ [x], nodup_snoc hd hb, (by simp; intro c hc; rcases hc with hc | rfl; exact hlt c hc; exact hbl), by simp, by rw [List.filterMap_append, ← hxs]; simp [hx], by simp [hxl], rfl⟩ ⟨by simp [fresh, kinL, kin, iterE, inObs, Pv.look, kinL_bE, kinL_ints], (by intro k x hx; have hm := look_mem hx; clear hx; simp at hm; first | (obtain ⟨rfl, rfl⟩ := hm; simp [fresh, kinL, kin, iterE, inObs, Pv.look, kinL_bE, kinL_ints]; done) | (rcases hm with ⟨rfl, rfl⟩ | ⟨rfl, rfl⟩ <;> simp [fresh, kinL, kin, iterE, inObs, Pv.look, kinL_bE, kinL_ints]; done) | (rcases hm with ⟨rfl, rfl⟩ | ⟨rfl, rfl⟩ | ⟨rfl, rfl⟩ <;> simp [fresh, kinL, kin, iterE, inObs, Pv.look, kinL_bE, kinL_ints]; done) | (rcases hm with ⟨rfl, rfl⟩ | ⟨rfl, rfl⟩ | ⟨rfl, rfl⟩ | ⟨rfl, rfl⟩ <;> simp [fresh, kinL, kin, iterE, inObs, Pv.look, kinL_bE, kinL_ints]; done) | (rcases hm with ⟨rfl, rfl⟩ | ⟨rfl, rfl⟩ | ⟨rfl, rfl⟩ | ⟨rfl, rfl⟩ | ⟨rfl, rfl⟩ <;> simp [fresh, kinL, kin, iterE, inObs, Pv.look, kinL_bE, kinL_ints]; done) | (rcases hm with ⟨rfl, rfl⟩ | ⟨rfl, rfl⟩ | ⟨rfl, rfl⟩ | ⟨rfl, rfl⟩ | ⟨rfl, rfl⟩ | ⟨rfl, rfl⟩ <;> simp [fresh, kinL, kin, iterE, inObs, Pv.look, kinL_bE, kinL_ints]; done)), (by first | (simp [subE]; done) | (intro k x hx; have hm := look_mem hx; clear hx; simp at hm; obtain ⟨rfl, rfl⟩ := hm; simp [fresh, kinL, kin, kinO, inObs, Pv.look, kinL_bE, kinL_ints]; done)), by simp⟩
@[simp] theorem kinL_intsT (S : Key → Prop) (xs : List Int) : kinL S (intsE xs) = True := eq_true (kinL_ints S xs)
theorem fold_len (t : T) : ∀ l : List Int, (t.fold addV l).length ≤ l.length + t.size := by
  induction t with
  | var n => intro l; simp only [T.fold, addV, T.size]; split <;> simp
  | pair a b iha ihb => intro l; simp only [T.fold, T.size]; have := iha l; have := ihb (a.fold addV l); omega
  | _ => intro l; simp [T.fold, T.size]
/-- What TermVars computes. -/
def tvars (t : T) : List Int := if t.fit then sortI (t.fold addV []) else []
@[simp] theorem cells_junk : cells .junk = [.junk] := rfl
set_option maxHeartbeats 1000000 in
theorem v_TermVars (t : T) : FnV Tryz.prog 25 [t.e] (.slice 1 .no (intsE (tvars t))) := by
  refine FnV.mk mixed tysok f_impl_TermVars ok_impl_TermVars (by simp) (by simp [kin]) fun hbnd => ?_; unfold c_impl_TermVars
  simp
  (repeat' first | (with_reducible refine evCd_split (fun h => ?_) (fun h => ?_) <;> (try simp at h)) | (with_reducible refine evGd_split (fun h => ?_) (fun h => ?_) <;> (try simp at h)) | (with_reducible refine evDd_split (fun h => ?_) (fun h => ?_) <;> (try simp at h)) | with_reducible refine And.intro (by (first | omega | (unfold in64; omega))) ?_ | with_reducible refine CallDo.val (by simp) (v_TermOkT _) ?_ | with_reducible refine CallD.val (by simp) (v_TermOkT _) ?_ | simp)
  · simp [RetV, r_impl_TermVars, resL, resV, tup]
    simp [tvars, h]
  · have hlen : (t.fold addV []).length ≤ 1000000 := by
      have h1 := fold_len t []
      simp [T.fit] at h h1
      omega
    refine CallDo.ob (g_eachVar SV SV_ok SV_same 71 [.ptr (.obj 305) 0] (by intro a; simp [inObs, SV, Pv.look, kinL, kin]) (by simp) addV g_TermVars1 t []) (SV_ok []) (by unfold SV; exact (by intro k x hx; first | exact hx | (simp [hx, without_self]; done) | (simp [look_app, without_self, hx]; done) | (cases k <;> simp_all [look_app]; done) | (have hm := look_mem hx; clear hx; simp at hm; first | (obtain ⟨rfl, rfl⟩ := hm; simp; done) | (rcases hm with ⟨rfl, rfl⟩ | ⟨rfl, rfl⟩ <;> simp; done) | (rcases hm with ⟨rfl, rfl⟩ | ⟨rfl, rfl⟩ | ⟨rfl, rfl⟩ <;> simp; done) | (rcases hm with ⟨rfl, rfl⟩ | ⟨rfl, rfl⟩ | ⟨rfl, rfl⟩ | ⟨rfl, rfl⟩ <;> simp; done) | (rcases hm with ⟨rfl, rfl⟩ | ⟨rfl, rfl⟩ | ⟨rfl, rfl⟩ | ⟨rfl, rfl⟩ | ⟨rfl, rfl⟩ <;> simp; done) | (rcases hm with ⟨rfl, rfl⟩ | ⟨rfl, rfl⟩ | ⟨rfl, rfl⟩ | ⟨rfl, rfl⟩ | ⟨rfl, rfl⟩ | ⟨rfl, rfl⟩ <;> simp; done)))) (by unfold SV; exact (by intro k x hx; first | exact hx | (simp [hx, without_self]; done) | (simp [look_app, without_self, hx]; done) | (cases k <;> simp_all [look_app]; done) | (have hm := look_mem hx; clear hx; simp at hm; first | (obtain ⟨rfl, rfl⟩ := hm; simp; done) | (rcases hm with ⟨rfl, rfl⟩ | ⟨rfl, rfl⟩ <;> simp; done) | (rcases hm with ⟨rfl, rfl⟩ | ⟨rfl, rfl⟩ | ⟨rfl, rfl⟩ <;> simp; done) | (rcases hm with ⟨rfl, rfl⟩ | ⟨rfl, rfl⟩ | ⟨rfl, rfl⟩ | ⟨rfl, rfl⟩ <;> simp; done) | (rcases hm with ⟨rfl, rfl⟩ | ⟨rfl, rfl⟩ | ⟨rfl, rfl⟩ | ⟨rfl, rfl⟩ | ⟨rfl, rfl⟩ <;> simp; done) | (rcases hm with ⟨rfl, rfl⟩ | ⟨rfl, rfl⟩ | ⟨rfl, rfl⟩ | ⟨rfl, rfl⟩ | ⟨rfl, rfl⟩ | ⟨rfl, rfl⟩ <;> simp; done)))) (by simp [inObs, SV, Pv.look]) ?_
    rintro r s' ⟨rfl, rfl⟩
    refine ⟨SV_same _ _, ?_⟩
    unfold SV
    simp [without]
    refine CallDo.ob (g_sortedInts (t.fold addV []) hlen) (SB_ok _) (by unfold SB; exact (by intro k x hx; first | exact hx | (simp [hx, without_self]; done) | (simp [look_app, without_self, hx]; done) | (cases k <;> simp_all [look_app]; done) | (have hm := look_mem hx; clear hx; simp at hm; first | (obtain ⟨rfl, rfl⟩ := hm; simp; done) | (rcases hm with ⟨rfl, rfl⟩ | ⟨rfl, rfl⟩ <;> simp; done) | (rcases hm with ⟨rfl, rfl⟩ | ⟨rfl, rfl⟩ | ⟨rfl, rfl⟩ <;> simp; done) | (rcases hm with ⟨rfl, rfl⟩ | ⟨rfl, rfl⟩ | ⟨rfl, rfl⟩ | ⟨rfl, rfl⟩ <;> simp; done) | (rcases hm with ⟨rfl, rfl⟩ | ⟨rfl, rfl⟩ | ⟨rfl, rfl⟩ | ⟨rfl, rfl⟩ | ⟨rfl, rfl⟩ <;> simp; done) | (rcases hm with ⟨rfl, rfl⟩ | ⟨rfl, rfl⟩ | ⟨rfl, rfl⟩ | ⟨rfl, rfl⟩ | ⟨rfl, rfl⟩ | ⟨rfl, rfl⟩ <;> simp; done)))) (by unfold SB; exact (by intro k x hx; first | exact hx | (simp [hx, without_self]; done) | (simp [look_app, without_self, hx]; done) | (cases k <;> simp_all [look_app]; done) | (have hm := look_mem hx; clear hx; simp at hm; first | (obtain ⟨rfl, rfl⟩ := hm; simp; done) | (rcases hm with ⟨rfl, rfl⟩ | ⟨rfl, rfl⟩ <;> simp; done) | (rcases hm with ⟨rfl, rfl⟩ | ⟨rfl, rfl⟩ | ⟨rfl, rfl⟩ <;> simp; done) | (rcases hm with ⟨rfl, rfl⟩ | ⟨rfl, rfl⟩ | ⟨rfl, rfl⟩ | ⟨rfl, rfl⟩ <;> simp; done) | (rcases hm with ⟨rfl, rfl⟩ | ⟨rfl, rfl⟩ | ⟨rfl, rfl⟩ | ⟨rfl, rfl⟩ | ⟨rfl, rfl⟩ <;> simp; done) | (rcases hm with ⟨rfl, rfl⟩ | ⟨rfl, rfl⟩ | ⟨rfl, rfl⟩ | ⟨rfl, rfl⟩ | ⟨rfl, rfl⟩ | ⟨rfl, rfl⟩ <;> simp; done)))) (by simp [inObs, SB, Pv.look]) ?_
    rintro r s' ⟨rfl, rfl⟩
    refine ⟨Same.refl _, ?_⟩
    unfold SB
    simp [without]
    simp [RetV, r_impl_TermVars, resL, resV, tup]
    simp [tvars, h]
end Go.Proofs.YtchidkafcdmciaaGreat
