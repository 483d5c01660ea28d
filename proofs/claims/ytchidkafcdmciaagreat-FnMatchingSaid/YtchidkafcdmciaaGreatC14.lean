/- Contracts: copies, values, sameness. -/
import Derived.Test.YtchidkafcdmciaaGreatC13
set_option linter.all false
namespace Go.Proofs.YtchidkafcdmciaaGreat
open Go Go.Pv
attribute [-simp] intV binV

def invCopy (t : T) (k : Nat) (st : St) : Prop :=
  (k = t.args.length ∧ st = ⟨[(2, .ptr (.loc 1) 0), (3, .ptr (.loc 2) 0), (14, .slice 4 .no (t.args.map T.e)), (15, .int .i64 t.args.length), (16, .int .i64 0)], [(.loc 1, [.int .i64 0, .int .i64 0, .str [], .slice 4 .nil []]), (.loc 2, [.int .i64 t.kind, .int .i64 t.int, .str t.name, .slice 4 .nil []])], [], 3, []⟩) ∨
  ∃ i : Nat, 1 ≤ i ∧ i ≤ t.args.length ∧ k = t.args.length - i ∧ st = ⟨[(2, .ptr (.loc 1) 0), (3, .ptr (.loc 2) 0), (14, .slice 4 .no (t.args.map T.e)), (15, .int .i64 t.args.length), (16, .int .i64 i)], [(.loc 1, [.int .i64 0, .int .i64 0, .str [], .slice 4 .nil []]), (.loc 2, [.int .i64 t.kind, .int .i64 t.int, .str t.name, .slice 4 (.own (.loc 29)) ((t.args.take i).map T.e)])], [(.loc 29, ⟨i, 26, 4, none⟩)], 30, []⟩
set_option maxHeartbeats 1000000 in
set_option maxRecDepth 4000 in
theorem v_l02Copy (t : T) : FnV Tryz.prog 52 [t.e] t.e := by
  induction t with
  | pair a b iha ihb =>
    refine FnV.mk mixed tysok f_spec_l02Copy ok_spec_l02Copy (by simp) (by simp [kin]) fun hbnd => ?_; unfold c_spec_l02Copy
    simp
    refine evC_loop (invCopy (.pair a b)) 2 _ ⟨by simp [fresh, kinL, kin, iterE, inObs, Pv.look], (by intro k x hx; have hm := look_mem hx; clear hx; simp at hm; first | (obtain ⟨rfl, rfl⟩ := hm; simp [fresh, kinL, kin, iterE, inObs, Pv.look]; done) | (rcases hm with ⟨rfl, rfl⟩ | ⟨rfl, rfl⟩ <;> simp [fresh, kinL, kin, iterE, inObs, Pv.look]; done) | (rcases hm with ⟨rfl, rfl⟩ | ⟨rfl, rfl⟩ | ⟨rfl, rfl⟩ <;> simp [fresh, kinL, kin, iterE, inObs, Pv.look]; done) | (rcases hm with ⟨rfl, rfl⟩ | ⟨rfl, rfl⟩ | ⟨rfl, rfl⟩ | ⟨rfl, rfl⟩ <;> simp [fresh, kinL, kin, iterE, inObs, Pv.look]; done) | (rcases hm with ⟨rfl, rfl⟩ | ⟨rfl, rfl⟩ | ⟨rfl, rfl⟩ | ⟨rfl, rfl⟩ | ⟨rfl, rfl⟩ <;> simp [fresh, kinL, kin, iterE, inObs, Pv.look]; done) | (rcases hm with ⟨rfl, rfl⟩ | ⟨rfl, rfl⟩ | ⟨rfl, rfl⟩ | ⟨rfl, rfl⟩ | ⟨rfl, rfl⟩ | ⟨rfl, rfl⟩ <;> simp [fresh, kinL, kin, iterE, inObs, Pv.look]; done)), (by first | (simp [subE]; done) | (intro k x hx; have hm := look_mem hx; clear hx; simp at hm; obtain ⟨rfl, rfl⟩ := hm; simp [fresh, kinL, kin, kinO, inObs, Pv.look]; done)), by simp⟩ (.inl ⟨rfl, rfl⟩) ?_
    rintro k st (⟨hk, rfl⟩ | ⟨i, h1, h2, hk, rfl⟩) hbt hbb
    all_goals clear hbt hbb
    · simp
      (repeat' first | (with_reducible refine evCd_split (fun h => ?_) (fun h => ?_) <;> (try simp at h)) | (with_reducible refine evGd_split (fun h => ?_) (fun h => ?_) <;> (try simp at h)) | (with_reducible refine evDd_split (fun h => ?_) (fun h => ?_) <;> (try simp at h)) | with_reducible refine And.intro (by (first | omega | (unfold in64; omega))) ?_ | with_reducible refine CallDo.val (by simp) (iha) ?_ | with_reducible refine CallD.val (by simp) (iha) ?_ | simp)
      refine ⟨by unfold lim; omega, by unfold in64; omega, ?_⟩
      refine LoopQ.next 1 (by rw [hk]; simp) (.inr ⟨1, by omega, by simp, rfl, rfl⟩) ⟨by simp [fresh, kinL, kin, iterE, inObs, Pv.look], (by intro k x hx; have hm := look_mem hx; clear hx; simp at hm; first | (obtain ⟨rfl, rfl⟩ := hm; simp [fresh, kinL, kin, iterE, inObs, Pv.look]; done) | (rcases hm with ⟨rfl, rfl⟩ | ⟨rfl, rfl⟩ <;> simp [fresh, kinL, kin, iterE, inObs, Pv.look]; done) | (rcases hm with ⟨rfl, rfl⟩ | ⟨rfl, rfl⟩ | ⟨rfl, rfl⟩ <;> simp [fresh, kinL, kin, iterE, inObs, Pv.look]; done) | (rcases hm with ⟨rfl, rfl⟩ | ⟨rfl, rfl⟩ | ⟨rfl, rfl⟩ | ⟨rfl, rfl⟩ <;> simp [fresh, kinL, kin, iterE, inObs, Pv.look]; done) | (rcases hm with ⟨rfl, rfl⟩ | ⟨rfl, rfl⟩ | ⟨rfl, rfl⟩ | ⟨rfl, rfl⟩ | ⟨rfl, rfl⟩ <;> simp [fresh, kinL, kin, iterE, inObs, Pv.look]; done) | (rcases hm with ⟨rfl, rfl⟩ | ⟨rfl, rfl⟩ | ⟨rfl, rfl⟩ | ⟨rfl, rfl⟩ | ⟨rfl, rfl⟩ | ⟨rfl, rfl⟩ <;> simp [fresh, kinL, kin, iterE, inObs, Pv.look]; done)), (by first | (simp [subE]; done) | (intro k x hx; have hm := look_mem hx; clear hx; simp at hm; obtain ⟨rfl, rfl⟩ := hm; simp [fresh, kinL, kin, kinO, inObs, Pv.look]; done)), by simp⟩
    · rcases (by simp at h2; omega : i = 1 ∨ i = 2) with rfl | rfl
      · simp
        (repeat' first | (with_reducible refine evCd_split (fun h => ?_) (fun h => ?_) <;> (try simp at h)) | (with_reducible refine evGd_split (fun h => ?_) (fun h => ?_) <;> (try simp at h)) | (with_reducible refine evDd_split (fun h => ?_) (fun h => ?_) <;> (try simp at h)) | with_reducible refine And.intro (by (first | omega | (unfold in64; omega))) ?_ | with_reducible refine CallDo.val (by simp) (ihb) ?_ | with_reducible refine CallD.val (by simp) (ihb) ?_ | simp)
        refine ⟨by unfold lim; omega, by unfold in64; omega, ?_⟩
        refine LoopQ.next 0 (by rw [hk]; simp) (.inr ⟨2, by omega, by simp, rfl, rfl⟩) ⟨by simp [fresh, kinL, kin, iterE, inObs, Pv.look], (by intro k x hx; have hm := look_mem hx; clear hx; simp at hm; first | (obtain ⟨rfl, rfl⟩ := hm; simp [fresh, kinL, kin, iterE, inObs, Pv.look]; done) | (rcases hm with ⟨rfl, rfl⟩ | ⟨rfl, rfl⟩ <;> simp [fresh, kinL, kin, iterE, inObs, Pv.look]; done) | (rcases hm with ⟨rfl, rfl⟩ | ⟨rfl, rfl⟩ | ⟨rfl, rfl⟩ <;> simp [fresh, kinL, kin, iterE, inObs, Pv.look]; done) | (rcases hm with ⟨rfl, rfl⟩ | ⟨rfl, rfl⟩ | ⟨rfl, rfl⟩ | ⟨rfl, rfl⟩ <;> simp [fresh, kinL, kin, iterE, inObs, Pv.look]; done) | (rcases hm with ⟨rfl, rfl⟩ | ⟨rfl, rfl⟩ | ⟨rfl, rfl⟩ | ⟨rfl, rfl⟩ | ⟨rfl, rfl⟩ <;> simp [fresh, kinL, kin, iterE, inObs, Pv.look]; done) | (rcases hm with ⟨rfl, rfl⟩ | ⟨rfl, rfl⟩ | ⟨rfl, rfl⟩ | ⟨rfl, rfl⟩ | ⟨rfl, rfl⟩ | ⟨rfl, rfl⟩ <;> simp [fresh, kinL, kin, iterE, inObs, Pv.look]; done)), (by first | (simp [subE]; done) | (intro k x hx; have hm := look_mem hx; clear hx; simp at hm; obtain ⟨rfl, rfl⟩ := hm; simp [fresh, kinL, kin, kinO, inObs, Pv.look]; done)), by simp⟩
      · simp
        (repeat' first | (with_reducible refine evCd_split (fun h => ?_) (fun h => ?_) <;> (try simp at h)) | (with_reducible refine evGd_split (fun h => ?_) (fun h => ?_) <;> (try simp at h)) | (with_reducible refine evDd_split (fun h => ?_) (fun h => ?_) <;> (try simp at h)) | with_reducible refine And.intro (by (first | omega | (unfold in64; omega))) ?_ | simp)
        simp [RetV, r_spec_l02Copy, resL, resV, tup]
  | nil =>
    refine FnV.mk mixed tysok f_spec_l02Copy ok_spec_l02Copy (by simp) (by simp [kin]) fun hbnd => ?_; unfold c_spec_l02Copy
    simp
    refine evC_loop (invCopy (.nil)) 0 _ ⟨by simp [fresh, kinL, kin, iterE, inObs, Pv.look], (by intro k x hx; have hm := look_mem hx; clear hx; simp at hm; first | (obtain ⟨rfl, rfl⟩ := hm; simp [fresh, kinL, kin, iterE, inObs, Pv.look]; done) | (rcases hm with ⟨rfl, rfl⟩ | ⟨rfl, rfl⟩ <;> simp [fresh, kinL, kin, iterE, inObs, Pv.look]; done) | (rcases hm with ⟨rfl, rfl⟩ | ⟨rfl, rfl⟩ | ⟨rfl, rfl⟩ <;> simp [fresh, kinL, kin, iterE, inObs, Pv.look]; done) | (rcases hm with ⟨rfl, rfl⟩ | ⟨rfl, rfl⟩ | ⟨rfl, rfl⟩ | ⟨rfl, rfl⟩ <;> simp [fresh, kinL, kin, iterE, inObs, Pv.look]; done) | (rcases hm with ⟨rfl, rfl⟩ | ⟨rfl, rfl⟩ | ⟨rfl, rfl⟩ | ⟨rfl, rfl⟩ | ⟨rfl, rfl⟩ <;> simp [fresh, kinL, kin, iterE, inObs, Pv.look]; done) | (rcases hm with ⟨rfl, rfl⟩ | ⟨rfl, rfl⟩ | ⟨rfl, rfl⟩ | ⟨rfl, rfl⟩ | ⟨rfl, rfl⟩ | ⟨rfl, rfl⟩ <;> simp [fresh, kinL, kin, iterE, inObs, Pv.look]; done)), (by first | (simp [subE]; done) | (intro k x hx; have hm := look_mem hx; clear hx; simp at hm; obtain ⟨rfl, rfl⟩ := hm; simp [fresh, kinL, kin, kinO, inObs, Pv.look]; done)), by simp⟩ (.inl ⟨rfl, rfl⟩) ?_
    rintro k st (⟨hk, rfl⟩ | ⟨i, h1, h2, hk, rfl⟩) hbt hbb
    all_goals clear hbt hbb
    · simp
      (repeat' first | (with_reducible refine evCd_split (fun h => ?_) (fun h => ?_) <;> (try simp at h)) | (with_reducible refine evGd_split (fun h => ?_) (fun h => ?_) <;> (try simp at h)) | (with_reducible refine evDd_split (fun h => ?_) (fun h => ?_) <;> (try simp at h)) | with_reducible refine And.intro (by (first | omega | (unfold in64; omega))) ?_ | simp)
      simp [RetV, r_spec_l02Copy, resL, resV, tup]
    · simp at h2; omega
  | var n =>
    refine FnV.mk mixed tysok f_spec_l02Copy ok_spec_l02Copy (by simp) (by simp [kin]) fun hbnd => ?_; unfold c_spec_l02Copy
    simp
    refine evC_loop (invCopy (.var n)) 0 _ ⟨by simp [fresh, kinL, kin, iterE, inObs, Pv.look], (by intro k x hx; have hm := look_mem hx; clear hx; simp at hm; first | (obtain ⟨rfl, rfl⟩ := hm; simp [fresh, kinL, kin, iterE, inObs, Pv.look]; done) | (rcases hm with ⟨rfl, rfl⟩ | ⟨rfl, rfl⟩ <;> simp [fresh, kinL, kin, iterE, inObs, Pv.look]; done) | (rcases hm with ⟨rfl, rfl⟩ | ⟨rfl, rfl⟩ | ⟨rfl, rfl⟩ <;> simp [fresh, kinL, kin, iterE, inObs, Pv.look]; done) | (rcases hm with ⟨rfl, rfl⟩ | ⟨rfl, rfl⟩ | ⟨rfl, rfl⟩ | ⟨rfl, rfl⟩ <;> simp [fresh, kinL, kin, iterE, inObs, Pv.look]; done) | (rcases hm with ⟨rfl, rfl⟩ | ⟨rfl, rfl⟩ | ⟨rfl, rfl⟩ | ⟨rfl, rfl⟩ | ⟨rfl, rfl⟩ <;> simp [fresh, kinL, kin, iterE, inObs, Pv.look]; done) | (rcases hm with ⟨rfl, rfl⟩ | ⟨rfl, rfl⟩ | ⟨rfl, rfl⟩ | ⟨rfl, rfl⟩ | ⟨rfl, rfl⟩ | ⟨rfl, rfl⟩ <;> simp [fresh, kinL, kin, iterE, inObs, Pv.look]; done)), (by first | (simp [subE]; done) | (intro k x hx; have hm := look_mem hx; clear hx; simp at hm; obtain ⟨rfl, rfl⟩ := hm; simp [fresh, kinL, kin, kinO, inObs, Pv.look]; done)), by simp⟩ (.inl ⟨rfl, rfl⟩) ?_
    rintro k st (⟨hk, rfl⟩ | ⟨i, h1, h2, hk, rfl⟩) hbt hbb
    all_goals clear hbt hbb
    · simp
      (repeat' first | (with_reducible refine evCd_split (fun h => ?_) (fun h => ?_) <;> (try simp at h)) | (with_reducible refine evGd_split (fun h => ?_) (fun h => ?_) <;> (try simp at h)) | (with_reducible refine evDd_split (fun h => ?_) (fun h => ?_) <;> (try simp at h)) | with_reducible refine And.intro (by (first | omega | (unfold in64; omega))) ?_ | simp)
      simp [RetV, r_spec_l02Copy, resL, resV, tup]
    · simp at h2; omega
  | sym s =>
    refine FnV.mk mixed tysok f_spec_l02Copy ok_spec_l02Copy (by simp) (by simp [kin]) fun hbnd => ?_; unfold c_spec_l02Copy
    simp
    refine evC_loop (invCopy (.sym s)) 0 _ ⟨by simp [fresh, kinL, kin, iterE, inObs, Pv.look], (by intro k x hx; have hm := look_mem hx; clear hx; simp at hm; first | (obtain ⟨rfl, rfl⟩ := hm; simp [fresh, kinL, kin, iterE, inObs, Pv.look]; done) | (rcases hm with ⟨rfl, rfl⟩ | ⟨rfl, rfl⟩ <;> simp [fresh, kinL, kin, iterE, inObs, Pv.look]; done) | (rcases hm with ⟨rfl, rfl⟩ | ⟨rfl, rfl⟩ | ⟨rfl, rfl⟩ <;> simp [fresh, kinL, kin, iterE, inObs, Pv.look]; done) | (rcases hm with ⟨rfl, rfl⟩ | ⟨rfl, rfl⟩ | ⟨rfl, rfl⟩ | ⟨rfl, rfl⟩ <;> simp [fresh, kinL, kin, iterE, inObs, Pv.look]; done) | (rcases hm with ⟨rfl, rfl⟩ | ⟨rfl, rfl⟩ | ⟨rfl, rfl⟩ | ⟨rfl, rfl⟩ | ⟨rfl, rfl⟩ <;> simp [fresh, kinL, kin, iterE, inObs, Pv.look]; done) | (rcases hm with ⟨rfl, rfl⟩ | ⟨rfl, rfl⟩ | ⟨rfl, rfl⟩ | ⟨rfl, rfl⟩ | ⟨rfl, rfl⟩ | ⟨rfl, rfl⟩ <;> simp [fresh, kinL, kin, iterE, inObs, Pv.look]; done)), (by first | (simp [subE]; done) | (intro k x hx; have hm := look_mem hx; clear hx; simp at hm; obtain ⟨rfl, rfl⟩ := hm; simp [fresh, kinL, kin, kinO, inObs, Pv.look]; done)), by simp⟩ (.inl ⟨rfl, rfl⟩) ?_
    rintro k st (⟨hk, rfl⟩ | ⟨i, h1, h2, hk, rfl⟩) hbt hbb
    all_goals clear hbt hbb
    · simp
      (repeat' first | (with_reducible refine evCd_split (fun h => ?_) (fun h => ?_) <;> (try simp at h)) | (with_reducible refine evGd_split (fun h => ?_) (fun h => ?_) <;> (try simp at h)) | (with_reducible refine evDd_split (fun h => ?_) (fun h => ?_) <;> (try simp at h)) | with_reducible refine And.intro (by (first | omega | (unfold in64; omega))) ?_ | simp)
      simp [RetV, r_spec_l02Copy, resL, resV, tup]
    · simp at h2; omega
  | num n =>
    refine FnV.mk mixed tysok f_spec_l02Copy ok_spec_l02Copy (by simp) (by simp [kin]) fun hbnd => ?_; unfold c_spec_l02Copy
    simp
    refine evC_loop (invCopy (.num n)) 0 _ ⟨by simp [fresh, kinL, kin, iterE, inObs, Pv.look], (by intro k x hx; have hm := look_mem hx; clear hx; simp at hm; first | (obtain ⟨rfl, rfl⟩ := hm; simp [fresh, kinL, kin, iterE, inObs, Pv.look]; done) | (rcases hm with ⟨rfl, rfl⟩ | ⟨rfl, rfl⟩ <;> simp [fresh, kinL, kin, iterE, inObs, Pv.look]; done) | (rcases hm with ⟨rfl, rfl⟩ | ⟨rfl, rfl⟩ | ⟨rfl, rfl⟩ <;> simp [fresh, kinL, kin, iterE, inObs, Pv.look]; done) | (rcases hm with ⟨rfl, rfl⟩ | ⟨rfl, rfl⟩ | ⟨rfl, rfl⟩ | ⟨rfl, rfl⟩ <;> simp [fresh, kinL, kin, iterE, inObs, Pv.look]; done) | (rcases hm with ⟨rfl, rfl⟩ | ⟨rfl, rfl⟩ | ⟨rfl, rfl⟩ | ⟨rfl, rfl⟩ | ⟨rfl, rfl⟩ <;> simp [fresh, kinL, kin, iterE, inObs, Pv.look]; done) | (rcases hm with ⟨rfl, rfl⟩ | ⟨rfl, rfl⟩ | ⟨rfl, rfl⟩ | ⟨rfl, rfl⟩ | ⟨rfl, rfl⟩ | ⟨rfl, rfl⟩ <;> simp [fresh, kinL, kin, iterE, inObs, Pv.look]; done)), (by first | (simp [subE]; done) | (intro k x hx; have hm := look_mem hx; clear hx; simp at hm; obtain ⟨rfl, rfl⟩ := hm; simp [fresh, kinL, kin, kinO, inObs, Pv.look]; done)), by simp⟩ (.inl ⟨rfl, rfl⟩) ?_
    rintro k st (⟨hk, rfl⟩ | ⟨i, h1, h2, hk, rfl⟩) hbt hbb
    all_goals clear hbt hbb
    · simp
      (repeat' first | (with_reducible refine evCd_split (fun h => ?_) (fun h => ?_) <;> (try simp at h)) | (with_reducible refine evGd_split (fun h => ?_) (fun h => ?_) <;> (try simp at h)) | (with_reducible refine evDd_split (fun h => ?_) (fun h => ?_) <;> (try simp at h)) | with_reducible refine And.intro (by (first | omega | (unfold in64; omega))) ?_ | simp)
      simp [RetV, r_spec_l02Copy, resL, resV, tup]
    · simp at h2; omega
theorem v_MakeValue (l : List Bd) (hl : l.length ≤ 1000000) (t : T) : FnV Tryz.prog 9 [t.e, .slice 5 .no (l.map Bd.e)] (t.sub (bget l)).e := by
  refine FnV.mk mixed tysok f_spec_MakeValue ok_spec_MakeValue (by simp) (by simp [kin]) fun hbnd => ?_; unfold c_spec_MakeValue
  simp
  (repeat' first | (with_reducible refine evCd_split (fun h => ?_) (fun h => ?_) <;> (try simp at h)) | (with_reducible refine evGd_split (fun h => ?_) (fun h => ?_) <;> (try simp at h)) | (with_reducible refine evDd_split (fun h => ?_) (fun h => ?_) <;> (try simp at h)) | with_reducible refine And.intro (by (first | omega | (unfold in64; omega))) ?_ | with_reducible refine CallDo.val (by simp) (v_l04Put l hl t) ?_ | with_reducible refine CallD.val (by simp) (v_l04Put l hl t) ?_ | with_reducible refine CallDo.val (by simp) (v_l02Copy _) ?_ | with_reducible refine CallD.val (by simp) (v_l02Copy _) ?_ | simp)
  simp [RetV, r_spec_MakeValue, resL, resV, tup]
end Go.Proofs.YtchidkafcdmciaaGreat
