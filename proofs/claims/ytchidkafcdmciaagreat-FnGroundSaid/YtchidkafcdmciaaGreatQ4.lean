/- Functions that hand back new objects; functions that are handed functions with a state. -/
import Derived.Shelf.SlSortFuncK.WholeK
import Derived.Shelf.GgSortFunc.Tiny
import Derived.Deep.QuietTactic
import Derived.Ground.GgsProg
import Derived.Lib.OwnBridge
import Derived.Test.YtchidkafcdmciaaGreatProg
import Derived.Test.YtchidkafcdmciaaGreatQ3
set_option linter.all false
namespace Go.Pv
open Go Go.RowKit

/-- A call that hands back objects s', old and new. -/
theorem CallDo.new {P : Program} {n : Nat} {args : List PV} {st : St} {d : Option Nat} {K : St → Prop} {s : Obs} {Q : PV → Obs → Prop} (hf : FnG P n args s Q) (hs : ObOk s) (hb : ∀ k cs, look k s.b = some cs → look k st.b = some cs) (he : ∀ k o, look k s.e = some o → look k st.e = some o)
    (hk : kinL (inObs s) args) (h : ∀ r s', Q r s' → (∀ m, inObs s' (.obj m) → inObs s (.obj m) ∧ Same s s' ∨ .obj m ∉ st.o) ∧ K ⟨putO d r st.t, without s.b st.b ++ s'.b, without s.e st.e ++ s'.e, st.n, st.o ++ obsIds s'⟩) : CallDo P n args st d K := by
  refine ⟨s, Q, fun k cs hc => ⟨hb k cs hc, .inl (by simp [hc]), hs.kb k cs hc⟩, fun k o ho => ⟨he k o ho, .inr (by simp [ho]), hs.ke k o ho⟩, hs.obj, hk, hf, fun r s' hq => ?_⟩
  obtain ⟨h1, h2⟩ := h r s' hq
  refine ⟨⟨fun m hm => ?_, fun m hm => ?_⟩, h2⟩
  · rcases h1 m (.inl hm) with ⟨_, h3⟩ | h3
    · exact .inl (by rw [h3.b]; exact hm)
    · exact .inr h3
  · rcases h1 m (.inr hm) with ⟨_, h3⟩ | h3
    · exact .inl (by rw [h3.e]; exact hm)
    · exact .inr h3
/-- The end of a function that hands back objects, old and new. -/
theorem RetQ.new {rs : List RV} {s : Obs} {Q : PV → Obs → Prop} {e : Exit} {st : St} (s' : Obs) (hee : e = .ret ∨ e = .normal) (hs : ObOk s') (hss : keeps s' s.b ∧ keeps s' s.e) (hb : ∀ k cs, look k s'.b = some cs → look k st.b = some cs) (hE : ∀ k o, look k s'.e = some o → look k st.e = some o)
    (h : ResIs st rs fun r => kin (inObs s') r ∧ Q r s') : RetQ rs s Q e st := by
  unfold ResIs at h
  split at h
  · rename_i c ps hr
    refine ⟨hee, ?_⟩
    rw [hr]
    exact ⟨h.1, s', hss.1, hss.2, fun k cs hcs => ⟨hb k cs hcs, .inl (by simp [hcs]), hs.kb k cs hcs⟩, fun k o ho => ⟨hE k o ho, .inr (by simp [ho]), hs.ke k o ho⟩, hs.obj, h.2.1, h.2.2⟩
  · exact h.elim

@[simp] theorem evC_pubs {P : Program} {ob : List Key} {c d : C} {Q : Exit → St → Prop} {st : St} {s : Nat} : evC P ob (.seq (.pub s c) d) Q st = Pub P ob (.seq c d) Q (pubS st s) := by
  simp only [evC]
  cases pubS st s <;> rfl
@[simp] theorem evC_pubBs {P : Program} {ob : List Key} {c d : C} {Q : Exit → St → Prop} {st : St} {s : Nat} : evC P ob (.seq (.pubB s c) d) Q st = Pub P ob (.seq c d) Q (pubBox st s) := by
  simp only [evC]
  cases pubBox st s <;> rfl
end Go.Pv
/- Contracts: the variables of a term. -/
set_option linter.all false
namespace Go.Proofs.YtchidkafcdmciaaGreat
open Go Go.Pv

/-- A set of variables, as a map. -/
def bE (l : List Int) : List PV := mapE (l.map fun x => (x, .bool true))
theorem kinL_bE (S : Key → Prop) (l : List Int) : kinL S (bE l) := by
  have : ∀ l : List Int, kinL S (flat (l.map fun x => (x, .bool true))) := by
    intro l
    induction l with
    | nil => simp [flat, kinL]
    | cons x r ih => simp [flat, kinL, ih, kin]
  simp [bE, mapE, kinL, this, kin]
def addV (v : Int) (l : List Int) : List Int := if v ∈ l then l else l ++ [v]
theorem aset_bE (k : Int) : ∀ l : List Int, aset k (.bool true) (l.map fun x => (x, PV.bool true)) = if k ∈ l then some (l.map fun x => (x, PV.bool true)) else none
  | [] => rfl
  | i :: r => by
    by_cases h : k = i
    · simp [aset, h]
    · by_cases h2 : k ∈ r <;> simp [aset, h, h2, aset_bE k r]
@[simp] theorem mput_bE (k : Int) (l : List Int) : mputV false (.int .i64 k) (.bool true) (bE l) = some (bE (addV k l)) := by
  simp only [bE, mputV_mapE, aput, aset_bE, addV]
  split <;> rename_i h
  · split at h
    · simp at h; subst h; simp [*]
    · cases h
  · split at h
    · cases h
    · simp [*]
@[simp] theorem bE_nil : bE [] = mapE [] := rfl
@[simp] theorem plainB_bE (l : List Int) : plainB (bE l) = false := rfl
@[simp] theorem rangeV_bE (m : Key) (l : List Int) : rangeV m (bE l) = some (iterE l.length [] m) := by simp [bE]
theorem mentV_bE (f : Key → Option (List PV)) (ik mk : Key) (n : Nat) (seen : List Nat) (b : Nat) (l : List Int) (x : Int) (hi : f ik = some (iterE n (seen ++ [b]) mk)) (hm : f mk = some (bE l)) (hn : n = l.length) (hx : l[b]? = some x) : mentV f (.ptr ik 0) = some (True, .tuple [.int .i64 x, .bool true]) := by
  rw [mentV_iter f ik mk n seen b _ hi hm (by simpa using hn)]
  simp [hx]
theorem ev1n_bE {st : St} {d : Nat} {K : St → Prop} {ik mk : Key} {n : Nat} {seen : List Nat} {l : List Int} (hi : Pv.look ik st.b = some (iterE n seen mk)) (hm : Pv.look mk st.b = some (bE l)) (hn : n = l.length)
    (h1 : (∀ b, b < l.length → b ∈ seen) → K { st with t := Pv.put d (.tuple [.bool false]) st.t }) (h2 : ∀ b x, l[b]? = some x → b ∉ seen → K { st with t := Pv.put d (.tuple [.bool true, .int .i64 x, .bool true]) st.t, b := upd ik (iterE n (seen ++ [b]) mk) st.b }) :
    ev1n st d (.ptr ik 0) K := by
  refine ev1n_iter hi hm (by simpa using hn) (fun h => h1 fun b hb => h b (by omega)) (fun b k v hb hs => ?_)
  simp only [List.getElem?_map, Option.map_eq_some_iff] at hb
  obtain ⟨x, e1, e2⟩ := hb
  simp only [Prod.mk.injEq] at e2
  obtain ⟨rfl, rfl⟩ := e2
  exact h2 b x e1 hs
/-- A walk over the variables of a term. -/
def _root_.Go.Pv.T.fold {α : Type} (f : Int → α → α) : T → α → α
  | .var n, a => f n a
  | .pair x y, a => y.fold f (x.fold f a)
  | _, a => a
set_option maxHeartbeats 1000000 in
theorem g_eachVar {α : Type} (S : α → Obs) (hS : ∀ a, ObOk (S a)) (hsm : ∀ a b, Same (S a) (S b)) (g : Nat) (caps : List PV) (hc : ∀ a, kinL (inObs (S a)) caps) (hst : stripL caps = caps) (f : Int → α → α) (hf : ∀ v a, FnG Tryz.prog g (.int .i64 v :: caps) (S a) fun r s' => r = .tuple [] ∧ s' = S (f v a)) (t : T) :
    ∀ a, FnG Tryz.prog 70 [t.e, .func g caps] (S a) fun r s' => r = .tuple [] ∧ s' = S (t.fold f a) := by
  have hn : ∀ a m, Pv.look (.loc m) (S a).b = none := fun a => (hS a).obj.1
  have hu : ∀ a m cs, upd (.loc m) cs (S a).b = (S a).b ++ [(.loc m, cs)] := fun a m cs => upd_fresh (hn a m)
  have ho : ∀ a m, Key.loc m ∉ obsIds (S a) := fun a => loc_notin (hS a).obj
  induction t with
  | pair x y ihx ihy =>
    intro a
    have hs := hS a
    refine FnG.mk mixed tysok f_impl_eachVar ok_impl_eachVar (by simp) hs.obj fun hbnd hbb => ?_; unfold c_impl_eachVar
    simp [hu, ho, look_app, hn, hst]
    (repeat' first | (with_reducible refine evCd_split (fun h => ?_) (fun h => ?_) <;> (try simp at h)) | (with_reducible refine evGd_split (fun h => ?_) (fun h => ?_) <;> (try simp at h)) | (with_reducible refine evDd_split (fun h => ?_) (fun h => ?_) <;> (try simp at h)) | with_reducible refine And.intro (by (first | omega | (unfold in64; omega))) ?_ | simp [hu, ho, look_app, hn])
    refine CallDo.ob (ihx a) hs (by first | (refine kpL ?_; simp; done) | (intro k x hx; first | exact hx | (simp [hx, without_self]; done) | (simp [look_app, without_self, hx]; done) | (cases k <;> simp_all [look_app]; done))) (by first | (refine kpL ?_; simp; done) | (intro k x hx; first | exact hx | (simp [hx, without_self]; done) | (simp [look_app, without_self, hx]; done) | (cases k <;> simp_all [look_app]; done))) (by simp [hc]) ?_
    rintro r s' ⟨rfl, rfl⟩
    refine ⟨hsm _ _, ?_⟩
    simp [without_self, without_append, without, hn]
    (repeat' first | (with_reducible refine evCd_split (fun h => ?_) (fun h => ?_) <;> (try simp at h)) | (with_reducible refine evGd_split (fun h => ?_) (fun h => ?_) <;> (try simp at h)) | (with_reducible refine evDd_split (fun h => ?_) (fun h => ?_) <;> (try simp at h)) | with_reducible refine And.intro (by (first | omega | (unfold in64; omega))) ?_ | simp [hu, ho, look_app, hn])
    rw [hst]
    refine CallDo.ob (ihy (x.fold f a)) (hS (x.fold f a)) (by first | (refine kpL ?_; simp; done) | (intro k x hx; first | exact hx | (simp [hx, without_self]; done) | (simp [look_app, without_self, hx]; done) | (cases k <;> simp_all [look_app]; done))) (by first | (refine kpL ?_; simp; done) | (intro k x hx; first | exact hx | (simp [hx, without_self]; done) | (simp [look_app, without_self, hx]; done) | (cases k <;> simp_all [look_app]; done))) (by simp [hc]) ?_
    rintro r s' ⟨rfl, rfl⟩
    refine ⟨hsm _ _, ?_⟩
    simp [without_self, without_append, without, hn]
    refine RetQ.at (S (y.fold f (x.fold f a))) (.inr rfl) (hS _) (hsm _ _) (by first | (refine kpL ?_; simp; done) | (intro k x hx; first | exact hx | (simp [hx, without_self]; done) | (simp [look_app, without_self, hx]; done) | (cases k <;> simp_all [look_app]; done))) (by first | (refine kpL ?_; simp; done) | (intro k x hx; first | exact hx | (simp [hx, without_self]; done) | (simp [look_app, without_self, hx]; done) | (cases k <;> simp_all [look_app]; done))) ?_
    simp [ResIs, r_impl_eachVar, resL, resV, tup]
    simp [T.fold]
  | var n =>
    intro a
    have hs := hS a
    refine FnG.mk mixed tysok f_impl_eachVar ok_impl_eachVar (by simp) hs.obj fun hbnd hbb => ?_; unfold c_impl_eachVar
    simp [hu, ho, look_app, hn, hst]
    (repeat' first | (with_reducible refine evCd_split (fun h => ?_) (fun h => ?_) <;> (try simp at h)) | (with_reducible refine evGd_split (fun h => ?_) (fun h => ?_) <;> (try simp at h)) | (with_reducible refine evDd_split (fun h => ?_) (fun h => ?_) <;> (try simp at h)) | with_reducible refine And.intro (by (first | omega | (unfold in64; omega))) ?_ | simp [hu, ho, look_app, hn])
    refine CallDo.ob (hf n a) hs (by first | (refine kpL ?_; simp; done) | (intro k x hx; first | exact hx | (simp [hx, without_self]; done) | (simp [look_app, without_self, hx]; done) | (cases k <;> simp_all [look_app]; done))) (by first | (refine kpL ?_; simp; done) | (intro k x hx; first | exact hx | (simp [hx, without_self]; done) | (simp [look_app, without_self, hx]; done) | (cases k <;> simp_all [look_app]; done))) (by simp [hc]) ?_
    rintro r s' ⟨rfl, rfl⟩
    refine ⟨hsm _ _, ?_⟩
    simp [without_self, without_append, without, hn, look_app]
    refine RetQ.at (S (f n a)) (.inr rfl) (hS _) (hsm _ _) (by first | (refine kpL ?_; simp; done) | (intro k x hx; first | exact hx | (simp [hx, without_self]; done) | (simp [look_app, without_self, hx]; done) | (cases k <;> simp_all [look_app]; done))) (by first | (refine kpL ?_; simp; done) | (intro k x hx; first | exact hx | (simp [hx, without_self]; done) | (simp [look_app, without_self, hx]; done) | (cases k <;> simp_all [look_app]; done))) ?_
    simp [ResIs, r_impl_eachVar, resL, resV, tup]
    simp [T.fold]
  | _ =>
    intro a
    have hs := hS a
    refine FnG.mk mixed tysok f_impl_eachVar ok_impl_eachVar (by simp) hs.obj fun hbnd hbb => ?_; unfold c_impl_eachVar
    simp [hu, ho, look_app, hn, hst]
    (repeat' first | (with_reducible refine evCd_split (fun h => ?_) (fun h => ?_) <;> (try simp at h)) | (with_reducible refine evGd_split (fun h => ?_) (fun h => ?_) <;> (try simp at h)) | (with_reducible refine evDd_split (fun h => ?_) (fun h => ?_) <;> (try simp at h)) | with_reducible refine And.intro (by (first | omega | (unfold in64; omega))) ?_ | simp [hu, ho, look_app, hn])
    refine RetQ.at (S a) (.inr rfl) hs (Same.refl _) (by first | (refine kpL ?_; simp; done) | (intro k x hx; first | exact hx | (simp [hx, without_self]; done) | (simp [look_app, without_self, hx]; done) | (cases k <;> simp_all [look_app]; done))) (by first | (refine kpL ?_; simp; done) | (intro k x hx; first | exact hx | (simp [hx, without_self]; done) | (simp [look_app, without_self, hx]; done) | (cases k <;> simp_all [look_app]; done))) ?_
    simp [ResIs, r_impl_eachVar, resL, resV, tup]
    simp [T.fold]
def SV (l : List Int) : Obs := ⟨[(.obj 304, bE l), (.obj 305, [.gmap (.obj 304)])], []⟩
theorem SV_ok (l : List Int) : ObOk (SV l) := by
  unfold SV
  exact ObOk.of ⟨by intro m; simp [Pv.look], by intro m; simp [Pv.look]⟩ (by simp [kinL_bE, kinL, kin, inObs, Pv.look]) (by simp)
theorem SV_same (l l' : List Int) : Same (SV l) (SV l') := by
  refine ⟨fun k => ?_, fun k => rfl⟩
  simp only [SV, Pv.look]
  split <;> rfl
theorem g_TermVars1 (v : Int) (l : List Int) : FnG Tryz.prog 71 [.int .i64 v, .ptr (.obj 305) 0] (SV l) fun r s' => r = .tuple [] ∧ s' = SV (addV v l) := by
  have hs := SV_ok l
  have hs' := SV_ok (addV v l)
  have hsm := SV_same l (addV v l)
  unfold SV at hs hs' hsm ⊢
  refine FnG.mk mixed tysok f_impl_TermVars_1 ok_impl_TermVars_1 (by simp) hs.obj fun hbnd hbb => ?_; unfold c_impl_TermVars_1
  simp
  refine RetQ.at _ (.inr rfl) hs' hsm (by first | (refine kpL ?_; simp; done) | (intro k x hx; first | exact hx | (simp [hx, without_self]; done) | (simp [look_app, without_self, hx]; done) | (cases k <;> simp_all [look_app]; done))) (by first | (refine kpL ?_; simp; done) | (intro k x hx; first | exact hx | (simp [hx, without_self]; done) | (simp [look_app, without_self, hx]; done) | (cases k <;> simp_all [look_app]; done))) ?_
  simp [ResIs, r_impl_TermVars_1, resL, resV, tup]
def SB (l : List Int) : Obs := ⟨[(.obj 304, bE l)], []⟩
theorem SB_ok (l : List Int) : ObOk (SB l) := by
  unfold SB
  exact ObOk.of ⟨by intro m; simp [Pv.look], by intro m; simp [Pv.look]⟩ (by simp [kinL_bE, kinL, kin, inObs, Pv.look]) (by simp)
end Go.Proofs.YtchidkafcdmciaaGreat
/- Contracts: a set of integers in order; the variables of a term. -/
set_option linter.all false
namespace Go.Proofs.YtchidkafcdmciaaGreat
open Go Go.Pv

theorem sortI_perm {a b : List Int} (h : a.Perm b) : sortI a = sortI b := by
  have ht : ∀ a b c : Int, (decide (a ≤ b)) = true → (decide (b ≤ c)) = true → (decide (a ≤ c)) = true := by intro a b c; simp; omega
  have hto : ∀ a b : Int, (decide (a ≤ b) || decide (b ≤ a)) = true := by intro a b; simp; omega
  have h1 := List.pairwise_mergeSort ht hto a
  have h2 := List.pairwise_mergeSort ht hto b
  refine List.Perm.eq_of_pairwise (le := fun x y : Int => (decide (x ≤ y)) = true) (fun x y _ _ h1 h2 => by simp at h1 h2; omega) h1 h2 ?_
  exact (List.mergeSort_perm a _).trans (h.trans (List.mergeSort_perm b _).symm)
def invSI (l : List Int) (k : Nat) (st : St) : Prop :=
  ∃ (seen : List Nat) (xs : List Int), seen.Nodup ∧ (∀ b ∈ seen, b < l.length) ∧ k = l.length - seen.length ∧ xs = seen.filterMap (fun b => l[b]?) ∧ xs.length = seen.length ∧ st = ⟨[(3, .row 1 (.obj 306) xs.length), (7, .ptr (.loc 0) 0)], [(.obj 304, bE l), (.loc 0, iterE l.length seen (.obj 304))], [(.obj 306, ⟨xs.length, 3, 1, some (intsE xs)⟩)], 1, [.obj 306, .obj 304]⟩
@[simp] theorem intsE_length (xs : List Int) : (intsE xs).length = xs.length := by simp [intsE]
@[simp] theorem strip_ints (xs : List Int) : stripL (intsE xs) = intsE xs := by
  induction xs with
  | nil => rfl
  | cons x r ih => simp only [intsE, List.map_cons, stripL, strip] at ih ⊢; rw [ih]
@[simp] theorem intsE_nil : intsE [] = [] := rfl
theorem intsE_snoc (xs : List Int) (x : Int) : intsE xs ++ [PV.int .i64 x] = intsE (xs ++ [x]) := by simp [intsE]
set_option maxHeartbeats 1000000 in
theorem g_sortedInts (l : List Int) (hl : l.length ≤ 1000000) : FnG Tryz.prog 72 [.gmap (.obj 304)] (SB l) fun r s' => r = .slice 1 .no (intsE (sortI l)) ∧ s' = SB l := by
  have hs := SB_ok l
  unfold SB at hs ⊢
  refine FnG.mk mixed tysok f_impl_sortedInts ok_impl_sortedInts (by simp) hs.obj fun hbnd hbb => ?_; unfold c_impl_sortedInts
  simp
  refine evC_loop (invSI l) l.length _ ⟨by simp [fresh, kinL, kin, iterE, inObs, Pv.look, kinL_bE, kinL_ints], subB_of (by simp [fresh, kinL, kin, iterE, inObs, Pv.look, kinL_bE, kinL_ints]), subE_of (by simp [fresh, kinL, kin, kinO, inObs, Pv.look, kinL_bE, kinL_ints]), by simp⟩ ⟨[], [], by simp, by simp, by simp, by simp, by simp, rfl⟩ ?_
  rintro k st ⟨seen, xs, hd, hlt, hk, hxs, hxl, rfl⟩ hbt hbb
  clear hbt hbb
  have hle := seen_le hd hlt
  simp
  refine ev1n_bE (mk := .obj 304) (seen := seen) (l := l) (by simp) (by simp) rfl (fun hall => ?_) (fun b x hx hb => ?_)
  · simp
    have hperm := seen_all hd hlt hall
    rw [← hxs] at hperm
    refine CallDo.ob (g_sortInts 306 xs (by omega)) (SI_ok 306 xs) (by unfold SI; exact (by first | (refine kpL ?_; simp; done) | (intro k x hx; first | exact hx | (simp [hx, without_self]; done) | (simp [look_app, without_self, hx]; done) | (cases k <;> simp_all [look_app]; done)))) (by unfold SI; exact (by first | (refine kpL ?_; simp; done) | (intro k x hx; first | exact hx | (simp [hx, without_self]; done) | (simp [look_app, without_self, hx]; done) | (cases k <;> simp_all [look_app]; done)))) (by simp [SI, inObs, Pv.look]) ?_
    rintro r s' ⟨rfl, rfl⟩
    refine ⟨⟨fun _ => rfl, fun k => by simp only [SI, Pv.look]; split <;> rfl⟩, ?_⟩
    unfold SI
    simp [without, sortI_length]
    refine RetQ.at _ (.inl rfl) hs (Same.refl _) (by first | (refine kpL ?_; simp; done) | (intro k x hx; first | exact hx | (simp [hx, without_self]; done) | (simp [look_app, without_self, hx]; done) | (cases k <;> simp_all [look_app]; done))) (by first | (refine kpL ?_; simp; done) | (intro k x hx; first | exact hx | (simp [hx, without_self]; done) | (simp [look_app, without_self, hx]; done) | (cases k <;> simp_all [look_app]; done))) ?_
    simp [ResIs, r_impl_sortedInts, resL, resV, tup]
    rw [sortI_perm hperm]
    simp [kin, kinL_ints]
  · have hment : ∀ f : Key → Option (List PV), f (.loc 0) = some (iterE l.length (seen ++ [b]) (.obj 304)) → f (.obj 304) = some (bE l) → mentV f (.ptr (.loc 0) 0) = some (True, .tuple [.int .i64 x, .bool true]) := fun f h1 h2 => mentV_bE f (.loc 0) (.obj 304) l.length seen b l x h1 h2 rfl hx
    have hbl : b < l.length := (List.getElem?_eq_some_iff.1 hx).1
    have hsl := seen_lt hd hlt hbl hb
    simp [hment, intsE_snoc]
    refine ⟨by unfold lim; omega, ?_⟩
    refine LoopQ.next (l.length - (seen.length + 1)) (by omega) ⟨seen ++ [b], xs ++ [x], nodup_snoc hd hb, (by simp; intro c hc; rcases hc with hc | rfl; exact hlt c hc; exact hbl), by simp, by rw [List.filterMap_append, ← hxs]; simp [hx], by simp [hxl], rfl⟩ ⟨by simp [fresh, kinL, kin, iterE, inObs, Pv.look, kinL_bE, kinL_ints], subB_of (by simp [fresh, kinL, kin, iterE, inObs, Pv.look, kinL_bE, kinL_ints]), subE_of (by simp [fresh, kinL, kin, kinO, inObs, Pv.look, kinL_bE, kinL_ints]), by simp⟩
@[simp] theorem kinL_intsT (S : Key → Prop) (xs : List Int) : kinL S (intsE xs) = True := eq_true (kinL_ints S xs)
theorem fold_len (t : T) : ∀ l : List Int, (t.fold addV l).length ≤ l.length + t.size := by
  induction t with
  | var n => intro l; simp only [T.fold, addV, T.size]; split <;> simp
  | pair a b iha ihb => intro l; simp only [T.fold, T.size]; have := iha l; have := ihb (a.fold addV l); omega
  | _ => intro l; simp [T.fold, T.size]
/-- What TermVars computes. -/
def tvars (t : T) : List Int := if t.fit then sortI (t.fold addV []) else []
@[simp] theorem cells_junk : cells .junk = [.junk] := rfl
set_option maxHeartbeats 1000000 in
theorem v_TermVars (t : T) : FnV Tryz.prog 25 [t.e] (.slice 1 .no (intsE (tvars t))) := by
  refine FnV.mk mixed tysok f_impl_TermVars ok_impl_TermVars (by simp) (by simp [kin]) fun hbnd => ?_; unfold c_impl_TermVars
  simp
  (repeat' first | (with_reducible refine evCd_split (fun h => ?_) (fun h => ?_) <;> (try simp at h)) | (with_reducible refine evGd_split (fun h => ?_) (fun h => ?_) <;> (try simp at h)) | (with_reducible refine evDd_split (fun h => ?_) (fun h => ?_) <;> (try simp at h)) | with_reducible refine And.intro (by (first | omega | (unfold in64; omega))) ?_ | with_reducible refine CallDo.val (by simp) (v_TermOkT _) ?_ | with_reducible refine CallD.val (by simp) (v_TermOkT _) ?_ | simp)
  · simp [RetV, r_impl_TermVars, resL, resV, tup]
    simp [tvars, h]
  · have hlen : (t.fold addV []).length ≤ 1000000 := by
      have h1 := fold_len t []
      simp [T.fit] at h h1
      omega
    refine CallDo.ob (g_eachVar SV SV_ok SV_same 71 [.ptr (.obj 305) 0] (by intro a; simp [inObs, SV, Pv.look, kinL, kin]) (by simp) addV g_TermVars1 t []) (SV_ok []) (by unfold SV; exact (by first | (refine kpL ?_; simp; done) | (intro k x hx; first | exact hx | (simp [hx, without_self]; done) | (simp [look_app, without_self, hx]; done) | (cases k <;> simp_all [look_app]; done)))) (by unfold SV; exact (by first | (refine kpL ?_; simp; done) | (intro k x hx; first | exact hx | (simp [hx, without_self]; done) | (simp [look_app, without_self, hx]; done) | (cases k <;> simp_all [look_app]; done)))) (by simp [inObs, SV, Pv.look]) ?_
    rintro r s' ⟨rfl, rfl⟩
    refine ⟨SV_same _ _, ?_⟩
    unfold SV
    simp [without]
    refine CallDo.ob (g_sortedInts (t.fold addV []) hlen) (SB_ok _) (by unfold SB; exact (by first | (refine kpL ?_; simp; done) | (intro k x hx; first | exact hx | (simp [hx, without_self]; done) | (simp [look_app, without_self, hx]; done) | (cases k <;> simp_all [look_app]; done)))) (by unfold SB; exact (by first | (refine kpL ?_; simp; done) | (intro k x hx; first | exact hx | (simp [hx, without_self]; done) | (simp [look_app, without_self, hx]; done) | (cases k <;> simp_all [look_app]; done)))) (by simp [inObs, SB, Pv.look]) ?_
    rintro r s' ⟨rfl, rfl⟩
    refine ⟨Same.refl _, ?_⟩
    unfold SB
    simp [without]
    simp [RetV, r_impl_TermVars, resL, resV, tup]
    simp [tvars, h]
end Go.Proofs.YtchidkafcdmciaaGreat
/- sort.Slice as sortBindings calls it. -/
set_option linter.all false
namespace Go.Proofs
open Go.Shelf Go.RowKit Go.Lib Go.Sort

noncomputable def Tryz.svT : TypeInfo := (Tryz.prog.info? 31).get (by kernel_rfl)
noncomputable def Tryz.svE : TypeInfo := (Tryz.prog.info? 30).get (by kernel_rfl)
theorem Tryz.svK (n : Nat) (h2 : 2 ≤ n) : Lib.swapperK n Tryz.svE 25 = 9 := by
  have a : Tryz.svE.hasPointers = true := by kernel_rfl
  have b : Tryz.svE.bytes = 64 := by kernel_rfl
  have c : (n == 0) = false := by simp; omega
  have d : (n == 1) = false := by simp; omega
  simp [Lib.swapperK, a, b, c, d]

set_option maxHeartbeats 2000000 in
theorem Tryz.less (blk off c Bs size : Nat) (W : World) (G : Nat → Int) (hs : W.cell? ⟨Bs, 0, none⟩ = some (.slice (some ⟨blk, off, none⟩) size c))
    (hc : ∀ t, t < size → W.cell? ⟨blk, off + t * 5, none⟩ = some (.int .i64 (G t))) (i j : Nat) (hi : i < size) (hj : j < size) (_hsz : size < 4611686018427387904) :
    Calls Tryz.prog 118 #[.int .i64 i, .int .i64 j, .pointer (some ⟨Bs, 0, none⟩)] W fun e w' => e = .returned (.bool (decide (G i < G j))) ∧ ∃ q, w' = W.drewN q := by
  have ci := hc i hi
  have cj := hc j hj
  go_enter Tryz.func118, Tryz.ntmps118
  go_wp2
  go_quiet (fail)
  go_wp2
  go_ret
  exact ⟨rfl, nq, rfl⟩

/-- Five cells, the first an integer. -/
def Q4 : Type := { x : List Value // x.length = 4 ∧ ∀ v ∈ x, v.oneCell' = true }
instance : Inhabited Q4 := ⟨⟨[.int .i64 0, .int .i64 0, .int .i64 0, .int .i64 0], rfl, by intro v hv; simp at hv; subst hv; rfl⟩⟩
def Q5 : Type := Int × Q4
instance : Inhabited Q5 := ⟨(0, default)⟩
def Q5.enc (x : Q5) : List Value := .int .i64 x.1 :: x.2.1
def Q5.lt (a b : Q5) : Bool := decide (a.1 < b.1)
theorem Q5.swo : SWO Q5.lt where
  irrefl := fun x => by simp [Q5.lt]
  trans := fun x y z h1 h2 => by simp [Q5.lt] at *; omega
  ntrans := fun x y z h1 h2 => by simp [Q5.lt] at *; omega

theorem Tryz.sort_Slice_bindings (blk off c Bs : Nat) (d : Array Q5) (h2 : 2 ≤ d.size) (hsz : d.size < 4611686018427387904) (w : World) (hH : HoldsK Q5.enc 5 w blk off d) (hblk : blk < w.heap.size)
    (hBs : w.cell? ⟨Bs, 0, none⟩ = some (.slice (some ⟨blk, off, none⟩) d.size c)) (hB1 : Bs < w.heap.size) (hB2 : Bs ≠ blk) :
    Calls Tryz.prog 117 #[.iface 31 (.slice (some ⟨blk, off, none⟩) d.size c), .func (.func 118) #[] #[.pointer (some ⟨Bs, 0, none⟩)]] w fun e w' =>
      e = .returned (.tuple #[]) ∧ ∃ d' n os, PermIn 0 d.size d d' ∧ SortedIn Q5.lt 0 d.size d' ∧ w' = grow (putRowK Q5.enc 5 (Sort.ahead w n) blk off d') os := by
  have hless : LessReadsK Tryz.prog 118 #[.pointer (some ⟨Bs, 0, none⟩)] Q5.enc 5 Q5.lt blk off d.size w := by
    intro m os dk hs i j hi hj
    have e : sortWorldK Q5.enc 5 w blk off m dk os = putRowK Q5.enc 5 (grow (Sort.ahead w m) os) blk off dk := by
      unfold sortWorldK; rw [putRowK_grow _ _ (Sort.ahead w m) _ blk off _ hblk]
    have hHg : HoldsK Q5.enc 5 (grow (Sort.ahead w m) os) blk off d := holdsK_grow _ _ _ _ blk off d hblk (holdsK_ahead _ _ _ _ _ _ _ hH)
    refine Tryz.less blk off c Bs d.size _ (fun t => dk[t]!.1) ?_ (fun t ht => ?_) i j hi hj (by omega)
    · rw [e, cell?_putRowK_other _ _ _ blk off dk _ (by exact hB2), cell?_grow _ _ _ (by exact hB1)]; exact hBs
    · rw [e]; exact ((holdsK_putRowK _ _ _ blk off d dk hHg hs).cell (i := t) (c := 0) (by omega) (by omega)).1
  exact Any.sort_Slice_cells_sorted Tryz.lays6 31 30 Tryz.svT Tryz.svE (by kernel_rfl) (by kernel_rfl) (by kernel_rfl) (by kernel_rfl) 25 (fun _ => by kernel_rfl) Q5.enc 5 (fun x => by simp [Q5.enc, x.2.2.1]) (by kernel_rfl) (fun _ => by kernel_rfl)
    (fun x v hv => by
      simp only [Q5.enc, List.mem_cons] at hv
      rcases hv with rfl | hv
      · rfl
      · exact x.2.2.2 v hv) Q5.lt Q5.swo 118 _
    (enters_of Tryz.func118 (by kernel_rfl) rfl) blk off c d h2 hsz 180 (by rw [Tryz.svK _ h2]; kernel_rfl) false
    (fun args W => run_callFunc_extern Tryz.func180 (by kernel_rfl) (by kernel_rfl) (by kernel_rfl) (e := Extern.ReflectliteSwapper.swap false) (by kernel_rfl) args W) w hless hH hblk
theorem Tryz.sort_Slice_few (p : Option Addr) (n c : Nat) (h1 : n ≤ 1) (lf : Fn) (la lb : Array Value) (w : World) :
    Calls Tryz.prog 117 #[.iface 31 (.slice p n c), .func lf la lb] w fun e w' => e = .returned (.tuple #[]) ∧ ∃ os, w' = grow w os := by
  rcases (by omega : n = 0 ∨ n = 1) with rfl | rfl
  · exact Any.sort_Slice_tiny Tryz.lays6 31 30 Tryz.svT Tryz.svE (by kernel_rfl) (by kernel_rfl) (by kernel_rfl) (by kernel_rfl) 25 (fun _ => by kernel_rfl) p 0 c h1 172 (by kernel_rfl) lf la lb w
  · exact Any.sort_Slice_tiny Tryz.lays6 31 30 Tryz.svT Tryz.svE (by kernel_rfl) (by kernel_rfl) (by kernel_rfl) (by kernel_rfl) 25 (fun _ => by kernel_rfl) p 1 c h1 173 (by kernel_rfl) lf la lb w
end Go.Proofs
/- Contracts: sorting bindings. -/
set_option linter.all false
namespace Go.Proofs.YtchidkafcdmciaaGreat
open Go Go.Pv Go.Sort Go.RowKit

theorem holdsU {w : World} {base : Nat} {e : TypeId} {sz : Nat} {v : Value} {n : Nat} {us : List Value} (h : w.ownsRow base e sz v n us) (hv : v ≠ .slice none 0 0) :
    ∃ g cap, v = .slice (some ⟨g, 0, none⟩) n cap ∧ g < w.heap.size ∧ cap ≤ maxLen ∧ n ≤ cap ∧ us.length = n * sz ∧ Holds id w g 0 us.toArray := by
  rcases h.2 with ⟨e0, _⟩ | ⟨g, cap, cur, rfl, hb, hg, hn, hm, hs, ht⟩
  · exact absurd e0 hv
  · have hlt : g < w.heap.size := by
      rcases Nat.lt_or_ge g w.heap.size with h' | h'
      · exact h'
      · rw [Array.getElem?_eq_none h'] at hg; cases hg
    refine ⟨g, cap, rfl, hlt, hm, hn, h.1, fun j hj => ?_⟩
    have hj' : j < us.length := by simpa using hj
    have hl := h.1
    refine ⟨?_, by simp [World.frozen?, hg]⟩
    have e1 : (cur.toList.take (n * sz))[j]? = us[j]? := by rw [ht]
    rw [List.getElem?_take, if_pos (by omega), Array.getElem?_toList, List.getElem?_eq_getElem hj'] at e1
    simp only [World.cell?, hg, Nat.zero_add]
    simp only [Option.isSome_none, Bool.false_eq_true, if_false]
    rw [e1]
    simp [getElem!_pos, hj']
theorem ownsU {w : World} {base : Nat} {e : TypeId} {sz g n cap q : Nat} {us : List Value} {F : Array Value} (h : w.ownsRow base e sz (.slice (some ⟨g, 0, none⟩) n cap) n us) (hF : F.size = n * sz) :
    (putRow id (Sort.ahead w q) g 0 F).ownsRow base e sz (.slice (some ⟨g, 0, none⟩) n cap) n F.toList := by
  rcases h.2 with ⟨e0, _⟩ | ⟨g', cap', cur, e0, hb, hg, hn, hm, hs, ht⟩
  · cases e0
  · injection e0 with e1 _ e3
    injection e1 with e1
    injection e1 with e1
    subst e1; subst e3
    refine ⟨by simpa using hF, .inr ⟨g, cap, putCells id 0 F cur, rfl, hb, ?_, hn, hm, by simpa [putCells] using hs, ?_⟩⟩
    · simp [putRow, mapBlock, Sort.ahead, Array.getElem?_modify, hg, onCells]
    · have hle : n * sz ≤ cur.size := by rw [hs]; exact Nat.mul_le_mul_right _ hn
      apply List.ext_getElem?
      intro j
      rw [List.getElem?_take, Array.getElem?_toList, Array.getElem?_toList]
      by_cases hj : j < n * sz
      · have hjc : j < cur.size := by omega
        simp only [if_pos hj, putCells, Array.getElem?_mapIdx, Array.getElem?_eq_getElem hjc, Option.map_some]
        rw [if_pos (by omega)]
        simp [getElem!_pos, show j < F.size by omega]
      · simp [hj]; omega
theorem flat_get {k : Nat} (hk : 0 < k) : ∀ (ds : List Q5), (∀ x ∈ ds, x.enc.length = k) → ∀ t, t < ds.length * k → (ds.flatMap Q5.enc)[t]! = ((ds[t / k]!).enc)[t % k]!
  | [], _, t, h => by simp at h
  | x :: r, hl, t, h => by
    have hx := hl x (by simp)
    by_cases ht : t < k
    · have h1 : t / k = 0 := Nat.div_eq_of_lt ht
      have h2 : t % k = t := Nat.mod_eq_of_lt ht
      simp only [List.flatMap_cons, h1, h2, List.getElem!_cons_zero]
      rw [List.getElem!_eq_getElem?_getD, List.getElem!_eq_getElem?_getD, List.getElem?_append_left (by omega)]
    · have h1 : t / k = (t - k) / k + 1 := by rw [← Nat.add_div_right _ hk]; congr 1; omega
      have h2 : t % k = (t - k) % k := by rw [← Nat.add_mod_right (t - k) k]; congr 1; omega
      have ih := flat_get hk r (fun y hy => hl y (by simp [hy])) (t - k) (by simp [Nat.add_mul] at h; omega)
      rw [h1, h2]
      simp only [List.flatMap_cons, List.getElem!_cons_succ]
      rw [← ih, List.getElem!_eq_getElem?_getD, List.getElem!_eq_getElem?_getD, List.getElem?_append_right (by omega), hx]
theorem enc_len (x : Q5) : x.enc.length = 5 := by simp [Q5.enc, x.2.2.1]
theorem flat_len : ∀ ds : List Q5, (ds.flatMap Q5.enc).length = ds.length * 5
  | [] => rfl
  | x :: r => by rw [List.flatMap_cons, List.length_append, flat_len r, enc_len]; simp; omega
theorem flatK_list (ds : List Q5) : flatK Q5.enc 5 ds.toArray = (ds.flatMap Q5.enc).toArray := by
  refine ext_get! (by rw [size_flatK, List.size_toArray, List.size_toArray, flat_len]) fun t ht => ?_
  rw [get_flatK _ _ _ _ (by simpa using ht)]
  have := flat_get (k := 5) (by omega) ds (fun x _ => enc_len x) t (by simpa using ht)
  simp only [List.getElem!_toArray]
  rw [this]
/-- A binding's cells. -/
def repE (w : World) (ν : Env) (b : Bd) (x : Q5) : Prop := (∃ u : Value, u.cells.toList = x.enc ∧ rep w ν b.e u) ∧ x.1 = b.v
theorem repC_bds {w : World} {ν : Env} : ∀ {l : List Bd} {us : List Value}, repC w ν 5 (l.map Bd.e) us → ∃ ps : List (Bd × Q5), ps.map (·.1) = l ∧ us = (ps.map (·.2)).flatMap Q5.enc ∧ ∀ p ∈ ps, repE w ν p.1 p.2
  | [], us, h => ⟨[], rfl, by simpa [repC] using h, by simp⟩
  | b :: l, us, h => by
    simp only [List.map_cons, repC] at h
    obtain ⟨u, us', rfl, ⟨h1, h2, h3⟩, h4⟩ := h
    obtain ⟨ps, q1, rfl, q3⟩ := repC_bds h4
    have h1' := h1
    simp only [Bd.e, rep, repL] at h1'
    obtain ⟨vs, rfl, x1, r1, e1, ⟨rfl, _⟩, _⟩ := h1'
    have hc : (Value.agg vs).cells.toList = .int .i64 b.v :: r1 := by simp [Value.cells, e1]
    have hlen : r1.length = 4 := by
      have : (Value.agg vs).cells.toList.length = 5 := by simpa using h2
      rw [hc] at this
      simpa using this
    refine ⟨(b, (b.v, ⟨r1, hlen, fun v hv => h3 v (by rw [hc]; simp [hv])⟩)) :: ps, by simp [q1], by rw [List.map_cons, List.flatMap_cons]; exact congrArg (· ++ _) hc, ?_⟩
    intro p hp
    rcases List.mem_cons.1 hp with rfl | hp
    · exact ⟨⟨_, hc, h1⟩, rfl⟩
    · exact q3 p hp
theorem bds_repC {w : World} {ν : Env} : ∀ {ps : List (Bd × Q5)}, (∀ p ∈ ps, repE w ν p.1 p.2) → repC w ν 5 ((ps.map (·.1)).map Bd.e) ((ps.map (·.2)).flatMap Q5.enc)
  | [], _ => by simp [repC]
  | p :: ps, h => by
    obtain ⟨⟨u, h1, h2⟩, _⟩ := h p (by simp)
    simp only [List.map_cons, repC, List.flatMap_cons]
    refine ⟨u, _, by rw [h1], ⟨h2, ?_, ?_⟩, bds_repC fun p hp => h p (by simp [hp])⟩
    · have : u.cells.toList.length = 5 := by rw [h1]; exact enc_len _
      simpa using this
    · rw [h1]
      intro c hc
      simp only [Q5.enc, List.mem_cons] at hc
      rcases hc with rfl | hc
      · rfl
      · exact p.2.2.2.2 c hc
theorem perm_lift {α β : Type} (f : α → β) {d d' : List β} (h : d'.Perm d) : ∀ ps : List α, ps.map f = d → ∃ ps' : List α, ps'.Perm ps ∧ ps'.map f = d' := by
  induction h with
  | nil => intro ps h; exact ⟨ps, .refl _, h⟩
  | cons x _ ih =>
    intro ps h
    cases ps with
    | nil => cases h
    | cons p ps =>
      simp only [List.map_cons, List.cons.injEq] at h
      obtain ⟨ps', h1, h2⟩ := ih ps h.2
      exact ⟨p :: ps', h1.cons p, by simp [h.1, h2]⟩
  | swap x y l =>
    intro ps h
    match ps, h with
    | p :: q :: ps, h =>
      simp only [List.map_cons, List.cons.injEq] at h
      exact ⟨q :: p :: ps, .swap _ _ _, by simp [h]⟩
  | trans _ _ ih1 ih2 =>
    intro ps h
    obtain ⟨ps2, h1, h2⟩ := ih2 ps h
    obtain ⟨ps1, h3, h4⟩ := ih1 ps2 h2
    exact ⟨ps1, h3.trans h1, h4⟩
def sortB (l : List Bd) : List Bd := l.mergeSort fun x y => decide (x.v ≤ y.v)
theorem sortB_length (l : List Bd) : (sortB l).length = l.length := List.length_mergeSort l
theorem sortB_uniq {l l' : List Bd} (hp : l'.Perm l) (hd : (l.map (·.v)).Nodup) (hs : l'.Pairwise fun x y => x.v ≤ y.v) : l' = sortB l := by
  have ht : ∀ a b c : Bd, (decide (a.v ≤ b.v)) = true → (decide (b.v ≤ c.v)) = true → (decide (a.v ≤ c.v)) = true := by intro a b c; simp; omega
  have hto : ∀ a b : Bd, (decide (a.v ≤ b.v) || decide (b.v ≤ a.v)) = true := by intro a b; simp; omega
  have h2 := List.pairwise_mergeSort ht hto l
  refine List.Perm.eq_of_pairwise (le := fun x y : Bd => x.v ≤ y.v) (fun x y hx hy h1 h2 => ?_) hs (h2.imp (by simp)) (hp.trans (List.mergeSort_perm l _).symm)
  have hx' : x ∈ l := hp.mem_iff.1 hx
  have hy' : y ∈ l := (List.mergeSort_perm l _).mem_iff.1 hy
  have hinj : ∀ (l : List Bd), (l.map (·.v)).Nodup → ∀ x y, x ∈ l → y ∈ l → x.v = y.v → x = y := by
    intro l
    induction l with
    | nil => intro _ x y hx; cases hx
    | cons a r ih =>
      intro hd x y hx hy he
      simp only [List.map_cons, List.nodup_cons, List.mem_map, not_exists, not_and] at hd
      rcases List.mem_cons.1 hx with hx2 | hx2 <;> rcases List.mem_cons.1 hy with hy2 | hy2
      · rw [hx2, hy2]
      · subst hx2; exact absurd he.symm (hd.1 y hy2)
      · subst hy2; exact absurd he (hd.1 x hx2)
      · exact ih hd.2 x y hx2 hy2 he
  exact hinj l hd x y hx' hy' (by omega)
/-- The objects of a sort of bindings: the row and the variable that holds it. -/
def SS (K B : Nat) (l : List Bd) : Obs := ⟨[(.obj B, [.row 5 (.obj K) l.length])], [(.obj K, ⟨l.length, 30, 5, some (l.map Bd.e)⟩)]⟩
theorem SS_ok (K B : Nat) (l : List Bd) : ObOk (SS K B l) := by
  unfold SS
  refine ObOk.of ⟨by intro m; simp [Pv.look], by intro m; simp [Pv.look]⟩ (by simp [kinL, kin, inObs, Pv.look]) ?_
  intro x hx ys hy
  simp at hx
  subst hx
  simp at hy
  subst hy
  simp
theorem SS_same (K B : Nat) (l l' : List Bd) : Same (SS K B l) (SS K B l') := by
  refine ⟨fun k => ?_, fun k => ?_⟩
  · simp only [SS, Pv.look]; split <;> rfl
  · simp only [SS, Pv.look]; split <;> rfl
set_option maxHeartbeats 1000000 in
theorem g_sortSlice (K B : Nat) (l : List Bd) (hl : l.length ≤ 1000000) (hd : (l.map (·.v)).Nodup) : FnG Tryz.prog 117 [.iface 31 (.row 5 (.obj K) l.length), .func 118 [.ptr (.obj B) 0]] (SS K B l) fun r s' => r = .tuple [] ∧ s' = SS K B (sortB l) := by
  refine FnG.sem (SS_ok K B l).obj fun w ν vs hvs hr => ?_
  refine .inl ⟨⟨Tryz.f117, Tryz.func117, by kernel_rfl, by kernel_rfl⟩, ?_⟩
  have hslot := hr.slot 0
  have hslot1 := hr.slot 1
  simp [slots, Pv.get] at hslot hslot1
  have hlook : Pv.look (.obj K) (SS K B l).e = some ⟨l.length, 30, 5, some (l.map Bd.e)⟩ := by simp [SS, Pv.look]
  have hlookb : Pv.look (.obj B) (SS K B l).b = some [.row 5 (.obj K) l.length] := by simp [SS, Pv.look]
  obtain ⟨v, us, q1, q2, q3, q4⟩ := hr.good.own (.obj K) _ hlook
  obtain ⟨q5, q6, q7⟩ := q4 _ rfl
  obtain ⟨bl, bus, bel, b1, b2, b3, b4, b5⟩ := hr.good.box (.obj B) _ hlookb
  simp only [rep, repT] at hslot hslot1
  obtain ⟨u, hu, ⟨g0, cap0, hb0⟩, _, n', u', e1, e2, e3⟩ := hslot
  rw [q1] at e1
  simp only [Option.some.injEq, Prod.mk.injEq] at e1
  obtain ⟨rfl, rfl⟩ := e1
  have hv := e3 rfl
  subst hv
  obtain ⟨fs, hf, f1, f2, f3, ⟨bl', f4, f5⟩, f6⟩ := hslot1
  rw [b1] at f4
  simp only [Option.some.injEq] at f4
  subst f4
  simp only [repB, repL] at b5
  obtain ⟨c1, c2, c3, ⟨⟨_, _, n'', u'', c4, _, c5⟩, _⟩, c6⟩ := b5
  rw [q1] at c4
  simp only [Option.some.injEq, Prod.mk.injEq] at c4
  obtain ⟨rfl, rfl⟩ := c4
  have hc1 := c5 rfl
  have hne : u ≠ .slice none 0 0 := by rw [hb0]; simp
  obtain ⟨g, cap, rfl, hg1, hg2, hg3, hg4, hH⟩ := holdsU q2 hne
  have hvs2 : vs = #[.iface 31 (.slice (some ⟨g, 0, none⟩) l.length cap), .func (.func 118) #[] #[.pointer (some ⟨bl, 0, none⟩)]] := by
    have h1 : vs.size = 2 := by simpa using hvs
    have hfs : fs = #[.pointer (some ⟨bl, 0, none⟩)] := by
      apply Array.ext'
      simp [f3, f5, f6]
    apply Array.ext (by simpa using h1)
    intro i h2 h3
    simp at h3
    rcases (by omega : i = 0 ∨ i = 1) with rfl | rfl
    · simpa [Array.getD, h1] using hu
    · rw [← hfs]; simpa [Array.getD, h1] using hf
  have hgb : bl ≠ g := fun e => hr.good.obx (.obj K) (.obj B) _ _ g (by simp [hlook]) (by simp [hlookb]) q1 rfl (by rw [b1, e])
  have hcell : w.cell? ⟨bl, 0, none⟩ = some (.slice (some ⟨g, 0, none⟩) l.length cap) := by
    simp only [objFrom] at b4
    simp only [World.cell?, b4]
    have : bus[0]? = some c1 := by
      have h1 : bus.toList[0]? = some c1 := by rw [c3]; rfl
      simpa using h1
    simp [this, hc1]
  have hblt : bl < w.heap.size := (Array.getElem?_eq_some_iff.1 b4).1
  subst hvs2
  by_cases h2 : 2 ≤ l.length
  · obtain ⟨ps, p1, rfl, p3⟩ := repC_bds q6
    have hpl : (ps.map (·.2)).length = l.length := by rw [← p1]; simp
    have hHK : HoldsK Q5.enc 5 w g 0 (ps.map (·.2)).toArray := by unfold HoldsK; rw [flatK_list]; exact hH
    have hc := Tryz.sort_Slice_bindings g 0 cap bl (ps.map (·.2)).toArray (by simp only [List.size_toArray, hpl]; exact h2) (by simp only [List.size_toArray, hpl]; omega) w hHK hg1 (by simp only [List.size_toArray, hpl]; exact hcell) hblt hgb
    simp only [List.size_toArray, hpl] at hc
    refine hc.mono ?_
    rintro e w' ⟨rfl, d', n, os, hperm, hsort, rfl⟩
    obtain ⟨z1, _, z3⟩ := hperm
    have zp : d'.toList.Perm (ps.map (·.2)) := by
      have e1 : d'.extract 0 l.length = d' := by
        have : l.length = d'.size := by rw [z1]; simpa using hpl.symm
        rw [this]; simp
      have e2 : (ps.map (·.2)).toArray.extract 0 l.length = (ps.map (·.2)).toArray := by
        have : l.length = (ps.map (·.2)).toArray.size := by simpa using hpl.symm
        rw [this]; exact Array.extract_size
      rw [e1, e2] at z3
      simpa using z3
    obtain ⟨ps', y1, y2⟩ := perm_lift (·.2) zp ps rfl
    have hrep' : ∀ p ∈ ps', repE w ν p.1 p.2 := fun p hp => p3 p (y1.mem_iff.1 hp)
    have hl' : (ps'.map (·.1)).Perm l := by rw [← p1]; exact y1.map _
    have hsorted : (ps'.map (·.1)).Pairwise fun x y => x.v ≤ y.v := by
      rw [List.pairwise_iff_getElem]
      intro i j hi hj hij
      have hi' : i < ps'.length := by simpa using hi
      have hj' : j < ps'.length := by simpa using hj
      have hdl : d'.size = ps'.length := by rw [← Array.length_toList, ← y2]; simp
      have hll : ps'.length = l.length := by have := hl'.length_eq; simpa using this
      have hs := hsort i j (by omega) hij (by omega)
      have hget : ∀ t (ht : t < ps'.length), d'[t]! = ps'[t].2 := by
        intro t ht
        rw [getElem!_pos d' t (by omega)]
        have h1 : d'.toList[t]? = some ps'[t].2 := by rw [← y2]; simp [ht]
        have h2 : d'.toList[t]? = some d'[t] := by simp
        rw [h2] at h1
        simpa using h1
      rw [hget i hi', hget j hj'] at hs
      have r1 := (hrep' ps'[i] (by simp)).2
      have r2 := (hrep' ps'[j] (by simp)).2
      simp only [Q5.lt, decide_eq_false_iff_not] at hs
      simp only [List.getElem_map]
      omega
    have hfin : ps'.map (·.1) = sortB l := sortB_uniq hl' hd hsorted
    have hsl := sortB_length l
    have hFl : (flatK Q5.enc 5 d') = ((ps'.map (·.2)).flatMap Q5.enc).toArray := by rw [y2, ← flatK_list]
    have hrc := bds_repC hrep'
    rw [hfin] at hrc
    have hlen5 : ((ps'.map (·.2)).flatMap Q5.enc).length = l.length * 5 := by
      rw [flat_len]; have := hl'.length_eq; simp at this; simp [this]
    have hown := ownsU (q := n) (F := flatK Q5.enc 5 d') q2 (by rw [hFl]; simpa using hlen5)
    rw [hFl] at hown
    obtain ⟨x1, x2, _⟩ := hr.setRowM (w' := Sort.putRowK Q5.enc 5 (Sort.ahead w n) g 0 d') hlook rfl q1 (bl := g) rfl (v' := .slice (some ⟨g, 0, none⟩) l.length cap) rfl (xs' := (sortB l).map Bd.e) (us := (ps'.map (·.2)).flatMap Q5.enc) (.inl ⟨by simp [hsl], rfl⟩) rfl rfl rfl
      (fun j hj => by simp [Sort.putRowK, Sort.putRow, Sort.mapBlock, Sort.ahead, Array.getElem?_modify, Ne.symm hj]) (by simp [Sort.putRowK, Sort.putRow, Sort.mapBlock, Sort.ahead]) (by unfold Sort.putRowK; rw [hFl]; simpa [hsl] using hown) hrc
    have x3 := x1.grown (w' := Sort.grow (Sort.putRowK Q5.enc 5 (Sort.ahead w n) g 0 d') os) ⟨rfl, rfl, rfl, by simp, fun k hk _ => Sort.heap_grow_old _ _ hk⟩
    refine ⟨_, _, _, _, .tuple [], SS K B (sortB l), rfl, x3, by simp [rep, repT], by simp [SS, keeps, inObs, Pv.look], ?_, ?_, ?_, (SS_ok K B _).obj, by simp [kin, kinL], rfl, rfl⟩
    · simp [SS, keeps, inObs, Pv.look]
    · intro k cs hk
      have hm := look_mem hk
      simp [SS] at hm
      obtain ⟨rfl, rfl⟩ := hm
      exact ⟨by simp [SS, Pv.look, hsl], .inl (by simp [hk]), by simp [kinL, kin, inObs, SS, Pv.look]⟩
    · intro k o hk
      have hm := look_mem hk
      simp [SS] at hm
      obtain ⟨rfl, rfl⟩ := hm
      refine ⟨by simp [SS, Pv.look, upd, hsl], .inr (by simp [hk]), fun ys hy => ?_⟩
      simp at hy
      subst hy
      simp
  · have hsm : sortB l = l := by
      match l, h2 with
      | [], _ => simp [sortB]
      | [x], _ => simp [sortB]
      | x :: y :: r, h => simp at h
    have hc := Tryz.sort_Slice_few (some ⟨g, 0, none⟩) l.length cap (by omega) (.func 118) #[] #[.pointer (some ⟨bl, 0, none⟩)] w
    refine hc.mono ?_
    rintro e w' ⟨rfl, os, rfl⟩
    have x3 := hr.grown (w' := Sort.grow w os) ⟨rfl, rfl, rfl, by simp, fun k hk _ => Sort.heap_grow_old _ _ hk⟩
    rw [hsm]
    refine ⟨_, _, _, _, .tuple [], SS K B l, rfl, x3, by simp [rep, repT], by simp [SS, keeps, inObs, Pv.look], ?_, ?_, ?_, (SS_ok K B _).obj, by simp [kin, kinL], rfl, rfl⟩
    · simp [SS, keeps, inObs, Pv.look]
    · exact fun k cs hk => ⟨hk, .inl (by simp [hk]), (SS_ok K B l).kb k cs hk⟩
    · exact fun k o hk => ⟨hk, .inr (by simp [hk]), (SS_ok K B l).ke k o hk⟩
def SR (K : Nat) (l : List Bd) : Obs := ⟨[], [(.obj K, ⟨l.length, 30, 5, some (l.map Bd.e)⟩)]⟩
theorem SR_ok (K : Nat) (l : List Bd) : ObOk (SR K l) := by
  unfold SR
  refine ObOk.of ⟨by intro m; simp [Pv.look], by intro m; simp [Pv.look]⟩ (by simp) ?_
  intro x hx ys hy
  simp at hx
  subst hx
  simp at hy
  subst hy
  simp
theorem SR_same (K : Nat) (l l' : List Bd) : Same (SR K l) (SR K l') := by
  refine ⟨fun k => rfl, fun k => ?_⟩
  simp only [SR, Pv.look]; split <;> rfl
theorem g_sortBindings (K : Nat) (hK : K ≠ 307) (l : List Bd) (hl : l.length ≤ 1000000) (hd : (l.map (·.v)).Nodup) : FnG Tryz.prog 67 [.row 5 (.obj K) l.length] (SR K l) fun r s' => r = .tuple [] ∧ s' = SR K (sortB l) := by
  have hs := SR_ok K l
  have hs' := SR_ok K (sortB l)
  have hsm := SR_same K l (sortB l)
  have hK' : (307 = K) = False := by simp; omega
  unfold SR at hs hs' hsm ⊢
  refine FnG.mk mixed tysok f_impl_sortBindings ok_impl_sortBindings (by simp) hs.obj fun hbnd hbb => ?_; unfold c_impl_sortBindings
  simp [hK, hK']
  refine CallDo.ob (g_sortSlice K 307 l hl hd) (SS_ok K 307 l) (by unfold SS; exact (by first | (refine kpL ?_; simp; done) | (intro k x hx; first | exact hx | (simp [hx, without_self]; done) | (simp [look_app, without_self, hx]; done) | (cases k <;> simp_all [look_app]; done)))) (by unfold SS; exact (by first | (refine kpL ?_; simp; done) | (intro k x hx; first | exact hx | (simp [hx, without_self]; done) | (simp [look_app, without_self, hx]; done) | (cases k <;> simp_all [look_app]; done)))) (by simp [inObs, SS, Pv.look]) ?_
  rintro r s' ⟨rfl, rfl⟩
  refine ⟨SS_same K 307 _ _, ?_⟩
  unfold SS
  simp [without]
  refine RetQ.at _ (.inr rfl) hs' hsm (by first | (refine kpL ?_; simp; done) | (intro k x hx; first | exact hx | (simp [hx, without_self]; done) | (simp [look_app, without_self, hx]; done) | (cases k <;> simp_all [look_app]; done))) (by first | (refine kpL ?_; simp; done) | (intro k x hx; first | exact hx | (simp [hx, without_self]; done) | (simp [look_app, without_self, hx]; done) | (cases k <;> simp_all [look_app]; done))) ?_
  simp [ResIs, r_impl_sortBindings, resL, resV, tup]
end Go.Proofs.YtchidkafcdmciaaGreat
/- Contracts: MatchTerm, Instantiate. -/
set_option linter.all false
namespace Go.Proofs.YtchidkafcdmciaaGreat
open Go Go.Pv

theorem kinL_appT (S : Key → Prop) : ∀ a b : List PV, kinL S (a ++ b) ↔ kinL S a ∧ kinL S b
  | [], b => by simp [kinL]
  | x :: r, b => by simp only [List.cons_append, kinL, kinL_appT S r b, and_assoc]
def toB (x : Int × T) : Bd := ⟨x.1, x.2⟩
def invMT (m : List (Int × T)) (k : Nat) (st : St) : Prop :=
  ∃ (seen : List Nat) (xs : List Bd), seen.Nodup ∧ (∀ b ∈ seen, b < m.length) ∧ k = m.length - seen.length ∧ xs = (seen.filterMap fun b => m[b]?).map toB ∧ xs.length = seen.length ∧ st = ⟨[(7, .row 5 (.obj 303) xs.length), (33, .ptr (.loc 2) 0)], [(.obj 302, mE m), (.loc 2, iterE m.length seen (.obj 302))], [(.obj 303, ⟨xs.length, 30, 5, some (xs.map Bd.e)⟩)], 3, [.obj 303, .obj 302]⟩
/-- What MatchTerm computes. -/
def mOk (p t : T) : Bool := p.fit && t.fit && (mtch p t []).1 && decide ((mtch p t []).2.length ≤ 400)
def mBs (p t : T) : List Bd := if mOk p t then sortB ((mtch p t []).2.map toB) else []
theorem tlook_none {k : Int} : ∀ {m : List (Int × T)}, tlook k m = none → k ∉ m.map (·.1)
  | [], _ => by simp
  | (i, v) :: r, h => by
    simp only [tlook] at h
    split at h
    · cases h
    · rename_i hne
      have := tlook_none h
      simp only [List.map_cons, List.mem_cons, not_or]
      exact ⟨hne, this⟩
theorem mtch_nodup (p : T) : ∀ (t : T) (m : List (Int × T)), (m.map (·.1)).Nodup → ((mtch p t m).2.map (·.1)).Nodup := by
  induction p with
  | var n =>
    intro t m hm
    simp only [mtch]
    split
    · exact hm
    · rename_i h
      have := tlook_none h
      rw [List.map_append, List.nodup_append]
      refine ⟨hm, by simp, ?_⟩
      intro a ha b hb e
      simp at hb
      subst hb e
      exact this ha
  | pair a b iha ihb =>
    intro t m hm
    cases t with
    | pair c d =>
      simp only [mtch]
      split
      · exact ihb d _ (iha c m hm)
      · exact iha c m hm
    | _ => simpa [mtch] using hm
  | _ => intro t m hm; cases t <;> simpa [mtch] using hm
theorem sortB_perm {a b : List Bd} (h : a.Perm b) (hd : (b.map (·.v)).Nodup) : sortB a = sortB b := by
  have ht : ∀ a b c : Bd, (decide (a.v ≤ b.v)) = true → (decide (b.v ≤ c.v)) = true → (decide (a.v ≤ c.v)) = true := by intro a b c; simp; omega
  have hto : ∀ a b : Bd, (decide (a.v ≤ b.v) || decide (b.v ≤ a.v)) = true := by intro a b; simp; omega
  exact sortB_uniq ((List.mergeSort_perm a _).trans h) hd ((List.pairwise_mergeSort ht hto a).imp (by simp))
theorem bds_snoc (xs : List Bd) (x : Bd) : xs.map Bd.e ++ [x.e] = (xs ++ [x]).map Bd.e := by simp
set_option maxHeartbeats 1000000 in
theorem v_MatchTerm (p t : T) : FnV Tryz.prog 21 [p.e, t.e] (.tuple [.slice 5 .no ((mBs p t).map Bd.e), .bool (mOk p t)]) := by
  refine FnV.mk mixed tysok f_impl_MatchTerm ok_impl_MatchTerm (by simp) (by simp [kin]) fun hbnd => ?_; unfold c_impl_MatchTerm
  simp
  (repeat' first | (with_reducible refine evCd_split (fun h => ?_) (fun h => ?_) <;> (try simp at h)) | (with_reducible refine evGd_split (fun h => ?_) (fun h => ?_) <;> (try simp at h)) | (with_reducible refine evDd_split (fun h => ?_) (fun h => ?_) <;> (try simp at h)) | with_reducible refine And.intro (by (first | omega | (unfold in64; omega))) ?_ | with_reducible refine CallDo.val (by simp) (v_TermOkT _) ?_ | with_reducible refine CallD.val (by simp) (v_TermOkT _) ?_ | simp)
  · rename_i hp
    refine CallDo.ob (g_matched 302 p t []) (SM_ok 302 _) (by unfold SM; exact (by first | (refine kpL ?_; simp; done) | (intro k x hx; first | exact hx | (simp [hx, without_self]; done) | (simp [look_app, without_self, hx]; done) | (cases k <;> simp_all [look_app]; done)))) (by unfold SM; exact (by first | (refine kpL ?_; simp; done) | (intro k x hx; first | exact hx | (simp [hx, without_self]; done) | (simp [look_app, without_self, hx]; done) | (cases k <;> simp_all [look_app]; done)))) (by simp [inObs, SM]) ?_
    rintro r s' ⟨rfl, rfl⟩
    refine ⟨SM_same 302 _ _, ?_⟩
    generalize hm : mtch p t [] = res
    obtain ⟨ok, m⟩ := res
    unfold SM
    have hmlen : ∀ f : Key → Option (List PV), f (.obj 302) = some (mE m) → mlenV f (.gmap (.obj 302)) = some (True, .int .i64 m.length) := fun f h => mlenV_mE f _ m h
    simp [without]
    (repeat' first | (with_reducible refine evCd_split (fun h => ?_) (fun h => ?_) <;> (try simp at h)) | (with_reducible refine evGd_split (fun h => ?_) (fun h => ?_) <;> (try simp at h)) | (with_reducible refine evDd_split (fun h => ?_) (fun h => ?_) <;> (try simp at h)) | with_reducible refine And.intro (by (first | omega | (unfold in64; omega))) ?_ | simp [hmlen])
    · simp [RetV, r_impl_MatchTerm, resL, resV, tup]
      simp_all [mBs, mOk]
      omega
    · rename_i hok hlen
      have hnd : ((m.map toB).map (·.v)).Nodup := by
        have := mtch_nodup p t [] (by simp)
        rw [hm] at this
        simpa [toB, Function.comp_def] using this
      refine evC_loop (invMT m) m.length _ ⟨by simp [fresh, kinL, kin, iterE, inObs, Pv.look, kinL_mE], subB_of (by simp [fresh, kinL, kin, iterE, inObs, Pv.look, kinL_mE]), subE_of (by simp [fresh, kinL, kin, kinO, inObs, Pv.look, kinL_mE]), by simp⟩ ⟨[], [], by simp, by simp, by simp, by simp, by simp, rfl⟩ ?_
      rintro k st ⟨seen, xs, hd, hlt, hk, hxs, hxl, rfl⟩ hbt hbb
      clear hbt hbb
      have hle := seen_le hd hlt
      simp
      refine ev1n_mE (mk := .obj 302) (seen := seen) (l := m) (by simp) (by simp) rfl (fun hall => ?_) (fun b x hx hb => ?_)
      · simp
        have hperm : xs.Perm (m.map toB) := by rw [hxs]; exact (seen_all hd hlt hall).map _
        have hxd : (xs.map (·.v)).Nodup := (hperm.map _).nodup_iff.2 hnd
        refine CallDo.ob (g_sortBindings 303 (by decide) xs (by omega) hxd) (SR_ok 303 xs) (by unfold SR; exact (by first | (refine kpL ?_; simp; done) | (intro k x hx; first | exact hx | (simp [hx, without_self]; done) | (simp [look_app, without_self, hx]; done) | (cases k <;> simp_all [look_app]; done)))) (by unfold SR; exact (by first | (refine kpL ?_; simp; done) | (intro k x hx; first | exact hx | (simp [hx, without_self]; done) | (simp [look_app, without_self, hx]; done) | (cases k <;> simp_all [look_app]; done)))) (by simp [SR, inObs, Pv.look]) ?_
        rintro r s' ⟨rfl, rfl⟩
        refine ⟨SR_same 303 _ _, ?_⟩
        unfold SR
        simp [without, sortB_length]
        simp [RetV, r_impl_MatchTerm, resL, resV, tup]
        have hmo : mOk p t = true := by simp_all [mOk]; omega
        simp [mBs, hmo, hm, sortB_perm hperm hnd]
      · obtain ⟨v, x⟩ := x
        have hment : ∀ f : Key → Option (List PV), f (.loc 2) = some (iterE m.length (seen ++ [b]) (.obj 302)) → f (.obj 302) = some (mE m) → mentV f (.ptr (.loc 2) 0) = some (True, .tuple [.int .i64 v, x.e]) := fun f h1 h2 => mentV_mE f (.loc 2) (.obj 302) m.length seen b m (v, x) h1 h2 rfl hx
        have hbl : b < m.length := (List.getElem?_eq_some_iff.1 hx).1
        have hsl := seen_lt hd hlt hbl hb
        simp [hment]
        (repeat' first | (with_reducible refine evCd_split (fun h => ?_) (fun h => ?_) <;> (try simp at h)) | (with_reducible refine evGd_split (fun h => ?_) (fun h => ?_) <;> (try simp at h)) | (with_reducible refine evDd_split (fun h => ?_) (fun h => ?_) <;> (try simp at h)) | with_reducible refine And.intro (by (first | omega | (unfold in64; omega))) ?_ | with_reducible refine CallDo.val (by simp) (v_copyTerm _) ?_ | with_reducible refine CallD.val (by simp) (v_copyTerm _) ?_ | simp)
        refine ⟨by unfold lim; omega, ?_⟩
        refine LoopQ.next (m.length - (seen.length + 1)) (by omega) ⟨seen ++ [b], xs ++ [⟨v, x⟩], nodup_snoc hd hb, (by simp; intro c hc; rcases hc with hc | rfl; exact hlt c hc; exact hbl), by simp, by rw [List.filterMap_append, List.map_append, ← hxs]; simp [hx, toB], by simp [hxl], rfl⟩ ⟨by simp [fresh, kinL, kin, iterE, inObs, Pv.look, kinL_mE, kinL_appT], subB_of (by simp [fresh, kinL, kin, iterE, inObs, Pv.look, kinL_mE, kinL_appT]), subE_of (by simp [fresh, kinL, kin, kinO, inObs, Pv.look, kinL_mE, kinL_appT]), by simp⟩
    · simp [RetV, r_impl_MatchTerm, resL, resV, tup]
      simp_all [mBs, mOk]
  all_goals simp [RetV, r_impl_MatchTerm, resL, resV, tup]
  all_goals simp_all [mBs, mOk]
open Classical in
/-- What ValuesOk computes. -/
noncomputable def valsOk (l : List Bd) : Bool := decide (ValsOk (l.map Bd.b))
theorem v_ValuesOkB (l : List Bd) : FnV Tryz.prog 22 [.slice 5 .no (l.map Bd.e)] (.bool (valsOk l)) := by
  have := v_ValuesOk (l.map Bd.b)
  have h : (l.map Bd.b).map Bt.e = l.map Bd.e := by rw [List.map_map]; exact List.map_congr_left fun b _ => Bd.b_e b
  rw [h] at this
  exact this
/-- What Instantiate computes. -/
noncomputable def instOk (t : T) (l : List Bd) : Bool := t.fit && valsOk l && putOk l t
theorem v_Instantiate (t : T) (l : List Bd) (hl : l.length ≤ 1000000) : FnV Tryz.prog 20 [t.e, .slice 5 .no (l.map Bd.e)] (.tuple [(if instOk t l then putT l t else .nil).e, .bool (instOk t l)]) := by
  refine FnV.mk mixed tysok f_impl_Instantiate ok_impl_Instantiate (by simp) (by simp [kin]) fun hbnd => ?_; unfold c_impl_Instantiate
  simp
  (repeat' first | (with_reducible refine evCd_split (fun h => ?_) (fun h => ?_) <;> (try simp at h)) | (with_reducible refine evGd_split (fun h => ?_) (fun h => ?_) <;> (try simp at h)) | (with_reducible refine evDd_split (fun h => ?_) (fun h => ?_) <;> (try simp at h)) | with_reducible refine And.intro (by (first | omega | (unfold in64; omega))) ?_ | with_reducible refine CallDo.val (by simp) (v_TermOkT _) ?_ | with_reducible refine CallD.val (by simp) (v_TermOkT _) ?_ | with_reducible refine CallDo.val (by simp) (v_ValuesOkB _) ?_ | with_reducible refine CallD.val (by simp) (v_ValuesOkB _) ?_ | with_reducible refine CallDo.val (by simp) (v_put _ _ hl) ?_ | with_reducible refine CallD.val (by simp) (v_put _ _ hl) ?_ | simp)
  all_goals simp [RetV, r_impl_Instantiate, resL, resV, tup]
  all_goals simp_all [instOk]
end Go.Proofs.YtchidkafcdmciaaGreat
/- Contracts: drawing bytes. -/
set_option linter.all false
namespace Go.Proofs.YtchidkafcdmciaaGreat
open Go Go.Pv

/-- What a cursor holds. -/
structure Cur where
  d : List Int
  i : Nat
  h : Int
def bytesE (d : List Int) : List PV := d.map (PV.int .u8)
def Cur.e (c : Cur) : List PV := [.slice 1 .no (bytesE c.d), .int .i64 c.i, .int .i64 c.h]
def SC (c : Cur) : Obs := ⟨[(.obj 401, c.e)], []⟩
@[simp] theorem kinL_bytes (S : Key → Prop) (d : List Int) : kinL S (bytesE d) = True := by
  apply eq_true
  induction d with
  | nil => simp [-intV, -binV, bytesE, kinL]
  | cons x r ih => simp only [bytesE, List.map_cons, kinL, kin] at ih ⊢; exact ⟨trivial, ih⟩
@[simp] theorem strip_bytes (d : List Int) : stripL (bytesE d) = bytesE d := by
  induction d with
  | nil => rfl
  | cons x r ih => simp only [bytesE, List.map_cons, stripL, strip] at ih ⊢; rw [ih]
@[simp] theorem bytesE_length (d : List Int) : (bytesE d).length = d.length := by simp [-intV, -binV, bytesE]
theorem bytesE_get {d : List Int} {i : Nat} {x : Int} (h : d[i]? = some x) : (bytesE d)[i]? = some (.int .u8 x) := by simp [-intV, -binV, bytesE, h]
theorem SC_ok (c : Cur) : ObOk (SC c) := by
  unfold SC
  exact ObOk.of ⟨by intro m; simp [-intV, -binV, Pv.look], by intro m; simp [-intV, -binV, Pv.look]⟩ (by simp [-intV, -binV, Cur.e, kinL, kin]) (by simp [-intV, -binV])
theorem SC_same (c c' : Cur) : Same (SC c) (SC c') := by
  refine ⟨fun k => ?_, fun k => rfl⟩
  simp only [SC, Pv.look]
  split <;> rfl
/-- The next byte. -/
def byteOk (d : List Int) : Prop := ∀ x ∈ d, 0 ≤ x ∧ x < 256
def nextH (h : Int) : Int := IntKind.i64.wrap (IntKind.i64.wrap (h * 6364136223846793005) + 1442695040888963407)
def andK (k : IntKind) (a b : Int) : Int := k.wrap (BitVec.ofInt k.bits a &&& BitVec.ofInt k.bits b).toNat
def xorK (k : IntKind) (a b : Int) : Int := k.wrap (BitVec.ofInt k.bits a ^^^ BitVec.ofInt k.bits b).toNat
def shrK (k : IntKind) (a b : Int) : Int := a.fdiv (2 ^ (min b.toNat k.bits))
section
variable (a b : Int)
@[simp] theorem bin_add : binV .add false (.int .i64 a) (.int .i64 b) = some (in64 (a + b), .int .i64 (a + b)) := by unfold binV intV; simp [-intV, -binV]
@[simp] theorem bin_addw : binV .add true (.int .i64 a) (.int .i64 b) = some (True, .int .i64 (IntKind.i64.wrap (a + b))) := rfl
@[simp] theorem bin_sub : binV .sub false (.int .i64 a) (.int .i64 b) = some (in64 (a - b), .int .i64 (a - b)) := by unfold binV intV; simp [-intV, -binV]
@[simp] theorem bin_mul : binV .mul false (.int .i64 a) (.int .i64 b) = some (in64 (a * b), .int .i64 (a * b)) := by unfold binV intV; simp [-intV, -binV]
@[simp] theorem bin_mulw : binV .mul true (.int .i64 a) (.int .i64 b) = some (True, .int .i64 (IntKind.i64.wrap (a * b))) := rfl
@[simp] theorem bin_quo : binV .quo false (.int .i64 a) (.int .i64 b) = some (b ≠ 0, .int .i64 (IntKind.i64.wrap (a.tdiv b))) := rfl
@[simp] theorem bin_rem : binV .rem false (.int .i64 a) (.int .i64 b) = some (b ≠ 0, .int .i64 (a.tmod b)) := rfl
@[simp] theorem bin_eql : binV .eql false (.int .i64 a) (.int .i64 b) = some (True, .bool (a == b)) := rfl
@[simp] theorem bin_neq : binV .neq false (.int .i64 a) (.int .i64 b) = some (True, .bool (a != b)) := rfl
@[simp] theorem bin_lss : binV .lss false (.int .i64 a) (.int .i64 b) = some (True, .bool (decide (a < b))) := rfl
@[simp] theorem bin_leq : binV .leq false (.int .i64 a) (.int .i64 b) = some (True, .bool (decide (a ≤ b))) := rfl
@[simp] theorem bin_gtr : binV .gtr false (.int .i64 a) (.int .i64 b) = some (True, .bool (decide (b < a))) := rfl
@[simp] theorem bin_geq : binV .geq false (.int .i64 a) (.int .i64 b) = some (True, .bool (decide (b ≤ a))) := rfl
@[simp] theorem bin_and : binV .and false (.int .i64 a) (.int .i64 b) = some (True, .int .i64 (andK .i64 a b)) := rfl
@[simp] theorem bin_xor : binV .xor false (.int .i64 a) (.int .i64 b) = some (True, .int .i64 (xorK .i64 a b)) := rfl
@[simp] theorem bin_shr (k : IntKind) : binV .shr false (.int .i64 a) (.int k b) = some (0 ≤ b, .int .i64 (shrK .i64 a b)) := rfl
end
theorem and_le (x m : Int) (h0 : 0 ≤ m) (h1 : m < 9223372036854775807) : 0 ≤ andK .i64 x m ∧ andK .i64 x m ≤ m := by
  have hm : (BitVec.ofInt 64 m).toNat = m.toNat := by
    rw [BitVec.toNat_ofInt]; omega
  have h : (BitVec.ofInt 64 x &&& BitVec.ofInt 64 m).toNat ≤ m.toNat := by
    rw [BitVec.toNat_and, hm]
    exact Nat.and_le_right
  unfold andK
  rw [show IntKind.i64.bits = 64 from rfl, IntWalk.i64_in _ (by omega)]
  omega
def mixB (h : Int) : Int := andK .i64 (xorK .i64 (shrK .i64 h 33) (shrK .i64 h 45)) 255
theorem mixB_le (h : Int) : 0 ≤ mixB h ∧ mixB h ≤ 255 := and_le _ _ (by omega) (by omega)
def Cur.byte (c : Cur) : Int := match c.d[c.i]? with | some x => andK .i64 (mixB (nextH c.h) + x) 255 | none => mixB (nextH c.h)
def Cur.next (c : Cur) : Cur := ⟨c.d, if c.i < c.d.length then c.i + 1 else c.i, nextH c.h⟩
theorem Cur.byte_le (c : Cur) : 0 ≤ c.byte ∧ c.byte ≤ 255 := by
  unfold Cur.byte
  split
  · exact and_le _ _ (by omega) (by omega)
  · exact mixB_le _
/-- A cursor that may be drawn from. -/
structure Cur.ok (c : Cur) : Prop where
  d : byteOk c.d
  l : c.d.length ≤ 10000000
  i : c.i ≤ c.d.length
theorem Cur.ok.next {c : Cur} (h : c.ok) : c.next.ok := ⟨h.d, h.l, by have := h.i; simp only [Cur.next]; split <;> omega⟩
set_option maxHeartbeats 1000000 in
set_option maxRecDepth 4000 in
theorem g_l01Byte (c : Cur) (hc : c.ok) : FnG Tryz.prog 103 [.ptr (.obj 401) 0] (SC c) fun r s' => r = .int .i64 c.byte ∧ s' = SC c.next := by
  have hs := SC_ok c
  have hs' := SC_ok c.next
  have hsm := SC_same c c.next
  obtain ⟨d, i, h⟩ := c
  obtain ⟨hd, hl, hi⟩ := hc
  simp only at hd hl hi
  have hmb := mixB_le (nextH h)
  simp only [mixB] at hmb
  by_cases hlt : i < d.length
  · obtain ⟨x, hx⟩ : ∃ x, d[i]? = some x := ⟨_, List.getElem?_eq_getElem hlt⟩
    have hbx : ∀ h, (bytesE d)[i]'h = .int .u8 x := fun h => by have := bytesE_get hx; rw [List.getElem?_eq_getElem h] at this; simpa using this
    have hx2 := hd x (List.mem_of_getElem? hx)
    have hw : IntKind.i64.wrap x = x := IntWalk.i64_in _ (by omega)
    simp only [SC, Cur.e, Cur.next, hlt, if_true] at hs hs' hsm ⊢
    refine FnG.mk mixed tysok f_spec_l01Byte ok_spec_l01Byte (by simp [-intV, -binV]) hs.obj fun hbnd hbb => ?_; unfold c_spec_l01Byte
    simp [-intV, -binV, hlt, hbx, hw, ← nextH.eq_1]
    (repeat' first | (with_reducible refine evCd_split (fun h => ?_) (fun h => ?_) <;> (try simp [-intV, -binV] at h)) | (with_reducible refine evGd_split (fun h => ?_) (fun h => ?_) <;> (try simp [-intV, -binV] at h)) | (with_reducible refine evDd_split (fun h => ?_) (fun h => ?_) <;> (try simp [-intV, -binV] at h)) | with_reducible refine And.intro (by (first | omega | (unfold in64; omega))) ?_ | simp [-intV, -binV])
    refine RetQ.at _ (.inl rfl) hs' hsm (by first | (refine kpL ?_; simp [-intV, -binV]; done) | (intro k x hx; first | exact hx | (simp [-intV, -binV, hx, without_self]; done) | (simp [-intV, -binV, look_app, without_self, hx]; done) | (cases k <;> simp_all [look_app]; done))) (by first | (refine kpL ?_; simp [-intV, -binV]; done) | (intro k x hx; first | exact hx | (simp [-intV, -binV, hx, without_self]; done) | (simp [-intV, -binV, look_app, without_self, hx]; done) | (cases k <;> simp_all [look_app]; done))) ?_
    simp [-intV, -binV, ResIs, r_spec_l01Byte, resL, resV, tup]
    simp [-intV, -binV, Cur.byte, hx, mixB]
  · have hx : d[i]? = none := by simp [-intV, -binV]; omega
    simp only [SC, Cur.e, Cur.next, hlt, if_false] at hs hs' hsm ⊢
    refine FnG.mk mixed tysok f_spec_l01Byte ok_spec_l01Byte (by simp [-intV, -binV]) hs.obj fun hbnd hbb => ?_; unfold c_spec_l01Byte
    simp [-intV, -binV, hlt, ← nextH.eq_1]
    (repeat' first | (with_reducible refine evCd_split (fun h => ?_) (fun h => ?_) <;> (try simp [-intV, -binV] at h)) | (with_reducible refine evGd_split (fun h => ?_) (fun h => ?_) <;> (try simp [-intV, -binV] at h)) | (with_reducible refine evDd_split (fun h => ?_) (fun h => ?_) <;> (try simp [-intV, -binV] at h)) | with_reducible refine And.intro (by (first | omega | (unfold in64; omega))) ?_ | simp [-intV, -binV])
    refine RetQ.at _ (.inl rfl) hs' hsm (by first | (refine kpL ?_; simp [-intV, -binV]; done) | (intro k x hx; first | exact hx | (simp [-intV, -binV, hx, without_self]; done) | (simp [-intV, -binV, look_app, without_self, hx]; done) | (cases k <;> simp_all [look_app]; done))) (by first | (refine kpL ?_; simp [-intV, -binV]; done) | (intro k x hx; first | exact hx | (simp [-intV, -binV, hx, without_self]; done) | (simp [-intV, -binV, look_app, without_self, hx]; done) | (cases k <;> simp_all [look_app]; done))) ?_
    simp [-intV, -binV, ResIs, r_spec_l01Byte, resL, resV, tup]
    simp [-intV, -binV, Cur.byte, hx, mixB]
end Go.Proofs.YtchidkafcdmciaaGreat
/- Contracts: drawing terms. -/
set_option linter.all false
namespace Go.Proofs.YtchidkafcdmciaaGreat
open Go Go.Pv

def Cur.below (c : Cur) (n : Int) : Int := if n ≤ 0 then 0 else c.byte.tmod n
def Cur.belowC (c : Cur) (n : Int) : Cur := if n ≤ 0 then c else c.next
theorem Cur.ok.below {c : Cur} (h : c.ok) (n : Int) : (c.belowC n).ok := by unfold Cur.belowC; split; exact h; exact h.next
theorem Cur.below_le (c : Cur) (n : Int) (hn : 0 < n) : 0 ≤ c.below n ∧ c.below n < n := by
  have := c.byte_le
  unfold Cur.below
  rw [if_neg (by omega)]
  exact ⟨Int.tmod_nonneg _ this.1, Int.tmod_lt_of_pos _ hn⟩
theorem g_l01Below (c : Cur) (hc : c.ok) (n : Int) : FnG Tryz.prog 101 [.ptr (.obj 401) 0, .int .i64 n] (SC c) fun r s' => r = .int .i64 (c.below n) ∧ s' = SC (c.belowC n) := by
  have hs := SC_ok c
  have hsm := SC_same c
  refine FnG.mk mixed tysok f_spec_l01Below ok_spec_l01Below (by simp [-intV, -binV]) hs.obj fun hbnd hbb => ?_; unfold c_spec_l01Below
  unfold SC
  simp [-intV, -binV]
  (repeat' first | (with_reducible refine evCd_split (fun h => ?_) (fun h => ?_) <;> (try simp [-intV, -binV] at h)) | (with_reducible refine evGd_split (fun h => ?_) (fun h => ?_) <;> (try simp [-intV, -binV] at h)) | (with_reducible refine evDd_split (fun h => ?_) (fun h => ?_) <;> (try simp [-intV, -binV] at h)) | with_reducible refine And.intro (by (first | omega | (unfold in64; omega))) ?_ | simp [-intV, -binV])
  · (refine RetQ.at (SC (c)) (.inl rfl) (SC_ok _) (SC_same _ _) (by unfold SC; exact (by first | (refine kpL ?_; simp [-intV, -binV]; done) | (intro k x hx; first | exact hx | (simp [-intV, -binV, hx, without_self]; done) | (simp [-intV, -binV, look_app, without_self, hx]; done) | (cases k <;> simp_all [look_app]; done)))) (by unfold SC; exact (by first | (refine kpL ?_; simp [-intV, -binV]; done) | (intro k x hx; first | exact hx | (simp [-intV, -binV, hx, without_self]; done) | (simp [-intV, -binV, look_app, without_self, hx]; done) | (cases k <;> simp_all [look_app]; done)))) ?_; simp [-intV, -binV, ResIs, r_spec_l01Below, resL, resV, tup, SC])
    simp [-intV, -binV, Cur.below, Cur.belowC, h]
  · (refine CallDo.ob (g_l01Byte c hc) (SC_ok _) (by unfold SC; exact (by first | (refine kpL ?_; simp [-intV, -binV]; done) | (intro k x hx; first | exact hx | (simp [-intV, -binV, hx, without_self]; done) | (simp [-intV, -binV, look_app, without_self, hx]; done) | (cases k <;> simp_all [look_app]; done)))) (by unfold SC; exact (by first | (refine kpL ?_; simp [-intV, -binV]; done) | (intro k x hx; first | exact hx | (simp [-intV, -binV, hx, without_self]; done) | (simp [-intV, -binV, look_app, without_self, hx]; done) | (cases k <;> simp_all [look_app]; done)))) (by simp [-intV, -binV, inObs, SC, Pv.look]) ?_; rintro r s' ⟨rfl, rfl⟩; refine ⟨SC_same _ _, ?_⟩; unfold SC; simp [-intV, -binV, without])
    (repeat' first | (with_reducible refine evCd_split (fun h => ?_) (fun h => ?_) <;> (try simp [-intV, -binV] at h)) | (with_reducible refine evGd_split (fun h => ?_) (fun h => ?_) <;> (try simp [-intV, -binV] at h)) | (with_reducible refine evDd_split (fun h => ?_) (fun h => ?_) <;> (try simp [-intV, -binV] at h)) | with_reducible refine And.intro (by (first | omega | (unfold in64; omega))) ?_ | simp [-intV, -binV])
    (refine RetQ.at (SC (c.next)) (.inl rfl) (SC_ok _) (SC_same _ _) (by unfold SC; exact (by first | (refine kpL ?_; simp [-intV, -binV]; done) | (intro k x hx; first | exact hx | (simp [-intV, -binV, hx, without_self]; done) | (simp [-intV, -binV, look_app, without_self, hx]; done) | (cases k <;> simp_all [look_app]; done)))) (by unfold SC; exact (by first | (refine kpL ?_; simp [-intV, -binV]; done) | (intro k x hx; first | exact hx | (simp [-intV, -binV, hx, without_self]; done) | (simp [-intV, -binV, look_app, without_self, hx]; done) | (cases k <;> simp_all [look_app]; done)))) ?_; simp [-intV, -binV, ResIs, r_spec_l01Below, resL, resV, tup, SC])
    have : ¬n ≤ 0 := by omega
    simp [-intV, -binV, Cur.below, Cur.belowC, this]
theorem g_l01Once (c : Cur) (hc : c.ok) (n : Int) : FnG Tryz.prog 119 [.ptr (.obj 401) 0, .int .i64 n] (SC c) fun r s' => r = .bool (c.below n == 0) ∧ s' = SC (c.belowC n) := by
  have hs := SC_ok c
  refine FnG.mk mixed tysok f_spec_l01Once ok_spec_l01Once (by simp [-intV, -binV]) hs.obj fun hbnd hbb => ?_; unfold c_spec_l01Once
  unfold SC
  simp [-intV, -binV]
  (refine CallDo.ob (g_l01Below c hc n) (SC_ok _) (by unfold SC; exact (by first | (refine kpL ?_; simp [-intV, -binV]; done) | (intro k x hx; first | exact hx | (simp [-intV, -binV, hx, without_self]; done) | (simp [-intV, -binV, look_app, without_self, hx]; done) | (cases k <;> simp_all [look_app]; done)))) (by unfold SC; exact (by first | (refine kpL ?_; simp [-intV, -binV]; done) | (intro k x hx; first | exact hx | (simp [-intV, -binV, hx, without_self]; done) | (simp [-intV, -binV, look_app, without_self, hx]; done) | (cases k <;> simp_all [look_app]; done)))) (by simp [-intV, -binV, inObs, SC, Pv.look]) ?_; rintro r s' ⟨rfl, rfl⟩; refine ⟨SC_same _ _, ?_⟩; unfold SC; simp [-intV, -binV, without])
  (refine RetQ.at (SC (c.belowC n)) (.inl rfl) (SC_ok _) (SC_same _ _) (by unfold SC; exact (by first | (refine kpL ?_; simp [-intV, -binV]; done) | (intro k x hx; first | exact hx | (simp [-intV, -binV, hx, without_self]; done) | (simp [-intV, -binV, look_app, without_self, hx]; done) | (cases k <;> simp_all [look_app]; done)))) (by unfold SC; exact (by first | (refine kpL ?_; simp [-intV, -binV]; done) | (intro k x hx; first | exact hx | (simp [-intV, -binV, hx, without_self]; done) | (simp [-intV, -binV, look_app, without_self, hx]; done) | (cases k <;> simp_all [look_app]; done)))) ?_; simp [-intV, -binV, ResIs, r_spec_l01Once, resL, resV, tup, SC])
theorem v_l02Var (n : Int) : FnV Tryz.prog 105 [.int .i64 n] (T.var n).e := by
  refine FnV.mk mixed tysok f_spec_l02Var ok_spec_l02Var (by simp [-intV, -binV]) (by simp [-intV, -binV, kin]) fun hbnd => ?_; unfold c_spec_l02Var
  simp [-intV, -binV]
  simp [-intV, -binV, RetV, r_spec_l02Var, resL, resV, tup]
theorem v_l02Num (n : Int) : FnV Tryz.prog 144 [.int .i64 n] (T.num n).e := by
  refine FnV.mk mixed tysok f_spec_l02Num ok_spec_l02Num (by simp [-intV, -binV]) (by simp [-intV, -binV, kin]) fun hbnd => ?_; unfold c_spec_l02Num
  simp [-intV, -binV]
  simp [-intV, -binV, RetV, r_spec_l02Num, resL, resV, tup]
theorem v_l02Sym (s : List UInt8) : FnV Tryz.prog 145 [.str s] (T.sym s).e := by
  refine FnV.mk mixed tysok f_spec_l02Sym ok_spec_l02Sym (by simp [-intV, -binV]) (by simp [-intV, -binV, kin]) fun hbnd => ?_; unfold c_spec_l02Sym
  simp [-intV, -binV]
  simp [-intV, -binV, RetV, r_spec_l02Sym, resL, resV, tup]
/-- What l02Atom draws. -/
def atomT (k : Int) : T := if k < 2 then .num k else if k < 5 then .sym (([[97], [98], [99]] : List (List UInt8)).getD (k - 2).toNat []) else .nil
set_option maxRecDepth 4000 in
theorem g_l02Atom (c : Cur) (hc : c.ok) : FnG Tryz.prog 106 [.ptr (.obj 401) 0] (SC c) fun r s' => r = (atomT (c.below 7)).e ∧ s' = SC c.next := by
  have hs := SC_ok c
  have hb := c.below_le 7 (by omega)
  have hnx : c.belowC 7 = c.next := by simp [-intV, -binV, Cur.belowC]
  refine FnG.mk mixed tysok f_spec_l02Atom ok_spec_l02Atom (by simp [-intV, -binV]) hs.obj fun hbnd hbb => ?_; unfold c_spec_l02Atom
  unfold SC
  simp [-intV, -binV]
  (refine CallDo.ob (g_l01Below c hc 7) (SC_ok _) (by unfold SC; exact (by first | (refine kpL ?_; simp [-intV, -binV]; done) | (intro k x hx; first | exact hx | (simp [-intV, -binV, hx, without_self]; done) | (simp [-intV, -binV, look_app, without_self, hx]; done) | (cases k <;> simp_all [look_app]; done)))) (by unfold SC; exact (by first | (refine kpL ?_; simp [-intV, -binV]; done) | (intro k x hx; first | exact hx | (simp [-intV, -binV, hx, without_self]; done) | (simp [-intV, -binV, look_app, without_self, hx]; done) | (cases k <;> simp_all [look_app]; done)))) (by simp [-intV, -binV, inObs, SC, Pv.look]) ?_; rintro r s' ⟨rfl, rfl⟩; refine ⟨SC_same _ _, ?_⟩; unfold SC; simp [-intV, -binV, without])
  rw [hnx]
  generalize hk : c.below 7 = k at hb ⊢
  obtain ⟨k', rfl⟩ : ∃ k' : Nat, k = k' := ⟨k.toNat, by omega⟩
  rcases (by omega : k' = 0 ∨ k' = 1 ∨ k' = 2 ∨ k' = 3 ∨ k' = 4 ∨ k' = 5 ∨ k' = 6) with rfl | rfl | rfl | rfl | rfl | rfl | rfl
  all_goals simp [-intV, -binV]
  all_goals (repeat' first | (with_reducible refine evCd_split (fun h => ?_) (fun h => ?_) <;> (try simp [-intV, -binV] at h)) | (with_reducible refine evGd_split (fun h => ?_) (fun h => ?_) <;> (try simp [-intV, -binV] at h)) | (with_reducible refine evDd_split (fun h => ?_) (fun h => ?_) <;> (try simp [-intV, -binV] at h)) | with_reducible refine And.intro (by (first | omega | (unfold in64; omega))) ?_ | with_reducible refine CallDo.val (by simp [-intV, -binV]) (v_l02Num _) ?_ | with_reducible refine CallD.val (by simp [-intV, -binV]) (v_l02Num _) ?_ | with_reducible refine CallDo.val (by simp [-intV, -binV]) (v_l02Sym _) ?_ | with_reducible refine CallD.val (by simp [-intV, -binV]) (v_l02Sym _) ?_ | simp [-intV, -binV])
  all_goals (refine RetQ.at (SC (c.next)) (.inl rfl) (SC_ok _) (SC_same _ _) (by unfold SC; exact (by first | (refine kpL ?_; simp [-intV, -binV]; done) | (intro k x hx; first | exact hx | (simp [-intV, -binV, hx, without_self]; done) | (simp [-intV, -binV, look_app, without_self, hx]; done) | (cases k <;> simp_all [look_app]; done)))) (by unfold SC; exact (by first | (refine kpL ?_; simp [-intV, -binV]; done) | (intro k x hx; first | exact hx | (simp [-intV, -binV, hx, without_self]; done) | (simp [-intV, -binV, look_app, without_self, hx]; done) | (cases k <;> simp_all [look_app]; done)))) ?_; simp [-intV, -binV, ResIs, r_spec_l02Atom, resL, resV, tup, SC])
  all_goals simp [-intV, -binV, atomT]
/-- What l02Draw draws. -/
def drawT (size : Nat) (vars : Int) (c : Cur) : T × Cur :=
  if 2 < size ∧ 3 ≤ c.below 8 then
    (.pair (drawT (size / 2) vars c.next).1 (drawT (size / 2) vars (drawT (size / 2) vars c.next).2).1, (drawT (size / 2) vars (drawT (size / 2) vars c.next).2).2)
  else if 0 < vars ∧ (c.below 8).tmod 2 = 0 then (.var (c.next.below vars), c.next.belowC vars)
  else (atomT (c.next.below 7), c.next.next)
termination_by size
theorem drawT_ok (size : Nat) (vars : Int) : ∀ c : Cur, c.ok → (drawT size vars c).2.ok := by
  induction size using Nat.strongRecOn with
  | ind size ih =>
    intro c hc
    rw [drawT]
    split
    · rename_i h
      exact ih _ (by omega) _ (ih _ (by omega) _ hc.next)
    · split
      · exact hc.next.below _
      · exact hc.next.next
set_option maxRecDepth 4000 in
set_option maxHeartbeats 1000000 in
theorem g_l02Draw (vars : Int) (hv : vars ≤ 1000000) (size : Nat) (hz : size ≤ 1000000) : ∀ (c : Cur), c.ok → FnG Tryz.prog 51 [.ptr (.obj 401) 0, .int .i64 size, .int .i64 vars] (SC c) fun r s' => r = (drawT size vars c).1.e ∧ s' = SC (drawT size vars c).2 := by
  induction size using Nat.strongRecOn with
  | ind size ih =>
    intro c hc
    have hs := SC_ok c
    have hb := c.below_le 8 (by omega)
    have hnx : c.belowC 8 = c.next := by simp [-intV, -binV, Cur.belowC]
    obtain ⟨z, hz2⟩ : ∃ z, z = size / 2 := ⟨_, rfl⟩
    have hdiv : IntKind.i64.wrap ((size : Int) / 2) = (z : Int) := by
      rw [IntWalk.i64_in _ (by omega)]; omega
    have hdr : ∀ h : 2 < size ∧ 3 ≤ c.below 8, drawT size vars c = (.pair (drawT z vars c.next).1 (drawT z vars (drawT z vars c.next).2).1, (drawT z vars (drawT z vars c.next).2).2) := fun h => by
      rw [drawT, if_pos h, hz2]
    have hdv : ∀ (h : ¬(2 < size ∧ 3 ≤ c.below 8)) (h' : 0 < vars ∧ (c.below 8).tmod 2 = 0), drawT size vars c = (.var (c.next.below vars), c.next.belowC vars) := fun h h' => by
      rw [drawT, if_neg h, if_pos h']
    have hda : ∀ (h : ¬(2 < size ∧ 3 ≤ c.below 8)) (h' : ¬(0 < vars ∧ (c.below 8).tmod 2 = 0)), drawT size vars c = (atomT (c.next.below 7), c.next.next) := fun h h' => by
      rw [drawT, if_neg h, if_neg h']
    have ih' : 2 < size → ∀ c : Cur, c.ok → FnG Tryz.prog 51 [.ptr (.obj 401) 0, .int .i64 z, .int .i64 vars] (SC c) fun r s' => r = (drawT z vars c).1.e ∧ s' = SC (drawT z vars c).2 := fun h => ih z (by omega) (by omega)
    clear ih
    refine FnG.mk mixed tysok f_spec_l02Draw ok_spec_l02Draw (by simp [-intV, -binV]) hs.obj fun hbnd hbb => ?_; unfold c_spec_l02Draw
    unfold SC
    simp [-intV, -binV]
    (refine CallDo.ob (g_l01Below c hc 8) (SC_ok _) (by unfold SC; exact (by first | (refine kpL ?_; simp [-intV, -binV]; done) | (intro k x hx; first | exact hx | (simp [-intV, -binV, hx, without_self]; done) | (simp [-intV, -binV, look_app, without_self, hx]; done) | (cases k <;> simp_all [look_app]; done)))) (by unfold SC; exact (by first | (refine kpL ?_; simp [-intV, -binV]; done) | (intro k x hx; first | exact hx | (simp [-intV, -binV, hx, without_self]; done) | (simp [-intV, -binV, look_app, without_self, hx]; done) | (cases k <;> simp_all [look_app]; done)))) (by simp [-intV, -binV, inObs, SC, Pv.look]) ?_; rintro r s' ⟨rfl, rfl⟩; refine ⟨SC_same _ _, ?_⟩; unfold SC; simp [-intV, -binV, without])
    rw [hnx]
    (repeat' first | (with_reducible refine evCd_split (fun h => ?_) (fun h => ?_) <;> (try simp [-intV, -binV] at h)) | (with_reducible refine evGd_split (fun h => ?_) (fun h => ?_) <;> (try simp [-intV, -binV] at h)) | (with_reducible refine evDd_split (fun h => ?_) (fun h => ?_) <;> (try simp [-intV, -binV] at h)) | with_reducible refine And.intro (by (first | omega | (unfold in64; omega))) ?_ | simp [-intV, -binV, hdiv])
    · rename_i h2
      (refine CallDo.ob (ih' (by omega) c.next hc.next) (SC_ok _) (by unfold SC; exact (by first | (refine kpL ?_; simp [-intV, -binV]; done) | (intro k x hx; first | exact hx | (simp [-intV, -binV, hx, without_self]; done) | (simp [-intV, -binV, look_app, without_self, hx]; done) | (cases k <;> simp_all [look_app]; done)))) (by unfold SC; exact (by first | (refine kpL ?_; simp [-intV, -binV]; done) | (intro k x hx; first | exact hx | (simp [-intV, -binV, hx, without_self]; done) | (simp [-intV, -binV, look_app, without_self, hx]; done) | (cases k <;> simp_all [look_app]; done)))) (by simp [-intV, -binV, inObs, SC, Pv.look]) ?_; rintro r s' ⟨rfl, rfl⟩; refine ⟨SC_same _ _, ?_⟩; unfold SC; simp [-intV, -binV, without])
      (repeat' first | (with_reducible refine evCd_split (fun h => ?_) (fun h => ?_) <;> (try simp [-intV, -binV] at h)) | (with_reducible refine evGd_split (fun h => ?_) (fun h => ?_) <;> (try simp [-intV, -binV] at h)) | (with_reducible refine evDd_split (fun h => ?_) (fun h => ?_) <;> (try simp [-intV, -binV] at h)) | with_reducible refine And.intro (by (first | omega | (unfold in64; omega))) ?_ | simp [-intV, -binV, hdiv])
      (refine CallD.ob (ih' (by omega) (drawT z vars c.next).2 (drawT_ok _ _ _ hc.next)) (SC_ok _) (SC_ok _) (SC_same _ _) (by unfold SC; exact (by first | (refine kpL ?_; simp [-intV, -binV]; done) | (intro k x hx; first | exact hx | (simp [-intV, -binV, hx, without_self]; done) | (simp [-intV, -binV, look_app, without_self, hx]; done) | (cases k <;> simp_all [look_app]; done)))) (by unfold SC; exact (by first | (refine kpL ?_; simp [-intV, -binV]; done) | (intro k x hx; first | exact hx | (simp [-intV, -binV, hx, without_self]; done) | (simp [-intV, -binV, look_app, without_self, hx]; done) | (cases k <;> simp_all [look_app]; done)))) (by simp [-intV, -binV, inObs, SC, Pv.look]) ?_; unfold SC; simp [-intV, -binV, without])
      (repeat' first | (with_reducible refine evCd_split (fun h => ?_) (fun h => ?_) <;> (try simp [-intV, -binV] at h)) | (with_reducible refine evGd_split (fun h => ?_) (fun h => ?_) <;> (try simp [-intV, -binV] at h)) | (with_reducible refine evDd_split (fun h => ?_) (fun h => ?_) <;> (try simp [-intV, -binV] at h)) | with_reducible refine And.intro (by (first | omega | (unfold in64; omega))) ?_ | with_reducible refine CallDo.val (by simp [-intV, -binV]) (v_l02Pair _ _) ?_ | with_reducible refine CallD.val (by simp [-intV, -binV]) (v_l02Pair _ _) ?_ | simp [-intV, -binV])
      rw [hdr (by omega)]
      (refine RetQ.at (SC ((drawT z vars (drawT z vars c.next).2).2)) (.inl rfl) (SC_ok _) (SC_same _ _) (by unfold SC; exact (by first | (refine kpL ?_; simp [-intV, -binV]; done) | (intro k x hx; first | exact hx | (simp [-intV, -binV, hx, without_self]; done) | (simp [-intV, -binV, look_app, without_self, hx]; done) | (cases k <;> simp_all [look_app]; done)))) (by unfold SC; exact (by first | (refine kpL ?_; simp [-intV, -binV]; done) | (intro k x hx; first | exact hx | (simp [-intV, -binV, hx, without_self]; done) | (simp [-intV, -binV, look_app, without_self, hx]; done) | (cases k <;> simp_all [look_app]; done)))) ?_; simp [-intV, -binV, ResIs, r_spec_l02Draw, resL, resV, tup, SC])
    all_goals first
      | (rw [hdv (by omega) ⟨by omega, by assumption⟩]; (refine CallDo.ob (g_l01Below c.next hc.next vars) (SC_ok _) (by unfold SC; exact (by first | (refine kpL ?_; simp [-intV, -binV]; done) | (intro k x hx; first | exact hx | (simp [-intV, -binV, hx, without_self]; done) | (simp [-intV, -binV, look_app, without_self, hx]; done) | (cases k <;> simp_all [look_app]; done)))) (by unfold SC; exact (by first | (refine kpL ?_; simp [-intV, -binV]; done) | (intro k x hx; first | exact hx | (simp [-intV, -binV, hx, without_self]; done) | (simp [-intV, -binV, look_app, without_self, hx]; done) | (cases k <;> simp_all [look_app]; done)))) (by simp [-intV, -binV, inObs, SC, Pv.look]) ?_; rintro r s' ⟨rfl, rfl⟩; refine ⟨SC_same _ _, ?_⟩; unfold SC; simp [-intV, -binV, without]); (repeat' first | (with_reducible refine evCd_split (fun h => ?_) (fun h => ?_) <;> (try simp [-intV, -binV] at h)) | (with_reducible refine evGd_split (fun h => ?_) (fun h => ?_) <;> (try simp [-intV, -binV] at h)) | (with_reducible refine evDd_split (fun h => ?_) (fun h => ?_) <;> (try simp [-intV, -binV] at h)) | with_reducible refine And.intro (by (first | omega | (unfold in64; omega))) ?_ | with_reducible refine CallDo.val (by simp [-intV, -binV]) (v_l02Var _) ?_ | with_reducible refine CallD.val (by simp [-intV, -binV]) (v_l02Var _) ?_ | simp [-intV, -binV]); (refine RetQ.at (SC (c.next.belowC vars)) (.inl rfl) (SC_ok _) (SC_same _ _) (by unfold SC; exact (by first | (refine kpL ?_; simp [-intV, -binV]; done) | (intro k x hx; first | exact hx | (simp [-intV, -binV, hx, without_self]; done) | (simp [-intV, -binV, look_app, without_self, hx]; done) | (cases k <;> simp_all [look_app]; done)))) (by unfold SC; exact (by first | (refine kpL ?_; simp [-intV, -binV]; done) | (intro k x hx; first | exact hx | (simp [-intV, -binV, hx, without_self]; done) | (simp [-intV, -binV, look_app, without_self, hx]; done) | (cases k <;> simp_all [look_app]; done)))) ?_; simp [-intV, -binV, ResIs, r_spec_l02Draw, resL, resV, tup, SC]); done)
      | (rw [hda (by omega) (by rintro ⟨h1, h2⟩; first | omega | contradiction | (simp_all; done))]; (refine CallDo.ob (g_l02Atom c.next hc.next) (SC_ok _) (by unfold SC; exact (by first | (refine kpL ?_; simp [-intV, -binV]; done) | (intro k x hx; first | exact hx | (simp [-intV, -binV, hx, without_self]; done) | (simp [-intV, -binV, look_app, without_self, hx]; done) | (cases k <;> simp_all [look_app]; done)))) (by unfold SC; exact (by first | (refine kpL ?_; simp [-intV, -binV]; done) | (intro k x hx; first | exact hx | (simp [-intV, -binV, hx, without_self]; done) | (simp [-intV, -binV, look_app, without_self, hx]; done) | (cases k <;> simp_all [look_app]; done)))) (by simp [-intV, -binV, inObs, SC, Pv.look]) ?_; rintro r s' ⟨rfl, rfl⟩; refine ⟨SC_same _ _, ?_⟩; unfold SC; simp [-intV, -binV, without]); (repeat' first | (with_reducible refine evCd_split (fun h => ?_) (fun h => ?_) <;> (try simp [-intV, -binV] at h)) | (with_reducible refine evGd_split (fun h => ?_) (fun h => ?_) <;> (try simp [-intV, -binV] at h)) | (with_reducible refine evDd_split (fun h => ?_) (fun h => ?_) <;> (try simp [-intV, -binV] at h)) | with_reducible refine And.intro (by (first | omega | (unfold in64; omega))) ?_ | simp [-intV, -binV]); (refine RetQ.at (SC (c.next.next)) (.inl rfl) (SC_ok _) (SC_same _ _) (by unfold SC; exact (by first | (refine kpL ?_; simp [-intV, -binV]; done) | (intro k x hx; first | exact hx | (simp [-intV, -binV, hx, without_self]; done) | (simp [-intV, -binV, look_app, without_self, hx]; done) | (cases k <;> simp_all [look_app]; done)))) (by unfold SC; exact (by first | (refine kpL ?_; simp [-intV, -binV]; done) | (intro k x hx; first | exact hx | (simp [-intV, -binV, hx, without_self]; done) | (simp [-intV, -binV, look_app, without_self, hx]; done) | (cases k <;> simp_all [look_app]; done)))) ?_; simp [-intV, -binV, ResIs, r_spec_l02Draw, resL, resV, tup, SC]); done)
/-- What l01New begins with. -/
def seedH : List Int → Int → Int
  | [], h => h
  | x :: r, h => seedH r (andK .i64 (h * 131 + x + 7) 1073741823)
def newC (d : List Int) : Cur := ⟨d, 0, seedH (d.take 4000) (90411 + d.length)⟩
def invNew (d : List Int) (k : Nat) (st : St) : Prop :=
  ∃ (i : Nat) (h : Int), i ≤ d.length ∧ i ≤ 4000 ∧ k = d.length - i ∧ 0 ≤ h ∧ h ≤ 2000000000 ∧ seedH ((d.take 4000).drop i) h = seedH (d.take 4000) (90411 + d.length) ∧ st = ⟨[(0, .slice 1 .no (bytesE d)), (3, .int .i64 h), (4, .int .i64 i)], [], [], 0, []⟩
set_option maxRecDepth 4000 in
set_option maxHeartbeats 1000000 in
theorem g_l01New (d : List Int) (hd : byteOk d) (hl : d.length ≤ 10000000) : FnG Tryz.prog 102 [.slice 1 .no (bytesE d)] ⟨[], []⟩ fun r s' => r = .ptr (.obj 401) 0 ∧ s' = SC (newC d) := by
  have hs : ObOk ⟨[], []⟩ := (ObOk.of ⟨by intro m; simp [-intV, -binV, Pv.look], by intro m; simp [-intV, -binV, Pv.look]⟩ (by simp [-intV, -binV, kinL, kin, inObs, Pv.look]) (by simp [-intV, -binV, kinL, kin, inObs, Pv.look]))
  refine FnG.mk mixed tysok f_spec_l01New ok_spec_l01New (by simp [-intV, -binV]) hs.obj fun hbnd hbb => ?_; unfold c_spec_l01New
  simp [-intV, -binV]
  (repeat' first | (with_reducible refine evCd_split (fun h => ?_) (fun h => ?_) <;> (try simp [-intV, -binV] at h)) | (with_reducible refine evGd_split (fun h => ?_) (fun h => ?_) <;> (try simp [-intV, -binV] at h)) | (with_reducible refine evDd_split (fun h => ?_) (fun h => ?_) <;> (try simp [-intV, -binV] at h)) | with_reducible refine And.intro (by (first | omega | (unfold in64; omega))) ?_ | simp [-intV, -binV])
  refine evC_loop (invNew d) d.length _ ⟨by simp [-intV, -binV], by simp [-intV, -binV, subB], by simp [-intV, -binV, subE], by simp [-intV, -binV]⟩ ⟨0, 90411 + d.length, by omega, by omega, by omega, by omega, by omega, by simp [-intV, -binV], rfl⟩ ?_
  rintro k st ⟨i, g, hi, hi4, hk, h0, h1, hsd, rfl⟩ hbt hbb
  clear hbt hbb
  have hend : ¬(i < d.length ∧ i < 4000) → g = seedH (d.take 4000) (90411 + d.length) := by
    intro hn
    rw [List.drop_of_length_le (by simp [-intV, -binV]; omega)] at hsd
    exact hsd
  have hnew : ¬(i < d.length ∧ i < 4000) → newC d = ⟨d, 0, g⟩ := fun hn => by simp [-intV, -binV, newC, hend hn]
  simp [-intV, -binV]
  (repeat' first | (with_reducible refine evCd_split (fun h => ?_) (fun h => ?_) <;> (try simp [-intV, -binV] at h)) | (with_reducible refine evGd_split (fun h => ?_) (fun h => ?_) <;> (try simp [-intV, -binV] at h)) | (with_reducible refine evDd_split (fun h => ?_) (fun h => ?_) <;> (try simp [-intV, -binV] at h)) | with_reducible refine And.intro (by (first | omega | (unfold in64; omega))) ?_ | simp [-intV, -binV])
  · have hlt : i < d.length := by omega
    obtain ⟨x, hx⟩ : ∃ x, d[i]? = some x := ⟨_, List.getElem?_eq_getElem hlt⟩
    have hbx : ∀ h, (bytesE d)[i]'h = .int .u8 x := fun h => by have := bytesE_get hx; rw [List.getElem?_eq_getElem h] at this; simpa using this
    have hx2 := hd x (List.mem_of_getElem? hx)
    have hw : IntKind.i64.wrap x = x := IntWalk.i64_in _ (by omega)
    have hal := and_le (g * 131 + x + 7) 1073741823 (by omega) (by omega)
    simp [-intV, -binV, bytesE_get hx, hw]
    (repeat' first | (with_reducible refine evCd_split (fun h => ?_) (fun h => ?_) <;> (try simp [-intV, -binV] at h)) | (with_reducible refine evGd_split (fun h => ?_) (fun h => ?_) <;> (try simp [-intV, -binV] at h)) | (with_reducible refine evDd_split (fun h => ?_) (fun h => ?_) <;> (try simp [-intV, -binV] at h)) | with_reducible refine And.intro (by (first | omega | (unfold in64; omega))) ?_ | simp [-intV, -binV])
    refine LoopQ.next (d.length - (i + 1)) (by omega) ⟨i + 1, _, by omega, by omega, rfl, hal.1, by omega, ?_, rfl⟩ ⟨by simp [-intV, -binV], by simp [-intV, -binV, subB], by simp [-intV, -binV, subE], by simp [-intV, -binV]⟩
    rw [← hsd, List.drop_eq_getElem_cons (l := d.take 4000) (i := i) (by simp [-intV, -binV]; omega)]
    have : (d.take 4000)[i]'(by simp [-intV, -binV]; omega) = x := by
      have := hx
      rw [List.getElem?_eq_getElem hlt] at this
      simpa using this
    rw [this, seedH]
  all_goals rw [hnew (by omega)]
  all_goals refine RetQ.new (SC ⟨d, 0, g⟩) (.inl rfl) (SC_ok _) (by simp [-intV, -binV, keeps]) (by unfold SC; exact (by first | (refine kpL ?_; simp [-intV, -binV]; done) | (intro k x hx; first | exact hx | (simp [-intV, -binV, hx, without_self]; done) | (simp [-intV, -binV, look_app, without_self, hx]; done) | (cases k <;> simp_all [look_app]; done)))) (by unfold SC; exact (by first | (refine kpL ?_; simp [-intV, -binV]; done) | (intro k x hx; first | exact hx | (simp [-intV, -binV, hx, without_self]; done) | (simp [-intV, -binV, look_app, without_self, hx]; done) | (cases k <;> simp_all [look_app]; done)))) ?_
  all_goals simp [-intV, -binV, ResIs, r_spec_l01New, resL, resV, tup, SC, inObs, Pv.look]
end Go.Proofs.YtchidkafcdmciaaGreat
/- Contracts: the makers of terms. -/
set_option linter.all false
namespace Go.Proofs.YtchidkafcdmciaaGreat
open Go Go.Pv

def skipC : Nat → Cur → Cur
  | 0, c => c
  | n + 1, c => (skipC n c).next
theorem skipC_ok {c : Cur} (h : c.ok) : ∀ n, (skipC n c).ok
  | 0 => h
  | n + 1 => (skipC_ok h n).next
theorem newC_ok {d : List Int} (hd : byteOk d) (hl : d.length ≤ 10000000) : (newC d).ok := ⟨hd, hl, by simp [-intV, -binV, newC]⟩
def curAt (d : List Int) (n : Nat) : Cur := skipC n (newC d)
theorem curAt_ok {d : List Int} (hd : byteOk d) (hl : d.length ≤ 10000000) (n : Nat) : (curAt d n).ok := skipC_ok (newC_ok hd hl) n
theorem kinL_cur (S : Key → Prop) (c : Cur) : kinL S c.e := by simp [-intV, -binV, Cur.e, kinL, kin]
def inv43 (c : Cur) (n : Nat) (k : Nat) (st : St) : Prop :=
  ∃ i : Nat, i ≤ n ∧ k = n - i ∧ st = ⟨[(1, .int .i64 n), (5, .ptr (.obj 401) 0), (6, .int .i64 i)], [(.obj 401, (skipC i c).e)], [], 0, [.obj 401]⟩
set_option maxRecDepth 4000 in
set_option maxHeartbeats 1000000 in
theorem g_l43New (d : List Int) (hd : byteOk d) (hl : d.length ≤ 10000000) (n : Nat) (hn : n ≤ 1000000) : FnG Tryz.prog 50 [.slice 1 .no (bytesE d), .int .i64 n] ⟨[], []⟩ fun r s' => r = .ptr (.obj 401) 0 ∧ s' = SC (curAt d n) := by
  unfold curAt
  have hs : ObOk ⟨[], []⟩ := (ObOk.of ⟨by intro m; simp [-intV, -binV, Pv.look], by intro m; simp [-intV, -binV, Pv.look]⟩ (by simp [-intV, -binV, kinL, kin, inObs, Pv.look]) (by simp [-intV, -binV, kinL, kin, inObs, Pv.look]))
  refine FnG.mk mixed tysok f_spec_l43New ok_spec_l43New (by simp [-intV, -binV]) hs.obj fun hbnd hbb => ?_; unfold c_spec_l43New
  simp [-intV, -binV]
  refine CallDo.new (g_l01New d hd hl) hs (by first | (refine kpL ?_; simp [-intV, -binV]; done) | (intro k x hx; first | exact hx | (simp [-intV, -binV, hx, without_self]; done) | (simp [-intV, -binV, look_app, without_self, hx]; done) | (cases k <;> simp_all [look_app]; done))) (by first | (refine kpL ?_; simp [-intV, -binV]; done) | (intro k x hx; first | exact hx | (simp [-intV, -binV, hx, without_self]; done) | (simp [-intV, -binV, look_app, without_self, hx]; done) | (cases k <;> simp_all [look_app]; done))) (by simp [-intV, -binV]) ?_
  rintro r s' ⟨rfl, rfl⟩
  refine ⟨fun m _ => .inr (by simp [-intV, -binV]), ?_⟩
  unfold SC
  simp [-intV, -binV, without]
  refine evC_loop (inv43 (newC d) n) n _ ⟨by simp [-intV, -binV, fresh, kinL, kin, iterE, inObs, Pv.look, kinL_cur, skipC], subB_of (by simp [-intV, -binV, fresh, kinL, kin, iterE, inObs, Pv.look, kinL_cur, skipC]), subE_of (by simp [-intV, -binV, fresh, kinL, kin, kinO, inObs, Pv.look, kinL_cur, skipC]), by simp [-intV, -binV]⟩ ⟨0, by omega, rfl, rfl⟩ ?_
  rintro k st ⟨i, hi, hk, rfl⟩ hbt hbb
  clear hbt hbb
  simp [-intV, -binV]
  (repeat' first | (with_reducible refine evCd_split (fun h => ?_) (fun h => ?_) <;> (try simp [-intV, -binV] at h)) | (with_reducible refine evGd_split (fun h => ?_) (fun h => ?_) <;> (try simp [-intV, -binV] at h)) | (with_reducible refine evDd_split (fun h => ?_) (fun h => ?_) <;> (try simp [-intV, -binV] at h)) | with_reducible refine And.intro (by (first | omega | (unfold in64; omega))) ?_ | simp [-intV, -binV])
  · (refine CallDo.ob (g_l01Byte _ (skipC_ok (newC_ok hd hl) i)) (SC_ok _) (by unfold SC; exact (by first | (refine kpL ?_; simp [-intV, -binV]; done) | (intro k x hx; first | exact hx | (simp [-intV, -binV, hx, without_self]; done) | (simp [-intV, -binV, look_app, without_self, hx]; done) | (cases k <;> simp_all [look_app]; done)))) (by unfold SC; exact (by first | (refine kpL ?_; simp [-intV, -binV]; done) | (intro k x hx; first | exact hx | (simp [-intV, -binV, hx, without_self]; done) | (simp [-intV, -binV, look_app, without_self, hx]; done) | (cases k <;> simp_all [look_app]; done)))) (by simp [-intV, -binV, inObs, SC, Pv.look]) ?_; rintro r s' ⟨rfl, rfl⟩; refine ⟨SC_same _ _, ?_⟩; unfold SC; simp [-intV, -binV, without])
    (repeat' first | (with_reducible refine evCd_split (fun h => ?_) (fun h => ?_) <;> (try simp [-intV, -binV] at h)) | (with_reducible refine evGd_split (fun h => ?_) (fun h => ?_) <;> (try simp [-intV, -binV] at h)) | (with_reducible refine evDd_split (fun h => ?_) (fun h => ?_) <;> (try simp [-intV, -binV] at h)) | with_reducible refine And.intro (by (first | omega | (unfold in64; omega))) ?_ | simp [-intV, -binV])
    refine LoopQ.next (n - (i + 1)) (by omega) ⟨i + 1, by omega, rfl, rfl⟩ ⟨by simp [-intV, -binV, fresh, kinL, kin, iterE, inObs, Pv.look, kinL_cur, skipC], subB_of (by simp [-intV, -binV, fresh, kinL, kin, iterE, inObs, Pv.look, kinL_cur, skipC]), subE_of (by simp [-intV, -binV, fresh, kinL, kin, kinO, inObs, Pv.look, kinL_cur, skipC]), by simp [-intV, -binV]⟩
  · obtain rfl : i = n := by omega
    refine RetQ.new (SC (skipC i (newC d))) (.inl rfl) (SC_ok _) (by simp [-intV, -binV, keeps]) (by unfold SC; exact (by first | (refine kpL ?_; simp [-intV, -binV]; done) | (intro k x hx; first | exact hx | (simp [-intV, -binV, hx, without_self]; done) | (simp [-intV, -binV, look_app, without_self, hx]; done) | (cases k <;> simp_all [look_app]; done)))) (by unfold SC; exact (by first | (refine kpL ?_; simp [-intV, -binV]; done) | (intro k x hx; first | exact hx | (simp [-intV, -binV, hx, without_self]; done) | (simp [-intV, -binV, look_app, without_self, hx]; done) | (cases k <;> simp_all [look_app]; done)))) ?_
    simp [-intV, -binV, ResIs, r_spec_l43New, resL, resV, tup, SC, inObs, Pv.look]
theorem v_MakeTerm (d : List Int) (hd : byteOk d) (hl : d.length ≤ 10000000) (n : Nat) (hn : n ≤ 1000000) (size : Nat) (hz : size ≤ 1000000) (vars : Int) (hv : vars ≤ 1000000) : FnV Tryz.prog 8 [.slice 1 .no (bytesE d), .int .i64 n, .int .i64 size, .int .i64 vars] (drawT size vars (curAt d n)).1.e := by
  refine FnV.mk mixed tysok f_spec_MakeTerm ok_spec_MakeTerm (by simp [-intV, -binV]) (by simp [-intV, -binV, kin]) fun hbnd => ?_; unfold c_spec_MakeTerm
  simp [-intV, -binV]
  refine CallDo.new (g_l43New d hd hl n hn) ((ObOk.of ⟨by intro m; simp [-intV, -binV, Pv.look], by intro m; simp [-intV, -binV, Pv.look]⟩ (by simp [-intV, -binV, kinL, kin, inObs, Pv.look]) (by simp [-intV, -binV, kinL, kin, inObs, Pv.look]))) (by first | (refine kpL ?_; simp [-intV, -binV]; done) | (intro k x hx; first | exact hx | (simp [-intV, -binV, hx, without_self]; done) | (simp [-intV, -binV, look_app, without_self, hx]; done) | (cases k <;> simp_all [look_app]; done))) (by first | (refine kpL ?_; simp [-intV, -binV]; done) | (intro k x hx; first | exact hx | (simp [-intV, -binV, hx, without_self]; done) | (simp [-intV, -binV, look_app, without_self, hx]; done) | (cases k <;> simp_all [look_app]; done))) (by simp [-intV, -binV]) ?_
  rintro r s' ⟨rfl, rfl⟩
  refine ⟨fun m _ => .inr (by simp [-intV, -binV]), ?_⟩
  unfold SC
  simp [-intV, -binV, without]
  (refine CallDo.ob (g_l02Draw vars hv size hz _ (curAt_ok hd hl n)) (SC_ok _) (by unfold SC; exact (by first | (refine kpL ?_; simp [-intV, -binV]; done) | (intro k x hx; first | exact hx | (simp [-intV, -binV, hx, without_self]; done) | (simp [-intV, -binV, look_app, without_self, hx]; done) | (cases k <;> simp_all [look_app]; done)))) (by unfold SC; exact (by first | (refine kpL ?_; simp [-intV, -binV]; done) | (intro k x hx; first | exact hx | (simp [-intV, -binV, hx, without_self]; done) | (simp [-intV, -binV, look_app, without_self, hx]; done) | (cases k <;> simp_all [look_app]; done)))) (by simp [-intV, -binV, inObs, SC, Pv.look]) ?_; rintro r s' ⟨rfl, rfl⟩; refine ⟨SC_same _ _, ?_⟩; unfold SC; simp [-intV, -binV, without])
  simp [-intV, -binV, RetV, r_spec_MakeTerm, resL, resV, tup]
/-- What l12Ground draws. -/
def groundB : Nat → Nat → Cur → List Bd
  | 0, _, _ => []
  | n + 1, i, c => ⟨i, (drawT 3 0 c).1⟩ :: groundB n (i + 1) (drawT 3 0 c).2
def groundC : Nat → Cur → Cur
  | 0, c => c
  | n + 1, c => groundC n (drawT 3 0 c).2
theorem groundC_ok : ∀ (n : Nat) {c : Cur}, c.ok → (groundC n c).ok
  | 0, _, h => h
  | n + 1, _, h => groundC_ok n (drawT_ok _ _ _ h)
theorem groundB_len : ∀ (n i : Nat) (c : Cur), (groundB n i c).length = n
  | 0, _, _ => rfl
  | n + 1, i, c => by simp [-intV, -binV, groundB, groundB_len n]
theorem groundB_snoc : ∀ (n i : Nat) (c : Cur), groundB (n + 1) i c = groundB n i c ++ [⟨(i + n : Nat), (drawT 3 0 (groundC n c)).1⟩]
  | 0, i, c => by simp [-intV, -binV, groundB, groundC]
  | n + 1, i, c => by
    rw [groundB, groundB_snoc n (i + 1)]
    simp [-intV, -binV, groundB, groundC]
    omega
theorem groundC_snoc : ∀ (n : Nat) (c : Cur), groundC (n + 1) c = (drawT 3 0 (groundC n c)).2
  | 0, c => rfl
  | n + 1, c => by rw [groundC, groundC_snoc n]; rfl
def invGr (c : Cur) (n : Nat) (k : Nat) (st : St) : Prop :=
  ∃ i : Nat, i ≤ n ∧ k = n - i ∧ st = ⟨[(0, .ptr (.obj 401) 0), (1, .int .i64 n), (5, .slice 5 (.own (.loc 0)) ((groundB i 0 c).map Bd.e)), (6, .int .i64 i)], [(.obj 401, (groundC i c).e)], [(.loc 0, ⟨i, 30, 5, none⟩)], 1, [.obj 401]⟩
set_option maxRecDepth 4000 in
set_option maxHeartbeats 1000000 in
theorem g_l12Ground (n : Nat) (hn : n ≤ 1000000) (c : Cur) (hc : c.ok) : FnG Tryz.prog 65 [.ptr (.obj 401) 0, .int .i64 n] (SC c) fun r s' => r = .slice 5 .no ((groundB n 0 c).map Bd.e) ∧ s' = SC (groundC n c) := by
  have hs := SC_ok c
  refine FnG.mk mixed tysok f_spec_l12Ground ok_spec_l12Ground (by simp [-intV, -binV]) hs.obj fun hbnd hbb => ?_; unfold c_spec_l12Ground
  unfold SC
  simp [-intV, -binV]
  refine evC_loop (invGr c n) n _ ⟨by simp [-intV, -binV, fresh, kinL, kin, iterE, inObs, Pv.look, kinL_cur, groundB, groundC], subB_of (by simp [-intV, -binV, fresh, kinL, kin, iterE, inObs, Pv.look, kinL_cur, groundB, groundC]), subE_of (by simp [-intV, -binV, fresh, kinL, kin, kinO, inObs, Pv.look, kinL_cur, groundB, groundC]), by simp [-intV, -binV]⟩ ⟨0, by omega, rfl, rfl⟩ ?_
  rintro k st ⟨i, hi, hk, rfl⟩ hbt hbb
  clear hbt hbb
  simp [-intV, -binV]
  (repeat' first | (with_reducible refine evCd_split (fun h => ?_) (fun h => ?_) <;> (try simp [-intV, -binV] at h)) | (with_reducible refine evGd_split (fun h => ?_) (fun h => ?_) <;> (try simp [-intV, -binV] at h)) | (with_reducible refine evDd_split (fun h => ?_) (fun h => ?_) <;> (try simp [-intV, -binV] at h)) | with_reducible refine And.intro (by (first | omega | (unfold in64; omega))) ?_ | simp [-intV, -binV])
  · (refine CallDo.ob (g_l02Draw 0 (by omega) 3 (by omega) _ (groundC_ok i hc)) (SC_ok _) (by unfold SC; exact (by first | (refine kpL ?_; simp [-intV, -binV]; done) | (intro k x hx; first | exact hx | (simp [-intV, -binV, hx, without_self]; done) | (simp [-intV, -binV, look_app, without_self, hx]; done) | (cases k <;> simp_all [look_app]; done)))) (by unfold SC; exact (by first | (refine kpL ?_; simp [-intV, -binV]; done) | (intro k x hx; first | exact hx | (simp [-intV, -binV, hx, without_self]; done) | (simp [-intV, -binV, look_app, without_self, hx]; done) | (cases k <;> simp_all [look_app]; done)))) (by simp [-intV, -binV, inObs, SC, Pv.look]) ?_; rintro r s' ⟨rfl, rfl⟩; refine ⟨SC_same _ _, ?_⟩; unfold SC; simp [-intV, -binV, without])
    simp [-intV, -binV, groundB_len]
    refine ⟨by unfold lim; omega, ?_⟩
    (repeat' first | (with_reducible refine evCd_split (fun h => ?_) (fun h => ?_) <;> (try simp [-intV, -binV] at h)) | (with_reducible refine evGd_split (fun h => ?_) (fun h => ?_) <;> (try simp [-intV, -binV] at h)) | (with_reducible refine evDd_split (fun h => ?_) (fun h => ?_) <;> (try simp [-intV, -binV] at h)) | with_reducible refine And.intro (by (first | omega | (unfold in64; omega))) ?_ | simp [-intV, -binV])
    refine LoopQ.next (n - (i + 1)) (by omega) ⟨i + 1, by omega, rfl, rfl⟩ ⟨by simp [-intV, -binV, fresh, kinL, kin, iterE, inObs, Pv.look, kinL_cur, groundB_snoc, groundC_snoc, kinL_appT], subB_of (by simp [-intV, -binV, fresh, kinL, kin, iterE, inObs, Pv.look, kinL_cur, groundB_snoc, groundC_snoc, kinL_appT]), subE_of (by simp [-intV, -binV, fresh, kinL, kin, kinO, inObs, Pv.look, kinL_cur, groundB_snoc, groundC_snoc, kinL_appT]), by simp [-intV, -binV]⟩
  · obtain rfl : i = n := by omega
    (refine RetQ.at (SC (groundC i c)) (.inl rfl) (SC_ok _) (SC_same _ _) (by unfold SC; exact (by first | (refine kpL ?_; simp [-intV, -binV]; done) | (intro k x hx; first | exact hx | (simp [-intV, -binV, hx, without_self]; done) | (simp [-intV, -binV, look_app, without_self, hx]; done) | (cases k <;> simp_all [look_app]; done)))) (by unfold SC; exact (by first | (refine kpL ?_; simp [-intV, -binV]; done) | (intro k x hx; first | exact hx | (simp [-intV, -binV, hx, without_self]; done) | (simp [-intV, -binV, look_app, without_self, hx]; done) | (cases k <;> simp_all [look_app]; done)))) ?_; simp [-intV, -binV, ResIs, r_spec_l12Ground, resL, resV, tup, SC])
theorem v_MakeGround (d : List Int) (hd : byteOk d) (hl : d.length ≤ 10000000) (n : Nat) (hn : n ≤ 1000000) (k : Nat) (hk : k ≤ 1000000) : FnV Tryz.prog 19 [.slice 1 .no (bytesE d), .int .i64 n, .int .i64 k] (.slice 5 .no ((groundB k 0 (curAt d n)).map Bd.e)) := by
  refine FnV.mk mixed tysok f_spec_MakeGround ok_spec_MakeGround (by simp [-intV, -binV]) (by simp [-intV, -binV, kin]) fun hbnd => ?_; unfold c_spec_MakeGround
  simp [-intV, -binV]
  refine CallDo.new (g_l43New d hd hl n hn) ((ObOk.of ⟨by intro m; simp [-intV, -binV, Pv.look], by intro m; simp [-intV, -binV, Pv.look]⟩ (by simp [-intV, -binV, kinL, kin, inObs, Pv.look]) (by simp [-intV, -binV, kinL, kin, inObs, Pv.look]))) (by first | (refine kpL ?_; simp [-intV, -binV]; done) | (intro k x hx; first | exact hx | (simp [-intV, -binV, hx, without_self]; done) | (simp [-intV, -binV, look_app, without_self, hx]; done) | (cases k <;> simp_all [look_app]; done))) (by first | (refine kpL ?_; simp [-intV, -binV]; done) | (intro k x hx; first | exact hx | (simp [-intV, -binV, hx, without_self]; done) | (simp [-intV, -binV, look_app, without_self, hx]; done) | (cases k <;> simp_all [look_app]; done))) (by simp [-intV, -binV]) ?_
  rintro r s' ⟨rfl, rfl⟩
  refine ⟨fun m _ => .inr (by simp [-intV, -binV]), ?_⟩
  unfold SC
  simp [-intV, -binV, without]
  (refine CallDo.ob (g_l12Ground k hk _ (curAt_ok hd hl n)) (SC_ok _) (by unfold SC; exact (by first | (refine kpL ?_; simp [-intV, -binV]; done) | (intro k x hx; first | exact hx | (simp [-intV, -binV, hx, without_self]; done) | (simp [-intV, -binV, look_app, without_self, hx]; done) | (cases k <;> simp_all [look_app]; done)))) (by unfold SC; exact (by first | (refine kpL ?_; simp [-intV, -binV]; done) | (intro k x hx; first | exact hx | (simp [-intV, -binV, hx, without_self]; done) | (simp [-intV, -binV, look_app, without_self, hx]; done) | (cases k <;> simp_all [look_app]; done)))) (by simp [-intV, -binV, inObs, SC, Pv.look]) ?_; rintro r s' ⟨rfl, rfl⟩; refine ⟨SC_same _ _, ?_⟩; unfold SC; simp [-intV, -binV, without])
  simp [-intV, -binV, RetV, r_spec_MakeGround, resL, resV, tup]
/-- What l05Alike draws. -/
def alikeT (vars : Int) : T → Cur → T × Cur
  | .pair a b, c => if c.below 6 = 0 then drawT 4 vars c.next else (.pair (alikeT vars a c.next).1 (alikeT vars b (alikeT vars a c.next).2).1, (alikeT vars b (alikeT vars a c.next).2).2)
  | t, c => if c.below 6 = 0 then drawT 4 vars c.next else (t, c.next)
theorem alikeT_ok (vars : Int) (t : T) : ∀ c : Cur, c.ok → (alikeT vars t c).2.ok := by
  induction t with
  | pair a b iha ihb =>
    intro c hc
    simp only [alikeT]
    split
    · exact drawT_ok _ _ _ hc.next
    · exact ihb _ (iha _ hc.next)
  | _ =>
    intro c hc
    simp only [alikeT]
    split
    · exact drawT_ok _ _ _ hc.next
    · exact hc.next
set_option maxRecDepth 4000 in
set_option maxHeartbeats 1000000 in
theorem g_l05Alike (vars : Int) (hv : vars ≤ 1000000) (t : T) : ∀ (c : Cur), c.ok → FnG Tryz.prog 69 [.ptr (.obj 401) 0, t.e, .int .i64 vars] (SC c) fun r s' => r = (alikeT vars t c).1.e ∧ s' = SC (alikeT vars t c).2 := by
  induction t with
  | pair a b iha ihb =>
    intro c hc
    have hs := SC_ok c
    have hnx : c.belowC 6 = c.next := by simp [-intV, -binV, Cur.belowC]
    refine FnG.mk mixed tysok f_spec_l05Alike ok_spec_l05Alike (by simp [-intV, -binV]) hs.obj fun hbnd hbb => ?_; unfold c_spec_l05Alike
    unfold SC
    simp [-intV, -binV]
    (refine CallDo.ob (g_l01Once c hc 6) (SC_ok _) (by unfold SC; exact (by first | (refine kpL ?_; simp [-intV, -binV]; done) | (intro k x hx; first | exact hx | (simp [-intV, -binV, hx, without_self]; done) | (simp [-intV, -binV, look_app, without_self, hx]; done) | (cases k <;> simp_all [look_app]; done)))) (by unfold SC; exact (by first | (refine kpL ?_; simp [-intV, -binV]; done) | (intro k x hx; first | exact hx | (simp [-intV, -binV, hx, without_self]; done) | (simp [-intV, -binV, look_app, without_self, hx]; done) | (cases k <;> simp_all [look_app]; done)))) (by simp [-intV, -binV, inObs, SC, Pv.look]) ?_; rintro r s' ⟨rfl, rfl⟩; refine ⟨SC_same _ _, ?_⟩; unfold SC; simp [-intV, -binV, without])
    rw [hnx]
    (repeat' first | (with_reducible refine evCd_split (fun h => ?_) (fun h => ?_) <;> (try simp [-intV, -binV] at h)) | (with_reducible refine evGd_split (fun h => ?_) (fun h => ?_) <;> (try simp [-intV, -binV] at h)) | (with_reducible refine evDd_split (fun h => ?_) (fun h => ?_) <;> (try simp [-intV, -binV] at h)) | with_reducible refine And.intro (by (first | omega | (unfold in64; omega))) ?_ | simp [-intV, -binV])
    · (refine CallDo.ob (g_l02Draw vars hv 4 (by omega) c.next hc.next) (SC_ok _) (by unfold SC; exact (by first | (refine kpL ?_; simp [-intV, -binV]; done) | (intro k x hx; first | exact hx | (simp [-intV, -binV, hx, without_self]; done) | (simp [-intV, -binV, look_app, without_self, hx]; done) | (cases k <;> simp_all [look_app]; done)))) (by unfold SC; exact (by first | (refine kpL ?_; simp [-intV, -binV]; done) | (intro k x hx; first | exact hx | (simp [-intV, -binV, hx, without_self]; done) | (simp [-intV, -binV, look_app, without_self, hx]; done) | (cases k <;> simp_all [look_app]; done)))) (by simp [-intV, -binV, inObs, SC, Pv.look]) ?_; rintro r s' ⟨rfl, rfl⟩; refine ⟨SC_same _ _, ?_⟩; unfold SC; simp [-intV, -binV, without])
      have ha : alikeT vars (.pair a b) c = drawT 4 vars c.next := by simp [-intV, -binV, alikeT, h]
      rw [ha]
      (refine RetQ.at (SC ((drawT 4 vars c.next).2)) (.inl rfl) (SC_ok _) (SC_same _ _) (by unfold SC; exact (by first | (refine kpL ?_; simp [-intV, -binV]; done) | (intro k x hx; first | exact hx | (simp [-intV, -binV, hx, without_self]; done) | (simp [-intV, -binV, look_app, without_self, hx]; done) | (cases k <;> simp_all [look_app]; done)))) (by unfold SC; exact (by first | (refine kpL ?_; simp [-intV, -binV]; done) | (intro k x hx; first | exact hx | (simp [-intV, -binV, hx, without_self]; done) | (simp [-intV, -binV, look_app, without_self, hx]; done) | (cases k <;> simp_all [look_app]; done)))) ?_; simp [-intV, -binV, ResIs, r_spec_l05Alike, resL, resV, tup, SC])
    · have ha : alikeT vars (.pair a b) c = (.pair (alikeT vars a c.next).1 (alikeT vars b (alikeT vars a c.next).2).1, (alikeT vars b (alikeT vars a c.next).2).2) := by simp [-intV, -binV, alikeT, h]
      (refine CallDo.ob (iha c.next hc.next) (SC_ok _) (by unfold SC; exact (by first | (refine kpL ?_; simp [-intV, -binV]; done) | (intro k x hx; first | exact hx | (simp [-intV, -binV, hx, without_self]; done) | (simp [-intV, -binV, look_app, without_self, hx]; done) | (cases k <;> simp_all [look_app]; done)))) (by unfold SC; exact (by first | (refine kpL ?_; simp [-intV, -binV]; done) | (intro k x hx; first | exact hx | (simp [-intV, -binV, hx, without_self]; done) | (simp [-intV, -binV, look_app, without_self, hx]; done) | (cases k <;> simp_all [look_app]; done)))) (by simp [-intV, -binV, inObs, SC, Pv.look]) ?_; rintro r s' ⟨rfl, rfl⟩; refine ⟨SC_same _ _, ?_⟩; unfold SC; simp [-intV, -binV, without])
      (repeat' first | (with_reducible refine evCd_split (fun h => ?_) (fun h => ?_) <;> (try simp [-intV, -binV] at h)) | (with_reducible refine evGd_split (fun h => ?_) (fun h => ?_) <;> (try simp [-intV, -binV] at h)) | (with_reducible refine evDd_split (fun h => ?_) (fun h => ?_) <;> (try simp [-intV, -binV] at h)) | with_reducible refine And.intro (by (first | omega | (unfold in64; omega))) ?_ | simp [-intV, -binV])
      (refine CallD.ob (ihb (alikeT vars a c.next).2 (alikeT_ok _ _ _ hc.next)) (SC_ok _) (SC_ok _) (SC_same _ _) (by unfold SC; exact (by first | (refine kpL ?_; simp [-intV, -binV]; done) | (intro k x hx; first | exact hx | (simp [-intV, -binV, hx, without_self]; done) | (simp [-intV, -binV, look_app, without_self, hx]; done) | (cases k <;> simp_all [look_app]; done)))) (by unfold SC; exact (by first | (refine kpL ?_; simp [-intV, -binV]; done) | (intro k x hx; first | exact hx | (simp [-intV, -binV, hx, without_self]; done) | (simp [-intV, -binV, look_app, without_self, hx]; done) | (cases k <;> simp_all [look_app]; done)))) (by simp [-intV, -binV, inObs, SC, Pv.look]) ?_; unfold SC; simp [-intV, -binV, without])
      (repeat' first | (with_reducible refine evCd_split (fun h => ?_) (fun h => ?_) <;> (try simp [-intV, -binV] at h)) | (with_reducible refine evGd_split (fun h => ?_) (fun h => ?_) <;> (try simp [-intV, -binV] at h)) | (with_reducible refine evDd_split (fun h => ?_) (fun h => ?_) <;> (try simp [-intV, -binV] at h)) | with_reducible refine And.intro (by (first | omega | (unfold in64; omega))) ?_ | with_reducible refine CallDo.val (by simp [-intV, -binV]) (v_l02Pair _ _) ?_ | with_reducible refine CallD.val (by simp [-intV, -binV]) (v_l02Pair _ _) ?_ | simp [-intV, -binV])
      rw [ha]
      (refine RetQ.at (SC ((alikeT vars b (alikeT vars a c.next).2).2)) (.inl rfl) (SC_ok _) (SC_same _ _) (by unfold SC; exact (by first | (refine kpL ?_; simp [-intV, -binV]; done) | (intro k x hx; first | exact hx | (simp [-intV, -binV, hx, without_self]; done) | (simp [-intV, -binV, look_app, without_self, hx]; done) | (cases k <;> simp_all [look_app]; done)))) (by unfold SC; exact (by first | (refine kpL ?_; simp [-intV, -binV]; done) | (intro k x hx; first | exact hx | (simp [-intV, -binV, hx, without_self]; done) | (simp [-intV, -binV, look_app, without_self, hx]; done) | (cases k <;> simp_all [look_app]; done)))) ?_; simp [-intV, -binV, ResIs, r_spec_l05Alike, resL, resV, tup, SC])
  | _ =>
    intro c hc
    have hs := SC_ok c
    have hnx : c.belowC 6 = c.next := by simp [-intV, -binV, Cur.belowC]
    refine FnG.mk mixed tysok f_spec_l05Alike ok_spec_l05Alike (by simp [-intV, -binV]) hs.obj fun hbnd hbb => ?_; unfold c_spec_l05Alike
    unfold SC
    simp [-intV, -binV]
    (refine CallDo.ob (g_l01Once c hc 6) (SC_ok _) (by unfold SC; exact (by first | (refine kpL ?_; simp [-intV, -binV]; done) | (intro k x hx; first | exact hx | (simp [-intV, -binV, hx, without_self]; done) | (simp [-intV, -binV, look_app, without_self, hx]; done) | (cases k <;> simp_all [look_app]; done)))) (by unfold SC; exact (by first | (refine kpL ?_; simp [-intV, -binV]; done) | (intro k x hx; first | exact hx | (simp [-intV, -binV, hx, without_self]; done) | (simp [-intV, -binV, look_app, without_self, hx]; done) | (cases k <;> simp_all [look_app]; done)))) (by simp [-intV, -binV, inObs, SC, Pv.look]) ?_; rintro r s' ⟨rfl, rfl⟩; refine ⟨SC_same _ _, ?_⟩; unfold SC; simp [-intV, -binV, without])
    rw [hnx]
    (repeat' first | (with_reducible refine evCd_split (fun h => ?_) (fun h => ?_) <;> (try simp [-intV, -binV] at h)) | (with_reducible refine evGd_split (fun h => ?_) (fun h => ?_) <;> (try simp [-intV, -binV] at h)) | (with_reducible refine evDd_split (fun h => ?_) (fun h => ?_) <;> (try simp [-intV, -binV] at h)) | with_reducible refine And.intro (by (first | omega | (unfold in64; omega))) ?_ | simp [-intV, -binV])
    · (refine CallDo.ob (g_l02Draw vars hv 4 (by omega) c.next hc.next) (SC_ok _) (by unfold SC; exact (by first | (refine kpL ?_; simp [-intV, -binV]; done) | (intro k x hx; first | exact hx | (simp [-intV, -binV, hx, without_self]; done) | (simp [-intV, -binV, look_app, without_self, hx]; done) | (cases k <;> simp_all [look_app]; done)))) (by unfold SC; exact (by first | (refine kpL ?_; simp [-intV, -binV]; done) | (intro k x hx; first | exact hx | (simp [-intV, -binV, hx, without_self]; done) | (simp [-intV, -binV, look_app, without_self, hx]; done) | (cases k <;> simp_all [look_app]; done)))) (by simp [-intV, -binV, inObs, SC, Pv.look]) ?_; rintro r s' ⟨rfl, rfl⟩; refine ⟨SC_same _ _, ?_⟩; unfold SC; simp [-intV, -binV, without])
      simp only [alikeT, h, if_true]
      (refine RetQ.at (SC ((drawT 4 vars c.next).2)) (.inl rfl) (SC_ok _) (SC_same _ _) (by unfold SC; exact (by first | (refine kpL ?_; simp [-intV, -binV]; done) | (intro k x hx; first | exact hx | (simp [-intV, -binV, hx, without_self]; done) | (simp [-intV, -binV, look_app, without_self, hx]; done) | (cases k <;> simp_all [look_app]; done)))) (by unfold SC; exact (by first | (refine kpL ?_; simp [-intV, -binV]; done) | (intro k x hx; first | exact hx | (simp [-intV, -binV, hx, without_self]; done) | (simp [-intV, -binV, look_app, without_self, hx]; done) | (cases k <;> simp_all [look_app]; done)))) ?_; simp [-intV, -binV, ResIs, r_spec_l05Alike, resL, resV, tup, SC])
    · simp only [alikeT, h, if_false]
      (refine RetQ.at (SC (c.next)) (.inl rfl) (SC_ok _) (SC_same _ _) (by unfold SC; exact (by first | (refine kpL ?_; simp [-intV, -binV]; done) | (intro k x hx; first | exact hx | (simp [-intV, -binV, hx, without_self]; done) | (simp [-intV, -binV, look_app, without_self, hx]; done) | (cases k <;> simp_all [look_app]; done)))) (by unfold SC; exact (by first | (refine kpL ?_; simp [-intV, -binV]; done) | (intro k x hx; first | exact hx | (simp [-intV, -binV, hx, without_self]; done) | (simp [-intV, -binV, look_app, without_self, hx]; done) | (cases k <;> simp_all [look_app]; done)))) ?_; simp [-intV, -binV, ResIs, r_spec_l05Alike, resL, resV, tup, SC])
theorem v_MakeAlike (d : List Int) (hd : byteOk d) (hl : d.length ≤ 10000000) (n : Nat) (hn : n ≤ 1000000) (t : T) (vars : Int) (hv : vars ≤ 1000000) : FnV Tryz.prog 24 [.slice 1 .no (bytesE d), .int .i64 n, t.e, .int .i64 vars] (alikeT vars t (curAt d n)).1.e := by
  refine FnV.mk mixed tysok f_spec_MakeAlike ok_spec_MakeAlike (by simp [-intV, -binV]) (by simp [-intV, -binV, kin]) fun hbnd => ?_; unfold c_spec_MakeAlike
  simp [-intV, -binV]
  refine CallD.new (m := 401) (cs := (curAt d n).e) (g_l43New d hd hl n hn) (by simp [-intV, -binV]) (by simp [-intV, -binV]) (by simp [-intV, -binV]) (by simp [-intV, -binV]) ?_
  simp [-intV, -binV]
  (repeat' first | (with_reducible refine evCd_split (fun h => ?_) (fun h => ?_) <;> (try simp [-intV, -binV] at h)) | (with_reducible refine evGd_split (fun h => ?_) (fun h => ?_) <;> (try simp [-intV, -binV] at h)) | (with_reducible refine evDd_split (fun h => ?_) (fun h => ?_) <;> (try simp [-intV, -binV] at h)) | with_reducible refine And.intro (by (first | omega | (unfold in64; omega))) ?_ | simp [-intV, -binV])
  (refine CallD.ob (g_l05Alike vars hv t _ (curAt_ok hd hl n)) (SC_ok _) (SC_ok _) (SC_same _ _) (by unfold SC; exact (by first | (refine kpL ?_; simp [-intV, -binV]; done) | (intro k x hx; first | exact hx | (simp [-intV, -binV, hx, without_self]; done) | (simp [-intV, -binV, look_app, without_self, hx]; done) | (cases k <;> simp_all [look_app]; done)))) (by unfold SC; exact (by first | (refine kpL ?_; simp [-intV, -binV]; done) | (intro k x hx; first | exact hx | (simp [-intV, -binV, hx, without_self]; done) | (simp [-intV, -binV, look_app, without_self, hx]; done) | (cases k <;> simp_all [look_app]; done)))) (by simp [-intV, -binV, inObs, SC, Pv.look]) ?_; unfold SC; simp [-intV, -binV, without])
  (repeat' first | (with_reducible refine evCd_split (fun h => ?_) (fun h => ?_) <;> (try simp [-intV, -binV] at h)) | (with_reducible refine evGd_split (fun h => ?_) (fun h => ?_) <;> (try simp [-intV, -binV] at h)) | (with_reducible refine evDd_split (fun h => ?_) (fun h => ?_) <;> (try simp [-intV, -binV] at h)) | with_reducible refine And.intro (by (first | omega | (unfold in64; omega))) ?_ | simp [-intV, -binV])
  simp [-intV, -binV, RetV, r_spec_MakeAlike, resL, resV, tup]
/-- What l04Get finds. -/
def invGet (l : List Bd) (v : Int) (k : Nat) (st : St) : Prop :=
  ∃ i : Nat, i ≤ l.length ∧ k = l.length - i ∧ bget l v = bget (l.drop i) v ∧ st = ⟨[(1, .int .i64 v), (4, .ptr (.loc 0) 0), (8, .slice 5 .no (l.map Bd.e)), (9, .int .i64 l.length), (10, .int .i64 i)], [(.loc 0, [.int .i64 0, .int .i64 0, .str [], .slice 4 .nil []])], [], 1, []⟩
set_option maxRecDepth 4000 in
set_option maxHeartbeats 1000000 in
theorem v_l04Get (l : List Bd) (v : Int) (hl : l.length ≤ 1000000) : FnV Tryz.prog 107 [.slice 5 .no (l.map Bd.e), .int .i64 v] (.tuple [((bget l v).getD .nil).e, .bool (bget l v).isSome]) := by
  refine FnV.mk mixed tysok f_spec_l04Get ok_spec_l04Get (by simp [-intV, -binV]) (by simp [-intV, -binV, kin]) fun hbnd => ?_; unfold c_spec_l04Get
  simp [-intV, -binV]
  refine evC_loop (invGet l v) l.length _ ⟨by simp [-intV, -binV, fresh, kinL, kin, iterE, inObs, Pv.look], subB_of (by simp [-intV, -binV, fresh, kinL, kin, iterE, inObs, Pv.look]), subE_of (by simp [-intV, -binV, fresh, kinL, kin, kinO, inObs, Pv.look]), by simp [-intV, -binV]⟩ ⟨0, by omega, rfl, by simp [-intV, -binV], rfl⟩ ?_
  rintro k st ⟨i, hi, hk, hg, rfl⟩ hbt hbb
  clear hbt hbb
  by_cases hlt : i < l.length
  · obtain ⟨b, hb⟩ : ∃ b, l[i]? = some b := ⟨_, List.getElem?_eq_getElem hlt⟩
    have hdrop : l.drop i = b :: l.drop (i + 1) := by
      rw [List.drop_eq_getElem_cons hlt]
      rw [List.getElem?_eq_getElem hlt] at hb
      simp [-intV, -binV] at hb
      rw [hb]
    have hbi : ∀ h, l[i]'h = b := fun h => by rw [List.getElem?_eq_getElem h] at hb; simpa using hb
    simp [-intV, -binV, hbi, hlt]
    (repeat' first | (with_reducible refine evCd_split (fun h => ?_) (fun h => ?_) <;> (try simp [-intV, -binV] at h)) | (with_reducible refine evGd_split (fun h => ?_) (fun h => ?_) <;> (try simp [-intV, -binV] at h)) | (with_reducible refine evDd_split (fun h => ?_) (fun h => ?_) <;> (try simp [-intV, -binV] at h)) | with_reducible refine And.intro (by (first | omega | (unfold in64; omega))) ?_ | simp [-intV, -binV, hbi])
    · have : bget l v = some b.t := by rw [hg, hdrop]; simp [-intV, -binV, bget, h]
      simp [-intV, -binV, RetV, r_spec_l04Get, resL, resV, tup]
      simp [-intV, -binV, this]
    · refine LoopQ.next (l.length - (i + 1)) (by omega) ⟨i + 1, by omega, rfl, ?_, rfl⟩ ⟨by simp [-intV, -binV, fresh, kinL, kin, iterE, inObs, Pv.look], subB_of (by simp [-intV, -binV, fresh, kinL, kin, iterE, inObs, Pv.look]), subE_of (by simp [-intV, -binV, fresh, kinL, kin, kinO, inObs, Pv.look]), by simp [-intV, -binV]⟩
      rw [hg, hdrop]
      simp [-intV, -binV, bget, h]
  · have : bget l v = none := by rw [hg, List.drop_of_length_le (by omega)]; simp [-intV, -binV, bget]
    simp [-intV, -binV, hlt]
    (repeat' first | (with_reducible refine evCd_split (fun h => ?_) (fun h => ?_) <;> (try simp [-intV, -binV] at h)) | (with_reducible refine evGd_split (fun h => ?_) (fun h => ?_) <;> (try simp [-intV, -binV] at h)) | (with_reducible refine evDd_split (fun h => ?_) (fun h => ?_) <;> (try simp [-intV, -binV] at h)) | with_reducible refine And.intro (by (first | omega | (unfold in64; omega))) ?_ | simp [-intV, -binV])
    simp [-intV, -binV, RetV, r_spec_l04Get, resL, resV, tup]
    simp [-intV, -binV, this]
set_option maxHeartbeats 1000000 in
theorem v_l04Put (l : List Bd) (hl : l.length ≤ 1000000) (t : T) : FnV Tryz.prog 53 [.slice 5 .no (l.map Bd.e), t.e] (t.sub (bget l)).e := by
  induction t with
  | pair a b iha ihb =>
    refine FnV.mk mixed tysok f_spec_l04Put ok_spec_l04Put (by simp [-intV, -binV]) (by simp [-intV, -binV, kin]) fun hbnd => ?_; unfold c_spec_l04Put
    simp [-intV, -binV]
    (repeat' first | (with_reducible refine evCd_split (fun h => ?_) (fun h => ?_) <;> (try simp [-intV, -binV] at h)) | (with_reducible refine evGd_split (fun h => ?_) (fun h => ?_) <;> (try simp [-intV, -binV] at h)) | (with_reducible refine evDd_split (fun h => ?_) (fun h => ?_) <;> (try simp [-intV, -binV] at h)) | with_reducible refine And.intro (by (first | omega | (unfold in64; omega))) ?_ | with_reducible refine CallDo.val (by simp [-intV, -binV]) (iha) ?_ | with_reducible refine CallD.val (by simp [-intV, -binV]) (iha) ?_ | with_reducible refine CallDo.val (by simp [-intV, -binV]) (ihb) ?_ | with_reducible refine CallD.val (by simp [-intV, -binV]) (ihb) ?_ | with_reducible refine CallDo.val (by simp [-intV, -binV]) (v_l02Pair _ _) ?_ | with_reducible refine CallD.val (by simp [-intV, -binV]) (v_l02Pair _ _) ?_ | simp [-intV, -binV])
    all_goals simp [-intV, -binV, RetV, r_spec_l04Put, resL, resV, tup]
    all_goals simp [-intV, -binV, T.sub]
  | var n =>
    refine FnV.mk mixed tysok f_spec_l04Put ok_spec_l04Put (by simp [-intV, -binV]) (by simp [-intV, -binV, kin]) fun hbnd => ?_; unfold c_spec_l04Put
    simp [-intV, -binV]
    (repeat' first | (with_reducible refine evCd_split (fun h => ?_) (fun h => ?_) <;> (try simp [-intV, -binV] at h)) | (with_reducible refine evGd_split (fun h => ?_) (fun h => ?_) <;> (try simp [-intV, -binV] at h)) | (with_reducible refine evDd_split (fun h => ?_) (fun h => ?_) <;> (try simp [-intV, -binV] at h)) | with_reducible refine And.intro (by (first | omega | (unfold in64; omega))) ?_ | with_reducible refine CallDo.val (by simp [-intV, -binV]) (v_l04Get l n hl) ?_ | with_reducible refine CallD.val (by simp [-intV, -binV]) (v_l04Get l n hl) ?_ | simp [-intV, -binV])
    all_goals simp [-intV, -binV, RetV, r_spec_l04Put, resL, resV, tup]
    all_goals cases hb : bget l n <;> simp_all [T.sub]
  | _ =>
    refine FnV.mk mixed tysok f_spec_l04Put ok_spec_l04Put (by simp [-intV, -binV]) (by simp [-intV, -binV, kin]) fun hbnd => ?_; unfold c_spec_l04Put
    simp [-intV, -binV]
    (repeat' first | (with_reducible refine evCd_split (fun h => ?_) (fun h => ?_) <;> (try simp [-intV, -binV] at h)) | (with_reducible refine evGd_split (fun h => ?_) (fun h => ?_) <;> (try simp [-intV, -binV] at h)) | (with_reducible refine evDd_split (fun h => ?_) (fun h => ?_) <;> (try simp [-intV, -binV] at h)) | with_reducible refine And.intro (by (first | omega | (unfold in64; omega))) ?_ | simp [-intV, -binV])
    all_goals simp [-intV, -binV, RetV, r_spec_l04Put, resL, resV, tup]
    all_goals simp [-intV, -binV, T.sub]
end Go.Proofs.YtchidkafcdmciaaGreat
/- Contracts: copies, values, sameness. -/
set_option linter.all false
namespace Go.Proofs.YtchidkafcdmciaaGreat
open Go Go.Pv

def invCopy (t : T) (k : Nat) (st : St) : Prop :=
  (k = t.args.length ∧ st = ⟨[(2, .ptr (.loc 1) 0), (3, .ptr (.loc 2) 0), (14, .slice 4 .no (t.args.map T.e)), (15, .int .i64 t.args.length), (16, .int .i64 0)], [(.loc 1, [.int .i64 0, .int .i64 0, .str [], .slice 4 .nil []]), (.loc 2, [.int .i64 t.kind, .int .i64 t.int, .str t.name, .slice 4 .nil []])], [], 3, []⟩) ∨
  ∃ i : Nat, 1 ≤ i ∧ i ≤ t.args.length ∧ k = t.args.length - i ∧ st = ⟨[(2, .ptr (.loc 1) 0), (3, .ptr (.loc 2) 0), (14, .slice 4 .no (t.args.map T.e)), (15, .int .i64 t.args.length), (16, .int .i64 i)], [(.loc 1, [.int .i64 0, .int .i64 0, .str [], .slice 4 .nil []]), (.loc 2, [.int .i64 t.kind, .int .i64 t.int, .str t.name, .slice 4 (.own (.loc 29)) ((t.args.take i).map T.e)])], [(.loc 29, ⟨i, 26, 4, none⟩)], 30, []⟩
set_option maxHeartbeats 1000000 in
set_option maxRecDepth 4000 in
theorem v_l02Copy (t : T) : FnV Tryz.prog 52 [t.e] t.e := by
  induction t with
  | pair a b iha ihb =>
    refine FnV.mk mixed tysok f_spec_l02Copy ok_spec_l02Copy (by simp [-intV, -binV]) (by simp [-intV, -binV, kin]) fun hbnd => ?_; unfold c_spec_l02Copy
    simp [-intV, -binV]
    refine evC_loop (invCopy (.pair a b)) 2 _ ⟨by simp [-intV, -binV, fresh, kinL, kin, iterE, inObs, Pv.look], subB_of (by simp [-intV, -binV, fresh, kinL, kin, iterE, inObs, Pv.look]), subE_of (by simp [-intV, -binV, fresh, kinL, kin, kinO, inObs, Pv.look]), by simp [-intV, -binV]⟩ (.inl ⟨rfl, rfl⟩) ?_
    rintro k st (⟨hk, rfl⟩ | ⟨i, h1, h2, hk, rfl⟩) hbt hbb
    all_goals clear hbt hbb
    · simp [-intV, -binV]
      (repeat' first | (with_reducible refine evCd_split (fun h => ?_) (fun h => ?_) <;> (try simp [-intV, -binV] at h)) | (with_reducible refine evGd_split (fun h => ?_) (fun h => ?_) <;> (try simp [-intV, -binV] at h)) | (with_reducible refine evDd_split (fun h => ?_) (fun h => ?_) <;> (try simp [-intV, -binV] at h)) | with_reducible refine And.intro (by (first | omega | (unfold in64; omega))) ?_ | with_reducible refine CallDo.val (by simp [-intV, -binV]) (iha) ?_ | with_reducible refine CallD.val (by simp [-intV, -binV]) (iha) ?_ | simp [-intV, -binV])
      refine ⟨by unfold lim; omega, by unfold in64; omega, ?_⟩
      refine LoopQ.next 1 (by rw [hk]; simp [-intV, -binV]) (.inr ⟨1, by omega, by simp [-intV, -binV], rfl, rfl⟩) ⟨by simp [-intV, -binV, fresh, kinL, kin, iterE, inObs, Pv.look], subB_of (by simp [-intV, -binV, fresh, kinL, kin, iterE, inObs, Pv.look]), subE_of (by simp [-intV, -binV, fresh, kinL, kin, kinO, inObs, Pv.look]), by simp [-intV, -binV]⟩
    · rcases (by simp [-intV, -binV] at h2; omega : i = 1 ∨ i = 2) with rfl | rfl
      · simp [-intV, -binV]
        (repeat' first | (with_reducible refine evCd_split (fun h => ?_) (fun h => ?_) <;> (try simp [-intV, -binV] at h)) | (with_reducible refine evGd_split (fun h => ?_) (fun h => ?_) <;> (try simp [-intV, -binV] at h)) | (with_reducible refine evDd_split (fun h => ?_) (fun h => ?_) <;> (try simp [-intV, -binV] at h)) | with_reducible refine And.intro (by (first | omega | (unfold in64; omega))) ?_ | with_reducible refine CallDo.val (by simp [-intV, -binV]) (ihb) ?_ | with_reducible refine CallD.val (by simp [-intV, -binV]) (ihb) ?_ | simp [-intV, -binV])
        refine ⟨by unfold lim; omega, by unfold in64; omega, ?_⟩
        refine LoopQ.next 0 (by rw [hk]; simp [-intV, -binV]) (.inr ⟨2, by omega, by simp [-intV, -binV], rfl, rfl⟩) ⟨by simp [-intV, -binV, fresh, kinL, kin, iterE, inObs, Pv.look], subB_of (by simp [-intV, -binV, fresh, kinL, kin, iterE, inObs, Pv.look]), subE_of (by simp [-intV, -binV, fresh, kinL, kin, kinO, inObs, Pv.look]), by simp [-intV, -binV]⟩
      · simp [-intV, -binV]
        (repeat' first | (with_reducible refine evCd_split (fun h => ?_) (fun h => ?_) <;> (try simp [-intV, -binV] at h)) | (with_reducible refine evGd_split (fun h => ?_) (fun h => ?_) <;> (try simp [-intV, -binV] at h)) | (with_reducible refine evDd_split (fun h => ?_) (fun h => ?_) <;> (try simp [-intV, -binV] at h)) | with_reducible refine And.intro (by (first | omega | (unfold in64; omega))) ?_ | simp [-intV, -binV])
        simp [-intV, -binV, RetV, r_spec_l02Copy, resL, resV, tup]
  | nil =>
    refine FnV.mk mixed tysok f_spec_l02Copy ok_spec_l02Copy (by simp [-intV, -binV]) (by simp [-intV, -binV, kin]) fun hbnd => ?_; unfold c_spec_l02Copy
    simp [-intV, -binV]
    refine evC_loop (invCopy (.nil)) 0 _ ⟨by simp [-intV, -binV, fresh, kinL, kin, iterE, inObs, Pv.look], subB_of (by simp [-intV, -binV, fresh, kinL, kin, iterE, inObs, Pv.look]), subE_of (by simp [-intV, -binV, fresh, kinL, kin, kinO, inObs, Pv.look]), by simp [-intV, -binV]⟩ (.inl ⟨rfl, rfl⟩) ?_
    rintro k st (⟨hk, rfl⟩ | ⟨i, h1, h2, hk, rfl⟩) hbt hbb
    all_goals clear hbt hbb
    · simp [-intV, -binV]
      (repeat' first | (with_reducible refine evCd_split (fun h => ?_) (fun h => ?_) <;> (try simp [-intV, -binV] at h)) | (with_reducible refine evGd_split (fun h => ?_) (fun h => ?_) <;> (try simp [-intV, -binV] at h)) | (with_reducible refine evDd_split (fun h => ?_) (fun h => ?_) <;> (try simp [-intV, -binV] at h)) | with_reducible refine And.intro (by (first | omega | (unfold in64; omega))) ?_ | simp [-intV, -binV])
      simp [-intV, -binV, RetV, r_spec_l02Copy, resL, resV, tup]
    · simp [-intV, -binV] at h2; omega
  | var n =>
    refine FnV.mk mixed tysok f_spec_l02Copy ok_spec_l02Copy (by simp [-intV, -binV]) (by simp [-intV, -binV, kin]) fun hbnd => ?_; unfold c_spec_l02Copy
    simp [-intV, -binV]
    refine evC_loop (invCopy (.var n)) 0 _ ⟨by simp [-intV, -binV, fresh, kinL, kin, iterE, inObs, Pv.look], subB_of (by simp [-intV, -binV, fresh, kinL, kin, iterE, inObs, Pv.look]), subE_of (by simp [-intV, -binV, fresh, kinL, kin, kinO, inObs, Pv.look]), by simp [-intV, -binV]⟩ (.inl ⟨rfl, rfl⟩) ?_
    rintro k st (⟨hk, rfl⟩ | ⟨i, h1, h2, hk, rfl⟩) hbt hbb
    all_goals clear hbt hbb
    · simp [-intV, -binV]
      (repeat' first | (with_reducible refine evCd_split (fun h => ?_) (fun h => ?_) <;> (try simp [-intV, -binV] at h)) | (with_reducible refine evGd_split (fun h => ?_) (fun h => ?_) <;> (try simp [-intV, -binV] at h)) | (with_reducible refine evDd_split (fun h => ?_) (fun h => ?_) <;> (try simp [-intV, -binV] at h)) | with_reducible refine And.intro (by (first | omega | (unfold in64; omega))) ?_ | simp [-intV, -binV])
      simp [-intV, -binV, RetV, r_spec_l02Copy, resL, resV, tup]
    · simp [-intV, -binV] at h2; omega
  | sym s =>
    refine FnV.mk mixed tysok f_spec_l02Copy ok_spec_l02Copy (by simp [-intV, -binV]) (by simp [-intV, -binV, kin]) fun hbnd => ?_; unfold c_spec_l02Copy
    simp [-intV, -binV]
    refine evC_loop (invCopy (.sym s)) 0 _ ⟨by simp [-intV, -binV, fresh, kinL, kin, iterE, inObs, Pv.look], subB_of (by simp [-intV, -binV, fresh, kinL, kin, iterE, inObs, Pv.look]), subE_of (by simp [-intV, -binV, fresh, kinL, kin, kinO, inObs, Pv.look]), by simp [-intV, -binV]⟩ (.inl ⟨rfl, rfl⟩) ?_
    rintro k st (⟨hk, rfl⟩ | ⟨i, h1, h2, hk, rfl⟩) hbt hbb
    all_goals clear hbt hbb
    · simp [-intV, -binV]
      (repeat' first | (with_reducible refine evCd_split (fun h => ?_) (fun h => ?_) <;> (try simp [-intV, -binV] at h)) | (with_reducible refine evGd_split (fun h => ?_) (fun h => ?_) <;> (try simp [-intV, -binV] at h)) | (with_reducible refine evDd_split (fun h => ?_) (fun h => ?_) <;> (try simp [-intV, -binV] at h)) | with_reducible refine And.intro (by (first | omega | (unfold in64; omega))) ?_ | simp [-intV, -binV])
      simp [-intV, -binV, RetV, r_spec_l02Copy, resL, resV, tup]
    · simp [-intV, -binV] at h2; omega
  | num n =>
    refine FnV.mk mixed tysok f_spec_l02Copy ok_spec_l02Copy (by simp [-intV, -binV]) (by simp [-intV, -binV, kin]) fun hbnd => ?_; unfold c_spec_l02Copy
    simp [-intV, -binV]
    refine evC_loop (invCopy (.num n)) 0 _ ⟨by simp [-intV, -binV, fresh, kinL, kin, iterE, inObs, Pv.look], subB_of (by simp [-intV, -binV, fresh, kinL, kin, iterE, inObs, Pv.look]), subE_of (by simp [-intV, -binV, fresh, kinL, kin, kinO, inObs, Pv.look]), by simp [-intV, -binV]⟩ (.inl ⟨rfl, rfl⟩) ?_
    rintro k st (⟨hk, rfl⟩ | ⟨i, h1, h2, hk, rfl⟩) hbt hbb
    all_goals clear hbt hbb
    · simp [-intV, -binV]
      (repeat' first | (with_reducible refine evCd_split (fun h => ?_) (fun h => ?_) <;> (try simp [-intV, -binV] at h)) | (with_reducible refine evGd_split (fun h => ?_) (fun h => ?_) <;> (try simp [-intV, -binV] at h)) | (with_reducible refine evDd_split (fun h => ?_) (fun h => ?_) <;> (try simp [-intV, -binV] at h)) | with_reducible refine And.intro (by (first | omega | (unfold in64; omega))) ?_ | simp [-intV, -binV])
      simp [-intV, -binV, RetV, r_spec_l02Copy, resL, resV, tup]
    · simp [-intV, -binV] at h2; omega
theorem v_MakeValue (l : List Bd) (hl : l.length ≤ 1000000) (t : T) : FnV Tryz.prog 9 [t.e, .slice 5 .no (l.map Bd.e)] (t.sub (bget l)).e := by
  refine FnV.mk mixed tysok f_spec_MakeValue ok_spec_MakeValue (by simp [-intV, -binV]) (by simp [-intV, -binV, kin]) fun hbnd => ?_; unfold c_spec_MakeValue
  simp [-intV, -binV]
  (repeat' first | (with_reducible refine evCd_split (fun h => ?_) (fun h => ?_) <;> (try simp [-intV, -binV] at h)) | (with_reducible refine evGd_split (fun h => ?_) (fun h => ?_) <;> (try simp [-intV, -binV] at h)) | (with_reducible refine evDd_split (fun h => ?_) (fun h => ?_) <;> (try simp [-intV, -binV] at h)) | with_reducible refine And.intro (by (first | omega | (unfold in64; omega))) ?_ | with_reducible refine CallDo.val (by simp [-intV, -binV]) (v_l04Put l hl t) ?_ | with_reducible refine CallD.val (by simp [-intV, -binV]) (v_l04Put l hl t) ?_ | with_reducible refine CallDo.val (by simp [-intV, -binV]) (v_l02Copy _) ?_ | with_reducible refine CallD.val (by simp [-intV, -binV]) (v_l02Copy _) ?_ | simp [-intV, -binV])
  simp [-intV, -binV, RetV, r_spec_MakeValue, resL, resV, tup]
end Go.Proofs.YtchidkafcdmciaaGreat
/- Contracts: sameness. -/
set_option linter.all false
namespace Go.Proofs.YtchidkafcdmciaaGreat
open Go Go.Pv

theorem T_ext {t u : T} (h1 : t.kind = u.kind) (h2 : t.int = u.int) (h3 : t.name = u.name) (h4 : t.args = u.args) : t = u := by
  cases t <;> cases u <;> simp_all
def invSame (t u : T) (k : Nat) (st : St) : Prop :=
  ∃ i : Nat, i ≤ t.args.length ∧ k = t.args.length - i ∧ t.args.take i = u.args.take i ∧ st = ⟨[(3, .ptr (.loc 1) 0), (36, .slice 4 .no (t.args.map T.e)), (37, .int .i64 t.args.length), (38, .int .i64 i)], [(.loc 1, [.int .i64 u.kind, .int .i64 u.int, .str u.name, .slice 4 .no (u.args.map T.e)])], [], 2, []⟩
set_option maxHeartbeats 1000000 in
set_option maxRecDepth 4000 in
theorem v_sameG (t : T) (ih : ∀ x ∈ t.args, ∀ u : T, FnV Tryz.prog 15 [x.e, u.e] (.bool (decide (x = u)))) (u : T) : FnV Tryz.prog 15 [t.e, u.e] (.bool (decide (t = u))) := by
  have hle : t.args.length ≤ 2 := by cases t <;> simp
  refine FnV.mk mixed tysok f_laws_same ok_laws_same (by simp) (by simp [kin]) fun hbnd => ?_; unfold c_laws_same
  simp
  (repeat' first | (with_reducible refine evCd_split (fun h => ?_) (fun h => ?_) <;> (try simp at h)) | (with_reducible refine evGd_split (fun h => ?_) (fun h => ?_) <;> (try simp at h)) | (with_reducible refine evDd_split (fun h => ?_) (fun h => ?_) <;> (try simp at h)) | with_reducible refine And.intro (by (first | omega | (unfold in64; omega))) ?_ | simp)
  · simp [RetV, r_laws_same, resL, resV, tup]
    intro e; subst e; simp_all
  · refine evC_loop (invSame t u) t.args.length _ ⟨by simp [fresh, kinL, kin, iterE, inObs, Pv.look], subB_of (by simp [fresh, kinL, kin, iterE, inObs, Pv.look]), subE_of (by simp [fresh, kinL, kin, kinO, inObs, Pv.look]), by simp⟩ ⟨0, by omega, by omega, by simp, rfl⟩ ?_
    rintro k st ⟨i, hi, hk, htk, rfl⟩ hbt hbb
    clear hbt hbb
    by_cases hlt : i < t.args.length
    · have hlu : i < u.args.length := by omega
      simp [hlt, hlu]
      (repeat' first | (with_reducible refine evCd_split (fun h => ?_) (fun h => ?_) <;> (try simp at h)) | (with_reducible refine evGd_split (fun h => ?_) (fun h => ?_) <;> (try simp at h)) | (with_reducible refine evDd_split (fun h => ?_) (fun h => ?_) <;> (try simp at h)) | with_reducible refine And.intro (by (first | omega | (unfold in64; omega))) ?_ | with_reducible refine CallDo.val (by simp) (ih _ (List.getElem_mem hlt) _) ?_ | with_reducible refine CallD.val (by simp) (ih _ (List.getElem_mem hlt) _) ?_ | simp)
      · simp [RetV, r_laws_same, resL, resV, tup]
        intro e; subst e; simp_all
      · refine LoopQ.next (t.args.length - (i + 1)) (by omega) ⟨i + 1, by omega, rfl, ?_, rfl⟩ ⟨by simp [fresh, kinL, kin, iterE, inObs, Pv.look], subB_of (by simp [fresh, kinL, kin, iterE, inObs, Pv.look]), subE_of (by simp [fresh, kinL, kin, kinO, inObs, Pv.look]), by simp⟩
        rw [List.take_succ, List.take_succ, htk, List.getElem?_eq_getElem hlt, List.getElem?_eq_getElem hlu, h]
    · simp [hlt]
      (repeat' first | (with_reducible refine evCd_split (fun h => ?_) (fun h => ?_) <;> (try simp at h)) | (with_reducible refine evGd_split (fun h => ?_) (fun h => ?_) <;> (try simp at h)) | (with_reducible refine evDd_split (fun h => ?_) (fun h => ?_) <;> (try simp at h)) | with_reducible refine And.intro (by (first | omega | (unfold in64; omega))) ?_ | simp)
      simp [RetV, r_laws_same, resL, resV, tup]
      have : t.args = u.args := by
        rw [List.take_of_length_le (by omega), List.take_of_length_le (by omega)] at htk
        exact htk
      simp_all
      exact T_ext (by assumption) (by assumption) (by assumption) (by assumption)
  all_goals simp [RetV, r_laws_same, resL, resV, tup]
  all_goals (intro e; subst e; simp_all)
theorem v_same (t : T) : ∀ u : T, FnV Tryz.prog 15 [t.e, u.e] (.bool (decide (t = u))) := by
  induction t with
  | pair a b iha ihb =>
    refine v_sameG _ fun x hx => ?_
    simp at hx
    rcases hx with rfl | rfl
    · exact iha
    · exact ihb
  | _ => exact v_sameG _ fun x hx => by simp at hx
end Go.Proofs.YtchidkafcdmciaaGreat
/- Plain laws: what is drawn; binary search; matching. -/
set_option linter.all false
namespace Go.Proofs.YtchidkafcdmciaaGreat
open Go Go.Pv

/- What is drawn. -/
theorem atomT_ok (k : Int) (h0 : 0 ≤ k) (h1 : k < 7) : (atomT k).ok = true ∧ (∀ v, (atomT k).occ v = false) ∧ (atomT k).size = 1 := by
  obtain ⟨n, rfl⟩ : ∃ n : Nat, k = n := ⟨k.toNat, by omega⟩
  rcases (by omega : n = 0 ∨ n = 1 ∨ n = 2 ∨ n = 3 ∨ n = 4 ∨ n = 5 ∨ n = 6) with rfl | rfl | rfl | rfl | rfl | rfl | rfl <;> refine ⟨?_, fun v => ?_, ?_⟩ <;> first | rfl | decide
theorem drawT_fit (vars : Int) (hv : vars ≤ 100001) (n : Nat) : ∀ c : Cur, (drawT n vars c).1.ok = true ∧ (∀ v, (drawT n vars c).1.occ v = true → 0 ≤ v ∧ v < vars) ∧ (drawT n vars c).1.size ≤ 2 * n - 1 + (if n = 0 then 1 else 0) := by
  induction n using Nat.strongRecOn with
  | ind n ih =>
    intro c
    have h7 := c.next.below_le 7 (by omega)
    rw [drawT]
    split
    · rename_i h
      obtain ⟨a1, a2, a3⟩ := ih (n / 2) (by omega) c.next
      obtain ⟨b1, b2, b3⟩ := ih (n / 2) (by omega) (drawT (n / 2) vars c.next).2
      refine ⟨by simp [T.ok, a1, b1], fun v hv => ?_, ?_⟩
      · simp only [T.occ, Bool.or_eq_true] at hv
        rcases hv with hv | hv
        · exact a2 v hv
        · exact b2 v hv
      · simp only [T.size]
        split at a3 <;> split at b3 <;> split <;> omega
    · split
      · rename_i h
        have := c.next.below_le vars h.1
        refine ⟨by simp [T.ok]; omega, fun v hv => ?_, by simp only [T.size]; split <;> omega⟩
        simp [T.occ] at hv
        omega
      · obtain ⟨a1, a2, a3⟩ := atomT_ok _ h7.1 h7.2
        refine ⟨a1, fun v hv => ?_, ?_⟩
        · simp only [a2 v] at hv; cases hv
        · simp only [a3]; split <;> omega
theorem alikeT_fit (vars : Int) (hv : vars ≤ 100001) (t : T) (ht : t.ok = true) : ∀ c : Cur, (alikeT vars t c).1.ok = true ∧ (alikeT vars t c).1.size ≤ 7 * t.size := by
  induction t with
  | pair a b iha ihb =>
    intro c
    simp only [T.ok, Bool.and_eq_true] at ht
    obtain ⟨d1, _, d3⟩ := drawT_fit vars hv 4 c.next
    have ha := a.size_pos
    obtain ⟨a1, a2⟩ := iha ht.1 c.next
    obtain ⟨b1, b2⟩ := ihb ht.2 (alikeT vars a c.next).2
    simp only [alikeT]
    split
    · exact ⟨d1, by simp only [T.size]; simp at d3; omega⟩
    · exact ⟨by simp [T.ok, a1, b1], by simp only [T.size]; omega⟩
  | _ =>
    intro c
    obtain ⟨d1, _, d3⟩ := drawT_fit vars hv 4 c.next
    simp only [alikeT]
    split
    · exact ⟨d1, by simp only [T.size]; simp at d3; omega⟩
    · exact ⟨ht, by simp [T.size]⟩
/- Binary search. -/
theorem srch_spec (p : Nat → Bool) (n : Nat) (hm : ∀ k k', k ≤ k' → k' < n → p k = true → p k' = true) : ∀ (m i j : Nat), j - i ≤ m → i ≤ j → j ≤ n → (∀ k, k < i → p k = false) → (∀ k, j ≤ k → k < n → p k = true) →
    (i ≤ srch p i j ∧ srch p i j ≤ j) ∧ (∀ k, k < srch p i j → p k = false) ∧ (∀ k, srch p i j ≤ k → k < n → p k = true)
  | m, i, j, hd, hij, hj, h1, h2 => by
    rw [srch]
    split
    · rename_i hlt
      obtain ⟨m, rfl⟩ : ∃ m', m = m' + 1 := ⟨m - 1, by omega⟩
      split
      · rename_i hp
        have := srch_spec p n hm m i ((i + j) / 2) (by omega) (by omega) (by omega) h1 (fun k hk hkn => hm _ k hk hkn hp)
        exact ⟨⟨this.1.1, by omega⟩, this.2⟩
      · rename_i hp
        have := srch_spec p n hm m ((i + j) / 2 + 1) j (by omega) (by omega) hj (fun k hk => by
          by_cases hk' : p k = true
          · exact absurd (hm k ((i + j) / 2) (by omega) (by omega) hk') hp
          · simpa using hk') h2
        exact ⟨⟨by omega, this.1.2⟩, this.2⟩
    · obtain rfl : i = j := by omega
      exact ⟨⟨Nat.le_refl _, Nat.le_refl _⟩, h1, h2⟩
def Asc (l : List Bd) : Prop := l.Pairwise fun x y => x.v < y.v
theorem pget_eq {l : List Bd} (hs : Asc l) (v : Int) : pget l v = bget l v := by
  have hlt : ∀ (i j : Nat) (x y : Bd), i < j → l[i]? = some x → l[j]? = some y → x.v < y.v := by
    intro i j x y hij hx hy
    obtain ⟨h1, rfl⟩ := List.getElem?_eq_some_iff.1 hx
    obtain ⟨h2, rfl⟩ := List.getElem?_eq_some_iff.1 hy
    exact List.pairwise_iff_getElem.1 hs i j h1 h2 hij
  obtain ⟨p, hp⟩ : ∃ p : Nat → Bool, p = (fun i => match l[i]? with | some b => decide (v ≤ b.v) | none => false) := ⟨_, rfl⟩
  have hpe : ∀ i b, l[i]? = some b → p i = decide (v ≤ b.v) := fun i b hb => by rw [hp]; simp [hb]
  have hm : ∀ k k', k ≤ k' → k' < l.length → p k = true → p k' = true := by
    intro k k' hk hk' h
    have e1 : l[k]? = some l[k] := List.getElem?_eq_getElem (by omega)
    have e2 : l[k']? = some l[k'] := List.getElem?_eq_getElem hk'
    rw [hpe k _ e1] at h
    rw [hpe k' _ e2]
    simp only [decide_eq_true_eq] at h ⊢
    rcases Nat.lt_or_eq_of_le hk with hlt' | rfl
    · have := hlt k k' _ _ hlt' e1 e2; omega
    · exact h
  obtain ⟨⟨_, hle⟩, hbef, haft⟩ := srch_spec p l.length hm l.length 0 l.length (by omega) (by omega) (Nat.le_refl _) (fun k hk => by omega) (fun k h1 h2 => by omega)
  have hfnd : fnd l v = (match l[srch p 0 l.length]? with | some b => if b.v = v then ((srch p 0 l.length : Nat) : Int) else -1 | none => -1) := by rw [hp]; rfl
  generalize srch p 0 l.length = r at hle hbef haft hfnd
  by_cases hex : ∃ (k : Nat) (b : Bd), l[k]? = some b ∧ b.v = v
  · obtain ⟨k, b, hb, hbv⟩ := hex
    have hkl : k < l.length := (List.getElem?_eq_some_iff.1 hb).1
    have hk1 : r ≤ k := by
      rcases Nat.lt_or_ge k r with h | h
      · have := hbef k h; rw [hpe k b hb] at this; simp at this; omega
      · exact h
    have hr : l[r]? = some l[r] := List.getElem?_eq_getElem (by omega)
    have hrp := haft r (Nat.le_refl _) (by omega)
    rw [hpe r _ hr] at hrp
    simp only [decide_eq_true_eq] at hrp
    have hrk : r = k := by
      rcases Nat.lt_or_eq_of_le hk1 with h | h
      · have := hlt r k _ _ h hr hb; omega
      · exact h
    subst hrk
    have hfv : fnd l v = r := by rw [hfnd, hb]; simp [hbv]
    have h1 : pget l v = some b.t := by
      unfold pget
      rw [hfv, if_neg (by omega)]
      simp [hb]
    have h2 : l.find? (fun b => b.v == v) = some b := by
      rw [List.find?_eq_some_iff_getElem]
      refine ⟨by simp [hbv], r, hkl, ?_, fun j hj => ?_⟩
      · rw [List.getElem?_eq_getElem hkl] at hb; simpa using hb
      · have := hlt j r l[j] b hj (List.getElem?_eq_getElem (by omega)) hb
        simp
        omega
    rw [h1]
    simp [bget, h2]
  · have h2 : l.find? (fun b => b.v == v) = none := by
      rw [List.find?_eq_none]
      intro b hb
      obtain ⟨k, hk, rfl⟩ := List.mem_iff_getElem.1 hb
      simp
      intro e
      exact hex ⟨k, l[k], List.getElem?_eq_getElem hk, e⟩
    have hfv : fnd l v = -1 := by
      rw [hfnd]
      split
      · rename_i b hb
        rw [if_neg (fun e => hex ⟨r, b, hb, e⟩)]
      · rfl
    unfold pget
    rw [hfv]
    simp [bget, h2]
end Go.Proofs.YtchidkafcdmciaaGreat
/- Plain laws: matching and replacing. -/
set_option linter.all false
namespace Go.Proofs.YtchidkafcdmciaaGreat
open Go Go.Pv

theorem tlook_app (v : Int) : ∀ (m r : List (Int × T)), tlook v (m ++ r) = match tlook v m with | some x => some x | none => tlook v r
  | [], r => rfl
  | (i, x) :: m, r => by
    simp only [List.cons_append, tlook]
    split
    · rfl
    · exact tlook_app v m r
theorem tlook_mem {v : Int} {x : T} : ∀ {m : List (Int × T)}, tlook v m = some x → (v, x) ∈ m
  | (i, y) :: m, h => by
    simp only [tlook] at h
    split at h
    · rename_i e; cases h; subst e; simp
    · exact List.mem_cons_of_mem _ (tlook_mem h)
theorem tlook_isSome {v : Int} : ∀ {m : List (Int × T)}, (tlook v m).isSome ↔ v ∈ m.map (·.1)
  | [] => by simp [tlook]
  | (i, y) :: m => by
    simp only [tlook, List.map_cons, List.mem_cons]
    split
    · rename_i e; simp [e]
    · rename_i e; rw [tlook_isSome]; simp [e]
theorem mem_tlook {v : Int} {x : T} : ∀ {m : List (Int × T)}, (m.map (·.1)).Nodup → (v, x) ∈ m → tlook v m = some x
  | (i, y) :: m, hd, h => by
    simp only [List.map_cons, List.nodup_cons] at hd
    simp only [tlook]
    rcases List.mem_cons.1 h with h2 | h2
    · cases h2; simp
    · split
      · rename_i e
        have hm : v ∈ m.map (·.1) := List.mem_map.2 ⟨(v, x), h2, rfl⟩
        rw [e] at hm
        exact absurd hm hd.1
      · exact mem_tlook hd.2 h2
theorem sub_congr {f g : Int → Option T} (t : T) (h : ∀ v, t.occ v = true → f v = g v) : t.sub f = t.sub g := by
  induction t with
  | var n => simp only [T.sub]; rw [h n (by simp [T.occ])]
  | pair a b iha ihb => simp only [T.sub]; rw [iha fun v hv => h v (by simp [T.occ, hv]), ihb fun v hv => h v (by simp [T.occ, hv])]
  | _ => rfl
/-- Matching finds what was put in. -/
theorem mtch_sub (f : Int → Option T) (t : T) : ∀ m : List (Int × T), (∀ v x, tlook v m = some x → x = (f v).getD (.var v)) →
    (mtch t (t.sub f) m).1 = true ∧ (∀ v x, tlook v (mtch t (t.sub f) m).2 = some x → x = (f v).getD (.var v)) := by
  induction t with
  | var n =>
    intro m hm
    have hF : (T.var n).sub f = (f n).getD (.var n) := by simp only [T.sub]; cases f n <;> rfl
    rw [hF]
    simp only [mtch]
    split
    · rename_i x hx
      exact ⟨by simp [hm n x hx], hm⟩
    · refine ⟨rfl, fun v x hx => ?_⟩
      rw [tlook_app] at hx
      split at hx
      · rename_i y hy; cases hx; exact hm v _ hy
      · simp only [tlook] at hx
        split at hx
        · rename_i e; cases hx; subst e; rfl
        · cases hx
  | pair a b iha ihb =>
    intro m hm
    obtain ⟨a1, a2⟩ := iha m hm
    obtain ⟨b1, b2⟩ := ihb _ a2
    simp only [T.sub, mtch, a1, if_true]
    exact ⟨b1, b2⟩
  | _ => intro m hm; simp only [T.sub, mtch]; exact ⟨by simp, hm⟩
/-- What matching finds. -/
theorem mtch_keys (t : T) : ∀ (u : T) (m : List (Int × T)), (mtch t u m).1 = true → ∀ v, (v ∈ (mtch t u m).2.map (·.1) ↔ v ∈ m.map (·.1) ∨ t.occ v = true) := by
  induction t with
  | var n =>
    intro u m h v
    simp only [mtch] at h ⊢
    split
    · rename_i x hx
      have : n ∈ m.map (·.1) := tlook_isSome.1 (by simp [hx])
      simp only [T.occ, beq_iff_eq]
      constructor
      · exact .inl
      · rintro (h | rfl)
        · exact h
        · exact this
    · simp only [List.map_append, List.map_cons, List.map_nil, List.mem_append, List.mem_singleton, T.occ, beq_iff_eq]
      exact or_congr Iff.rfl eq_comm
  | pair a b iha ihb =>
    intro u m h v
    cases u with
    | pair c d =>
      simp only [mtch] at h ⊢
      split at h
      · rename_i ha
        rw [if_pos ha, ihb d _ h v, iha c m ha v]
        simp [T.occ, or_assoc]
      · cases h
    | _ => simp [mtch] at h
  | _ => intro u m h v; cases u <;> simp_all [mtch, T.occ]
theorem mtch_mono (t : T) : ∀ (u : T) (m : List (Int × T)) (v : Int) (x : T), tlook v m = some x → tlook v (mtch t u m).2 = some x := by
  induction t with
  | var n =>
    intro u m v x h
    simp only [mtch]
    split
    · exact h
    · rw [tlook_app, h]
  | pair a b iha ihb =>
    intro u m v x h
    cases u with
    | pair c d =>
      simp only [mtch]
      split
      · exact ihb d _ v x (iha c m v x h)
      · exact iha c m v x h
    | _ => simpa [mtch] using h
  | _ => intro u m v x h; cases u <;> simpa [mtch] using h
theorem mtch_sound (t : T) : ∀ (u : T) (m : List (Int × T)), (mtch t u m).1 = true → ∀ f : Int → Option T, (∀ v x, tlook v (mtch t u m).2 = some x → f v = some x) → t.sub f = u := by
  induction t with
  | var n =>
    intro u m h f hf
    simp only [mtch] at h hf
    split at h
    · rename_i x hx
      simp only [hx] at hf
      have := hf n x hx
      simp only [T.sub, this]
      simpa using h
    · rename_i hx
      simp only [hx] at hf
      have := hf n u (by rw [tlook_app, hx]; simp [tlook])
      simp only [T.sub, this]
  | pair a b iha ihb =>
    intro u m h f hf
    cases u with
    | pair c d =>
      simp only [mtch] at h hf
      split at h
      · rename_i ha
        rw [if_pos ha] at hf
        simp only [T.sub]
        rw [ihb d _ h f hf, iha c m ha f fun v x hx => hf v x (mtch_mono b d _ v x hx)]
      · cases h
    | _ => simp [mtch] at h
  | _ => intro u m h f hf; cases u <;> simp_all [mtch, T.sub]
theorem mtch_vals (t : T) : ∀ (u : T) (m : List (Int × T)) (y : Int × T), y ∈ (mtch t u m).2 → y ∈ m ∨ (y.2.size ≤ u.size ∧ (u.ok = true → y.2.ok = true)) := by
  induction t with
  | var n =>
    intro u m y hy
    simp only [mtch] at hy
    split at hy
    · exact .inl hy
    · simp at hy
      rcases hy with hy | rfl
      · exact .inl hy
      · exact .inr ⟨Nat.le_refl _, id⟩
  | pair a b iha ihb =>
    intro u m y hy
    cases u with
    | pair c d =>
      simp only [mtch] at hy
      have h1 : y ∈ (mtch a c m).2 → y ∈ m ∨ (y.2.size ≤ (T.pair c d).size ∧ ((T.pair c d).ok = true → y.2.ok = true)) := fun h => by
        rcases iha c m y h with h | ⟨h1, h2⟩
        · exact .inl h
        · exact .inr ⟨by simp only [T.size]; omega, fun h => h2 (by simp [T.ok] at h; exact h.1)⟩
      split at hy
      · rcases ihb d _ y hy with h | ⟨h3, h4⟩
        · exact h1 h
        · exact .inr ⟨by simp only [T.size]; omega, fun h => h4 (by simp [T.ok] at h; exact h.2)⟩
      · exact h1 hy
    | _ => simp [mtch] at hy; exact .inl hy
  | _ => intro u m y hy; cases u <;> (simp [mtch] at hy; exact .inl hy)
/- The bindings in order. -/
theorem sortB_perm' (l : List Bd) : (sortB l).Perm l := List.mergeSort_perm l _
theorem sortB_asc {l : List Bd} (hd : (l.map (·.v)).Nodup) : Asc (sortB l) := by
  have ht : ∀ a b c : Bd, (decide (a.v ≤ b.v)) = true → (decide (b.v ≤ c.v)) = true → (decide (a.v ≤ c.v)) = true := by intro a b c; simp; omega
  have hto : ∀ a b : Bd, (decide (a.v ≤ b.v) || decide (b.v ≤ a.v)) = true := by intro a b; simp; omega
  have h1 : (sortB l).Pairwise fun x y => x.v ≤ y.v := (List.pairwise_mergeSort ht hto l).imp (by simp)
  have h2 : ((sortB l).map (·.v)).Nodup := (((sortB_perm' l).map _).nodup_iff).2 hd
  have h3 : (sortB l).Pairwise fun x y => x.v ≠ y.v := by
    rw [List.nodup_iff_pairwise_ne, List.pairwise_map] at h2
    exact h2
  exact (h1.and h3).imp fun ⟨a, b⟩ => by omega
theorem bget_mem {l : List Bd} (hs : Asc l) {b : Bd} (hb : b ∈ l) : bget l b.v = some b.t := by
  induction l with
  | nil => cases hb
  | cons a r ih =>
    simp only [Asc, List.pairwise_cons] at hs
    simp only [bget, List.find?_cons]
    rcases List.mem_cons.1 hb with rfl | hb
    · simp
    · have := hs.1 b hb
      have hne : (a.v == b.v) = false := by simp; omega
      rw [hne]
      exact ih hs.2 hb
theorem bget_sort {m : List (Int × T)} (hd : (m.map (·.1)).Nodup) {v : Int} {x : T} (hx : tlook v m = some x) : bget (sortB (m.map toB)) v = some x := by
  have hd' : ((m.map toB).map (·.v)).Nodup := by simpa [toB, Function.comp_def] using hd
  have : (⟨v, x⟩ : Bd) ∈ sortB (m.map toB) := (sortB_perm' _).mem_iff.2 (List.mem_map.2 ⟨(v, x), tlook_mem hx, rfl⟩)
  exact bget_mem (sortB_asc hd') this
theorem valsOk_of {l : List Bd} (hs : Asc l) (hl : l.length ≤ 400) (h : ∀ b ∈ l, (0 ≤ b.v ∧ b.v ≤ 100000) ∧ b.t.fit = true) : valsOk l = true := by
  unfold valsOk
  simp only [decide_eq_true_eq]
  refine ⟨by simpa using hl, fun i hi b hb => ?_⟩
  simp only [List.getElem?_map, Option.map_eq_some_iff] at hb
  obtain ⟨b', hb', rfl⟩ := hb
  have hm := h b' (List.mem_of_getElem? hb')
  refine ⟨hm.1, fun c h0 hc => ?_, by rw [show b'.b.t = b'.t.tm from rfl, Tm.fits_T]; exact hm.2⟩
  simp only [List.getElem?_map, Option.map_eq_some_iff] at hc
  obtain ⟨c', hc', rfl⟩ := hc
  obtain ⟨h1, rfl⟩ := List.getElem?_eq_some_iff.1 hb'
  obtain ⟨h2, rfl⟩ := List.getElem?_eq_some_iff.1 hc'
  exact List.pairwise_iff_getElem.1 hs (i - 1) i h2 h1 (by omega)
/- Sizes. -/
theorem sub_size {f : Int → Option T} {B : Nat} (hB : 1 ≤ B) (t : T) (h : ∀ v x, t.occ v = true → f v = some x → x.size ≤ B) : (t.sub f).size ≤ t.size * B := by
  induction t with
  | var n =>
    simp only [T.sub]
    split
    · rename_i x hx; have := h n x (by simp [T.occ]) hx; simp [T.size]; exact this
    · simp [T.size]; exact hB
  | pair a b iha ihb =>
    have h1 := iha fun v x hv => h v x (by simp [T.occ, hv])
    have h2 := ihb fun v x hv => h v x (by simp [T.occ, hv])
    simp only [T.sub, T.size, Nat.add_mul]
    omega
  | _ => simp [T.sub, T.size]; exact hB
theorem sub_ok {f : Int → Option T} (t : T) (ht : t.ok = true) (h : ∀ v x, t.occ v = true → f v = some x → x.ok = true) : (t.sub f).ok = true := by
  induction t with
  | var n =>
    simp only [T.sub]
    split
    · rename_i x hx; exact h n x (by simp [T.occ]) hx
    · exact ht
  | pair a b iha ihb =>
    simp only [T.ok, Bool.and_eq_true] at ht
    simp only [T.sub, T.ok, Bool.and_eq_true]
    exact ⟨iha ht.1 fun v x hv => h v x (by simp [T.occ, hv]), ihb ht.2 fun v x hv => h v x (by simp [T.occ, hv])⟩
  | _ => exact ht
/-- The size that is foreseen is the size. -/
theorem sizeW_eq {l : List Bd} (hs : Asc l) (t : T) (h : ∀ b ∈ l, b.t.fit = true) (hz : (t.sub (bget l)).size ≤ 5000) : sizeW (fsz l) t = (t.sub (bget l)).size := by
  have hfs : ∀ v, fsz l v = match bget l v with | some x => (x.size : Int) | none => 1 := by
    intro v
    unfold fsz
    rw [pget_eq hs]
    cases hb : bget l v with
    | none => rfl
    | some x =>
      simp only
      have : ∃ b ∈ l, b.t = x := by
        unfold bget at hb
        simp only [Option.map_eq_some_iff] at hb
        obtain ⟨b, h1, h2⟩ := hb
        exact ⟨b, List.mem_of_find?_eq_some h1, h2⟩
      obtain ⟨b, h1, rfl⟩ := this
      have := h b h1
      simp only [T.fit, Bool.and_eq_true, decide_eq_true_eq] at this
      rw [nodes_T, if_pos ⟨this.1, by omega⟩]
  induction t with
  | var n =>
    simp only [T.sub] at hz ⊢
    simp only [sizeW, hfs]
    cases hb : bget l n with
    | none => simp [T.size]
    | some x => simp only [hb] at hz ⊢; rw [if_neg (by omega)]
  | pair a b iha ihb =>
    simp only [T.sub, T.size] at hz ⊢
    simp only [sizeW]
    rw [iha (by omega), ihb (by omega), if_neg (by omega), if_neg (by omega)]
    omega
  | _ => simp [sizeW, T.sub, T.size]
theorem putOk_of {l : List Bd} (hs : Asc l) (t : T) (h : ∀ b ∈ l, b.t.fit = true) (hz : (t.sub (bget l)).size ≤ 5000) : putOk l t = true := by
  unfold putOk
  rw [sizeW_eq hs t h hz]
  simp only [decide_eq_true_eq]
  omega
theorem putT_eq {l : List Bd} (hs : Asc l) (t : T) : putT l t = t.sub (bget l) := sub_congr t fun v _ => pget_eq hs v
/- The variables of a term. -/
theorem fold_mem (t : T) : ∀ (l : List Int) (v : Int), v ∈ t.fold addV l ↔ v ∈ l ∨ t.occ v = true := by
  induction t with
  | var n =>
    intro l v
    simp only [T.fold, addV, T.occ, beq_iff_eq]
    split
    · rename_i h
      constructor
      · exact .inl
      · rintro (h' | rfl)
        · exact h'
        · exact h
    · simp only [List.mem_append, List.mem_singleton]
      exact or_congr Iff.rfl eq_comm
  | pair a b iha ihb => intro l v; simp only [T.fold, ihb, iha, T.occ, Bool.or_eq_true, or_assoc]
  | _ => intro l v; simp [T.fold, T.occ]
theorem fold_nodup (t : T) : ∀ (l : List Int), l.Nodup → (t.fold addV l).Nodup := by
  induction t with
  | var n =>
    intro l h
    simp only [T.fold, addV]
    split
    · exact h
    · rename_i hn
      rw [List.nodup_append]
      refine ⟨h, by simp, ?_⟩
      intro a ha b hb e
      simp at hb
      subst hb e
      exact hn ha
  | pair a b iha ihb => intro l h; exact ihb _ (iha _ h)
  | _ => intro l h; exact h
theorem tvars_len {t u : T} (ht : t.fit = true) (h : (mtch t u []).1 = true) : (tvars t).length = (mtch t u []).2.length := by
  unfold tvars
  rw [if_pos ht, sortI_length]
  have h1 := fold_nodup t [] (by simp)
  have h2 := mtch_nodup t u [] (by simp)
  have : (t.fold addV []).Perm ((mtch t u []).2.map (·.1)) := (List.perm_ext_iff_of_nodup h1 h2).2 fun v => by rw [fold_mem, mtch_keys t u [] h]; simp
  simpa using this.length_eq
end Go.Proofs.YtchidkafcdmciaaGreat
/- Plain laws: what FnMatching asks. -/
set_option linter.all false
namespace Go.Proofs.YtchidkafcdmciaaGreat
open Go Go.Pv

theorem ok_occ {t : T} (ht : t.ok = true) {v : Int} (hv : t.occ v = true) : 0 ≤ v ∧ v ≤ 100000 := by
  induction t with
  | var n => simp [T.ok, T.occ] at ht hv; omega
  | pair a b iha ihb =>
    simp only [T.ok, Bool.and_eq_true] at ht
    simp only [T.occ, Bool.or_eq_true] at hv
    rcases hv with hv | hv
    · exact iha ht.1 hv
    · exact ihb ht.2 hv
  | _ => simp [T.occ] at hv
structure MF (t u : T) : Prop where
  ok : mOk t u = true
  asc : Asc (mBs t u)
  vals : valsOk (mBs t u) = true
  inst : instOk t (mBs t u) = true
  put : putT (mBs t u) t = u
  len : (mBs t u).length = (tvars t).length
theorem match_facts {t u : T} (ht : t.fit = true) (hz : t.size ≤ 400) (hu : u.fit = true) (hm : (mtch t u []).1 = true) : MF t u := by
  have hlen := mtch_len t u []
  simp only [List.length_nil, Nat.zero_add] at hlen
  have hnd := mtch_nodup t u [] (by simp)
  have hok : mOk t u = true := by simp [mOk, ht, hu, hm]; omega
  have hbs : mBs t u = sortB ((mtch t u []).2.map toB) := by simp [mBs, hok]
  have hnd' : (((mtch t u []).2.map toB).map (·.v)).Nodup := by simpa [toB, Function.comp_def] using hnd
  have hasc : Asc (mBs t u) := by rw [hbs]; exact sortB_asc hnd'
  have hu' : u.ok = true ∧ u.size ≤ 5000 := by simpa [T.fit] using hu
  have ht' : t.ok = true ∧ t.size ≤ 5000 := by simpa [T.fit] using ht
  have hmem : ∀ b ∈ mBs t u, (b.v, b.t) ∈ (mtch t u []).2 := by
    intro b hb
    rw [hbs] at hb
    have := (sortB_perm' _).mem_iff.1 hb
    obtain ⟨y, h1, rfl⟩ := List.mem_map.1 this
    exact h1
  have hfit : ∀ b ∈ mBs t u, b.t.fit = true := by
    intro b hb
    rcases mtch_vals t u [] _ (hmem b hb) with h | ⟨h1, h2⟩
    · cases h
    · simp only [T.fit, Bool.and_eq_true, decide_eq_true_eq]
      exact ⟨h2 hu'.1, by simp only at h1; omega⟩
  have hv : ∀ b ∈ mBs t u, 0 ≤ b.v ∧ b.v ≤ 100000 := by
    intro b hb
    have h1 : b.v ∈ (mtch t u []).2.map (·.1) := List.mem_map.2 ⟨_, hmem b hb, rfl⟩
    rw [mtch_keys t u [] hm] at h1
    rcases h1 with h1 | h1
    · simp at h1
    · exact ok_occ ht'.1 h1
  have hll : (mBs t u).length = (mtch t u []).2.length := by rw [hbs, sortB_length]; simp
  have hvals := valsOk_of hasc (by omega) fun b hb => ⟨hv b hb, hfit b hb⟩
  have hsub : t.sub (bget (mBs t u)) = u := mtch_sound t u [] hm _ fun v x hx => by rw [hbs]; exact bget_sort hnd hx
  refine ⟨hok, hasc, hvals, ?_, by rw [putT_eq hasc, hsub], by rw [hll, tvars_len ht hm]⟩
  simp [instOk, ht, hvals, putOk_of hasc t hfit (by rw [hsub]; exact hu'.2)]
/-- What IsInstance says. -/
def isI (t u : T) : Bool := t.fit && u.fit && (mtch t u []).1 && decide (((mtch t u []).2.filter says).length ≤ 400)
theorem isI_eq {t u : T} (hz : t.size ≤ 400) : isI t u = mOk t u := by
  have hlen := mtch_len t u []
  simp only [List.length_nil, Nat.zero_add] at hlen
  have h1 := List.length_filter_le says (mtch t u []).2
  unfold isI mOk
  have e1 : decide (((mtch t u []).2.filter says).length ≤ 400) = true := by simp; omega
  have e2 : decide ((mtch t u []).2.length ≤ 400) = true := by simp; omega
  rw [e1, e2]
theorem groundB_get : ∀ (n i : Nat) (c : Cur) (k : Nat) (b : Bd), (groundB n i c)[k]? = some b → b.v = (i + k : Nat) ∧ b.t.ok = true ∧ b.t.size ≤ 5
  | 0, _, _, _, _, h => by simp [groundB] at h
  | n + 1, i, c, 0, b, h => by
    simp [groundB] at h
    subst h
    obtain ⟨d1, _, d3⟩ := drawT_fit 0 (by omega) 3 c
    exact ⟨by simp, d1, by simpa using d3⟩
  | n + 1, i, c, k + 1, b, h => by
    simp only [groundB, List.getElem?_cons_succ] at h
    have := groundB_get n (i + 1) _ k b h
    exact ⟨by rw [this.1]; congr 1; omega, this.2⟩
theorem groundB_asc (n : Nat) (c : Cur) : Asc (groundB n 0 c) := by
  unfold Asc
  rw [List.pairwise_iff_getElem]
  intro i j hi hj hij
  have h1 := groundB_get n 0 c i _ (List.getElem?_eq_getElem hi)
  have h2 := groundB_get n 0 c j _ (List.getElem?_eq_getElem hj)
  rw [h1.1, h2.1]
  omega
/-- All that FnMatching asks of its first part. -/
structure LM (t : T) (g : List Bd) : Prop where
  tfit : t.fit = true
  tsz : t.size ≤ 15
  occ : ∀ v, t.occ v = true → 0 ≤ v ∧ v < 4
  inst : instOk t g = true
  put : putT g t = t.sub (bget g)
  ifit : (t.sub (bget g)).ok = true ∧ (t.sub (bget g)).size ≤ 75
  mf : MF t (t.sub (bget g))
  elem : ∀ b ∈ mBs t (t.sub (bget g)), (0 ≤ b.v ∧ b.v < 4) ∧ t.occ b.v = true ∧ ∃ x, g[b.v.toNat]? = some x ∧ b.t = x.t
theorem law_facts (c c' : Cur) : LM (drawT 8 4 c).1 (groundB 4 0 c') := by
  obtain ⟨d1, d2, d3⟩ := drawT_fit 4 (by omega) 8 c
  generalize (drawT 8 4 c).1 = t at *
  have hg := groundB_get 4 0 c'
  have hga := groundB_asc 4 c'
  have hgl := groundB_len 4 0 c'
  generalize groundB 4 0 c' = g at *
  have hts : t.size ≤ 15 := by simpa using d3
  have htf : t.fit = true := by simp only [T.fit, Bool.and_eq_true, decide_eq_true_eq]; exact ⟨d1, by omega⟩
  have hgm : ∀ b ∈ g, (0 ≤ b.v ∧ b.v ≤ 100000) ∧ b.t.ok = true ∧ b.t.size ≤ 5 := by
    intro b hb
    obtain ⟨k, hk, rfl⟩ := List.mem_iff_getElem.1 hb
    have := hg k _ (List.getElem?_eq_getElem hk)
    exact ⟨by rw [this.1]; omega, this.2⟩
  have hgf : ∀ b ∈ g, b.t.fit = true := fun b hb => by
    have := hgm b hb
    simp only [T.fit, Bool.and_eq_true, decide_eq_true_eq]
    exact ⟨this.2.1, by omega⟩
  have hbg : ∀ v x, bget g v = some x → x.ok = true ∧ x.size ≤ 5 := by
    intro v x hx
    unfold bget at hx
    simp only [Option.map_eq_some_iff] at hx
    obtain ⟨b, h1, rfl⟩ := hx
    exact (hgm b (List.mem_of_find?_eq_some h1)).2
  have hio : (t.sub (bget g)).ok = true := sub_ok t d1 fun v x _ hx => (hbg v x hx).1
  have his : (t.sub (bget g)).size ≤ 75 := by
    have := sub_size (f := bget g) (B := 5) (by omega) t fun v x _ hx => (hbg v x hx).2
    omega
  have hif : (t.sub (bget g)).fit = true := by simp only [T.fit, Bool.and_eq_true, decide_eq_true_eq]; exact ⟨hio, by omega⟩
  have hms := mtch_sub (bget g) t [] (by simp [tlook])
  have hmf := match_facts htf (by omega) hif hms.1
  refine ⟨htf, hts, d2, ?_, putT_eq hga t, ⟨hio, his⟩, hmf, fun b hb => ?_⟩
  · have h1 := valsOk_of hga (by omega) fun b hb => ⟨(hgm b hb).1, hgf b hb⟩
    simp [instOk, htf, h1, putOk_of hga t hgf (by omega)]
  · have hbs : mBs t (t.sub (bget g)) = sortB ((mtch t (t.sub (bget g)) []).2.map toB) := by simp [mBs, hmf.ok]
    rw [hbs] at hb
    have := (sortB_perm' _).mem_iff.1 hb
    obtain ⟨y, h1, rfl⟩ := List.mem_map.1 this
    have hnd := mtch_nodup t (t.sub (bget g)) [] (by simp)
    have hk : y.1 ∈ (mtch t (t.sub (bget g)) []).2.map (·.1) := List.mem_map.2 ⟨_, h1, rfl⟩
    rw [mtch_keys t _ [] hms.1] at hk
    have hocc : t.occ y.1 = true := by rcases hk with h | h; simp at h; exact h
    have hb4 := d2 _ hocc
    have hy := hms.2 y.1 y.2 (mem_tlook hnd h1)
    have hgi : g[y.1.toNat]? = some g[y.1.toNat] := List.getElem?_eq_getElem (by omega)
    have hgv := (hg _ _ hgi).1
    have hbget : bget g y.1 = some g[y.1.toNat].t := by
      have := bget_mem hga (b := g[y.1.toNat]) (by simp)
      rw [hgv] at this
      rw [← this]
      congr 1
      omega
    exact ⟨hb4, hocc, _, hgi, by simp only [toB]; rw [hy, hbget]; rfl⟩
end Go.Proofs.YtchidkafcdmciaaGreat
/- The law FnMatching. -/
set_option linter.all false
namespace Go.Proofs.YtchidkafcdmciaaGreat
open Go Go.Pv

theorem v_isI (t u : T) : FnV Tryz.prog 13 [u.e, t.e] (.bool (isI t u)) := v_IsInstance u t
def tC (t : T) : List PV := [.int .i64 t.kind, .int .i64 t.int, .str t.name, .slice 4 .no (t.args.map T.e)]
def invFM (d : List Int) (t u : T) (g l : List Bd) (k : Nat) (st : St) : Prop :=
  ∃ i : Nat, i ≤ l.length ∧ k = l.length - i ∧ st = ⟨[(0, .slice 1 .no (bytesE d)), (3, .ptr (.loc 0) 0), (4, .slice 5 .no (g.map Bd.e)), (5, .ptr (.loc 1) 0), (7, .slice 5 .no (l.map Bd.e)), (60, .slice 5 .no (l.map Bd.e)), (61, .int .i64 l.length), (62, .int .i64 i)],
    [(.loc 0, [.int .i64 t.kind, .int .i64 t.int, .str t.name, .slice 4 .no (t.args.map T.e)]), (.loc 1, [.int .i64 u.kind, .int .i64 u.int, .str u.name, .slice 4 .no (u.args.map T.e)])], [], 2, []⟩
set_option maxHeartbeats 2000000 in
set_option maxRecDepth 4000 in
theorem v_FnMatching (d : List Int) (hd : byteOk d) : FnV Tryz.prog 4 [.slice 1 .no (bytesE d)] (.bool true) := by
  by_cases hbig : 1048576 < d.length
  · refine FnV.mk mixed tysok f_laws_FnMatching ok_laws_FnMatching (by simp) (by simp [kin]) fun hbnd => ?_; unfold c_laws_FnMatching
    simp
    (repeat' first | (with_reducible refine evCd_split (fun h => ?_) (fun h => ?_) <;> (try simp at h)) | (with_reducible refine evGd_split (fun h => ?_) (fun h => ?_) <;> (try simp at h)) | (with_reducible refine evDd_split (fun h => ?_) (fun h => ?_) <;> (try simp at h)) | with_reducible refine And.intro (by (first | omega | (unfold in64; omega))) ?_ | simp)
    · simp [RetV, r_laws_FnMatching, resL, resV, tup]
    · omega
  · have hl : d.length ≤ 10000000 := by omega
    have hlm := law_facts (curAt d 0) (curAt d 20)
    have hgl := groundB_len 4 0 (curAt d 20)
    have hT : FnV Tryz.prog 8 [.slice 1 .no (bytesE d), .int .i64 0, .int .i64 8, .int .i64 4] (drawT 8 4 (curAt d 0)).1.e := v_MakeTerm d hd hl 0 (by omega) 8 (by omega) 4 (by omega)
    have hG : FnV Tryz.prog 19 [.slice 1 .no (bytesE d), .int .i64 20, .int .i64 4] (.slice 5 .no ((groundB 4 0 (curAt d 20)).map Bd.e)) := v_MakeGround d hd hl 20 (by omega) 4 (by omega)
    generalize (drawT 8 4 (curAt d 0)).1 = t at *
    generalize groundB 4 0 (curAt d 20) = g at *
    have hA : ∀ u : T, FnV Tryz.prog 24 [.slice 1 .no (bytesE d), .int .i64 40, u.e, .int .i64 3] (alikeT 3 u (curAt d 40)).1.e := fun u => v_MakeAlike d hd hl 40 (by omega) u 3 (by omega)
    have hisI : isI t (t.sub (bget g)) = true := by rw [isI_eq (by have := hlm.tsz; omega)]; exact hlm.mf.ok
    refine FnV.mk mixed tysok f_laws_FnMatching ok_laws_FnMatching (by simp) (by simp [kin]) fun hbnd => ?_; unfold c_laws_FnMatching
    simp
    (repeat' first | (with_reducible refine evCd_split (fun h => ?_) (fun h => ?_) <;> (try simp at h)) | (with_reducible refine evGd_split (fun h => ?_) (fun h => ?_) <;> (try simp at h)) | (with_reducible refine evDd_split (fun h => ?_) (fun h => ?_) <;> (try simp at h)) | with_reducible refine And.intro (by (first | omega | (unfold in64; omega))) ?_ | with_reducible refine CallDo.val (by simp) (hT) ?_ | with_reducible refine CallD.val (by simp) (hT) ?_ | with_reducible refine CallDo.val (by simp) (hG) ?_ | with_reducible refine CallD.val (by simp) (hG) ?_ | with_reducible refine CallDo.val (by simp) (v_Instantiate _ _ (by omega)) ?_ | with_reducible refine CallD.val (by simp) (v_Instantiate _ _ (by omega)) ?_ | with_reducible refine CallDo.val (by simp) (v_MatchTerm _ _) ?_ | with_reducible refine CallD.val (by simp) (v_MatchTerm _ _) ?_ | with_reducible refine CallDo.val (by simp) (v_same _ _) ?_ | with_reducible refine CallD.val (by simp) (v_same _ _) ?_ | with_reducible refine CallDo.val (by simp) (v_isI _ _) ?_ | with_reducible refine CallD.val (by simp) (v_isI _ _) ?_ | with_reducible refine CallDo.val (by simp) (v_ValuesOkB _) ?_ | with_reducible refine CallD.val (by simp) (v_ValuesOkB _) ?_ | with_reducible refine CallDo.val (by simp) (v_MakeValue _ (by omega) _) ?_ | with_reducible refine CallD.val (by simp) (v_MakeValue _ (by omega) _) ?_ | simp [hlm.inst, hlm.put, hlm.mf.ok, hlm.mf.vals, hisI])
    · omega
    · obtain ⟨u0, hu0⟩ : ∃ u0, u0 = t.sub (bget g) := ⟨_, rfl⟩
      have hmf := hlm.mf
      have helem := hlm.elem
      have hifit := hlm.ifit
      have htfit := hlm.tfit
      have htsz := hlm.tsz
      clear hlm
      rw [← hu0] at hmf helem hifit hisI ⊢
      refine evC_loop (invFM d t u0 g (mBs t u0)) (mBs t u0).length _ ⟨by simp [fresh, kinL, kin, iterE, inObs, Pv.look], subB_of (by simp [fresh, kinL, kin, iterE, inObs, Pv.look]), subE_of (by simp [fresh, kinL, kin, kinO, inObs, Pv.look]), by simp⟩ ⟨0, by omega, by omega, rfl⟩ ?_
      rintro k st ⟨i, hi, hk, rfl⟩ hbt hbb
      clear hbt hbb
      have hml : (mBs t u0).length ≤ 400 := by
        have h1 := hmf.vals
        simp only [valsOk, decide_eq_true_eq] at h1
        have := h1.1
        simpa using this
      by_cases hlt : i < (mBs t u0).length
      · obtain ⟨b, hb⟩ : ∃ b, b = (mBs t u0)[i] := ⟨_, rfl⟩
        obtain ⟨⟨hv0, hv1⟩, hoc, x, hgx, hbt⟩ := helem b (by rw [hb]; simp)
        have hbi : ∀ h, (mBs t u0)[i]'h = b := fun h => hb.symm
        have hgi : b.v.toNat < g.length := by omega
        have hgx' : ∀ h, g[b.v.toNat]'h = x := fun h => by rw [List.getElem?_eq_getElem h] at hgx; simpa using hgx
        have hn1 : ¬b.v < 0 := by omega
        have hn2 : ¬3 < b.v := by omega
        simp [hlt, hbi, hn1, hn2, hv0, hgx, hbt, hgl]
        (repeat' first | (with_reducible refine evCd_split (fun h => ?_) (fun h => ?_) <;> (try simp at h)) | (with_reducible refine evGd_split (fun h => ?_) (fun h => ?_) <;> (try simp at h)) | (with_reducible refine evDd_split (fun h => ?_) (fun h => ?_) <;> (try simp at h)) | with_reducible refine And.intro (by (first | omega | (unfold in64; omega))) ?_ | with_reducible refine CallDo.val (by simp) (v_same _ _) ?_ | with_reducible refine CallD.val (by simp) (v_same _ _) ?_ | with_reducible refine CallDo.val (by simp) (v_OccursIn _ _) ?_ | with_reducible refine CallD.val (by simp) (v_OccursIn _ _) ?_ | simp [hgx, hbt, hoc, htfit])
        refine LoopQ.next ((mBs t u0).length - (i + 1)) (by omega) ⟨i + 1, by omega, rfl, rfl⟩ ⟨by simp [fresh, kinL, kin, iterE, inObs, Pv.look], subB_of (by simp [fresh, kinL, kin, iterE, inObs, Pv.look]), subE_of (by simp [fresh, kinL, kin, kinO, inObs, Pv.look]), by simp⟩
      · have hau := alikeT_fit 3 (by omega) u0 hifit.1 (curAt d 40)
        have hA' := hA u0
        generalize (alikeT 3 u0 (curAt d 40)).1 = u1 at hA' hau
        have hu1 : u1.fit = true := by simp only [T.fit, Bool.and_eq_true, decide_eq_true_eq]; exact ⟨hau.1, by omega⟩
        have hisI1 : isI t u1 = mOk t u1 := isI_eq (by omega)
        have hvars := v_TermVars t
        have hlen := hmf.len
        cases hok : mOk t u1 with
        | true =>
          have hm1 : (mtch t u1 []).1 = true := by simp [mOk] at hok; exact hok.1.2
          have hmf1 := match_facts htfit (by omega) hu1 hm1
          have hml1 : (mBs t u1).length ≤ 1000000 := by
            have h1 := hmf1.vals
            simp only [valsOk, decide_eq_true_eq] at h1
            have := h1.1
            simp at this
            omega
          simp [hlt]
          (repeat' first | (with_reducible refine evCd_split (fun h => ?_) (fun h => ?_) <;> (try simp at h)) | (with_reducible refine evGd_split (fun h => ?_) (fun h => ?_) <;> (try simp at h)) | (with_reducible refine evDd_split (fun h => ?_) (fun h => ?_) <;> (try simp at h)) | with_reducible refine And.intro (by (first | omega | (unfold in64; omega))) ?_ | with_reducible refine CallDo.val (by simp) (hA') ?_ | with_reducible refine CallD.val (by simp) (hA') ?_ | with_reducible refine CallDo.val (by simp) (v_MatchTerm _ _) ?_ | with_reducible refine CallD.val (by simp) (v_MatchTerm _ _) ?_ | with_reducible refine CallDo.val (by simp) (v_Instantiate _ _ hml1) ?_ | with_reducible refine CallD.val (by simp) (v_Instantiate _ _ hml1) ?_ | with_reducible refine CallDo.val (by simp) (hvars) ?_ | with_reducible refine CallD.val (by simp) (hvars) ?_ | with_reducible refine CallDo.val (by simp) (v_same _ _) ?_ | with_reducible refine CallD.val (by simp) (v_same _ _) ?_ | with_reducible refine CallDo.val (by simp) (v_isI _ _) ?_ | with_reducible refine CallD.val (by simp) (v_isI _ _) ?_ | simp [hok, hmf1.inst, hmf1.put, hisI1, hlen])
          simp [RetV, r_laws_FnMatching, resL, resV, tup]
        | false =>
          have hbs : mBs t u1 = [] := by simp [mBs, hok]
          simp [hlt]
          (repeat' first | (with_reducible refine evCd_split (fun h => ?_) (fun h => ?_) <;> (try simp at h)) | (with_reducible refine evGd_split (fun h => ?_) (fun h => ?_) <;> (try simp at h)) | (with_reducible refine evDd_split (fun h => ?_) (fun h => ?_) <;> (try simp at h)) | with_reducible refine And.intro (by (first | omega | (unfold in64; omega))) ?_ | with_reducible refine CallDo.val (by simp) (hA') ?_ | with_reducible refine CallD.val (by simp) (hA') ?_ | with_reducible refine CallDo.val (by simp) (v_MatchTerm _ _) ?_ | with_reducible refine CallD.val (by simp) (v_MatchTerm _ _) ?_ | with_reducible refine CallDo.val (by simp) (v_Instantiate _ [] (by simp)) ?_ | with_reducible refine CallD.val (by simp) (v_Instantiate _ [] (by simp)) ?_ | with_reducible refine CallDo.val (by simp) (hvars) ?_ | with_reducible refine CallD.val (by simp) (hvars) ?_ | with_reducible refine CallDo.val (by simp) (v_same _ _) ?_ | with_reducible refine CallD.val (by simp) (v_same _ _) ?_ | with_reducible refine CallDo.val (by simp) (v_isI _ _) ?_ | with_reducible refine CallD.val (by simp) (v_isI _ _) ?_ | simp [hok, hbs, hisI1, hlen])
          all_goals simp [RetV, r_laws_FnMatching, resL, resV, tup]
end Go.Proofs.YtchidkafcdmciaaGreat
/- made by mk2.py: the code of the functions, and the checks against the program's own form. -/
set_option linter.all false
namespace Go.Proofs.YtchidkafcdmciaaGreat
open Go Go.Pv
/-- laws.FnGround -/
def c_laws_FnGround : C :=
  (.seq (.region [⟨none, .s (.v 2 (.mov (.c (.bool false))))⟩])
  (.seq (.seq (.region [⟨none, .s (.v 16 (.mov (.t 0)))⟩,
    ⟨none, .s (.v 17 (.len (.t 16)))⟩,
    ⟨none, .s (.v 18 (.bin .gtr false (.t 17) (.c (.int .i64 1048576))))⟩])
  (.cond (.t 18)
    (.seq (.region [⟨none, .s (.v 2 (.mov (.c (.bool true))))⟩])
    .ret)
    .skip))
  (.seq (.region [⟨none, .s (.v 19 (.mov (.t 0)))⟩,
    ⟨none, .call (some 20) (.c (.func 7 [])) [(.t 19), (.c (.int .i64 0)), (.c (.int .i64 3))]⟩,
    ⟨none, .s (.v 3 (.mov (.t 20)))⟩])
  (.seq (.region [⟨none, .s (.v 21 (.mov (.t 0)))⟩,
    ⟨none, .call (some 22) (.c (.func 8 [])) [(.t 21), (.c (.int .i64 20)), (.c (.int .i64 8)), (.c (.int .i64 3))]⟩,
    ⟨none, .s (.alloc 4 none (.agg [.int .i64 0, .int .i64 0, .str [], .slice 4 .nil []]))⟩,
    ⟨none, .s (.store 4 (.t 4) (.t 22))⟩])
  (.seq (.drawn true 125 [⟨none, .s (.v 23 (.load true 4 (.t 4)))⟩,
    ⟨none, .s (.v 24 (.build [.int .i64 0, .int .i64 0, .str [], .slice 4 .nil []] [(0, 1, (.c (.int .i64 1))), (1, 1, (.c (.int .i64 1)))]))⟩,
    ⟨none, .s (.v 25 (.build [.int .i64 0, .int .i64 0, .int .i64 0, .str [], .slice 4 .nil []] [(0, 1, (.c (.int .i64 0))), (1, 4, (.t 24))]))⟩,
    ⟨none, .s (.v 26 (.mov (.t 3)))⟩,
    ⟨none, .s (.v 27 (.iaddr 4 (.t 26) (.c (.int .i64 0))))⟩,
    ⟨none, .s (.v 28 (.load true 4 (.t 27)))⟩,
    ⟨none, .s (.v 29 (.build [.int .i64 0, .int .i64 0, .int .i64 0, .str [], .slice 4 .nil []] [(0, 1, (.c (.int .i64 2))), (1, 4, (.t 28))]))⟩,
    ⟨none, .s (.bsl 30 5 30 [(.t 25), (.t 29)])⟩,
    ⟨none, .call (some 31) (.c (.func 9 [])) [(.t 23), (.t 30)]⟩,
    ⟨none, .s (.alloc 5 none (.agg [.int .i64 0, .int .i64 0, .str [], .slice 4 .nil []]))⟩,
    ⟨none, .s (.store 4 (.t 5) (.t 31))⟩])
  (.seq (.region [⟨none, .s (.v 32 (.load true 4 (.t 4)))⟩,
    ⟨none, .s (.v 33 (.mov (.t 3)))⟩,
    ⟨none, .call (some 34) (.c (.func 10 [])) [(.t 32), (.t 33)]⟩,
    ⟨none, .s (.v 6 (.mov (.t 34)))⟩])
  (.seq (.region [⟨none, .s (.v 35 (.load true 4 (.t 5)))⟩,
    ⟨none, .s (.v 36 (.mov (.t 3)))⟩,
    ⟨none, .call (some 37) (.c (.func 10 [])) [(.t 35), (.t 36)]⟩,
    ⟨none, .s (.v 7 (.mov (.t 37)))⟩])
  (.seq (.seq (.region [⟨none, .s (.v 38 (.mov (.t 6)))⟩,
    ⟨none, .s (.v 39 (.len (.t 38)))⟩,
    ⟨none, .s (.v 40 (.bin .lss false (.t 39) (.c (.int .i64 1))))⟩,
    ⟨none, .s (.v 41 (.mov (.t 40)))⟩,
    ⟨(some (41, false)), .s (.v 42 (.mov (.t 7)))⟩,
    ⟨(some (41, false)), .s (.v 43 (.len (.t 42)))⟩,
    ⟨(some (41, false)), .s (.v 44 (.bin .lss false (.t 43) (.c (.int .i64 1))))⟩,
    ⟨none, .s (.v 45 (.pick (.t 41) (.c (.bool true)) (.t 44)))⟩,
    ⟨none, .s (.v 46 (.mov (.t 45)))⟩,
    ⟨(some (46, false)), .s (.v 47 (.mov (.t 6)))⟩,
    ⟨(some (46, false)), .s (.v 48 (.len (.t 47)))⟩,
    ⟨(some (46, false)), .s (.v 49 (.mov (.t 7)))⟩,
    ⟨(some (46, false)), .s (.v 50 (.len (.t 49)))⟩,
    ⟨(some (46, false)), .s (.v 51 (.bin .lss false (.t 48) (.t 50)))⟩,
    ⟨none, .s (.v 52 (.pick (.t 46) (.c (.bool true)) (.t 51)))⟩,
    ⟨none, .s (.v 53 (.mov (.t 52)))⟩,
    ⟨(some (53, false)), .s (.v 54 (.mov (.t 3)))⟩,
    ⟨(some (53, false)), .call (some 55) (.c (.func 11 [])) [(.t 54)]⟩,
    ⟨(some (53, false)), .s (.v 56 (.notB (.t 55)))⟩,
    ⟨none, .s (.v 57 (.pick (.t 53) (.c (.bool true)) (.t 56)))⟩])
  (.cond (.t 57)
    (.seq (.region [⟨none, .s (.v 2 (.mov (.c (.bool false))))⟩])
    .ret)
    .skip))
  (.seq (.seq (.region [⟨none, .s (.v 58 (.mov (.t 6)))⟩,
    ⟨none, .s (.v 59 (.len (.t 58)))⟩,
    ⟨none, .s (.v 60 (.mov (.c (.int .i64 0))))⟩])
  (.block 0 
    (.loop 
      (.seq (.region [⟨none, .s (.v 61 (.bin .lss false (.t 60) (.t 59)))⟩])
      (.seq (.cond (.t 61)
        .skip
        (.exit 0))
      (.seq (.block 1 
        (.seq (.region [⟨none, .s (.v 62 (.mov (.t 60)))⟩,
          ⟨none, .s (.v 63 (.iaddr 4 (.t 58) (.t 60)))⟩,
          ⟨none, .s (.v 64 (.load true 4 (.t 63)))⟩,
          ⟨none, .s (.alloc 9 none (.agg [.int .i64 0, .int .i64 0, .str [], .slice 4 .nil []]))⟩,
          ⟨none, .s (.v 8 (.mov (.t 62)))⟩,
          ⟨none, .s (.store 4 (.t 9) (.t 64))⟩])
        (.seq (.drawn true 125 [⟨none, .s (.v 65 (.load true 4 (.t 9)))⟩,
          ⟨none, .call (some 66) (.c (.func 12 [])) [(.t 65)]⟩,
          ⟨none, .s (.v 67 (.notB (.t 66)))⟩,
          ⟨none, .s (.v 68 (.mov (.t 67)))⟩,
          ⟨(some (68, false)), .s (.v 69 (.load true 4 (.t 9)))⟩,
          ⟨(some (68, false)), .s (.v 70 (.load true 4 (.t 4)))⟩,
          ⟨(some (68, false)), .call (some 71) (.c (.func 13 [])) [(.t 69), (.t 70)]⟩,
          ⟨(some (68, false)), .s (.v 72 (.notB (.t 71)))⟩,
          ⟨none, .s (.v 73 (.pick (.t 68) (.c (.bool true)) (.t 72)))⟩,
          ⟨none, .s (.v 74 (.mov (.t 73)))⟩,
          ⟨(some (74, false)), .s (.v 75 (.mov (.t 8)))⟩,
          ⟨(some (74, false)), .s (.v 76 (.bin .gtr false (.t 75) (.c (.int .i64 0))))⟩,
          ⟨(some (74, false)), .s (.v 77 (.mov (.t 76)))⟩,
          ⟨(some (77, true)), .s (.v 78 (.mov (.t 6)))⟩,
          ⟨(some (77, true)), .s (.v 79 (.mov (.t 8)))⟩,
          ⟨(some (77, true)), .s (.v 80 (.bin .sub false (.t 79) (.c (.int .i64 1))))⟩,
          ⟨(some (77, true)), .s (.v 81 (.iaddr 4 (.t 78) (.t 80)))⟩,
          ⟨(some (77, true)), .s (.v 82 (.load true 4 (.t 81)))⟩,
          ⟨(some (77, true)), .s (.v 83 (.load true 4 (.t 9)))⟩,
          ⟨(some (77, true)), .call (some 84) (.c (.func 14 [])) [(.t 82), (.t 83)]⟩,
          ⟨(some (77, true)), .s (.v 85 (.bin .geq false (.t 84) (.c (.int .i64 0))))⟩,
          ⟨(some (74, false)), .s (.v 86 (.pick (.t 77) (.t 85) (.c (.bool false))))⟩,
          ⟨none, .s (.v 87 (.pick (.t 74) (.c (.bool true)) (.t 86)))⟩])
        (.cond (.t 87)
          (.seq (.region [⟨none, .s (.v 2 (.mov (.c (.bool false))))⟩])
          .ret)
          .skip))))
      (.region [⟨none, .s (.v 88 (.bin .add false (.t 60) (.c (.int .i64 1))))⟩,
        ⟨none, .s (.v 60 (.mov (.t 88)))⟩])))))))
  (.seq (.seq (.region [⟨none, .s (.v 89 (.mov (.t 7)))⟩,
    ⟨none, .s (.v 90 (.len (.t 89)))⟩,
    ⟨none, .s (.v 91 (.mov (.c (.int .i64 0))))⟩])
  (.block 2 
    (.loop 
      (.seq (.region [⟨none, .s (.v 92 (.bin .lss false (.t 91) (.t 90)))⟩])
      (.seq (.cond (.t 92)
        .skip
        (.exit 2))
      (.seq (.block 3 
        (.seq (.region [⟨none, .s (.v 93 (.iaddr 4 (.t 89) (.t 91)))⟩,
          ⟨none, .s (.v 94 (.load true 4 (.t 93)))⟩,
          ⟨none, .s (.alloc 11 none (.agg [.int .i64 0, .int .i64 0, .str [], .slice 4 .nil []]))⟩,
          ⟨none, .s (.store 4 (.t 11) (.t 94))⟩])
        (.seq (.region [⟨none, .s (.v 12 (.mov (.c (.bool false))))⟩])
        (.seq (.seq (.region [⟨none, .s (.v 95 (.mov (.t 6)))⟩,
          ⟨none, .s (.v 96 (.len (.t 95)))⟩,
          ⟨none, .s (.v 97 (.mov (.c (.int .i64 0))))⟩])
        (.block 4 
          (.loop 
            (.seq (.region [⟨none, .s (.v 98 (.bin .lss false (.t 97) (.t 96)))⟩])
            (.seq (.cond (.t 98)
              .skip
              (.exit 4))
            (.seq (.block 5 
              (.seq (.region [⟨none, .s (.v 99 (.iaddr 4 (.t 95) (.t 97)))⟩,
                ⟨none, .s (.v 100 (.load true 4 (.t 99)))⟩,
                ⟨none, .s (.alloc 14 none (.agg [.int .i64 0, .int .i64 0, .str [], .slice 4 .nil []]))⟩,
                ⟨none, .s (.store 4 (.t 14) (.t 100))⟩])
              (.region [⟨none, .s (.v 101 (.mov (.t 12)))⟩,
                ⟨none, .s (.v 102 (.mov (.t 101)))⟩,
                ⟨(some (102, false)), .s (.v 103 (.load true 4 (.t 11)))⟩,
                ⟨(some (102, false)), .s (.v 104 (.load true 4 (.t 14)))⟩,
                ⟨(some (102, false)), .call (some 105) (.c (.func 15 [])) [(.t 103), (.t 104)]⟩,
                ⟨none, .s (.v 106 (.pick (.t 102) (.c (.bool true)) (.t 105)))⟩,
                ⟨none, .s (.v 12 (.mov (.t 106)))⟩])))
            (.region [⟨none, .s (.v 107 (.bin .add false (.t 97) (.c (.int .i64 1))))⟩,
              ⟨none, .s (.v 97 (.mov (.t 107)))⟩])))))))
        (.seq (.region [⟨none, .s (.v 108 (.mov (.t 12)))⟩,
          ⟨none, .s (.v 109 (.notB (.t 108)))⟩])
        (.cond (.t 109)
          (.seq (.region [⟨none, .s (.v 2 (.mov (.c (.bool false))))⟩])
          .ret)
          .skip))))))
      (.region [⟨none, .s (.v 110 (.bin .add false (.t 91) (.c (.int .i64 1))))⟩,
        ⟨none, .s (.v 91 (.mov (.t 110)))⟩])))))))
  (.seq (.region [⟨none, .s (.v 111 (.mov (.t 3)))⟩,
    ⟨none, .call (some 112) (.c (.func 16 [])) [(.t 111)]⟩,
    ⟨none, .s (.v 15 (.mov (.t 112)))⟩])
  (.seq (.region [⟨none, .s (.v 113 (.mov (.t 15)))⟩,
    ⟨none, .call (some 114) (.c (.func 16 [])) [(.t 113)]⟩,
    ⟨none, .s (.v 115 (.mov (.t 15)))⟩,
    ⟨none, .call (some 116) (.c (.func 17 [])) [(.t 114), (.t 115)]⟩,
    ⟨none, .s (.v 117 (.mov (.t 116)))⟩,
    ⟨(some (117, true)), .s (.v 118 (.mov (.t 3)))⟩,
    ⟨(some (117, true)), .call (some 119) (.c (.func 18 [])) [(.t 118), (.c (.int .i64 3))]⟩,
    ⟨(some (117, true)), .s (.v 120 (.len (.t 119)))⟩,
    ⟨(some (117, true)), .s (.v 121 (.mov (.t 3)))⟩,
    ⟨(some (117, true)), .s (.v 122 (.len (.t 121)))⟩,
    ⟨(some (117, true)), .s (.v 123 (.bin .geq false (.t 120) (.t 122)))⟩,
    ⟨none, .s (.v 124 (.pick (.t 117) (.t 123) (.c (.bool false))))⟩,
    ⟨none, .s (.v 2 (.mov (.t 124)))⟩])
  .ret))))))))))))
def r_laws_FnGround : List RV := [.tmp 2]

/-- spec.MakeUniverse -/
def c_spec_MakeUniverse : C :=
  (.seq (.region [⟨none, .s (.v 6 (.mov (.c (.slice 4 .nil []))))⟩])
  (.seq (.region [⟨none, .s (.v 7 (.mov (.t 0)))⟩,
    ⟨none, .s (.v 8 (.mov (.t 1)))⟩,
    ⟨none, .call (some 9) (.c (.func 50 [])) [(.t 7), (.t 8)]⟩,
    ⟨none, .s (.v 10 (.mov (.t 2)))⟩,
    ⟨none, .call (some 11) (.c (.func 49 [])) [(.t 9), (.t 10)]⟩,
    ⟨none, .s (.v 6 (.mov (.t 11)))⟩])
  .ret))
def r_spec_MakeUniverse : List RV := [.tmp 6]

/-- impl.GroundInstances -/
def c_impl_GroundInstances : C :=
  (.seq (.region [⟨none, .s (.box 2 none (.t 0))⟩,
    ⟨none, .s (.v 4 (.mov (.c (.slice 4 .nil []))))⟩])
  (.seq (.seq (.region [⟨none, .s (.v 11 (.load true 4 (.t 2)))⟩,
    ⟨none, .call (some 12) (.c (.func 54 [])) [(.t 11)]⟩,
    ⟨none, .s (.v 13 (.notB (.t 12)))⟩,
    ⟨none, .s (.v 14 (.mov (.t 13)))⟩,
    ⟨(some (14, false)), .s (.v 15 (.mov (.t 1)))⟩,
    ⟨(some (14, false)), .call (some 16) (.c (.func 11 [])) [(.t 15)]⟩,
    ⟨(some (14, false)), .s (.v 17 (.notB (.t 16)))⟩,
    ⟨none, .s (.v 18 (.pick (.t 14) (.c (.bool true)) (.t 17)))⟩])
  (.cond (.t 18)
    (.seq (.region [⟨none, .s (.v 4 (.mov (.c (.slice 4 .nil []))))⟩])
    .ret)
    .skip))
  (.seq (.region [⟨none, .s (.v 19 (.load true 4 (.t 2)))⟩,
    ⟨none, .call (some 20) (.c (.func 25 [])) [(.t 19)]⟩,
    ⟨none, .s (.v 5 (.mov (.t 20)))⟩])
  (.seq (.seq (.region [⟨none, .s (.v 21 (.mov (.t 1)))⟩,
    ⟨none, .s (.v 22 (.len (.t 21)))⟩,
    ⟨none, .s (.v 23 (.mov (.t 5)))⟩,
    ⟨none, .s (.v 24 (.len (.t 23)))⟩,
    ⟨none, .call (some 25) (.c (.func 55 [])) [(.t 22), (.t 24)]⟩,
    ⟨none, .s (.v 26 (.bin .gtr false (.t 25) (.c (.int .i64 512))))⟩])
  (.cond (.t 26)
    (.seq (.region [⟨none, .s (.v 4 (.mov (.c (.slice 4 .nil []))))⟩])
    .ret)
    .skip))
  (.seq (.region [⟨none, .s (.bsl 27 4 26 [])⟩,
    ⟨none, .s (.v 6 (.mov (.t 27)))⟩])
  (.seq (.seq (.region [⟨none, .s (.v 28 (.mov (.t 5)))⟩,
    ⟨none, .s (.v 29 (.mov (.t 1)))⟩,
    ⟨none, .call (some 30) (.c (.func 56 [])) [(.t 28), (.t 29)]⟩,
    ⟨none, .s (.v 31 (.len (.t 30)))⟩,
    ⟨none, .s (.v 32 (.mov (.c (.int .i64 0))))⟩])
  (.block 0 
    (.loop 
      (.seq (.region [⟨none, .s (.v 33 (.bin .lss false (.t 32) (.t 31)))⟩])
      (.seq (.cond (.t 33)
        .skip
        (.exit 0))
      (.seq (.block 1 
        (.seq (.region [⟨none, .s (.v 34 (.iaddr 1 (.t 30) (.t 32)))⟩,
          ⟨none, .s (.v 35 (.load false 1 (.t 34)))⟩,
          ⟨none, .s (.v 8 (.mov (.t 35)))⟩])
        (.seq (.region [⟨none, .s (.v 37 (.mov (.t 8)))⟩,
          ⟨none, .s (.v 38 (.load true 4 (.t 2)))⟩,
          ⟨none, .call (some 39) (.c (.func 57 [])) [(.t 37), (.t 38)]⟩,
          ⟨none, .s (.v 36 (.mov (.t 39)))⟩,
          ⟨none, .s (.v 40 (.ext 0 (.t 36)))⟩,
          ⟨none, .s (.v 41 (.ext 1 (.t 36)))⟩,
          ⟨none, .s (.alloc 9 none (.agg [.int .i64 0, .int .i64 0, .str [], .slice 4 .nil []]))⟩,
          ⟨none, .s (.store 4 (.t 9) (.t 40))⟩,
          ⟨none, .s (.v 10 (.mov (.t 41)))⟩])
        (.seq (.seq (.region [⟨none, .s (.v 42 (.mov (.t 10)))⟩,
          ⟨none, .s (.v 43 (.notB (.t 42)))⟩])
        (.cond (.t 43)
          (.seq (.region [⟨none, .s (.v 4 (.mov (.c (.slice 4 .nil []))))⟩])
          .ret)
          .skip))
        (.region [⟨none, .s (.v 44 (.mov (.t 6)))⟩,
          ⟨none, .s (.v 45 (.load true 4 (.t 9)))⟩,
          ⟨none, .s (.bsl 46 4 26 [(.t 45)])⟩,
          ⟨none, .s (.app 47 4 26 (.t 44) (.t 46))⟩,
          ⟨none, .s (.v 6 (.mov (.t 47)))⟩])))))
      (.region [⟨none, .s (.v 48 (.bin .add false (.t 32) (.c (.int .i64 1))))⟩,
        ⟨none, .s (.v 32 (.mov (.t 48)))⟩])))))))
  (.seq (.region [⟨none, .s (.v 49 (.mov (.t 6)))⟩,
    ⟨none, .call (some 50) (.c (.func 58 [])) [(.t 49)]⟩,
    ⟨none, .s (.v 4 (.mov (.t 50)))⟩])
  .ret)))))))
def r_impl_GroundInstances : List RV := [.tmp 4]

/-- impl.UniverseOk -/
def c_impl_UniverseOk : C :=
  (.seq (.region [⟨none, .s (.v 2 (.mov (.c (.bool false))))⟩])
  (.seq (.seq (.region [⟨none, .s (.v 5 (.mov (.t 0)))⟩,
    ⟨none, .s (.v 6 (.len (.t 5)))⟩,
    ⟨none, .s (.v 7 (.bin .lss false (.t 6) (.c (.int .i64 1))))⟩,
    ⟨none, .s (.v 8 (.mov (.t 7)))⟩,
    ⟨(some (8, false)), .s (.v 9 (.mov (.t 0)))⟩,
    ⟨(some (8, false)), .s (.v 10 (.len (.t 9)))⟩,
    ⟨(some (8, false)), .s (.v 11 (.bin .gtr false (.t 10) (.c (.int .i64 8))))⟩,
    ⟨none, .s (.v 12 (.pick (.t 8) (.c (.bool true)) (.t 11)))⟩])
  (.cond (.t 12)
    (.seq (.region [⟨none, .s (.v 2 (.mov (.c (.bool false))))⟩])
    .ret)
    .skip))
  (.seq (.seq (.region [⟨none, .s (.v 13 (.mov (.t 0)))⟩,
    ⟨none, .s (.v 14 (.len (.t 13)))⟩,
    ⟨none, .s (.v 15 (.mov (.c (.int .i64 0))))⟩])
  (.block 0 
    (.loop 
      (.seq (.region [⟨none, .s (.v 16 (.bin .lss false (.t 15) (.t 14)))⟩])
      (.seq (.cond (.t 16)
        .skip
        (.exit 0))
      (.seq (.block 1 
        (.seq (.region [⟨none, .s (.v 17 (.mov (.t 15)))⟩,
          ⟨none, .s (.v 18 (.iaddr 4 (.t 13) (.t 15)))⟩,
          ⟨none, .s (.v 19 (.load true 4 (.t 18)))⟩,
          ⟨none, .s (.alloc 4 none (.agg [.int .i64 0, .int .i64 0, .str [], .slice 4 .nil []]))⟩,
          ⟨none, .s (.v 3 (.mov (.t 17)))⟩,
          ⟨none, .s (.store 4 (.t 4) (.t 19))⟩])
        (.seq (.drawn true 38 [⟨none, .s (.v 20 (.load true 4 (.t 4)))⟩,
          ⟨none, .call (some 21) (.c (.func 12 [])) [(.t 20)]⟩,
          ⟨none, .s (.v 22 (.notB (.t 21)))⟩,
          ⟨none, .s (.v 23 (.mov (.t 22)))⟩,
          ⟨(some (23, false)), .s (.v 24 (.mov (.t 3)))⟩,
          ⟨(some (23, false)), .s (.v 25 (.bin .gtr false (.t 24) (.c (.int .i64 0))))⟩,
          ⟨(some (23, false)), .s (.v 26 (.mov (.t 25)))⟩,
          ⟨(some (26, true)), .s (.v 27 (.mov (.t 0)))⟩,
          ⟨(some (26, true)), .s (.v 28 (.mov (.t 3)))⟩,
          ⟨(some (26, true)), .s (.v 29 (.bin .sub false (.t 28) (.c (.int .i64 1))))⟩,
          ⟨(some (26, true)), .s (.v 30 (.iaddr 4 (.t 27) (.t 29)))⟩,
          ⟨(some (26, true)), .s (.v 31 (.load true 4 (.t 30)))⟩,
          ⟨(some (26, true)), .s (.v 32 (.load true 4 (.t 4)))⟩,
          ⟨(some (26, true)), .call (some 33) (.c (.func 59 [])) [(.t 31), (.t 32)]⟩,
          ⟨(some (26, true)), .s (.v 34 (.bin .geq false (.t 33) (.c (.int .i64 0))))⟩,
          ⟨(some (23, false)), .s (.v 35 (.pick (.t 26) (.t 34) (.c (.bool false))))⟩,
          ⟨none, .s (.v 36 (.pick (.t 23) (.c (.bool true)) (.t 35)))⟩])
        (.cond (.t 36)
          (.seq (.region [⟨none, .s (.v 2 (.mov (.c (.bool false))))⟩])
          .ret)
          .skip))))
      (.region [⟨none, .s (.v 37 (.bin .add false (.t 15) (.c (.int .i64 1))))⟩,
        ⟨none, .s (.v 15 (.mov (.t 37)))⟩])))))))
  (.seq (.region [⟨none, .s (.v 2 (.mov (.c (.bool true))))⟩])
  .ret))))
def r_impl_UniverseOk : List RV := [.tmp 2]

/-- impl.IsGround -/
def c_impl_IsGround : C :=
  (.seq (.region [⟨none, .s (.box 1 none (.t 0))⟩,
    ⟨none, .s (.v 2 (.mov (.c (.bool false))))⟩])
  (.seq (.region [⟨none, .s (.v 3 (.load true 4 (.t 1)))⟩,
    ⟨none, .call (some 4) (.c (.func 54 [])) [(.t 3)]⟩,
    ⟨none, .s (.v 5 (.mov (.t 4)))⟩,
    ⟨(some (5, true)), .s (.v 6 (.load true 4 (.t 1)))⟩,
    ⟨(some (5, true)), .call (some 7) (.c (.func 60 [])) [(.t 6)]⟩,
    ⟨none, .s (.v 8 (.pick (.t 5) (.t 7) (.c (.bool false))))⟩,
    ⟨none, .s (.v 2 (.mov (.t 8)))⟩])
  .ret))
def r_impl_IsGround : List RV := [.tmp 2]

/-- impl.CompareTerms -/
def c_impl_CompareTerms : C :=
  (.seq (.region [⟨none, .s (.box 2 none (.t 0))⟩,
    ⟨none, .s (.box 3 none (.t 1))⟩,
    ⟨none, .s (.v 4 (.mov (.c (.int .i64 0))))⟩])
  (.seq (.seq (.region [⟨none, .s (.v 5 (.load true 4 (.t 2)))⟩,
    ⟨none, .call (some 6) (.c (.func 54 [])) [(.t 5)]⟩,
    ⟨none, .s (.v 7 (.notB (.t 6)))⟩,
    ⟨none, .s (.v 8 (.mov (.t 7)))⟩,
    ⟨(some (8, false)), .s (.v 9 (.load true 4 (.t 3)))⟩,
    ⟨(some (8, false)), .call (some 10) (.c (.func 54 [])) [(.t 9)]⟩,
    ⟨(some (8, false)), .s (.v 11 (.notB (.t 10)))⟩,
    ⟨none, .s (.v 12 (.pick (.t 8) (.c (.bool true)) (.t 11)))⟩])
  (.cond (.t 12)
    (.seq (.region [⟨none, .s (.v 4 (.mov (.c (.int .i64 2))))⟩])
    .ret)
    .skip))
  (.seq (.region [⟨none, .s (.v 13 (.load true 4 (.t 2)))⟩,
    ⟨none, .s (.v 14 (.load true 4 (.t 3)))⟩,
    ⟨none, .call (some 15) (.c (.func 59 [])) [(.t 13), (.t 14)]⟩,
    ⟨none, .s (.v 4 (.mov (.t 15)))⟩])
  .ret)))
def r_impl_CompareTerms : List RV := [.tmp 4]

/-- impl.SubtermsOf -/
def c_impl_SubtermsOf : C :=
  (.seq (.region [⟨none, .s (.v 2 (.mov (.c (.slice 4 .nil []))))⟩])
  (.seq (.seq (.region [⟨none, .s (.v 7 (.mov (.t 0)))⟩,
    ⟨none, .call (some 8) (.c (.func 62 [])) [(.t 7)]⟩,
    ⟨none, .s (.v 9 (.notB (.t 8)))⟩])
  (.cond (.t 9)
    (.seq (.region [⟨none, .s (.v 2 (.mov (.c (.slice 4 .nil []))))⟩])
    .ret)
    .skip))
  (.seq (.region [⟨none, .s (.bslm 10 (some 603) 4 26 [])⟩,
    ⟨none, .s (.alloc 3 (some 604) (.slice 4 .nil []))⟩,
    ⟨none, .s (.store 1 (.t 3) (.t 10))⟩])
  (.seq (.region [⟨none, .s (.alloc 4 (some 605) (.junk))⟩])
  (.seq (.region [⟨none, .s (.v 11 (.mkf 63 [(.t 3), (.t 4)]))⟩,
    ⟨none, .s (.store 1 (.t 4) (.t 11))⟩])
  (.seq (.seq (.region [⟨none, .s (.v 12 (.mov (.t 0)))⟩,
    ⟨none, .s (.v 13 (.len (.t 12)))⟩,
    ⟨none, .s (.v 14 (.mov (.c (.int .i64 0))))⟩])
  (.block 0 
    (.loop 
      (.seq (.region [⟨none, .s (.v 15 (.bin .lss false (.t 14) (.t 13)))⟩])
      (.seq (.cond (.t 15)
        .skip
        (.exit 0))
      (.seq (.block 1 
        (.seq (.region [⟨none, .s (.v 16 (.iaddr 4 (.t 12) (.t 14)))⟩,
          ⟨none, .s (.v 17 (.load true 4 (.t 16)))⟩,
          ⟨none, .s (.alloc 6 none (.agg [.int .i64 0, .int .i64 0, .str [], .slice 4 .nil []]))⟩,
          ⟨none, .s (.store 4 (.t 6) (.t 17))⟩])
        (.region [⟨none, .s (.v 18 (.load false 1 (.t 4)))⟩,
          ⟨none, .s (.v 19 (.load true 4 (.t 6)))⟩,
          ⟨none, .call (some 20) (.t 18) [(.t 19)]⟩])))
      (.region [⟨none, .s (.v 21 (.bin .add false (.t 14) (.c (.int .i64 1))))⟩,
        ⟨none, .s (.v 14 (.mov (.t 21)))⟩])))))))
  (.seq (.pubB 3 (.region [⟨none, .s (.v 22 (.load false 1 (.t 3)))⟩,
    ⟨none, .call (some 23) (.c (.func 58 [])) [(.t 22)]⟩,
    ⟨none, .s (.v 2 (.mov (.t 23)))⟩]))
  .ret)))))))
def r_impl_SubtermsOf : List RV := [.tmp 2]

/-- laws.list -/
def c_laws_list : C :=
  (.seq (.region [⟨none, .s (.v 4 (.mov (.c (.bool false))))⟩])
  (.seq (.seq (.region [⟨none, .s (.v 7 (.mov (.t 0)))⟩,
    ⟨none, .s (.v 8 (.len (.t 7)))⟩,
    ⟨none, .s (.v 9 (.mov (.t 1)))⟩,
    ⟨none, .s (.v 10 (.len (.t 9)))⟩,
    ⟨none, .s (.v 11 (.bin .neq false (.t 8) (.t 10)))⟩])
  (.cond (.t 11)
    (.seq (.region [⟨none, .s (.v 4 (.mov (.c (.bool false))))⟩])
    .ret)
    .skip))
  (.seq (.seq (.region [⟨none, .s (.v 12 (.mov (.t 0)))⟩,
    ⟨none, .s (.v 13 (.len (.t 12)))⟩,
    ⟨none, .s (.v 14 (.mov (.c (.int .i64 0))))⟩])
  (.block 0 
    (.loop 
      (.seq (.region [⟨none, .s (.v 15 (.bin .lss false (.t 14) (.t 13)))⟩])
      (.seq (.cond (.t 15)
        .skip
        (.exit 0))
      (.seq (.block 1 
        (.seq (.region [⟨none, .s (.v 16 (.mov (.t 14)))⟩,
          ⟨none, .s (.v 17 (.iaddr 4 (.t 12) (.t 14)))⟩,
          ⟨none, .s (.v 18 (.load true 4 (.t 17)))⟩,
          ⟨none, .s (.alloc 6 none (.agg [.int .i64 0, .int .i64 0, .str [], .slice 4 .nil []]))⟩,
          ⟨none, .s (.v 5 (.mov (.t 16)))⟩,
          ⟨none, .s (.store 4 (.t 6) (.t 18))⟩])
        (.seq (.drawn true 27 [⟨none, .s (.v 19 (.load true 4 (.t 6)))⟩,
          ⟨none, .s (.v 20 (.mov (.t 1)))⟩,
          ⟨none, .s (.v 21 (.mov (.t 5)))⟩,
          ⟨none, .s (.v 22 (.iaddr 4 (.t 20) (.t 21)))⟩,
          ⟨none, .s (.v 23 (.load true 4 (.t 22)))⟩,
          ⟨none, .call (some 24) (.c (.func 15 [])) [(.t 19), (.t 23)]⟩,
          ⟨none, .s (.v 25 (.notB (.t 24)))⟩])
        (.cond (.t 25)
          (.seq (.region [⟨none, .s (.v 4 (.mov (.c (.bool false))))⟩])
          .ret)
          .skip))))
      (.region [⟨none, .s (.v 26 (.bin .add false (.t 14) (.c (.int .i64 1))))⟩,
        ⟨none, .s (.v 14 (.mov (.t 26)))⟩])))))))
  (.seq (.region [⟨none, .s (.v 4 (.mov (.c (.bool true))))⟩])
  .ret))))
def r_laws_list : List RV := [.tmp 4]

/-- impl.GroundTerms -/
def c_impl_GroundTerms : C :=
  (.seq (.region [⟨none, .s (.v 4 (.mov (.c (.slice 4 .nil []))))⟩])
  (.seq (.seq (.region [⟨none, .s (.v 15 (.mov (.t 0)))⟩,
    ⟨none, .call (some 16) (.c (.func 11 [])) [(.t 15)]⟩,
    ⟨none, .s (.v 17 (.notB (.t 16)))⟩,
    ⟨none, .s (.v 18 (.mov (.t 17)))⟩,
    ⟨(some (18, false)), .s (.v 19 (.mov (.t 1)))⟩,
    ⟨(some (18, false)), .s (.v 20 (.bin .lss false (.t 19) (.c (.int .i64 1))))⟩,
    ⟨none, .s (.v 21 (.pick (.t 18) (.c (.bool true)) (.t 20)))⟩,
    ⟨none, .s (.v 22 (.mov (.t 21)))⟩,
    ⟨(some (22, false)), .s (.v 23 (.mov (.t 1)))⟩,
    ⟨(some (22, false)), .s (.v 24 (.bin .gtr false (.t 23) (.c (.int .i64 5))))⟩,
    ⟨none, .s (.v 25 (.pick (.t 22) (.c (.bool true)) (.t 24)))⟩])
  (.cond (.t 25)
    (.seq (.region [⟨none, .s (.v 4 (.mov (.c (.slice 4 .nil []))))⟩])
    .ret)
    .skip))
  (.seq (.region [⟨none, .s (.mkmap 26 none)⟩,
    ⟨none, .s (.v 27 (.mov (.t 0)))⟩,
    ⟨none, .s (.mput false (.t 26) (.c (.int .i64 1)) (.t 27))⟩,
    ⟨none, .s (.v 28 (.mov (.t 26)))⟩,
    ⟨none, .s (.v 5 (.mov (.t 28)))⟩])
  (.seq (.region [⟨none, .s (.bsl 29 4 26 [])⟩,
    ⟨none, .s (.v 30 (.mov (.t 0)))⟩,
    ⟨none, .s (.app 31 4 26 (.t 29) (.t 30))⟩,
    ⟨none, .s (.v 6 (.mov (.t 31)))⟩])
  (.seq (.seq (.region [⟨none, .s (.v 7 (.mov (.c (.int .i64 3))))⟩])
  (.block 0 
    (.loop 
      (.seq (.seq (.region [⟨none, .s (.v 32 (.mov (.t 7)))⟩,
        ⟨none, .s (.v 33 (.mov (.t 1)))⟩,
        ⟨none, .s (.v 34 (.bin .leq false (.t 32) (.t 33)))⟩])
      (.cond (.t 34)
        .skip
        (.exit 0)))
      (.seq (.block 1 
        (.seq (.seq (.region [⟨none, .s (.v 8 (.mov (.c (.int .i64 1))))⟩])
        (.block 2 
          (.loop 
            (.seq (.seq (.region [⟨none, .s (.v 37 (.mov (.t 8)))⟩,
              ⟨none, .s (.v 38 (.mov (.t 7)))⟩,
              ⟨none, .s (.v 39 (.bin .sub false (.t 38) (.c (.int .i64 1))))⟩,
              ⟨none, .s (.v 40 (.bin .lss false (.t 37) (.t 39)))⟩])
            (.cond (.t 40)
              .skip
              (.exit 2)))
            (.seq (.block 3 
              (.seq (.region [⟨none, .s (.v 43 (.mov (.t 5)))⟩,
                ⟨none, .s (.v 44 (.mov (.t 8)))⟩,
                ⟨none, .s (.v 45 (.mget false (.slice 4 .nil []) false (.t 43) (.t 44)))⟩,
                ⟨none, .s (.v 46 (.len (.t 45)))⟩,
                ⟨none, .s (.v 47 (.mov (.c (.int .i64 0))))⟩])
              (.block 4 
                (.loop 
                  (.seq (.region [⟨none, .s (.v 48 (.bin .lss false (.t 47) (.t 46)))⟩])
                  (.seq (.cond (.t 48)
                    .skip
                    (.exit 4))
                  (.seq (.block 5 
                    (.seq (.region [⟨none, .s (.v 49 (.iaddr 4 (.t 45) (.t 47)))⟩,
                      ⟨none, .s (.v 50 (.load true 4 (.t 49)))⟩,
                      ⟨none, .s (.alloc 10 none (.agg [.int .i64 0, .int .i64 0, .str [], .slice 4 .nil []]))⟩,
                      ⟨none, .s (.store 4 (.t 10) (.t 50))⟩])
                    (.seq (.region [⟨none, .s (.v 51 (.mov (.t 5)))⟩,
                      ⟨none, .s (.v 52 (.mov (.t 7)))⟩,
                      ⟨none, .s (.v 53 (.bin .sub false (.t 52) (.c (.int .i64 1))))⟩,
                      ⟨none, .s (.v 54 (.mov (.t 8)))⟩,
                      ⟨none, .s (.v 55 (.bin .sub false (.t 53) (.t 54)))⟩,
                      ⟨none, .s (.v 56 (.mget false (.slice 4 .nil []) false (.t 51) (.t 55)))⟩,
                      ⟨none, .s (.v 57 (.len (.t 56)))⟩,
                      ⟨none, .s (.v 58 (.mov (.c (.int .i64 0))))⟩])
                    (.block 6 
                      (.loop 
                        (.seq (.region [⟨none, .s (.v 59 (.bin .lss false (.t 58) (.t 57)))⟩])
                        (.seq (.cond (.t 59)
                          .skip
                          (.exit 6))
                        (.seq (.block 7 
                          (.seq (.region [⟨none, .s (.v 60 (.iaddr 4 (.t 56) (.t 58)))⟩,
                            ⟨none, .s (.v 61 (.load true 4 (.t 60)))⟩,
                            ⟨none, .s (.alloc 12 none (.agg [.int .i64 0, .int .i64 0, .str [], .slice 4 .nil []]))⟩,
                            ⟨none, .s (.store 4 (.t 12) (.t 61))⟩])
                          (.seq (.region [⟨none, .s (.v 62 (.load true 4 (.t 10)))⟩,
                            ⟨none, .s (.v 63 (.load true 4 (.t 12)))⟩,
                            ⟨none, .call (some 64) (.c (.func 64 [])) [(.t 62), (.t 63)]⟩,
                            ⟨none, .s (.alloc 13 none (.agg [.int .i64 0, .int .i64 0, .str [], .slice 4 .nil []]))⟩,
                            ⟨none, .s (.store 4 (.t 13) (.t 64))⟩])
                          (.seq (.seq (.region [⟨none, .s (.v 65 (.load true 4 (.t 13)))⟩,
                            ⟨none, .call (some 66) (.c (.func 54 [])) [(.t 65)]⟩,
                            ⟨none, .s (.v 67 (.notB (.t 66)))⟩])
                          (.cond (.t 67)
                            (.seq (.region [⟨none, .s (.v 4 (.mov (.c (.slice 4 .nil []))))⟩])
                            .ret)
                            .skip))
                          (.region [⟨none, .s (.v 68 (.mov (.t 5)))⟩,
                            ⟨none, .s (.v 69 (.mov (.t 7)))⟩,
                            ⟨none, .s (.v 70 (.mov (.t 5)))⟩,
                            ⟨none, .s (.v 71 (.mov (.t 7)))⟩,
                            ⟨none, .s (.v 72 (.mget false (.slice 4 .nil []) false (.t 70) (.t 71)))⟩,
                            ⟨none, .s (.v 73 (.load true 4 (.t 13)))⟩,
                            ⟨none, .s (.bsl 74 4 26 [(.t 73)])⟩,
                            ⟨none, .s (.app 75 4 26 (.t 72) (.t 74))⟩,
                            ⟨none, .s (.mput false (.t 68) (.t 69) (.t 75))⟩])))))
                        (.region [⟨none, .s (.v 76 (.bin .add false (.t 58) (.c (.int .i64 1))))⟩,
                          ⟨none, .s (.v 58 (.mov (.t 76)))⟩])))))))))
                  (.region [⟨none, .s (.v 77 (.bin .add false (.t 47) (.c (.int .i64 1))))⟩,
                    ⟨none, .s (.v 47 (.mov (.t 77)))⟩]))))))))
            (.region [⟨none, .s (.v 41 (.mov (.t 8)))⟩,
              ⟨none, .s (.v 42 (.bin .add false (.t 41) (.c (.int .i64 2))))⟩,
              ⟨none, .s (.v 8 (.mov (.t 42)))⟩]))))))
        (.region [⟨none, .s (.v 78 (.mov (.t 6)))⟩,
          ⟨none, .s (.v 79 (.mov (.t 5)))⟩,
          ⟨none, .s (.v 80 (.mov (.t 7)))⟩,
          ⟨none, .s (.v 81 (.mget false (.slice 4 .nil []) false (.t 79) (.t 80)))⟩,
          ⟨none, .s (.app 82 4 26 (.t 78) (.t 81))⟩,
          ⟨none, .s (.v 6 (.mov (.t 82)))⟩])))
      (.region [⟨none, .s (.v 35 (.mov (.t 7)))⟩,
        ⟨none, .s (.v 36 (.bin .add false (.t 35) (.c (.int .i64 2))))⟩,
        ⟨none, .s (.v 7 (.mov (.t 36)))⟩]))))))
  (.seq (.region [⟨none, .s (.v 83 (.mov (.t 6)))⟩,
    ⟨none, .call (some 84) (.c (.func 58 [])) [(.t 83)]⟩,
    ⟨none, .s (.v 14 (.mov (.t 84)))⟩])
  (.seq (.seq (.region [⟨none, .s (.v 85 (.mov (.t 14)))⟩,
    ⟨none, .s (.v 86 (.len (.t 85)))⟩,
    ⟨none, .s (.v 87 (.bin .gtr false (.t 86) (.c (.int .i64 512))))⟩])
  (.cond (.t 87)
    (.seq (.region [⟨none, .s (.v 4 (.mov (.c (.slice 4 .nil []))))⟩])
    .ret)
    .skip))
  (.seq (.region [⟨none, .s (.v 88 (.mov (.t 14)))⟩,
    ⟨none, .s (.v 4 (.mov (.t 88)))⟩])
  .ret))))))))
def r_impl_GroundTerms : List RV := [.tmp 4]

/-- spec.l08Universe -/
def c_spec_l08Universe : C :=
  (.seq (.region [⟨none, .s (.v 4 (.mov (.c (.slice 4 .nil []))))⟩])
  (.seq (.region [⟨none, .s (.bsl 7 4 26 [])⟩,
    ⟨none, .s (.v 5 (.mov (.t 7)))⟩])
  (.seq (.seq (.fg false 5 (.region [⟨none, .s (.v 8 (.mov (.t 0)))⟩,
    ⟨none, .s (.v 9 (.mov (.t 1)))⟩,
    ⟨none, .call (some 10) (.c (.func 101 [])) [(.t 8), (.t 9)]⟩,
    ⟨none, .s (.v 11 (.bin .add false (.c (.int .i64 1)) (.t 10)))⟩,
    ⟨none, .s (.v 6 (.mov (.t 11)))⟩]))
  (.block 0 
    (.loop 
      (.seq (.seq (.region [⟨none, .s (.v 12 (.mov (.t 6)))⟩,
        ⟨none, .s (.v 13 (.bin .gtr false (.t 12) (.c (.int .i64 0))))⟩])
      (.cond (.t 13)
        .skip
        (.exit 0)))
      (.seq (.block 1 
        (.region [⟨none, .s (.v 16 (.mov (.t 5)))⟩,
          ⟨none, .s (.v 17 (.mov (.t 0)))⟩,
          ⟨none, .s (.v 18 (.mov (.t 0)))⟩,
          ⟨none, .call (some 19) (.c (.func 101 [])) [(.t 18), (.c (.int .i64 2))]⟩,
          ⟨none, .s (.v 20 (.bin .mul false (.c (.int .i64 2)) (.t 19)))⟩,
          ⟨none, .s (.v 21 (.bin .add false (.c (.int .i64 1)) (.t 20)))⟩,
          ⟨none, .call (some 22) (.c (.func 51 [])) [(.t 17), (.t 21), (.c (.int .i64 0))]⟩,
          ⟨none, .call (some 23) (.c (.func 79 [])) [(.t 16), (.t 22)]⟩,
          ⟨none, .s (.v 5 (.mov (.t 23)))⟩]))
      (.region [⟨none, .s (.v 14 (.mov (.t 6)))⟩,
        ⟨none, .s (.v 15 (.bin .sub false (.t 14) (.c (.int .i64 1))))⟩,
        ⟨none, .s (.v 6 (.mov (.t 15)))⟩]))))))
  (.seq (.region [⟨none, .s (.v 24 (.mov (.t 5)))⟩,
    ⟨none, .s (.v 4 (.mov (.t 24)))⟩])
  .ret))))
def r_spec_l08Universe : List RV := [.tmp 4]

/-- impl.power -/
def c_impl_power : C :=
  (.seq (.region [⟨none, .s (.v 4 (.mov (.c (.int .i64 0))))⟩])
  (.seq (.region [⟨none, .s (.v 5 (.mov (.c (.int .i64 1))))⟩])
  (.seq (.seq (.region [⟨none, .s (.v 6 (.mov (.c (.int .i64 0))))⟩])
  (.block 0 
    (.loop 
      (.seq (.seq (.region [⟨none, .s (.v 7 (.mov (.t 6)))⟩,
        ⟨none, .s (.v 8 (.mov (.t 1)))⟩,
        ⟨none, .s (.v 9 (.bin .lss false (.t 7) (.t 8)))⟩,
        ⟨none, .s (.v 10 (.mov (.t 9)))⟩,
        ⟨(some (10, true)), .s (.v 11 (.mov (.t 5)))⟩,
        ⟨(some (10, true)), .s (.v 12 (.bin .leq false (.t 11) (.c (.int .i64 512))))⟩,
        ⟨none, .s (.v 13 (.pick (.t 10) (.t 12) (.c (.bool false))))⟩,
        ⟨none, .s (.v 14 (.mov (.t 13)))⟩,
        ⟨(some (14, true)), .s (.v 15 (.mov (.t 0)))⟩,
        ⟨(some (14, true)), .s (.v 16 (.bin .neq false (.t 15) (.c (.int .i64 1))))⟩,
        ⟨none, .s (.v 17 (.pick (.t 14) (.t 16) (.c (.bool false))))⟩])
      (.cond (.t 17)
        .skip
        (.exit 0)))
      (.seq (.block 1 
        (.region [⟨none, .s (.v 20 (.mov (.t 5)))⟩,
          ⟨none, .s (.v 21 (.mov (.t 0)))⟩,
          ⟨none, .s (.v 22 (.bin .mul false (.t 20) (.t 21)))⟩,
          ⟨none, .s (.v 5 (.mov (.t 22)))⟩]))
      (.region [⟨none, .s (.v 18 (.mov (.t 6)))⟩,
        ⟨none, .s (.v 19 (.bin .add false (.t 18) (.c (.int .i64 1))))⟩,
        ⟨none, .s (.v 6 (.mov (.t 19)))⟩]))))))
  (.seq (.region [⟨none, .s (.v 23 (.mov (.t 5)))⟩,
    ⟨none, .s (.v 24 (.min2 (.t 23) (.c (.int .i64 513))))⟩,
    ⟨none, .s (.v 4 (.mov (.t 24)))⟩])
  .ret))))
def r_impl_power : List RV := [.tmp 4]

/-- impl.assignments -/
def c_impl_assignments : C :=
  (.seq (.region [⟨none, .s (.v 4 (.mov (.c (.slice 1 .nil []))))⟩])
  (.seq (.region [⟨none, .s (.bsl 13 5 30 [])⟩,
    ⟨none, .s (.bsl 14 1 31 [(.t 13)])⟩,
    ⟨none, .s (.v 5 (.mov (.t 14)))⟩])
  (.seq (.seq (.fg false 5 (.region [⟨none, .s (.v 15 (.mov (.t 0)))⟩,
    ⟨none, .s (.v 16 (.len (.t 15)))⟩,
    ⟨none, .s (.v 17 (.mov (.c (.int .i64 0))))⟩]))
  (.block 0 
    (.loop 
      (.seq (.region [⟨none, .s (.v 18 (.bin .lss false (.t 17) (.t 16)))⟩])
      (.seq (.cond (.t 18)
        .skip
        (.exit 0))
      (.seq (.block 1 
        (.seq (.region [⟨none, .s (.v 19 (.iaddr 1 (.t 15) (.t 17)))⟩,
          ⟨none, .s (.v 20 (.load false 1 (.t 19)))⟩,
          ⟨none, .s (.v 7 (.mov (.t 20)))⟩])
        (.seq (.region [⟨none, .s (.bsl 21 1 31 [])⟩,
          ⟨none, .s (.v 8 (.mov (.t 21)))⟩])
        (.seq (.seq (.region [⟨none, .s (.v 22 (.mov (.t 5)))⟩,
          ⟨none, .s (.v 23 (.len (.t 22)))⟩,
          ⟨none, .s (.v 24 (.mov (.c (.int .i64 0))))⟩])
        (.block 2 
          (.loop 
            (.seq (.region [⟨none, .s (.v 25 (.bin .lss false (.t 24) (.t 23)))⟩])
            (.seq (.cond (.t 25)
              .skip
              (.exit 2))
            (.seq (.block 3 
              (.seq (.region [⟨none, .s (.v 26 (.iaddr 1 (.t 22) (.t 24)))⟩,
                ⟨none, .s (.v 27 (.load false 1 (.t 26)))⟩,
                ⟨none, .s (.v 10 (.mov (.t 27)))⟩])
              (.seq (.region [⟨none, .s (.v 28 (.mov (.t 1)))⟩,
                ⟨none, .s (.v 29 (.len (.t 28)))⟩,
                ⟨none, .s (.v 30 (.mov (.c (.int .i64 0))))⟩])
              (.block 4 
                (.loop 
                  (.seq (.region [⟨none, .s (.v 31 (.bin .lss false (.t 30) (.t 29)))⟩])
                  (.seq (.cond (.t 31)
                    .skip
                    (.exit 4))
                  (.seq (.block 5 
                    (.seq (.region [⟨none, .s (.v 32 (.iaddr 4 (.t 28) (.t 30)))⟩,
                      ⟨none, .s (.v 33 (.load true 4 (.t 32)))⟩,
                      ⟨none, .s (.alloc 12 none (.agg [.int .i64 0, .int .i64 0, .str [], .slice 4 .nil []]))⟩,
                      ⟨none, .s (.store 4 (.t 12) (.t 33))⟩])
                    (.drawn true 50 [⟨none, .s (.v 34 (.mov (.t 8)))⟩,
                      ⟨none, .s (.bsl 35 5 30 [])⟩,
                      ⟨none, .s (.v 36 (.mov (.t 10)))⟩,
                      ⟨none, .s (.app 37 5 30 (.t 35) (.t 36))⟩,
                      ⟨none, .s (.v 38 (.mov (.t 7)))⟩,
                      ⟨none, .s (.v 39 (.load true 4 (.t 12)))⟩,
                      ⟨none, .s (.v 40 (.build [.int .i64 0, .int .i64 0, .int .i64 0, .str [], .slice 4 .nil []] [(0, 1, (.t 38)), (1, 4, (.t 39))]))⟩,
                      ⟨none, .s (.bsl 41 5 30 [(.t 40)])⟩,
                      ⟨none, .s (.app 42 5 30 (.t 37) (.t 41))⟩,
                      ⟨none, .s (.bsl 43 1 31 [(.t 42)])⟩,
                      ⟨none, .s (.app 44 1 31 (.t 34) (.t 43))⟩,
                      ⟨none, .s (.v 8 (.mov (.t 44)))⟩])))
                  (.fg true 8 (.region [⟨none, .s (.v 45 (.bin .add false (.t 30) (.c (.int .i64 1))))⟩,
                    ⟨none, .s (.v 30 (.mov (.t 45)))⟩]))))))))))
            (.region [⟨none, .s (.v 46 (.bin .add false (.t 24) (.c (.int .i64 1))))⟩,
              ⟨none, .s (.v 24 (.mov (.t 46)))⟩])))))))
        (.fg false 8 (.region [⟨none, .s (.v 47 (.mov (.t 8)))⟩,
          ⟨none, .s (.v 5 (.mov (.t 47)))⟩]))))))
      (.region [⟨none, .s (.v 48 (.bin .add false (.t 17) (.c (.int .i64 1))))⟩,
        ⟨none, .s (.v 17 (.mov (.t 48)))⟩])))))))
  (.seq (.region [⟨none, .s (.v 49 (.mov (.t 5)))⟩,
    ⟨none, .s (.v 4 (.mov (.t 49)))⟩])
  .ret))))
def r_impl_assignments : List RV := [.tmp 4]

/-- impl.ascending -/
def c_impl_ascending : C :=
  (.seq (.region [⟨none, .s (.v 2 (.mov (.c (.slice 4 .nil []))))⟩])
  (.seq (.region [⟨none, .s (.bslm 7 (some 601) 4 26 [])⟩,
    ⟨none, .s (.v 8 (.mov (.t 0)))⟩,
    ⟨none, .s (.appm 9 none 4 26 (.t 7) (.t 8))⟩,
    ⟨none, .s (.alloc 3 (some 602) (.slice 4 .nil []))⟩,
    ⟨none, .s (.store 1 (.t 3) (.t 9))⟩])
  (.seq (.region [⟨none, .s (.v 10 (.load false 1 (.t 3)))⟩,
    ⟨none, .s (.v 11 (.mkif 23 (.t 10)))⟩,
    ⟨none, .s (.v 12 (.mkf 113 [(.t 3)]))⟩,
    ⟨none, .call (some 13) (.c (.func 112 [])) [(.t 11), (.t 12)]⟩])
  (.seq (.region [⟨none, .s (.bsl 14 4 26 [])⟩,
    ⟨none, .s (.v 4 (.mov (.t 14)))⟩])
  (.seq (.seq (.region [⟨none, .s (.v 15 (.load false 1 (.t 3)))⟩,
    ⟨none, .s (.v 16 (.len (.t 15)))⟩,
    ⟨none, .s (.v 17 (.mov (.c (.int .i64 0))))⟩])
  (.block 0 
    (.loop 
      (.seq (.region [⟨none, .s (.v 18 (.bin .lss false (.t 17) (.t 16)))⟩])
      (.seq (.cond (.t 18)
        .skip
        (.exit 0))
      (.seq (.block 1 
        (.seq (.region [⟨none, .s (.v 19 (.mov (.t 17)))⟩,
          ⟨none, .s (.v 20 (.iaddr 4 (.t 15) (.t 17)))⟩,
          ⟨none, .s (.v 21 (.load true 4 (.t 20)))⟩,
          ⟨none, .s (.alloc 6 none (.agg [.int .i64 0, .int .i64 0, .str [], .slice 4 .nil []]))⟩,
          ⟨none, .s (.v 5 (.mov (.t 19)))⟩,
          ⟨none, .s (.store 4 (.t 6) (.t 21))⟩])
        (.seq (.drawn true 41 [⟨none, .s (.v 22 (.mov (.t 5)))⟩,
          ⟨none, .s (.v 23 (.bin .eql false (.t 22) (.c (.int .i64 0))))⟩,
          ⟨none, .s (.v 24 (.mov (.t 23)))⟩,
          ⟨(some (24, false)), .s (.v 25 (.load false 1 (.t 3)))⟩,
          ⟨(some (24, false)), .s (.v 26 (.mov (.t 5)))⟩,
          ⟨(some (24, false)), .s (.v 27 (.bin .sub false (.t 26) (.c (.int .i64 1))))⟩,
          ⟨(some (24, false)), .s (.v 28 (.iaddr 4 (.t 25) (.t 27)))⟩,
          ⟨(some (24, false)), .s (.v 29 (.load true 4 (.t 28)))⟩,
          ⟨(some (24, false)), .s (.v 30 (.load true 4 (.t 6)))⟩,
          ⟨(some (24, false)), .call (some 31) (.c (.func 114 [])) [(.t 29), (.t 30)]⟩,
          ⟨(some (24, false)), .s (.v 32 (.notB (.t 31)))⟩,
          ⟨none, .s (.v 33 (.pick (.t 24) (.c (.bool true)) (.t 32)))⟩])
        (.cond (.t 33)
          (.region [⟨none, .s (.v 34 (.mov (.t 4)))⟩,
            ⟨none, .s (.v 35 (.load true 4 (.t 6)))⟩,
            ⟨none, .call (some 36) (.c (.func 66 [])) [(.t 35)]⟩,
            ⟨none, .s (.bsl 37 4 26 [(.t 36)])⟩,
            ⟨none, .s (.app 38 4 26 (.t 34) (.t 37))⟩,
            ⟨none, .s (.v 4 (.mov (.t 38)))⟩])
          .skip))))
      (.region [⟨none, .s (.v 39 (.bin .add false (.t 17) (.c (.int .i64 1))))⟩,
        ⟨none, .s (.v 17 (.mov (.t 39)))⟩])))))))
  (.seq (.region [⟨none, .s (.v 40 (.mov (.t 4)))⟩,
    ⟨none, .s (.v 2 (.mov (.t 40)))⟩])
  .ret))))))
def r_impl_ascending : List RV := [.tmp 2]

/-- impl.isGround -/
def c_impl_isGround : C :=
  (.seq (.region [⟨none, .s (.box 1 none (.t 0))⟩,
    ⟨none, .s (.v 2 (.mov (.c (.bool false))))⟩])
  (.seq (.region [⟨none, .s (.alloc 3 (some 501) (.bool false))⟩,
    ⟨none, .s (.store 1 (.t 3) (.c (.bool true)))⟩])
  (.seq (.region [⟨none, .s (.v 4 (.load true 4 (.t 1)))⟩,
    ⟨none, .s (.v 5 (.mkf 116 [(.t 3)]))⟩,
    ⟨none, .call (some 6) (.c (.func 70 [])) [(.t 4), (.t 5)]⟩])
  (.seq (.region [⟨none, .s (.v 7 (.load false 1 (.t 3)))⟩,
    ⟨none, .s (.v 2 (.mov (.t 7)))⟩])
  .ret))))
def r_impl_isGround : List RV := [.tmp 2]

/-- impl.termsOk -/
def c_impl_termsOk : C :=
  (.seq (.region [⟨none, .s (.v 2 (.mov (.c (.bool false))))⟩])
  (.seq (.seq (.region [⟨none, .s (.v 5 (.mov (.t 0)))⟩,
    ⟨none, .s (.v 6 (.len (.t 5)))⟩,
    ⟨none, .s (.v 7 (.mov (.c (.int .i64 0))))⟩])
  (.block 0 
    (.loop 
      (.seq (.region [⟨none, .s (.v 8 (.bin .lss false (.t 7) (.t 6)))⟩])
      (.seq (.cond (.t 8)
        .skip
        (.exit 0))
      (.seq (.block 1 
        (.seq (.region [⟨none, .s (.v 9 (.iaddr 4 (.t 5) (.t 7)))⟩,
          ⟨none, .s (.v 10 (.load true 4 (.t 9)))⟩,
          ⟨none, .s (.alloc 4 none (.agg [.int .i64 0, .int .i64 0, .str [], .slice 4 .nil []]))⟩,
          ⟨none, .s (.store 4 (.t 4) (.t 10))⟩])
        (.seq (.region [⟨none, .s (.v 11 (.load true 4 (.t 4)))⟩,
          ⟨none, .call (some 12) (.c (.func 54 [])) [(.t 11)]⟩,
          ⟨none, .s (.v 13 (.notB (.t 12)))⟩])
        (.cond (.t 13)
          (.seq (.region [⟨none, .s (.v 2 (.mov (.c (.bool false))))⟩])
          .ret)
          .skip))))
      (.region [⟨none, .s (.v 14 (.bin .add false (.t 7) (.c (.int .i64 1))))⟩,
        ⟨none, .s (.v 7 (.mov (.t 14)))⟩])))))))
  (.seq (.region [⟨none, .s (.v 2 (.mov (.c (.bool true))))⟩])
  .ret)))
def r_impl_termsOk : List RV := [.tmp 2]

/-- impl.SubtermsOf$1 -/
def c_impl_SubtermsOf_1 : C :=
  (.seq (.region [⟨none, .s (.box 3 none (.t 0))⟩])
  (.seq (.drawn false 25 [⟨none, .s (.v 4 (.loadB false 1 (.t 1)))⟩,
    ⟨none, .s (.v 5 (.loadB true 4 (.t 3)))⟩,
    ⟨none, .s (.v 6 (.len (.t 4)))⟩,
    ⟨none, .s (.bsl 7 4 26 [(.c (.agg [.int .i64 0, .int .i64 0, .str [], .slice 4 .nil []]))])⟩,
    ⟨none, .s (.appm 8 none 4 26 (.t 4) (.t 7))⟩,
    ⟨none, .s (.v 9 (.iaddr 4 (.t 8) (.t 6)))⟩,
    ⟨none, .s (.storeE 4 (.t 9) (.t 5))⟩,
    ⟨none, .s (.store 1 (.t 1) (.t 8))⟩])
  (.seq (.region [⟨none, .s (.v 10 (.faddr 0 false 1 (.t 3)))⟩,
    ⟨none, .s (.v 11 (.load false 1 (.t 10)))⟩,
    ⟨none, .s (.v 12 (.bin .eql false (.t 11) (.c (.int .i64 4))))⟩])
  (.cond (.t 12)
    (.seq (.drawn false 25 [⟨none, .s (.v 13 (.loadB false 1 (.t 2)))⟩,
      ⟨none, .s (.v 14 (.faddr 3 false 1 (.t 3)))⟩,
      ⟨none, .s (.v 15 (.loadB false 1 (.t 14)))⟩,
      ⟨none, .s (.v 16 (.iaddr 4 (.t 15) (.c (.int .i64 0))))⟩,
      ⟨none, .s (.v 17 (.loadB true 4 (.t 16)))⟩,
      ⟨none, .call (some 18) (.t 13) [(.t 17)]⟩])
    (.drawn false 25 [⟨none, .s (.v 19 (.loadB false 1 (.t 2)))⟩,
      ⟨none, .s (.v 20 (.faddr 3 false 1 (.t 3)))⟩,
      ⟨none, .s (.v 21 (.loadB false 1 (.t 20)))⟩,
      ⟨none, .s (.v 22 (.iaddr 4 (.t 21) (.c (.int .i64 1))))⟩,
      ⟨none, .s (.v 23 (.loadB true 4 (.t 22)))⟩,
      ⟨none, .call (some 24) (.t 19) [(.t 23)]⟩]))
    .skip))))
def r_impl_SubtermsOf_1 : List RV := []

/-- spec.l08Insert -/
def c_spec_l08Insert : C :=
  (.seq (.region [⟨none, .s (.box 3 none (.t 1))⟩,
    ⟨none, .s (.v 4 (.mov (.c (.slice 4 .nil []))))⟩])
  (.seq (.region [⟨none, .s (.v 7 (.mov (.t 0)))⟩,
    ⟨none, .s (.v 8 (.len (.t 7)))⟩,
    ⟨none, .s (.v 5 (.mov (.t 8)))⟩])
  (.seq (.block 0 
    (.loop 
      (.seq (.seq (.drawn true 50 [⟨none, .s (.v 9 (.mov (.t 5)))⟩,
        ⟨none, .s (.v 10 (.bin .gtr false (.t 9) (.c (.int .i64 0))))⟩,
        ⟨none, .s (.v 11 (.mov (.t 10)))⟩,
        ⟨(some (11, true)), .s (.v 12 (.mov (.t 0)))⟩,
        ⟨(some (11, true)), .s (.v 13 (.mov (.t 5)))⟩,
        ⟨(some (11, true)), .s (.v 14 (.bin .sub false (.t 13) (.c (.int .i64 1))))⟩,
        ⟨(some (11, true)), .s (.v 15 (.iaddr 4 (.t 12) (.t 14)))⟩,
        ⟨(some (11, true)), .s (.v 16 (.load true 4 (.t 15)))⟩,
        ⟨(some (11, true)), .s (.v 17 (.load true 4 (.t 3)))⟩,
        ⟨(some (11, true)), .call (some 18) (.c (.func 124 [])) [(.t 16), (.t 17)]⟩,
        ⟨(some (11, true)), .s (.v 19 (.bin .geq false (.t 18) (.c (.int .i64 0))))⟩,
        ⟨none, .s (.v 20 (.pick (.t 11) (.t 19) (.c (.bool false))))⟩])
      (.cond (.t 20)
        .skip
        (.exit 0)))
      (.block 1 
        (.region [⟨none, .s (.v 21 (.mov (.t 5)))⟩,
          ⟨none, .s (.v 22 (.bin .sub false (.t 21) (.c (.int .i64 1))))⟩,
          ⟨none, .s (.v 5 (.mov (.t 22)))⟩])))))
  (.seq (.seq (.drawn true 50 [⟨none, .s (.v 23 (.mov (.t 5)))⟩,
    ⟨none, .s (.v 24 (.mov (.t 0)))⟩,
    ⟨none, .s (.v 25 (.len (.t 24)))⟩,
    ⟨none, .s (.v 26 (.bin .lss false (.t 23) (.t 25)))⟩,
    ⟨none, .s (.v 27 (.mov (.t 26)))⟩,
    ⟨(some (27, true)), .s (.v 28 (.mov (.t 0)))⟩,
    ⟨(some (27, true)), .s (.v 29 (.mov (.t 5)))⟩,
    ⟨(some (27, true)), .s (.v 30 (.iaddr 4 (.t 28) (.t 29)))⟩,
    ⟨(some (27, true)), .s (.v 31 (.load true 4 (.t 30)))⟩,
    ⟨(some (27, true)), .s (.v 32 (.load true 4 (.t 3)))⟩,
    ⟨(some (27, true)), .call (some 33) (.c (.func 128 [])) [(.t 31), (.t 32)]⟩,
    ⟨none, .s (.v 34 (.pick (.t 27) (.t 33) (.c (.bool false))))⟩])
  (.cond (.t 34)
    (.seq (.region [⟨none, .s (.v 35 (.mov (.t 0)))⟩,
      ⟨none, .s (.v 4 (.mov (.t 35)))⟩])
    .ret)
    .skip))
  (.seq (.region [⟨none, .s (.bsl 36 4 26 [])⟩,
    ⟨none, .s (.v 37 (.mov (.t 0)))⟩,
    ⟨none, .s (.v 38 (.mov (.t 5)))⟩,
    ⟨none, .s (.v 39 (.lsl 4 (.t 37) none (some (.t 38))))⟩,
    ⟨none, .s (.app 40 4 26 (.t 36) (.t 39))⟩,
    ⟨none, .s (.v 6 (.mov (.t 40)))⟩])
  (.seq (.region [⟨none, .s (.v 41 (.mov (.t 6)))⟩,
    ⟨none, .s (.v 42 (.load true 4 (.t 3)))⟩,
    ⟨none, .s (.bsl 43 4 26 [(.t 42)])⟩,
    ⟨none, .s (.app 44 4 26 (.t 41) (.t 43))⟩,
    ⟨none, .s (.v 6 (.mov (.t 44)))⟩])
  (.seq (.region [⟨none, .s (.v 45 (.mov (.t 6)))⟩,
    ⟨none, .s (.v 46 (.mov (.t 0)))⟩,
    ⟨none, .s (.v 47 (.mov (.t 5)))⟩,
    ⟨none, .s (.v 48 (.lsl 4 (.t 46) (some (.t 47)) none))⟩,
    ⟨none, .s (.app 49 4 26 (.t 45) (.t 48))⟩,
    ⟨none, .s (.v 4 (.mov (.t 49)))⟩])
  .ret)))))))
def r_spec_l08Insert : List RV := [.tmp 4]

/-- impl.ascending$1 -/
def c_impl_ascending_1 : C :=
  (.seq (.region [⟨none, .s (.v 5 (.mov (.c (.bool false))))⟩])
  (.seq (.drawn true 16 [⟨none, .s (.v 6 (.load false 1 (.t 2)))⟩,
    ⟨none, .s (.v 7 (.mov (.t 0)))⟩,
    ⟨none, .s (.v 8 (.iaddr 4 (.t 6) (.t 7)))⟩,
    ⟨none, .s (.v 9 (.load true 4 (.t 8)))⟩,
    ⟨none, .s (.v 10 (.load false 1 (.t 2)))⟩,
    ⟨none, .s (.v 11 (.mov (.t 1)))⟩,
    ⟨none, .s (.v 12 (.iaddr 4 (.t 10) (.t 11)))⟩,
    ⟨none, .s (.v 13 (.load true 4 (.t 12)))⟩,
    ⟨none, .call (some 14) (.c (.func 59 [])) [(.t 9), (.t 13)]⟩,
    ⟨none, .s (.v 15 (.bin .lss false (.t 14) (.c (.int .i64 0))))⟩,
    ⟨none, .s (.v 5 (.mov (.t 15)))⟩])
  .ret))
def r_impl_ascending_1 : List RV := [.tmp 5]

/-- impl.isGround$1 -/
def c_impl_isGround_1 : C :=
  (.region [⟨none, .s (.store 1 (.t 1) (.c (.bool false)))⟩])
def r_impl_isGround_1 : List RV := []

/-- spec.l02Cmp -/
def c_spec_l02Cmp : C :=
  (.seq (.region [⟨none, .s (.box 2 none (.t 0))⟩,
    ⟨none, .s (.box 3 none (.t 1))⟩,
    ⟨none, .s (.v 4 (.mov (.c (.int .i64 0))))⟩])
  (.seq (.seq (.region [⟨none, .s (.v 7 (.faddr 0 false 1 (.t 2)))⟩,
    ⟨none, .s (.v 8 (.load false 1 (.t 7)))⟩,
    ⟨none, .s (.v 9 (.faddr 0 false 1 (.t 3)))⟩,
    ⟨none, .s (.v 10 (.load false 1 (.t 9)))⟩,
    ⟨none, .s (.v 11 (.bin .neq false (.t 8) (.t 10)))⟩])
  (.cond (.t 11)
    (.seq (.region [⟨none, .s (.v 12 (.faddr 0 false 1 (.t 2)))⟩,
      ⟨none, .s (.v 13 (.load false 1 (.t 12)))⟩,
      ⟨none, .s (.v 14 (.faddr 0 false 1 (.t 3)))⟩,
      ⟨none, .s (.v 15 (.load false 1 (.t 14)))⟩,
      ⟨none, .s (.v 16 (.bin .lss false (.t 13) (.t 15)))⟩,
      ⟨none, .call (some 17) (.c (.func 160 [])) [(.t 16)]⟩,
      ⟨none, .s (.v 4 (.mov (.t 17)))⟩])
    .ret)
    .skip))
  (.seq (.seq (.region [⟨none, .s (.v 18 (.faddr 1 false 1 (.t 2)))⟩,
    ⟨none, .s (.v 19 (.load false 1 (.t 18)))⟩,
    ⟨none, .s (.v 20 (.faddr 1 false 1 (.t 3)))⟩,
    ⟨none, .s (.v 21 (.load false 1 (.t 20)))⟩,
    ⟨none, .s (.v 22 (.bin .neq false (.t 19) (.t 21)))⟩])
  (.cond (.t 22)
    (.seq (.region [⟨none, .s (.v 23 (.faddr 1 false 1 (.t 2)))⟩,
      ⟨none, .s (.v 24 (.load false 1 (.t 23)))⟩,
      ⟨none, .s (.v 25 (.faddr 1 false 1 (.t 3)))⟩,
      ⟨none, .s (.v 26 (.load false 1 (.t 25)))⟩,
      ⟨none, .s (.v 27 (.bin .lss false (.t 24) (.t 26)))⟩,
      ⟨none, .call (some 28) (.c (.func 160 [])) [(.t 27)]⟩,
      ⟨none, .s (.v 4 (.mov (.t 28)))⟩])
    .ret)
    .skip))
  (.seq (.seq (.region [⟨none, .s (.v 29 (.faddr 2 false 1 (.t 2)))⟩,
    ⟨none, .s (.v 30 (.load false 1 (.t 29)))⟩,
    ⟨none, .s (.v 31 (.faddr 2 false 1 (.t 3)))⟩,
    ⟨none, .s (.v 32 (.load false 1 (.t 31)))⟩,
    ⟨none, .s (.v 33 (.bin .neq false (.t 30) (.t 32)))⟩])
  (.cond (.t 33)
    (.seq (.region [⟨none, .s (.v 34 (.faddr 2 false 1 (.t 2)))⟩,
      ⟨none, .s (.v 35 (.load false 1 (.t 34)))⟩,
      ⟨none, .s (.v 36 (.faddr 2 false 1 (.t 3)))⟩,
      ⟨none, .s (.v 37 (.load false 1 (.t 36)))⟩,
      ⟨none, .s (.v 38 (.bin .lss false (.t 35) (.t 37)))⟩,
      ⟨none, .call (some 39) (.c (.func 160 [])) [(.t 38)]⟩,
      ⟨none, .s (.v 4 (.mov (.t 39)))⟩])
    .ret)
    .skip))
  (.seq (.seq (.region [⟨none, .s (.v 5 (.mov (.c (.int .i64 0))))⟩])
  (.block 0 
    (.loop 
      (.seq (.seq (.region [⟨none, .s (.v 40 (.mov (.t 5)))⟩,
        ⟨none, .s (.v 41 (.faddr 3 false 1 (.t 2)))⟩,
        ⟨none, .s (.v 42 (.load false 1 (.t 41)))⟩,
        ⟨none, .s (.v 43 (.len (.t 42)))⟩,
        ⟨none, .s (.v 44 (.bin .lss false (.t 40) (.t 43)))⟩,
        ⟨none, .s (.v 45 (.mov (.t 44)))⟩,
        ⟨(some (45, true)), .s (.v 46 (.mov (.t 5)))⟩,
        ⟨(some (45, true)), .s (.v 47 (.faddr 3 false 1 (.t 3)))⟩,
        ⟨(some (45, true)), .s (.v 48 (.load false 1 (.t 47)))⟩,
        ⟨(some (45, true)), .s (.v 49 (.len (.t 48)))⟩,
        ⟨(some (45, true)), .s (.v 50 (.bin .lss false (.t 46) (.t 49)))⟩,
        ⟨none, .s (.v 51 (.pick (.t 45) (.t 50) (.c (.bool false))))⟩])
      (.cond (.t 51)
        .skip
        (.exit 0)))
      (.seq (.block 1 
        (.seq (.drawn true 68 [⟨none, .s (.v 54 (.faddr 3 false 1 (.t 2)))⟩,
          ⟨none, .s (.v 55 (.load false 1 (.t 54)))⟩,
          ⟨none, .s (.v 56 (.mov (.t 5)))⟩,
          ⟨none, .s (.v 57 (.iaddr 4 (.t 55) (.t 56)))⟩,
          ⟨none, .s (.v 58 (.load true 4 (.t 57)))⟩,
          ⟨none, .s (.v 59 (.faddr 3 false 1 (.t 3)))⟩,
          ⟨none, .s (.v 60 (.load false 1 (.t 59)))⟩,
          ⟨none, .s (.v 61 (.mov (.t 5)))⟩,
          ⟨none, .s (.v 62 (.iaddr 4 (.t 60) (.t 61)))⟩,
          ⟨none, .s (.v 63 (.load true 4 (.t 62)))⟩,
          ⟨none, .call (some 64) (.c (.func 124 [])) [(.t 58), (.t 63)]⟩,
          ⟨none, .s (.v 6 (.mov (.t 64)))⟩])
        (.seq (.region [⟨none, .s (.v 65 (.mov (.t 6)))⟩,
          ⟨none, .s (.v 66 (.bin .neq false (.t 65) (.c (.int .i64 0))))⟩])
        (.cond (.t 66)
          (.seq (.region [⟨none, .s (.v 67 (.mov (.t 6)))⟩,
            ⟨none, .s (.v 4 (.mov (.t 67)))⟩])
          .ret)
          .skip))))
      (.region [⟨none, .s (.v 52 (.mov (.t 5)))⟩,
        ⟨none, .s (.v 53 (.bin .add false (.t 52) (.c (.int .i64 1))))⟩,
        ⟨none, .s (.v 5 (.mov (.t 53)))⟩]))))))
  (.seq (.region [⟨none, .s (.v 4 (.mov (.c (.int .i64 0))))⟩])
  .ret))))))
def r_spec_l02Cmp : List RV := [.tmp 4]

/-- spec.l02Same -/
def c_spec_l02Same : C :=
  (.seq (.region [⟨none, .s (.box 2 none (.t 0))⟩,
    ⟨none, .s (.box 3 none (.t 1))⟩,
    ⟨none, .s (.v 4 (.mov (.c (.bool false))))⟩])
  (.seq (.region [⟨none, .s (.v 5 (.load true 4 (.t 2)))⟩,
    ⟨none, .s (.v 6 (.load true 4 (.t 3)))⟩,
    ⟨none, .call (some 7) (.c (.func 124 [])) [(.t 5), (.t 6)]⟩,
    ⟨none, .s (.v 8 (.bin .eql false (.t 7) (.c (.int .i64 0))))⟩,
    ⟨none, .s (.v 4 (.mov (.t 8)))⟩])
  .ret))
def r_spec_l02Same : List RV := [.tmp 4]

/-- spec.l02Sign -/
def c_spec_l02Sign : C :=
  (.seq (.region [⟨none, .s (.v 2 (.mov (.c (.int .i64 0))))⟩])
  (.seq (.seq (.region [⟨none, .s (.v 3 (.mov (.t 0)))⟩])
  (.cond (.t 3)
    (.seq (.region [⟨none, .s (.v 2 (.mov (.c (.int .i64 (-1)))))⟩])
    .ret)
    .skip))
  (.seq (.region [⟨none, .s (.v 2 (.mov (.c (.int .i64 1))))⟩])
  .ret)))
def r_spec_l02Sign : List RV := [.tmp 2]
def tys2 : List (Nat × TF) := [
  (3, ⟨1, 8, .int .i64, .int .i64 0⟩),
  (4, ⟨1, 1, .bool, .bool false⟩),
  (9, ⟨1, 16, .str, .str []⟩),
  (22, ⟨1, 24, .slice 5, .slice 1 .nil []⟩),
  (23, ⟨1, 24, .slice 26, .slice 4 .nil []⟩),
  (26, ⟨4, 56, .struct [(0, 3), (1, 3), (2, 9), (3, 23)], .agg [.int .i64 0, .int .i64 0, .str [], .slice 4 .nil []]⟩),
  (30, ⟨5, 64, .struct [(0, 3), (1, 26)], .agg [.int .i64 0, .int .i64 0, .int .i64 0, .str [], .slice 4 .nil []]⟩),
  (31, ⟨1, 24, .slice 30, .slice 5 .nil []⟩),
  (49, ⟨1, 24, .slice 3, .slice 1 .nil []⟩),
  (97, ⟨1, 24, .slice 31, .slice 1 .nil []⟩),
  (102, ⟨1, 8, .other, .junk⟩),
  (103, ⟨1, 8, .map 3 23, .junk⟩)]
theorem tysok2 : tysOk Tryz.prog tys2 = true := by kernel_rfl
theorem ok_laws_FnGround : fnOk tys2 c_laws_FnGround r_laws_FnGround 1 Tryz.f3 = true := by kernel_rfl
theorem f_laws_FnGround : Tryz.prog.funcs[(3 : Nat)]? = some Tryz.f3 := Tryz.func3
theorem ok_spec_MakeUniverse : fnOk tys2 c_spec_MakeUniverse r_spec_MakeUniverse 3 Tryz.f7 = true := by kernel_rfl
theorem f_spec_MakeUniverse : Tryz.prog.funcs[(7 : Nat)]? = some Tryz.f7 := Tryz.func7
theorem ok_impl_GroundInstances : fnOk tys2 c_impl_GroundInstances r_impl_GroundInstances 2 Tryz.f10 = true := by kernel_rfl
theorem f_impl_GroundInstances : Tryz.prog.funcs[(10 : Nat)]? = some Tryz.f10 := Tryz.func10
theorem ok_impl_UniverseOk : fnOk tys2 c_impl_UniverseOk r_impl_UniverseOk 1 Tryz.f11 = true := by kernel_rfl
theorem f_impl_UniverseOk : Tryz.prog.funcs[(11 : Nat)]? = some Tryz.f11 := Tryz.func11
theorem ok_impl_IsGround : fnOk tys2 c_impl_IsGround r_impl_IsGround 1 Tryz.f12 = true := by kernel_rfl
theorem f_impl_IsGround : Tryz.prog.funcs[(12 : Nat)]? = some Tryz.f12 := Tryz.func12
theorem ok_impl_CompareTerms : fnOk tys2 c_impl_CompareTerms r_impl_CompareTerms 2 Tryz.f14 = true := by kernel_rfl
theorem f_impl_CompareTerms : Tryz.prog.funcs[(14 : Nat)]? = some Tryz.f14 := Tryz.func14
theorem ok_impl_SubtermsOf : fnOk tys2 c_impl_SubtermsOf r_impl_SubtermsOf 1 Tryz.f16 = true := by kernel_rfl
theorem f_impl_SubtermsOf : Tryz.prog.funcs[(16 : Nat)]? = some Tryz.f16 := Tryz.func16
theorem ok_laws_list : fnOk tys2 c_laws_list r_laws_list 2 Tryz.f17 = true := by kernel_rfl
theorem f_laws_list : Tryz.prog.funcs[(17 : Nat)]? = some Tryz.f17 := Tryz.func17
theorem ok_impl_GroundTerms : fnOk tys2 c_impl_GroundTerms r_impl_GroundTerms 2 Tryz.f18 = true := by kernel_rfl
theorem f_impl_GroundTerms : Tryz.prog.funcs[(18 : Nat)]? = some Tryz.f18 := Tryz.func18
theorem ok_spec_l08Universe : fnOk tys2 c_spec_l08Universe r_spec_l08Universe 2 Tryz.f49 = true := by kernel_rfl
theorem f_spec_l08Universe : Tryz.prog.funcs[(49 : Nat)]? = some Tryz.f49 := Tryz.func49
theorem ok_impl_power : fnOk tys2 c_impl_power r_impl_power 2 Tryz.f55 = true := by kernel_rfl
theorem f_impl_power : Tryz.prog.funcs[(55 : Nat)]? = some Tryz.f55 := Tryz.func55
theorem ok_impl_assignments : fnOk tys2 c_impl_assignments r_impl_assignments 2 Tryz.f56 = true := by kernel_rfl
theorem f_impl_assignments : Tryz.prog.funcs[(56 : Nat)]? = some Tryz.f56 := Tryz.func56
theorem ok_impl_ascending : fnOk tys2 c_impl_ascending r_impl_ascending 1 Tryz.f58 = true := by kernel_rfl
theorem f_impl_ascending : Tryz.prog.funcs[(58 : Nat)]? = some Tryz.f58 := Tryz.func58
theorem ok_impl_isGround : fnOk tys2 c_impl_isGround r_impl_isGround 1 Tryz.f60 = true := by kernel_rfl
theorem f_impl_isGround : Tryz.prog.funcs[(60 : Nat)]? = some Tryz.f60 := Tryz.func60
theorem ok_impl_termsOk : fnOk tys2 c_impl_termsOk r_impl_termsOk 1 Tryz.f62 = true := by kernel_rfl
theorem f_impl_termsOk : Tryz.prog.funcs[(62 : Nat)]? = some Tryz.f62 := Tryz.func62
theorem ok_impl_SubtermsOf_1 : fnOk tys2 c_impl_SubtermsOf_1 r_impl_SubtermsOf_1 3 Tryz.f63 = true := by kernel_rfl
theorem f_impl_SubtermsOf_1 : Tryz.prog.funcs[(63 : Nat)]? = some Tryz.f63 := Tryz.func63
theorem ok_spec_l08Insert : fnOk tys2 c_spec_l08Insert r_spec_l08Insert 2 Tryz.f79 = true := by kernel_rfl
theorem f_spec_l08Insert : Tryz.prog.funcs[(79 : Nat)]? = some Tryz.f79 := Tryz.func79
theorem ok_impl_ascending_1 : fnOk tys2 c_impl_ascending_1 r_impl_ascending_1 3 Tryz.f113 = true := by kernel_rfl
theorem f_impl_ascending_1 : Tryz.prog.funcs[(113 : Nat)]? = some Tryz.f113 := Tryz.func113
theorem ok_impl_isGround_1 : fnOk tys2 c_impl_isGround_1 r_impl_isGround_1 2 Tryz.f116 = true := by kernel_rfl
theorem f_impl_isGround_1 : Tryz.prog.funcs[(116 : Nat)]? = some Tryz.f116 := Tryz.func116
theorem ok_spec_l02Cmp : fnOk tys2 c_spec_l02Cmp r_spec_l02Cmp 2 Tryz.f124 = true := by kernel_rfl
theorem f_spec_l02Cmp : Tryz.prog.funcs[(124 : Nat)]? = some Tryz.f124 := Tryz.func124
theorem ok_spec_l02Same : fnOk tys2 c_spec_l02Same r_spec_l02Same 2 Tryz.f128 = true := by kernel_rfl
theorem f_spec_l02Same : Tryz.prog.funcs[(128 : Nat)]? = some Tryz.f128 := Tryz.func128
theorem ok_spec_l02Sign : fnOk tys2 c_spec_l02Sign r_spec_l02Sign 1 Tryz.f160 = true := by kernel_rfl
theorem f_spec_l02Sign : Tryz.prog.funcs[(160 : Nat)]? = some Tryz.f160 := Tryz.func160
end Go.Proofs.YtchidkafcdmciaaGreat
/- Loops: a state at the head by what the loop keeps and what it carries; loops that count. -/
set_option linter.all false
namespace Go.Pv
open Go Go.RowKit

/-- The slots ks of t, as they are. -/
def keepT (t : List (Nat × PV)) (ks : List Nat) : List (Nat × PV) := ks.map fun k => (k, get k t)
@[simp] theorem keepT_nil (t : List (Nat × PV)) : keepT t [] = [] := rfl
@[simp] theorem keepT_cons (t : List (Nat × PV)) (k : Nat) (ks : List Nat) : keepT t (k :: ks) = (k, get k t) :: keepT t ks := rfl
/-- A state at the head of a loop: the slots that it keeps, and those that it carries. -/
def mkS (st : St) (ks : List Nat) (cs : List (Nat × PV)) : St := ⟨keepT st.t ks ++ cs, st.b, st.e, st.n, st.o⟩
theorem mkS_eq (t : List (Nat × PV)) (b : List (Key × List PV)) (e : List (Key × Own)) (n : Nat) (o : List Key) (ks : List Nat) (cs : List (Nat × PV)) : mkS ⟨t, b, e, n, o⟩ ks cs = ⟨keepT t ks ++ cs, b, e, n, o⟩ := rfl

def IR {α : Type} (S : Nat → α → St) (n : Nat) (J : Nat → α → Prop) (k : Nat) (st : St) : Prop := ∃ i a, i ≤ n ∧ k = n - i ∧ J i a ∧ st = S i a
section
variable {P : Program} {ob : List Key} {st : St} {Q : Exit → St → Prop} {c : C} {α : Type}
/-- A loop that counts from 0 to n and carries an α. -/
theorem evC_rng (S : Nat → α → St) (n : Nat) (J : Nat → α → Prop) (a0 : α) (hw : Weaker ob st (S 0 a0)) (h0 : J 0 a0) (hend : ∀ a, J n a → (∀ i, bndV (get i (S n a).t)) → evC P ob c (LoopQ ob (IR S n J) 0 Q) (S n a))
    (hstep : ∀ i a, i < n → J i a → (∀ j, bndV (get j (S i a).t)) → evC P ob c (LoopQ ob (IR S n J) (n - i) Q) (S i a)) : evC P ob (.loop c) Q st := by
  refine evC_loop (IR S n J) n _ hw ⟨0, a0, by omega, by omega, h0, rfl⟩ ?_
  rintro k s ⟨i, a, hi, rfl, hj, rfl⟩ hb _
  rcases Nat.lt_or_ge i n with h | h
  · exact hstep i a h hj hb
  · obtain rfl : i = n := by omega
    rw [Nat.sub_self]
    exact hend a hj hb
theorem LoopQ.rng {S : Nat → α → St} {n : Nat} {J : Nat → α → Prop} {i : Nat} (a' : α) (hi : i < n) (hj : J (i + 1) a') (hw : Weaker ob st (S (i + 1) a')) : LoopQ ob (IR S n J) (n - i) Q .normal st :=
  ⟨n - (i + 1), _, by omega, hw, i + 1, a', by omega, rfl, hj, rfl⟩
def IW {α : Type} (S : α → St) (μ : α → Nat) (J : α → Prop) (k : Nat) (st : St) : Prop := ∃ a, k = μ a ∧ J a ∧ st = S a
/-- A loop that carries an α whose measure goes down. -/
theorem evC_whl (S : α → St) (μ : α → Nat) (J : α → Prop) (a0 : α) (hw : Weaker ob st (S a0)) (h0 : J a0)
    (hstep : ∀ a, J a → (∀ j, bndV (get j (S a).t)) → evC P ob c (LoopQ ob (IW S μ J) (μ a) Q) (S a)) : evC P ob (.loop c) Q st := by
  refine evC_loop (IW S μ J) (μ a0) _ hw ⟨a0, rfl, h0, rfl⟩ ?_
  rintro k s ⟨a, rfl, hj, rfl⟩ hb _
  exact hstep a hj hb
theorem LoopQ.whl {S : α → St} {μ : α → Nat} {J : α → Prop} {k : Nat} (a' : α) (hm : μ a' < k) (hj : J a') (hw : Weaker ob st (S a')) : LoopQ ob (IW S μ J) k Q .normal st :=
  ⟨μ a', _, hm, hw, a', rfl, hj, rfl⟩
end
end Go.Pv
/- Frames with boxes of their own beside objects that are not written out; the half of a sum; exchanged elements. -/
set_option linter.all false
namespace Go.Pv
open Go Go.RowKit

/-- A name of an object of s, or of a box of the frame's own. -/
def nmL (s : Obs) (n : Nat) (k : Key) : Prop := inObs s k ∨ ∃ m, m < n ∧ k = .loc m
@[simp] theorem nmL_loc (s : Obs) (n m : Nat) (hm : m < n) : nmL s n (.loc m) := .inr ⟨m, hm, rfl⟩
theorem nmL_kinL {s : Obs} {n : Nat} {l : List PV} (h : kinL (inObs s) l) : kinL (nmL s n) l := kinL_mono (fun _ h => .inl h) l h
theorem nmL_fresh {s s' : Obs} (hss : Same s s') {n : Nat} {k : Key} (h : nmL s' n k) : ¬fresh n (obsIds s) k := by
  rcases h with h | ⟨m, hm, rfl⟩
  · exact fun hf => hf.2 (obsIds_of ((hss.inObs k).2 h))
  · intro hf
    have := hf.1
    simp at this
    omega
/-- At the head of a loop: some slots, boxes of the frame's own, and the objects. -/
theorem Weaker.obL {s s' : Obs} (hs' : ObOk s') (hss : Same s s') {st : St} {t' : List (Nat × PV)} {L : List (Key × List PV)} {n : Nat} (ht : ∀ x ∈ t', get x.1 st.t = x.2 ∧ kin (nmL s' n) x.2) (hL : ∀ x ∈ L, look x.1 st.b = some x.2 ∧ nmL s' n x.1 ∧ kinL (nmL s' n) x.2)
    (hb : ∀ k cs, look k s'.b = some cs → look k st.b = some cs) (he : ∀ k o, look k s'.e = some o → look k st.e = some o) : Weaker (obsIds s) st ⟨t', L ++ s'.b, s'.e, n, obsIds s⟩ := by
  refine ⟨fun x hx => ⟨(ht x hx).1, kin_mono (fun k hk => nmL_fresh hss hk) _ (ht x hx).2⟩, fun k cs hk => ?_, fun k o ho => ?_, fun m hm => hm⟩
  · simp only at hk
    rw [look_app] at hk
    cases hl : look k L with
    | some x =>
      rw [hl] at hk
      simp only [Option.some.injEq] at hk
      subst hk
      obtain ⟨h1, h2, h3⟩ := hL _ (look_mem hl)
      exact ⟨h1, nmL_fresh hss h2, kinL_mono (fun k hk => nmL_fresh hss hk) _ h3⟩
    | none =>
      rw [hl] at hk
      exact ⟨hb k cs hk, nmL_fresh hss (.inl (.inl (by simp [hk]))), kinL_mono (fun k hk => nmL_fresh hss (.inl hk)) _ (hs'.kb k cs hk)⟩
  · exact ⟨he k o ho, nmL_fresh hss (.inl (.inr (by simp at ho; simp [ho]))), fun xs hx => kinL_mono (fun k hk => nmL_fresh hss (.inl hk)) _ (hs'.ke k o ho xs hx)⟩

/-- Two elements exchanged. -/
def lswp {α : Type} (l : List α) (i j : Nat) : List α := match l[i]?, l[j]? with
  | some x, some y => (l.set i y).set j x
  | _, _ => l
section
variable {α : Type}
@[simp] theorem lswp_length (l : List α) (i j : Nat) : (lswp l i j).length = l.length := by
  unfold lswp
  split <;> simp
theorem lswp_get (l : List α) (i j k : Nat) (hi : i < l.length) (hj : j < l.length) : (lswp l i j)[k]? = if k = i then l[j]? else if k = j then l[i]? else l[k]? := by
  unfold lswp
  rw [List.getElem?_eq_getElem hi, List.getElem?_eq_getElem hj]
  simp only [List.getElem?_set, List.length_set]
  by_cases h1 : j = k
  · subst h1
    by_cases h2 : j = i
    · subst h2; simp [hi]
    · simp [h2, hj]
  · by_cases h2 : i = k
    · subst h2; simp [h1, hi]
    · simp [h1, h2, Ne.symm h1, Ne.symm h2]
theorem lswp_perm (l : List α) (i j : Nat) : (lswp l i j).Perm l := by
  unfold lswp
  split
  · rename_i x y hx hy
    obtain ⟨hi, rfl⟩ := List.getElem?_eq_some_iff.1 hx
    obtain ⟨hj, rfl⟩ := List.getElem?_eq_some_iff.1 hy
    exact List.set_set_perm hi hj
  · exact .refl _
/-- Exchanges between a and b alone. -/
inductive Seg (a b : Nat) : List α → List α → Prop
  | refl (l : List α) : Seg a b l l
  | step {l m : List α} {i j : Nat} : Seg a b l m → a ≤ i → i < b → a ≤ j → j < b → i < m.length → j < m.length → Seg a b l (lswp m i j)
theorem Seg.length {a b : Nat} {l m : List α} (h : Seg a b l m) : m.length = l.length := by
  induction h with
  | refl => rfl
  | step _ _ _ _ _ _ _ ih => rw [lswp_length, ih]
theorem Seg.perm {a b : Nat} {l m : List α} (h : Seg a b l m) : m.Perm l := by
  induction h with
  | refl => exact .refl _
  | step _ _ _ _ _ _ _ ih => exact (lswp_perm _ _ _).trans ih
theorem Seg.out {a b : Nat} {l m : List α} (h : Seg a b l m) (k : Nat) (hk : k < a ∨ b ≤ k) : m[k]? = l[k]? := by
  induction h with
  | refl => rfl
  | step _ h1 h2 h3 h4 h5 h6 ih => rw [lswp_get _ _ _ _ h5 h6, if_neg (by omega), if_neg (by omega)]; exact ih
theorem Seg.all {a b : Nat} {l m : List α} (h : Seg a b l m) (p : α → Prop) (hp : ∀ k x, a ≤ k → k < b → l[k]? = some x → p x) : ∀ k x, a ≤ k → k < b → m[k]? = some x → p x := by
  induction h with
  | refl => exact hp
  | step _ h1 h2 h3 h4 h5 h6 ih =>
    intro k x hk1 hk2 hx
    rw [lswp_get _ _ _ _ h5 h6] at hx
    split at hx
    · exact ih _ _ h3 h4 hx
    · split at hx
      · exact ih _ _ h1 h2 hx
      · exact ih _ _ hk1 hk2 hx
theorem Seg.trans {a b : Nat} {l m r : List α} (h : Seg a b l m) (h' : Seg a b m r) : Seg a b l r := by
  induction h' with
  | refl => exact h
  | step _ h1 h2 h3 h4 h5 h6 ih => exact .step ih h1 h2 h3 h4 h5 h6
theorem Seg.mono {a b a' b' : Nat} {l m : List α} (h : Seg a b l m) (ha : a' ≤ a) (hb : b ≤ b') : Seg a' b' l m := by
  induction h with
  | refl => exact .refl _
  | step _ h1 h2 h3 h4 h5 h6 ih => exact .step ih (by omega) (by omega) (by omega) (by omega) h5 h6
/-- In order between a and b. -/
def SrtIn (lt : α → α → Bool) (a b : Nat) (l : List α) : Prop := ∀ i j x y, a ≤ i → i < j → j < b → l[i]? = some x → l[j]? = some y → lt y x = false
structure LtOk (lt : α → α → Bool) : Prop where
  asym : ∀ x y, lt x y = true → lt y x = false
  ntr : ∀ x y z, lt y x = false → lt z y = false → lt z x = false
theorem SrtIn.pairwise {lt : α → α → Bool} {l : List α} (h : SrtIn lt 0 l.length l) : l.Pairwise fun x y => lt y x = false := by
  rw [List.pairwise_iff_getElem]
  intro i j hi hj hij
  exact h i j _ _ (by omega) hij hj (List.getElem?_eq_getElem hi) (List.getElem?_eq_getElem hj)
/-- Where a rotation takes the element at k from. -/
def rotI (a m b k : Nat) : Nat := if k < a then k else if k < a + (b - m) then k + (m - a) else if k < b then k - (b - m) else k
def swI (a b c k : Nat) : Nat := if a ≤ k ∧ k < a + c then b + (k - a) else if b ≤ k ∧ k < b + c then a + (k - b) else k
end
/-- The half of a sum, as Go computes it. -/
theorem half_wrap (i j : Nat) (h : i + j ≤ 4000000) : IntKind.i64.wrap (Int.fdiv (IntKind.u64.wrap ((i : Int) + j)) (2 ^ (min 1 IntKind.u64.bits))) = ((i + j) / 2 : Nat) := by
  have hw : IntKind.u64.wrap ((i : Int) + j) = i + j := by simp [IntKind.wrap, IntKind.bits, IntKind.signed]; omega
  have hb64 : IntKind.u64.bits = 64 := rfl
  rw [hw, hb64, show (2 : Int) ^ (min 1 64) = 2 from by decide, Int.fdiv_eq_ediv_of_nonneg _ (by omega), IntWalk.i64_in]
  · omega
  · omega
end Go.Pv
/- Loops over the state at their beginning. -/
set_option linter.all false
namespace Go.Pv
open Go Go.RowKit
section
variable {P : Program} {ob : List Key} {st : St} {Q : Exit → St → Prop} {c : C} {α : Type}
theorem evC_rngK (ks : List Nat) (cs : Nat → α → List (Nat × PV)) (n : Nat) (J : Nat → α → Prop) (a0 : α) (hw : Weaker ob st (mkS st ks (cs 0 a0))) (h0 : J 0 a0) (hend : ∀ a, J n a → (∀ i, bndV (get i (mkS st ks (cs n a)).t)) → evC P ob c (LoopQ ob (IR (fun i a => mkS st ks (cs i a)) n J) 0 Q) (mkS st ks (cs n a)))
    (hstep : ∀ i a, i < n → J i a → (∀ j, bndV (get j (mkS st ks (cs i a)).t)) → evC P ob c (LoopQ ob (IR (fun i a => mkS st ks (cs i a)) n J) (n - i) Q) (mkS st ks (cs i a))) : evC P ob (.loop c) Q st :=
  evC_rng (fun i a => mkS st ks (cs i a)) n J a0 hw h0 hend hstep
theorem evC_whlK (ks : List Nat) (cs : α → List (Nat × PV)) (μ : α → Nat) (J : α → Prop) (a0 : α) (hw : Weaker ob st (mkS st ks (cs a0))) (h0 : J a0)
    (hstep : ∀ a, J a → (∀ j, bndV (get j (mkS st ks (cs a)).t)) → evC P ob c (LoopQ ob (IW (fun a => mkS st ks (cs a)) μ J) (μ a) Q) (mkS st ks (cs a))) : evC P ob (.loop c) Q st :=
  evC_whl (fun a => mkS st ks (cs a)) μ J a0 hw h0 hstep
end
attribute [simp] mkS_eq
end Go.Pv
/- Contracts: ground terms, order. -/
set_option linter.all false
namespace Go.Proofs.YtchidkafcdmciaaGreat
open Go Go.Pv

/-- Ground. -/
def _root_.Go.Pv.T.gnd : T → Bool
  | .var _ => false
  | .pair a b => a.gnd && b.gnd
  | _ => true
def SG (b : Bool) : Obs := ⟨[(.obj 501, [.bool b])], []⟩
theorem SG_ok (b : Bool) : ObOk (SG b) := by unfold SG; exact (ObOk.of ⟨by intro m; simp [Pv.look], by intro m; simp [Pv.look]⟩ (by simp [kinL, kin, inObs, Pv.look]) (by simp [kinL, kin, inObs, Pv.look]))
theorem SG_same (a b : Bool) : Same (SG a) (SG b) := ⟨fun k => by simp only [SG, Pv.look]; split <;> rfl, fun _ => rfl⟩
theorem g_isGround1 (v : Int) (b : Bool) : FnG Tryz.prog 116 [.int .i64 v, .ptr (.obj 501) 0] (SG b) fun r s' => r = .tuple [] ∧ s' = SG false := by
  have hs := SG_ok b
  unfold SG at hs ⊢
  refine FnG.mk mixed tysok2 f_impl_isGround_1 ok_impl_isGround_1 (by simp) hs.obj fun hbnd hbb => ?_; unfold c_impl_isGround_1
  simp
  refine RetQ.at (SG false) (.inr rfl) (SG_ok _) (SG_same b false) (by unfold SG; exact (by first | (refine kpL ?_; simp; done) | (intro k x hx; first | exact hx | (simp [hx, without_self]; done) | (simp [look_app, without_self, hx]; done) | (cases k <;> simp_all [look_app]; done)))) (by unfold SG; exact (by first | (refine kpL ?_; simp; done) | (intro k x hx; first | exact hx | (simp [hx, without_self]; done) | (simp [look_app, without_self, hx]; done) | (cases k <;> simp_all [look_app]; done)))) ?_
  simp [ResIs, r_impl_isGround_1, resL, resV, tup]
  simp [SG]
theorem fold_false (t : T) (b : Bool) : t.fold (fun _ _ => false) b = (b && t.gnd) := by
  induction t generalizing b with
  | pair x y ihx ihy => simp [T.fold, T.gnd, ihx, ihy, Bool.and_assoc]
  | _ => simp [T.fold, T.gnd]
theorem v_isGround (t : T) : FnV Tryz.prog 60 [t.e] (.bool t.gnd) := by
  refine FnV.mk mixed tysok2 f_impl_isGround ok_impl_isGround (by simp) (by simp [kin]) fun hbnd => ?_; unfold c_impl_isGround
  simp
  refine CallDo.ob (g_eachVar SG SG_ok SG_same 116 [.ptr (.obj 501) 0] (by intro a; simp [inObs, SG, Pv.look, kinL, kin]) (by simp) (fun _ _ => false) g_isGround1 t true) (SG_ok true) (by unfold SG; exact (by first | (refine kpL ?_; simp; done) | (intro k x hx; first | exact hx | (simp [hx, without_self]; done) | (simp [look_app, without_self, hx]; done) | (cases k <;> simp_all [look_app]; done)))) (by unfold SG; exact (by first | (refine kpL ?_; simp; done) | (intro k x hx; first | exact hx | (simp [hx, without_self]; done) | (simp [look_app, without_self, hx]; done) | (cases k <;> simp_all [look_app]; done)))) (by simp [inObs, SG, Pv.look]) ?_
  rintro r s' ⟨rfl, rfl⟩
  refine ⟨SG_same _ _, ?_⟩
  unfold SG
  simp [without, fold_false]
  simp [RetV, r_impl_isGround, resL, resV, tup]
theorem v_IsGround (t : T) : FnV Tryz.prog 12 [t.e] (.bool (t.fit && t.gnd)) := by
  refine FnV.mk mixed tysok2 f_impl_IsGround ok_impl_IsGround (by simp) (by simp [kin]) fun hbnd => ?_; unfold c_impl_IsGround
  simp
  (repeat' first | (with_reducible refine evCd_split (fun h => ?_) (fun h => ?_) <;> (try simp at h)) | (with_reducible refine evGd_split (fun h => ?_) (fun h => ?_) <;> (try simp at h)) | (with_reducible refine evDd_split (fun h => ?_) (fun h => ?_) <;> (try simp at h)) | with_reducible refine And.intro (by (first | omega | (unfold in64; omega))) ?_ | with_reducible refine CallDo.val (by simp) (v_TermOkT _) ?_ | with_reducible refine CallD.val (by simp) (v_TermOkT _) ?_ | with_reducible refine CallDo.val (by simp) (v_isGround _) ?_ | with_reducible refine CallD.val (by simp) (v_isGround _) ?_ | simp)
  all_goals simp [RetV, r_impl_IsGround, resL, resV, tup]
  all_goals simp_all
theorem v_CompareTerms (a b : T) : FnV Tryz.prog 14 [a.e, b.e] (.int .i64 (if a.fit && b.fit then ordT a b else 2)) := by
  refine FnV.mk mixed tysok2 f_impl_CompareTerms ok_impl_CompareTerms (by simp) (by simp [kin]) fun hbnd => ?_; unfold c_impl_CompareTerms
  simp
  (repeat' first | (with_reducible refine evCd_split (fun h => ?_) (fun h => ?_) <;> (try simp at h)) | (with_reducible refine evGd_split (fun h => ?_) (fun h => ?_) <;> (try simp at h)) | (with_reducible refine evDd_split (fun h => ?_) (fun h => ?_) <;> (try simp at h)) | with_reducible refine And.intro (by (first | omega | (unfold in64; omega))) ?_ | with_reducible refine CallDo.val (by simp) (v_TermOkT _) ?_ | with_reducible refine CallD.val (by simp) (v_TermOkT _) ?_ | with_reducible refine CallDo.val (by simp) (v_orderTerms _ _) ?_ | with_reducible refine CallD.val (by simp) (v_orderTerms _ _) ?_ | simp)
  all_goals simp [RetV, r_impl_CompareTerms, resL, resV, tup]
  all_goals simp_all
def jAll (p : T → Bool) (l : List T) (i : Nat) (_ : Unit) : Prop := ∀ x ∈ l.take i, p x = true
theorem jAll.step {p : T → Bool} {l : List T} {i : Nat} (h : jAll p l i ()) (hi : i < l.length) (hp : p l[i] = true) : jAll p l (i + 1) () := by
  unfold jAll at *
  rw [List.take_succ, List.getElem?_eq_getElem hi]
  intro x hx
  rcases List.mem_append.1 hx with hx | hx
  · exact h x hx
  · simp at hx; subst hx; exact hp
theorem v_termsOk (l : List T) (hl : l.length ≤ 1000000) : FnV Tryz.prog 62 [.slice 4 .no (l.map T.e)] (.bool (l.all T.fit)) := by
  refine FnV.mk mixed tysok2 f_impl_termsOk ok_impl_termsOk (by simp) (by simp [kin]) fun hbnd => ?_; unfold c_impl_termsOk
  simp
  refine evC_rngK [5, 6] (fun i (_ : Unit) => [(7, .int .i64 i)]) l.length (jAll T.fit l) () ⟨by simp [fresh, kinL, kin, iterE, inObs, Pv.look], subB_of (by simp [fresh, kinL, kin, iterE, inObs, Pv.look]), subE_of (by simp [fresh, kinL, kin, kinO, inObs, Pv.look]), by simp⟩ (by simp [jAll]) (fun _ hj _ => ?_) (fun i _ hi hj _ => ?_)
  · simp
    (repeat' first | (with_reducible refine evCd_split (fun h => ?_) (fun h => ?_) <;> (try simp at h)) | (with_reducible refine evGd_split (fun h => ?_) (fun h => ?_) <;> (try simp at h)) | (with_reducible refine evDd_split (fun h => ?_) (fun h => ?_) <;> (try simp at h)) | with_reducible refine And.intro (by (first | omega | (unfold in64; omega))) ?_ | simp)
    simp [RetV, r_impl_termsOk, resL, resV, tup]
    simpa [jAll] using hj
  · simp [hi]
    (repeat' first | (with_reducible refine evCd_split (fun h => ?_) (fun h => ?_) <;> (try simp at h)) | (with_reducible refine evGd_split (fun h => ?_) (fun h => ?_) <;> (try simp at h)) | (with_reducible refine evDd_split (fun h => ?_) (fun h => ?_) <;> (try simp at h)) | with_reducible refine And.intro (by (first | omega | (unfold in64; omega))) ?_ | with_reducible refine CallDo.val (by simp) (v_TermOkT _) ?_ | with_reducible refine CallD.val (by simp) (v_TermOkT _) ?_ | simp)
    · simp [RetV, r_impl_termsOk, resL, resV, tup]
      exact ⟨_, List.getElem_mem hi, h⟩
    · exact LoopQ.rng () hi (hj.step hi h) ⟨by simp [fresh, kinL, kin, iterE, inObs, Pv.look], subB_of (by simp [fresh, kinL, kin, iterE, inObs, Pv.look]), subE_of (by simp [fresh, kinL, kin, kinO, inObs, Pv.look]), by simp⟩
/-- What UniverseOk asks. -/
def uniAt (u : List T) (i : Nat) : Bool := match u[i]? with
  | some t => t.fit && t.gnd && (i == 0 || match u[i - 1]? with | some s => decide (ordT s t < 0) | none => true)
  | none => true
def uniOk (u : List T) : Bool := decide (1 ≤ u.length ∧ u.length ≤ 8) && (List.range u.length).all (uniAt u)
def jUni (u : List T) (i : Nat) (_ : Unit) : Prop := ∀ k, k < i → uniAt u k = true
theorem uniOk_iff (u : List T) : uniOk u = true ↔ (1 ≤ u.length ∧ u.length ≤ 8) ∧ ∀ k, k < u.length → uniAt u k = true := by simp [uniOk]
theorem uniOk_not {u : List T} {i : Nat} (hi : i < u.length) (h : uniAt u i = false) : uniOk u = false := by
  cases hu : uniOk u with
  | false => rfl
  | true => rw [((uniOk_iff u).1 hu).2 i hi] at h; cases h
theorem jUni.step {u : List T} {i : Nat} (h : jUni u i ()) (hp : uniAt u i = true) : jUni u (i + 1) () := fun k hk => by
  rcases (by omega : k < i ∨ k = i) with h1 | rfl
  · exact h k h1
  · exact hp
set_option maxHeartbeats 1000000 in
theorem v_UniverseOk (u : List T) : FnV Tryz.prog 11 [.slice 4 .no (u.map T.e)] (.bool (uniOk u)) := by
  refine FnV.mk mixed tysok2 f_impl_UniverseOk ok_impl_UniverseOk (by simp) (by simp [kin]) fun hbnd => ?_; unfold c_impl_UniverseOk
  simp
  (repeat' first | (with_reducible refine evCd_split (fun h => ?_) (fun h => ?_) <;> (try simp at h)) | (with_reducible refine evGd_split (fun h => ?_) (fun h => ?_) <;> (try simp at h)) | (with_reducible refine evDd_split (fun h => ?_) (fun h => ?_) <;> (try simp at h)) | with_reducible refine And.intro (by (first | omega | (unfold in64; omega))) ?_ | simp)
  case refine_1.refine_2 =>
    have hlen : 1 ≤ u.length ∧ u.length ≤ 8 := by omega
    refine evC_rngK [0, 13, 14] (fun i (_ : Unit) => [(15, .int .i64 i)]) u.length (jUni u) () ⟨by simp [fresh, kinL, kin, iterE, inObs, Pv.look], subB_of (by simp [fresh, kinL, kin, iterE, inObs, Pv.look]), subE_of (by simp [fresh, kinL, kin, kinO, inObs, Pv.look]), by simp⟩ (by simp [jUni]) (fun _ hj _ => ?_) (fun i _ hi hj _ => ?_)
    · simp
      (repeat' first | (with_reducible refine evCd_split (fun h => ?_) (fun h => ?_) <;> (try simp at h)) | (with_reducible refine evGd_split (fun h => ?_) (fun h => ?_) <;> (try simp at h)) | (with_reducible refine evDd_split (fun h => ?_) (fun h => ?_) <;> (try simp at h)) | with_reducible refine And.intro (by (first | omega | (unfold in64; omega))) ?_ | simp)
      simp [RetV, r_impl_UniverseOk, resL, resV, tup]
      exact ((uniOk_iff u).2 ⟨hlen, hj⟩)
    · have hui : u[i]? = some u[i] := List.getElem?_eq_getElem hi
      obtain ⟨t, ht⟩ : ∃ t, t = u[i] := ⟨_, rfl⟩
      rcases Nat.eq_zero_or_pos i with rfl | hpos
      · have hat : uniAt u 0 = (t.fit && t.gnd) := by simp [uniAt, hui, ht]
        cases hf : (t.fit && t.gnd) with
        | false =>
          simp [hi, ← ht]
          (repeat' first | (with_reducible refine evCd_split (fun h => ?_) (fun h => ?_) <;> (try simp at h)) | (with_reducible refine evGd_split (fun h => ?_) (fun h => ?_) <;> (try simp at h)) | (with_reducible refine evDd_split (fun h => ?_) (fun h => ?_) <;> (try simp at h)) | with_reducible refine And.intro (by (first | omega | (unfold in64; omega))) ?_ | with_reducible refine CallDo.val (by simp) (v_IsGround _) ?_ | with_reducible refine CallD.val (by simp) (v_IsGround _) ?_ | with_reducible refine CallDo.val (by simp) (v_orderTerms _ _) ?_ | with_reducible refine CallD.val (by simp) (v_orderTerms _ _) ?_ | simp [hf])
          simp [RetV, r_impl_UniverseOk, resL, resV, tup]
          exact uniOk_not hi (by rw [hat, hf])
        | true =>
          simp [hi, ← ht]
          (repeat' first | (with_reducible refine evCd_split (fun h => ?_) (fun h => ?_) <;> (try simp at h)) | (with_reducible refine evGd_split (fun h => ?_) (fun h => ?_) <;> (try simp at h)) | (with_reducible refine evDd_split (fun h => ?_) (fun h => ?_) <;> (try simp at h)) | with_reducible refine And.intro (by (first | omega | (unfold in64; omega))) ?_ | with_reducible refine CallDo.val (by simp) (v_IsGround _) ?_ | with_reducible refine CallD.val (by simp) (v_IsGround _) ?_ | with_reducible refine CallDo.val (by simp) (v_orderTerms _ _) ?_ | with_reducible refine CallD.val (by simp) (v_orderTerms _ _) ?_ | simp [hf])
          exact LoopQ.rng () hi (hj.step (by rw [hat, hf])) ⟨by simp [fresh, kinL, kin, iterE, inObs, Pv.look], subB_of (by simp [fresh, kinL, kin, iterE, inObs, Pv.look]), subE_of (by simp [fresh, kinL, kin, kinO, inObs, Pv.look]), by simp⟩
      · have hus : u[i - 1]? = some u[i - 1] := List.getElem?_eq_getElem (by omega)
        obtain ⟨s, hs⟩ : ∃ s, s = u[i - 1] := ⟨_, rfl⟩
        have hat : uniAt u i = (t.fit && t.gnd && decide (ordT s t < 0)) := by
          have : (i == 0) = false := by simp; omega
          simp [uniAt, hui, hus, ht, hs, this]
        have e1 : ((i : Int) - 1).toNat = i - 1 := by omega
        have e2 : ∀ h, (u[i - 1]'h) = s := fun h => hs.symm
        cases hf : (t.fit && t.gnd) with
        | false =>
          simp [hi, ← ht]
          (repeat' first | (with_reducible refine evCd_split (fun h => ?_) (fun h => ?_) <;> (try simp at h)) | (with_reducible refine evGd_split (fun h => ?_) (fun h => ?_) <;> (try simp at h)) | (with_reducible refine evDd_split (fun h => ?_) (fun h => ?_) <;> (try simp at h)) | with_reducible refine And.intro (by (first | omega | (unfold in64; omega))) ?_ | with_reducible refine CallDo.val (by simp) (v_IsGround _) ?_ | with_reducible refine CallD.val (by simp) (v_IsGround _) ?_ | with_reducible refine CallDo.val (by simp) (v_orderTerms _ _) ?_ | with_reducible refine CallD.val (by simp) (v_orderTerms _ _) ?_ | simp [hf])
          simp [RetV, r_impl_UniverseOk, resL, resV, tup]
          exact uniOk_not hi (by rw [hat, hf]; rfl)
        | true =>
          by_cases ho : ordT s t < 0
          · have hn : ¬0 ≤ ordT s t := by omega
            simp [hi, ← ht]
            (repeat' first | (with_reducible refine evCd_split (fun h => ?_) (fun h => ?_) <;> (try simp at h)) | (with_reducible refine evGd_split (fun h => ?_) (fun h => ?_) <;> (try simp at h)) | (with_reducible refine evDd_split (fun h => ?_) (fun h => ?_) <;> (try simp at h)) | with_reducible refine And.intro (by (first | omega | (unfold in64; omega))) ?_ | with_reducible refine CallDo.val (by simp) (v_IsGround _) ?_ | with_reducible refine CallD.val (by simp) (v_IsGround _) ?_ | with_reducible refine CallDo.val (by simp) (v_orderTerms _ _) ?_ | with_reducible refine CallD.val (by simp) (v_orderTerms _ _) ?_ | simp [hf, e1, e2, hus, hpos, hn])
            exact LoopQ.rng () hi (hj.step (by rw [hat, hf]; simp [ho])) ⟨by simp [fresh, kinL, kin, iterE, inObs, Pv.look], subB_of (by simp [fresh, kinL, kin, iterE, inObs, Pv.look]), subE_of (by simp [fresh, kinL, kin, kinO, inObs, Pv.look]), by simp⟩
          · have hn : 0 ≤ ordT s t := by omega
            simp [hi, ← ht]
            (repeat' first | (with_reducible refine evCd_split (fun h => ?_) (fun h => ?_) <;> (try simp at h)) | (with_reducible refine evGd_split (fun h => ?_) (fun h => ?_) <;> (try simp at h)) | (with_reducible refine evDd_split (fun h => ?_) (fun h => ?_) <;> (try simp at h)) | with_reducible refine And.intro (by (first | omega | (unfold in64; omega))) ?_ | with_reducible refine CallDo.val (by simp) (v_IsGround _) ?_ | with_reducible refine CallD.val (by simp) (v_IsGround _) ?_ | with_reducible refine CallDo.val (by simp) (v_orderTerms _ _) ?_ | with_reducible refine CallD.val (by simp) (v_orderTerms _ _) ?_ | simp [hf, e1, e2, hus, hpos, hn])
            simp [RetV, r_impl_UniverseOk, resL, resV, tup]
            exact uniOk_not hi (by rw [hat, hf]; simp; omega)
  all_goals simp [RetV, r_impl_UniverseOk, resL, resV, tup]
  all_goals
    cases hu : uniOk u with
    | false => rfl
    | true => have := ((uniOk_iff u).1 hu).1; omega
end Go.Proofs.YtchidkafcdmciaaGreat
