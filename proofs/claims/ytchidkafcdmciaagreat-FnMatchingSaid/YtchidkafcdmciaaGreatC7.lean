/- Contracts: the variables of a term. -/
import Derived.Test.YtchidkafcdmciaaGreatC6
import Derived.Test.YtchidkafcdmciaaGreatPvAB
set_option linter.all false
namespace Go.Proofs.YtchidkafcdmciaaGreat
open Go Go.Pv

/-- A set of variables, as a map. -/
def bE (l : List Int) : List PV := mapE (l.map fun x => (x, .bool true))
theorem kinL_bE (S : Key → Prop) (l : List Int) : kinL S (bE l) := by
  have : ∀ l : List Int, kinL S (flat (l.map fun x => (x, .bool true))) := by
    intro l
    induction l with
    | nil => simp [flat, kinL]
    | cons x r ih => simp [flat, kinL, ih, kin]
  simp [bE, mapE, kinL, this, kin]
def addV (v : Int) (l : List Int) : List Int := if v ∈ l then l else l ++ [v]
theorem aset_bE (k : Int) : ∀ l : List Int, aset k (.bool true) (l.map fun x => (x, PV.bool true)) = if k ∈ l then some (l.map fun x => (x, PV.bool true)) else none
  | [] => rfl
  | i :: r => by
    by_cases h : k = i
    · simp [aset, h]
    · by_cases h2 : k ∈ r <;> simp [aset, h, h2, aset_bE k r]
@[simp] theorem mput_bE (k : Int) (l : List Int) : mputV false (.int .i64 k) (.bool true) (bE l) = some (bE (addV k l)) := by
  simp only [bE, mputV_mapE, aput, aset_bE, addV]
  split <;> rename_i h
  · split at h
    · simp at h; subst h; simp [*]
    · cases h
  · split at h
    · cases h
    · simp [*]
@[simp] theorem bE_nil : bE [] = mapE [] := rfl
@[simp] theorem plainB_bE (l : List Int) : plainB (bE l) = false := rfl
@[simp] theorem rangeV_bE (m : Key) (l : List Int) : rangeV m (bE l) = some (iterE l.length [] m) := by simp [bE]
theorem mentV_bE (f : Key → Option (List PV)) (ik mk : Key) (n : Nat) (seen : List Nat) (b : Nat) (l : List Int) (x : Int) (hi : f ik = some (iterE n (seen ++ [b]) mk)) (hm : f mk = some (bE l)) (hn : n = l.length) (hx : l[b]? = some x) : mentV f (.ptr ik 0) = some (True, .tuple [.int .i64 x, .bool true]) := by
  rw [mentV_iter f ik mk n seen b _ hi hm (by simpa using hn)]
  simp [hx]
theorem ev1n_bE {st : St} {d : Nat} {K : St → Prop} {ik mk : Key} {n : Nat} {seen : List Nat} {l : List Int} (hi : Pv.look ik st.b = some (iterE n seen mk)) (hm : Pv.look mk st.b = some (bE l)) (hn : n = l.length)
    (h1 : (∀ b, b < l.length → b ∈ seen) → K { st with t := Pv.put d (.tuple [.bool false]) st.t }) (h2 : ∀ b x, l[b]? = some x → b ∉ seen → K { st with t := Pv.put d (.tuple [.bool true, .int .i64 x, .bool true]) st.t, b := upd ik (iterE n (seen ++ [b]) mk) st.b }) :
    ev1n st d (.ptr ik 0) K := by
  refine ev1n_iter hi hm (by simpa using hn) (fun h => h1 fun b hb => h b (by omega)) (fun b k v hb hs => ?_)
  simp only [List.getElem?_map, Option.map_eq_some_iff] at hb
  obtain ⟨x, e1, e2⟩ := hb
  simp only [Prod.mk.injEq] at e2
  obtain ⟨rfl, rfl⟩ := e2
  exact h2 b x e1 hs
/-- A walk over the variables of a term. -/
def _root_.Go.Pv.T.fold {α : Type} (f : Int → α → α) : T → α → α
  | .var n, a => f n a
  | .pair x y, a => y.fold f (x.fold f a)
  | _, a => a
set_option maxHeartbeats 1000000 in
theorem g_eachVar {α : Type} (S : α → Obs) (hS : ∀ a, ObOk (S a)) (hsm : ∀ a b, Same (S a) (S b)) (g : Nat) (caps : List PV) (hc : ∀ a, kinL (inObs (S a)) caps) (hst : stripL caps = caps) (f : Int → α → α) (hf : ∀ v a, FnG Tryz.prog g (.int .i64 v :: caps) (S a) fun r s' => r = .tuple [] ∧ s' = S (f v a)) (t : T) :
    ∀ a, FnG Tryz.prog 70 [t.e, .func g caps] (S a) fun r s' => r = .tuple [] ∧ s' = S (t.fold f a) := by
  have hn : ∀ a m, Pv.look (.loc m) (S a).b = none := fun a => (hS a).obj.1
  have hu : ∀ a m cs, upd (.loc m) cs (S a).b = (S a).b ++ [(.loc m, cs)] := fun a m cs => upd_fresh (hn a m)
  have ho : ∀ a m, Key.loc m ∉ obsIds (S a) := fun a => loc_notin (hS a).obj
  induction t with
  | pair x y ihx ihy =>
    intro a
    have hs := hS a
    refine FnG.mk mixed tysok f_impl_eachVar ok_impl_eachVar (by simp) hs.obj fun hbnd hbb => ?_; unfold c_impl_eachVar
    simp [hu, ho, look_app, hn, hst]
    (repeat' first | (with_reducible refine evCd_split (fun h => ?_) (fun h => ?_) <;> (try simp at h)) | (with_reducible refine evGd_split (fun h => ?_) (fun h => ?_) <;> (try simp at h)) | (with_reducible refine evDd_split (fun h => ?_) (fun h => ?_) <;> (try simp at h)) | with_reducible refine And.intro (by (first | omega | (unfold in64; omega))) ?_ | simp [hu, ho, look_app, hn])
    refine CallDo.ob (ihx a) hs (by intro k x hx; first | exact hx | (simp [hx, without_self]; done) | (simp [look_app, without_self, hx]; done) | (cases k <;> simp_all [look_app]; done) | (have hm := look_mem hx; clear hx; simp at hm; first | (obtain ⟨rfl, rfl⟩ := hm; simp; done) | (rcases hm with ⟨rfl, rfl⟩ | ⟨rfl, rfl⟩ <;> simp; done) | (rcases hm with ⟨rfl, rfl⟩ | ⟨rfl, rfl⟩ | ⟨rfl, rfl⟩ <;> simp; done) | (rcases hm with ⟨rfl, rfl⟩ | ⟨rfl, rfl⟩ | ⟨rfl, rfl⟩ | ⟨rfl, rfl⟩ <;> simp; done) | (rcases hm with ⟨rfl, rfl⟩ | ⟨rfl, rfl⟩ | ⟨rfl, rfl⟩ | ⟨rfl, rfl⟩ | ⟨rfl, rfl⟩ <;> simp; done) | (rcases hm with ⟨rfl, rfl⟩ | ⟨rfl, rfl⟩ | ⟨rfl, rfl⟩ | ⟨rfl, rfl⟩ | ⟨rfl, rfl⟩ | ⟨rfl, rfl⟩ <;> simp; done))) (by intro k x hx; first | exact hx | (simp [hx, without_self]; done) | (simp [look_app, without_self, hx]; done) | (cases k <;> simp_all [look_app]; done) | (have hm := look_mem hx; clear hx; simp at hm; first | (obtain ⟨rfl, rfl⟩ := hm; simp; done) | (rcases hm with ⟨rfl, rfl⟩ | ⟨rfl, rfl⟩ <;> simp; done) | (rcases hm with ⟨rfl, rfl⟩ | ⟨rfl, rfl⟩ | ⟨rfl, rfl⟩ <;> simp; done) | (rcases hm with ⟨rfl, rfl⟩ | ⟨rfl, rfl⟩ | ⟨rfl, rfl⟩ | ⟨rfl, rfl⟩ <;> simp; done) | (rcases hm with ⟨rfl, rfl⟩ | ⟨rfl, rfl⟩ | ⟨rfl, rfl⟩ | ⟨rfl, rfl⟩ | ⟨rfl, rfl⟩ <;> simp; done) | (rcases hm with ⟨rfl, rfl⟩ | ⟨rfl, rfl⟩ | ⟨rfl, rfl⟩ | ⟨rfl, rfl⟩ | ⟨rfl, rfl⟩ | ⟨rfl, rfl⟩ <;> simp; done))) (by simp [hc]) ?_
    rintro r s' ⟨rfl, rfl⟩
    refine ⟨hsm _ _, ?_⟩
    simp [without_self, without_append, without, hn]
    (repeat' first | (with_reducible refine evCd_split (fun h => ?_) (fun h => ?_) <;> (try simp at h)) | (with_reducible refine evGd_split (fun h => ?_) (fun h => ?_) <;> (try simp at h)) | (with_reducible refine evDd_split (fun h => ?_) (fun h => ?_) <;> (try simp at h)) | with_reducible refine And.intro (by (first | omega | (unfold in64; omega))) ?_ | simp [hu, ho, look_app, hn])
    rw [hst]
    refine CallDo.ob (ihy (x.fold f a)) (hS (x.fold f a)) (by intro k x hx; first | exact hx | (simp [hx, without_self]; done) | (simp [look_app, without_self, hx]; done) | (cases k <;> simp_all [look_app]; done) | (have hm := look_mem hx; clear hx; simp at hm; first | (obtain ⟨rfl, rfl⟩ := hm; simp; done) | (rcases hm with ⟨rfl, rfl⟩ | ⟨rfl, rfl⟩ <;> simp; done) | (rcases hm with ⟨rfl, rfl⟩ | ⟨rfl, rfl⟩ | ⟨rfl, rfl⟩ <;> simp; done) | (rcases hm with ⟨rfl, rfl⟩ | ⟨rfl, rfl⟩ | ⟨rfl, rfl⟩ | ⟨rfl, rfl⟩ <;> simp; done) | (rcases hm with ⟨rfl, rfl⟩ | ⟨rfl, rfl⟩ | ⟨rfl, rfl⟩ | ⟨rfl, rfl⟩ | ⟨rfl, rfl⟩ <;> simp; done) | (rcases hm with ⟨rfl, rfl⟩ | ⟨rfl, rfl⟩ | ⟨rfl, rfl⟩ | ⟨rfl, rfl⟩ | ⟨rfl, rfl⟩ | ⟨rfl, rfl⟩ <;> simp; done))) (by intro k x hx; first | exact hx | (simp [hx, without_self]; done) | (simp [look_app, without_self, hx]; done) | (cases k <;> simp_all [look_app]; done) | (have hm := look_mem hx; clear hx; simp at hm; first | (obtain ⟨rfl, rfl⟩ := hm; simp; done) | (rcases hm with ⟨rfl, rfl⟩ | ⟨rfl, rfl⟩ <;> simp; done) | (rcases hm with ⟨rfl, rfl⟩ | ⟨rfl, rfl⟩ | ⟨rfl, rfl⟩ <;> simp; done) | (rcases hm with ⟨rfl, rfl⟩ | ⟨rfl, rfl⟩ | ⟨rfl, rfl⟩ | ⟨rfl, rfl⟩ <;> simp; done) | (rcases hm with ⟨rfl, rfl⟩ | ⟨rfl, rfl⟩ | ⟨rfl, rfl⟩ | ⟨rfl, rfl⟩ | ⟨rfl, rfl⟩ <;> simp; done) | (rcases hm with ⟨rfl, rfl⟩ | ⟨rfl, rfl⟩ | ⟨rfl, rfl⟩ | ⟨rfl, rfl⟩ | ⟨rfl, rfl⟩ | ⟨rfl, rfl⟩ <;> simp; done))) (by simp [hc]) ?_
    rintro r s' ⟨rfl, rfl⟩
    refine ⟨hsm _ _, ?_⟩
    simp [without_self, without_append, without, hn]
    refine RetQ.at (S (y.fold f (x.fold f a))) (.inr rfl) (hS _) (hsm _ _) (by intro k x hx; first | exact hx | (simp [hx, without_self]; done) | (simp [look_app, without_self, hx]; done) | (cases k <;> simp_all [look_app]; done) | (have hm := look_mem hx; clear hx; simp at hm; first | (obtain ⟨rfl, rfl⟩ := hm; simp; done) | (rcases hm with ⟨rfl, rfl⟩ | ⟨rfl, rfl⟩ <;> simp; done) | (rcases hm with ⟨rfl, rfl⟩ | ⟨rfl, rfl⟩ | ⟨rfl, rfl⟩ <;> simp; done) | (rcases hm with ⟨rfl, rfl⟩ | ⟨rfl, rfl⟩ | ⟨rfl, rfl⟩ | ⟨rfl, rfl⟩ <;> simp; done) | (rcases hm with ⟨rfl, rfl⟩ | ⟨rfl, rfl⟩ | ⟨rfl, rfl⟩ | ⟨rfl, rfl⟩ | ⟨rfl, rfl⟩ <;> simp; done) | (rcases hm with ⟨rfl, rfl⟩ | ⟨rfl, rfl⟩ | ⟨rfl, rfl⟩ | ⟨rfl, rfl⟩ | ⟨rfl, rfl⟩ | ⟨rfl, rfl⟩ <;> simp; done))) (by intro k x hx; first | exact hx | (simp [hx, without_self]; done) | (simp [look_app, without_self, hx]; done) | (cases k <;> simp_all [look_app]; done) | (have hm := look_mem hx; clear hx; simp at hm; first | (obtain ⟨rfl, rfl⟩ := hm; simp; done) | (rcases hm with ⟨rfl, rfl⟩ | ⟨rfl, rfl⟩ <;> simp; done) | (rcases hm with ⟨rfl, rfl⟩ | ⟨rfl, rfl⟩ | ⟨rfl, rfl⟩ <;> simp; done) | (rcases hm with ⟨rfl, rfl⟩ | ⟨rfl, rfl⟩ | ⟨rfl, rfl⟩ | ⟨rfl, rfl⟩ <;> simp; done) | (rcases hm with ⟨rfl, rfl⟩ | ⟨rfl, rfl⟩ | ⟨rfl, rfl⟩ | ⟨rfl, rfl⟩ | ⟨rfl, rfl⟩ <;> simp; done) | (rcases hm with ⟨rfl, rfl⟩ | ⟨rfl, rfl⟩ | ⟨rfl, rfl⟩ | ⟨rfl, rfl⟩ | ⟨rfl, rfl⟩ | ⟨rfl, rfl⟩ <;> simp; done))) ?_
    simp [ResIs, r_impl_eachVar, resL, resV, tup]
    simp [T.fold]
  | var n =>
    intro a
    have hs := hS a
    refine FnG.mk mixed tysok f_impl_eachVar ok_impl_eachVar (by simp) hs.obj fun hbnd hbb => ?_; unfold c_impl_eachVar
    simp [hu, ho, look_app, hn, hst]
    (repeat' first | (with_reducible refine evCd_split (fun h => ?_) (fun h => ?_) <;> (try simp at h)) | (with_reducible refine evGd_split (fun h => ?_) (fun h => ?_) <;> (try simp at h)) | (with_reducible refine evDd_split (fun h => ?_) (fun h => ?_) <;> (try simp at h)) | with_reducible refine And.intro (by (first | omega | (unfold in64; omega))) ?_ | simp [hu, ho, look_app, hn])
    refine CallDo.ob (hf n a) hs (by intro k x hx; first | exact hx | (simp [hx, without_self]; done) | (simp [look_app, without_self, hx]; done) | (cases k <;> simp_all [look_app]; done) | (have hm := look_mem hx; clear hx; simp at hm; first | (obtain ⟨rfl, rfl⟩ := hm; simp; done) | (rcases hm with ⟨rfl, rfl⟩ | ⟨rfl, rfl⟩ <;> simp; done) | (rcases hm with ⟨rfl, rfl⟩ | ⟨rfl, rfl⟩ | ⟨rfl, rfl⟩ <;> simp; done) | (rcases hm with ⟨rfl, rfl⟩ | ⟨rfl, rfl⟩ | ⟨rfl, rfl⟩ | ⟨rfl, rfl⟩ <;> simp; done) | (rcases hm with ⟨rfl, rfl⟩ | ⟨rfl, rfl⟩ | ⟨rfl, rfl⟩ | ⟨rfl, rfl⟩ | ⟨rfl, rfl⟩ <;> simp; done) | (rcases hm with ⟨rfl, rfl⟩ | ⟨rfl, rfl⟩ | ⟨rfl, rfl⟩ | ⟨rfl, rfl⟩ | ⟨rfl, rfl⟩ | ⟨rfl, rfl⟩ <;> simp; done))) (by intro k x hx; first | exact hx | (simp [hx, without_self]; done) | (simp [look_app, without_self, hx]; done) | (cases k <;> simp_all [look_app]; done) | (have hm := look_mem hx; clear hx; simp at hm; first | (obtain ⟨rfl, rfl⟩ := hm; simp; done) | (rcases hm with ⟨rfl, rfl⟩ | ⟨rfl, rfl⟩ <;> simp; done) | (rcases hm with ⟨rfl, rfl⟩ | ⟨rfl, rfl⟩ | ⟨rfl, rfl⟩ <;> simp; done) | (rcases hm with ⟨rfl, rfl⟩ | ⟨rfl, rfl⟩ | ⟨rfl, rfl⟩ | ⟨rfl, rfl⟩ <;> simp; done) | (rcases hm with ⟨rfl, rfl⟩ | ⟨rfl, rfl⟩ | ⟨rfl, rfl⟩ | ⟨rfl, rfl⟩ | ⟨rfl, rfl⟩ <;> simp; done) | (rcases hm with ⟨rfl, rfl⟩ | ⟨rfl, rfl⟩ | ⟨rfl, rfl⟩ | ⟨rfl, rfl⟩ | ⟨rfl, rfl⟩ | ⟨rfl, rfl⟩ <;> simp; done))) (by simp [hc]) ?_
    rintro r s' ⟨rfl, rfl⟩
    refine ⟨hsm _ _, ?_⟩
    simp [without_self, without_append, without, hn, look_app]
    refine RetQ.at (S (f n a)) (.inr rfl) (hS _) (hsm _ _) (by intro k x hx; first | exact hx | (simp [hx, without_self]; done) | (simp [look_app, without_self, hx]; done) | (cases k <;> simp_all [look_app]; done) | (have hm := look_mem hx; clear hx; simp at hm; first | (obtain ⟨rfl, rfl⟩ := hm; simp; done) | (rcases hm with ⟨rfl, rfl⟩ | ⟨rfl, rfl⟩ <;> simp; done) | (rcases hm with ⟨rfl, rfl⟩ | ⟨rfl, rfl⟩ | ⟨rfl, rfl⟩ <;> simp; done) | (rcases hm with ⟨rfl, rfl⟩ | ⟨rfl, rfl⟩ | ⟨rfl, rfl⟩ | ⟨rfl, rfl⟩ <;> simp; done) | (rcases hm with ⟨rfl, rfl⟩ | ⟨rfl, rfl⟩ | ⟨rfl, rfl⟩ | ⟨rfl, rfl⟩ | ⟨rfl, rfl⟩ <;> simp; done) | (rcases hm with ⟨rfl, rfl⟩ | ⟨rfl, rfl⟩ | ⟨rfl, rfl⟩ | ⟨rfl, rfl⟩ | ⟨rfl, rfl⟩ | ⟨rfl, rfl⟩ <;> simp; done))) (by intro k x hx; first | exact hx | (simp [hx, without_self]; done) | (simp [look_app, without_self, hx]; done) | (cases k <;> simp_all [look_app]; done) | (have hm := look_mem hx; clear hx; simp at hm; first | (obtain ⟨rfl, rfl⟩ := hm; simp; done) | (rcases hm with ⟨rfl, rfl⟩ | ⟨rfl, rfl⟩ <;> simp; done) | (rcases hm with ⟨rfl, rfl⟩ | ⟨rfl, rfl⟩ | ⟨rfl, rfl⟩ <;> simp; done) | (rcases hm with ⟨rfl, rfl⟩ | ⟨rfl, rfl⟩ | ⟨rfl, rfl⟩ | ⟨rfl, rfl⟩ <;> simp; done) | (rcases hm with ⟨rfl, rfl⟩ | ⟨rfl, rfl⟩ | ⟨rfl, rfl⟩ | ⟨rfl, rfl⟩ | ⟨rfl, rfl⟩ <;> simp; done) | (rcases hm with ⟨rfl, rfl⟩ | ⟨rfl, rfl⟩ | ⟨rfl, rfl⟩ | ⟨rfl, rfl⟩ | ⟨rfl, rfl⟩ | ⟨rfl, rfl⟩ <;> simp; done))) ?_
    simp [ResIs, r_impl_eachVar, resL, resV, tup]
    simp [T.fold]
  | _ =>
    intro a
    have hs := hS a
    refine FnG.mk mixed tysok f_impl_eachVar ok_impl_eachVar (by simp) hs.obj fun hbnd hbb => ?_; unfold c_impl_eachVar
    simp [hu, ho, look_app, hn, hst]
    (repeat' first | (with_reducible refine evCd_split (fun h => ?_) (fun h => ?_) <;> (try simp at h)) | (with_reducible refine evGd_split (fun h => ?_) (fun h => ?_) <;> (try simp at h)) | (with_reducible refine evDd_split (fun h => ?_) (fun h => ?_) <;> (try simp at h)) | with_reducible refine And.intro (by (first | omega | (unfold in64; omega))) ?_ | simp [hu, ho, look_app, hn])
    refine RetQ.at (S a) (.inr rfl) hs (Same.refl _) (by intro k x hx; first | exact hx | (simp [hx, without_self]; done) | (simp [look_app, without_self, hx]; done) | (cases k <;> simp_all [look_app]; done) | (have hm := look_mem hx; clear hx; simp at hm; first | (obtain ⟨rfl, rfl⟩ := hm; simp; done) | (rcases hm with ⟨rfl, rfl⟩ | ⟨rfl, rfl⟩ <;> simp; done) | (rcases hm with ⟨rfl, rfl⟩ | ⟨rfl, rfl⟩ | ⟨rfl, rfl⟩ <;> simp; done) | (rcases hm with ⟨rfl, rfl⟩ | ⟨rfl, rfl⟩ | ⟨rfl, rfl⟩ | ⟨rfl, rfl⟩ <;> simp; done) | (rcases hm with ⟨rfl, rfl⟩ | ⟨rfl, rfl⟩ | ⟨rfl, rfl⟩ | ⟨rfl, rfl⟩ | ⟨rfl, rfl⟩ <;> simp; done) | (rcases hm with ⟨rfl, rfl⟩ | ⟨rfl, rfl⟩ | ⟨rfl, rfl⟩ | ⟨rfl, rfl⟩ | ⟨rfl, rfl⟩ | ⟨rfl, rfl⟩ <;> simp; done))) (by intro k x hx; first | exact hx | (simp [hx, without_self]; done) | (simp [look_app, without_self, hx]; done) | (cases k <;> simp_all [look_app]; done) | (have hm := look_mem hx; clear hx; simp at hm; first | (obtain ⟨rfl, rfl⟩ := hm; simp; done) | (rcases hm with ⟨rfl, rfl⟩ | ⟨rfl, rfl⟩ <;> simp; done) | (rcases hm with ⟨rfl, rfl⟩ | ⟨rfl, rfl⟩ | ⟨rfl, rfl⟩ <;> simp; done) | (rcases hm with ⟨rfl, rfl⟩ | ⟨rfl, rfl⟩ | ⟨rfl, rfl⟩ | ⟨rfl, rfl⟩ <;> simp; done) | (rcases hm with ⟨rfl, rfl⟩ | ⟨rfl, rfl⟩ | ⟨rfl, rfl⟩ | ⟨rfl, rfl⟩ | ⟨rfl, rfl⟩ <;> simp; done) | (rcases hm with ⟨rfl, rfl⟩ | ⟨rfl, rfl⟩ | ⟨rfl, rfl⟩ | ⟨rfl, rfl⟩ | ⟨rfl, rfl⟩ | ⟨rfl, rfl⟩ <;> simp; done))) ?_
    simp [ResIs, r_impl_eachVar, resL, resV, tup]
    simp [T.fold]
def SV (l : List Int) : Obs := ⟨[(.obj 304, bE l), (.obj 305, [.gmap (.obj 304)])], []⟩
theorem SV_ok (l : List Int) : ObOk (SV l) := by
  unfold SV
  exact ObOk.of ⟨by intro m; simp [Pv.look], by intro m; simp [Pv.look]⟩ (by simp [kinL_bE, kinL, kin, inObs, Pv.look]) (by simp)
theorem SV_same (l l' : List Int) : Same (SV l) (SV l') := by
  refine ⟨fun k => ?_, fun k => rfl⟩
  simp only [SV, Pv.look]
  split <;> rfl
theorem g_TermVars1 (v : Int) (l : List Int) : FnG Tryz.prog 71 [.int .i64 v, .ptr (.obj 305) 0] (SV l) fun r s' => r = .tuple [] ∧ s' = SV (addV v l) := by
  have hs := SV_ok l
  have hs' := SV_ok (addV v l)
  have hsm := SV_same l (addV v l)
  unfold SV at hs hs' hsm ⊢
  refine FnG.mk mixed tysok f_impl_TermVars_1 ok_impl_TermVars_1 (by simp) hs.obj fun hbnd hbb => ?_; unfold c_impl_TermVars_1
  simp
  refine RetQ.at _ (.inr rfl) hs' hsm (by intro k x hx; first | exact hx | (simp [hx, without_self]; done) | (simp [look_app, without_self, hx]; done) | (cases k <;> simp_all [look_app]; done) | (have hm := look_mem hx; clear hx; simp at hm; first | (obtain ⟨rfl, rfl⟩ := hm; simp; done) | (rcases hm with ⟨rfl, rfl⟩ | ⟨rfl, rfl⟩ <;> simp; done) | (rcases hm with ⟨rfl, rfl⟩ | ⟨rfl, rfl⟩ | ⟨rfl, rfl⟩ <;> simp; done) | (rcases hm with ⟨rfl, rfl⟩ | ⟨rfl, rfl⟩ | ⟨rfl, rfl⟩ | ⟨rfl, rfl⟩ <;> simp; done) | (rcases hm with ⟨rfl, rfl⟩ | ⟨rfl, rfl⟩ | ⟨rfl, rfl⟩ | ⟨rfl, rfl⟩ | ⟨rfl, rfl⟩ <;> simp; done) | (rcases hm with ⟨rfl, rfl⟩ | ⟨rfl, rfl⟩ | ⟨rfl, rfl⟩ | ⟨rfl, rfl⟩ | ⟨rfl, rfl⟩ | ⟨rfl, rfl⟩ <;> simp; done))) (by intro k x hx; first | exact hx | (simp [hx, without_self]; done) | (simp [look_app, without_self, hx]; done) | (cases k <;> simp_all [look_app]; done) | (have hm := look_mem hx; clear hx; simp at hm; first | (obtain ⟨rfl, rfl⟩ := hm; simp; done) | (rcases hm with ⟨rfl, rfl⟩ | ⟨rfl, rfl⟩ <;> simp; done) | (rcases hm with ⟨rfl, rfl⟩ | ⟨rfl, rfl⟩ | ⟨rfl, rfl⟩ <;> simp; done) | (rcases hm with ⟨rfl, rfl⟩ | ⟨rfl, rfl⟩ | ⟨rfl, rfl⟩ | ⟨rfl, rfl⟩ <;> simp; done) | (rcases hm with ⟨rfl, rfl⟩ | ⟨rfl, rfl⟩ | ⟨rfl, rfl⟩ | ⟨rfl, rfl⟩ | ⟨rfl, rfl⟩ <;> simp; done) | (rcases hm with ⟨rfl, rfl⟩ | ⟨rfl, rfl⟩ | ⟨rfl, rfl⟩ | ⟨rfl, rfl⟩ | ⟨rfl, rfl⟩ | ⟨rfl, rfl⟩ <;> simp; done))) ?_
  simp [ResIs, r_impl_TermVars_1, resL, resV, tup]
def SB (l : List Int) : Obs := ⟨[(.obj 304, bE l)], []⟩
theorem SB_ok (l : List Int) : ObOk (SB l) := by
  unfold SB
  exact ObOk.of ⟨by intro m; simp [Pv.look], by intro m; simp [Pv.look]⟩ (by simp [kinL_bE, kinL, kin, inObs, Pv.look]) (by simp)
end Go.Proofs.YtchidkafcdmciaaGreat
