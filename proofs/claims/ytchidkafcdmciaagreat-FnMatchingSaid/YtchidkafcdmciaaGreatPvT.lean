/- Functions that are handed objects which are not written out: the lemmas by which their calls and ends are run. -/
import Derived.Test.YtchidkafcdmciaaGreatPvR
set_option linter.all false
namespace Go.Pv
open Go Go.RowKit

/-- A set of objects that may be handed on: no names but objects', and what lies in them names none but them. -/
structure ObOk (s : Obs) : Prop where
  obj : objOnly s
  kb : ∀ k cs, look k s.b = some cs → kinL (inObs s) cs
  ke : ∀ k o, look k s.e = some o → kinO (inObs s) o
/-- The same names. -/
structure Same (s s' : Obs) : Prop where
  b : ∀ k, (look k s.b).isSome = (look k s'.b).isSome
  e : ∀ k, (look k s.e).isSome = (look k s'.e).isSome
theorem Same.refl (s : Obs) : Same s s := ⟨fun _ => rfl, fun _ => rfl⟩
theorem Same.trans {a b c : Obs} (h : Same a b) (k : Same b c) : Same a c := ⟨fun x => (h.b x).trans (k.b x), fun x => (h.e x).trans (k.e x)⟩
theorem Same.symm {a b : Obs} (h : Same a b) : Same b a := ⟨fun x => (h.b x).symm, fun x => (h.e x).symm⟩
theorem Same.inObs {s s' : Obs} (h : Same s s') (k : Key) : inObs s k ↔ inObs s' k := by unfold Pv.inObs; rw [h.b, h.e]
theorem Same.kinL {s s' : Obs} (h : Same s s') {l : List PV} (hk : Pv.kinL (Pv.inObs s) l) : Pv.kinL (Pv.inObs s') l := kinL_mono (fun k hk => (h.inObs k).1 hk) l hk
theorem Same.kin {s s' : Obs} (h : Same s s') {p : PV} (hk : Pv.kin (Pv.inObs s) p) : Pv.kin (Pv.inObs s') p := kin_mono (fun k hk => (h.inObs k).1 hk) p hk

theorem look_of_mem {α : Type} {k : Key} {x : α} : ∀ {l : List (Key × α)}, (k, x) ∈ l → (look k l).isSome
  | (i, y) :: r, h => by
    simp only [look]
    split
    · rfl
    · rename_i hne
      rcases List.mem_cons.1 h with h | h
      · cases h; exact absurd rfl hne
      · exact look_of_mem h
theorem inObs_of_mem {s : Obs} {k : Key} (h : k ∈ obsIds s) : inObs s k := by
  unfold obsIds at h
  rcases List.mem_append.1 h with h | h
  · obtain ⟨⟨k', x⟩, h1, rfl⟩ := List.mem_map.1 h; exact .inl (look_of_mem h1)
  · obtain ⟨⟨k', x⟩, h1, rfl⟩ := List.mem_map.1 h; exact .inr (look_of_mem h1)
theorem loc_notin {s : Obs} (h : objOnly s) (m : Nat) : Key.loc m ∉ obsIds s := fun hm => by
  rcases inObs_of_mem hm with h1 | h1
  · rw [h.1 m] at h1; cases h1
  · rw [h.2 m] at h1; cases h1

theorem without_append {α β : Type} (s : List (Key × β)) : ∀ (a b : List (Key × α)), without s (a ++ b) = without s a ++ without s b
  | [], b => rfl
  | (k, x) :: r, b => by
    simp only [List.cons_append, without]
    cases look k s with
    | none => simp [without_append s r b]
    | some _ => exact without_append s r b
theorem without_of {α β : Type} (s : List (Key × β)) : ∀ (l : List (Key × α)), (∀ k x, (k, x) ∈ l → (look k s).isSome) → without s l = []
  | [], _ => rfl
  | (k, x) :: r, h => by
    have h1 := h k x (by simp)
    simp only [without]
    cases hl : look k s with
    | none => rw [hl] at h1; cases h1
    | some _ => exact without_of s r fun k x hx => h k x (by simp [hx])
theorem without_self {α : Type} (s : List (Key × α)) : without s s = [] := without_of s s fun k x h => look_of_mem h
theorem upd_fresh {α : Type} {k : Key} {x : α} : ∀ {l : List (Key × α)}, look k l = none → upd k x l = l ++ [(k, x)]
  | [], _ => rfl
  | (i, y) :: r, h => by
    simp only [look] at h
    split at h
    · cases h
    · rename_i hne
      simp [upd, hne, upd_fresh h]
theorem look_app {α : Type} (k : Key) : ∀ (a b : List (Key × α)), look k (a ++ b) = match look k a with | some x => some x | none => look k b
  | [], b => rfl
  | (i, y) :: r, b => by
    simp only [List.cons_append, look]
    split
    · rfl
    · exact look_app k r b

/-- A call that is handed the objects s. -/
theorem CallDo.ob {P : Program} {n : Nat} {args : List PV} {st : St} {d : Option Nat} {K : St → Prop} {s : Obs} {Q : PV → Obs → Prop} (hf : FnG P n args s Q) (hs : ObOk s) (hb : ∀ k cs, look k s.b = some cs → look k st.b = some cs) (he : ∀ k o, look k s.e = some o → look k st.e = some o)
    (hk : kinL (inObs s) args) (h : ∀ r s', Q r s' → Same s s' ∧ K ⟨putO d r st.t, without s.b st.b ++ s'.b, without s.e st.e ++ s'.e, st.n, st.o ++ obsIds s'⟩) : CallDo P n args st d K := by
  refine ⟨s, Q, fun k cs hc => ⟨hb k cs hc, .inl (by simp [hc]), hs.kb k cs hc⟩, fun k o ho => ⟨he k o ho, .inr (by simp [ho]), hs.ke k o ho⟩, hs.obj, hk, hf, fun r s' hq => ?_⟩
  obtain ⟨h1, h2⟩ := h r s' hq
  exact ⟨⟨fun m hm => .inl (by rw [h1.b]; exact hm), fun m hm => .inl (by rw [h1.e]; exact hm)⟩, h2⟩

/-- The end of a function that hands the objects back. -/
theorem RetQ.ob {rs : List RV} {s s' : Obs} {Q : PV → Obs → Prop} {e : Exit} {st : St} {c : Prop} {ps : List PV} (hee : e = .ret ∨ e = .normal) (hres : resL st rs = some (c, ps)) (hc : c) (hs : ObOk s') (hss : Same s s') (hb : ∀ k cs, look k s'.b = some cs → look k st.b = some cs) (hE : ∀ k o, look k s'.e = some o → look k st.e = some o)
    (hk : kin (inObs s') (strip (tup ps))) (hq : Q (strip (tup ps)) s') : RetQ rs s Q e st := by
  refine ⟨hee, ?_⟩
  rw [hres]
  have hkeep : ∀ {α : Type} (l : List (Key × α)), (∀ k x, (k, x) ∈ l → inObs s' k) → keeps s' l := by
    intro α l
    induction l with
    | nil => intro _; trivial
    | cons x r ih =>
      obtain ⟨k, x⟩ := x
      intro h
      exact ⟨h k x (by simp), ih fun k x hx => h k x (by simp [hx])⟩
  exact ⟨hc, s', hkeep _ fun k x hx => .inl (by rw [← hss.b]; exact look_of_mem hx), hkeep _ fun k x hx => .inr (by rw [← hss.e]; exact look_of_mem hx), fun k cs hcs => ⟨hb k cs hcs, .inl (by simp [hcs]), hs.kb k cs hcs⟩, fun k o ho => ⟨hE k o ho, .inr (by simp [ho]), hs.ke k o ho⟩, hs.obj, hk, hq⟩

theorem FnG.mono {P : Program} {f : FuncId} {args : List PV} {s : Obs} {Q Q' : PV → Obs → Prop} (h : FnG P f args s Q) (hq : ∀ r s', Q r s' → Q' r s') : FnG P f args s Q' := by
  intro w ν vs h1 h2 h3
  have hm : ∀ (e : Ending) (w' : World), (∃ v r s' ν', e = .returned v ∧ Q r s' ∧ rep w' ν' r v ∧ Good (fun bl => blocksOf ν s bl ∨ w.heap.size ≤ bl) w' ν' s'.b s'.e ∧ exactE ν' s' ∧ objOnly s' ∧ Fr ⟨w, ν, blocksOf ν s, 0, obsIds s⟩ w' ν') → (∃ v r s' ν', e = .returned v ∧ Q' r s' ∧ rep w' ν' r v ∧ Good (fun bl => blocksOf ν s bl ∨ w.heap.size ≤ bl) w' ν' s'.b s'.e ∧ exactE ν' s' ∧ objOnly s' ∧ Fr ⟨w, ν, blocksOf ν s, 0, obsIds s⟩ w' ν') := by
    rintro e w' ⟨v, r, s', ν', a1, a2, a3⟩
    exact ⟨v, r, s', ν', a1, hq _ _ a2, a3⟩
  rcases h w ν vs h1 h2 h3 with ⟨hfn, hc⟩ | ⟨v, w', hc, hr⟩
  · exact .inl ⟨hfn, hc.mono hm⟩
  · exact .inr ⟨v, w', hc, hm _ _ hr⟩


theorem notFresh_of {s : Obs} {k : Key} (h : inObs s k) : ¬fresh 0 (obsIds s) k := fun hf => hf.2 (obsIds_of h)
/-- At the head of a loop: nothing but some slots and the objects that were handed in. -/
theorem Weaker.ob {s : Obs} (hs : ObOk s) {st : St} {t' : List (Nat × PV)} (ht : ∀ x ∈ t', get x.1 st.t = x.2 ∧ kin (inObs s) x.2) (hb : ∀ k cs, look k s.b = some cs → look k st.b = some cs) (he : ∀ k o, look k s.e = some o → look k st.e = some o) :
    Weaker (obsIds s) st ⟨t', s.b, s.e, 0, obsIds s⟩ :=
  ⟨fun x hx => ⟨(ht x hx).1, kin_mono (fun k hk => notFresh_of hk) _ (ht x hx).2⟩, fun k cs hc => ⟨hb k cs hc, notFresh_of (.inl (by simp [hc])), kinL_mono (fun k hk => notFresh_of hk) _ (hs.kb k cs hc)⟩,
   fun k o ho => ⟨he k o ho, notFresh_of (.inr (by simp [ho])), fun xs hx => kinL_mono (fun k hk => notFresh_of hk) _ (hs.ke k o ho xs hx)⟩, fun m hm => hm⟩

/-- What a function's end owes besides its objects. -/
def ResIs (st : St) (rs : List RV) (R : PV → Prop) : Prop := match resL st rs with
  | some (c, ps) => c ∧ R (strip (tup ps))
  | none => False
theorem RetQ.at {rs : List RV} {s : Obs} {Q : PV → Obs → Prop} {e : Exit} {st : St} (s' : Obs) (hee : e = .ret ∨ e = .normal) (hs : ObOk s') (hss : Same s s') (hb : ∀ k cs, look k s'.b = some cs → look k st.b = some cs) (hE : ∀ k o, look k s'.e = some o → look k st.e = some o)
    (h : ResIs st rs fun r => kin (inObs s') r ∧ Q r s') : RetQ rs s Q e st := by
  unfold ResIs at h
  split at h
  · rename_i c ps hr
    exact RetQ.ob hee hr h.1 hs hss hb hE h.2.1 h.2.2
  · exact h.elim

/-- The same in a region that draws its order. -/
theorem CallD.ob {P : Program} {nw : List Nat} {n : Nat} {args : List PV} {st : St} {d : Option Nat} {K : St → Prop} {s s' : Obs} {r : PV} (hf : FnG P n args s fun r' t' => r' = r ∧ t' = s') (hs : ObOk s) (hs' : ObOk s') (hss : Same s s') (hb : ∀ k cs, look k s.b = some cs → look k st.b = some cs) (he : ∀ k o, look k s.e = some o → look k st.e = some o)
    (hk : kinL (inObs s) args) (h : K ⟨putO d r st.t, without s.b st.b ++ s'.b, without s.e st.e ++ s'.e, st.n, st.o⟩) : CallD P false nw n args st d K :=
  ⟨s, s', r, none, fun k cs hc => ⟨hb k cs hc, .inl (by simp [hc]), hs.kb k cs hc⟩, fun k o ho => ⟨he k o ho, .inr (by simp [ho]), hs.ke k o ho⟩, hs.obj, hs'.obj, ⟨fun k hk => .inl (by rw [hss.b]; exact hk), fun k hk => .inl (by rw [hss.e]; exact hk), fun k hk => by rw [← hss.b]; exact hk, fun k hk => by rw [← hss.e]; exact hk, fun k hk => by cases hk⟩, hk, hf, (fun e => by cases e), h⟩

/-- A call that hands back one new object, with boxes alone. -/
theorem CallD.new {P : Program} {nw : List Nat} {n : Nat} {args : List PV} {st : St} {d : Option Nat} {K : St → Prop} {m : Nat} {cs : List PV} {r : PV} (hf : FnG P n args ⟨[], []⟩ fun r' t' => r' = r ∧ t' = ⟨[(.obj m, cs)], []⟩) (hm : m ∈ nw) (hb : look (.obj m) st.b = none) (he : look (.obj m) st.e = none)
    (hk : kinL (fun _ => False) args) (h : K ⟨putO d r st.t, st.b ++ [(.obj m, cs)], st.e, st.n, st.o⟩) : CallD P false nw n args st d K := by
  refine ⟨⟨[], []⟩, ⟨[(.obj m, cs)], []⟩, r, some (.obj m), fun k cs hk => by simp [look] at hk, fun k cs hk => by simp [look] at hk, objOnly_nil, ⟨fun j => by simp [look], fun j => by simp [look]⟩, ⟨fun k hk => ?_, fun k hk => by simp [look] at hk, fun k hk => by simp [look] at hk, fun k hk => by simp [look] at hk, fun k hk => ?_⟩, kinL_mono (fun _ h => h.elim) _ hk, hf, (fun e => by cases e), ?_⟩
  · simp only [look] at hk
    split at hk
    · rename_i e; subst e; exact .inr rfl
    · cases hk
  · simp only [Option.some.injEq] at hk
    subst hk
    exact ⟨⟨m, hm, rfl⟩, hb, he, .inl (by simp [look])⟩
  · have : ({ after st ⟨[], []⟩ ⟨[(.obj m, cs)], []⟩ d r with o := st.o } : St) = ⟨putO d r st.t, st.b ++ [(.obj m, cs)], st.e, st.n, st.o⟩ := by
      simp [after, without_nil]
    rw [this]; exact h
theorem ObOk.of {s : Obs} (ho : objOnly s) (hb : ∀ x ∈ s.b, kinL (inObs s) x.2) (he : ∀ x ∈ s.e, ∀ xs, x.2.xs = some xs → kinL (inObs s) xs) : ObOk s :=
  ⟨ho, fun k cs hk => hb (k, cs) (look_mem hk), fun k o hk xs hx => he (k, o) (look_mem hk) xs hx⟩

@[simp] theorem obsIds_mk (b : List (Key × List PV)) (e : List (Key × Own)) : obsIds ⟨b, e⟩ = b.map (·.1) ++ e.map (·.1) := rfl

theorem upd_app {α : Type} {k : Key} {p : α} : ∀ {a r : List (Key × α)}, look k a = none → upd k p (a ++ r) = a ++ upd k p r
  | [], _, _ => rfl
  | (i, y) :: a, r, h => by
    simp only [look] at h
    split at h
    · cases h
    · rename_i hne
      simp [upd, hne, upd_app h]

theorem LoopQ.next {ob : List Key} {I : Nat → St → Prop} {k : Nat} {Q : Exit → St → Prop} {st : St} (k' : Nat) {s' : St} (hk : k' < k) (hi : I k' s') (hw : Weaker ob st s') : LoopQ ob I k Q .normal st := ⟨k', s', hk, hw, hi⟩

end Go.Pv
