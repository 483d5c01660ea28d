/- Functions that hand back new objects; functions that are handed functions with a state. -/
import Derived.Test.YtchidkafcdmciaaGreatPvAA
set_option linter.all false
namespace Go.Pv
open Go Go.RowKit

/-- A call that hands back objects s', old and new. -/
theorem CallDo.new {P : Program} {n : Nat} {args : List PV} {st : St} {d : Option Nat} {K : St → Prop} {s : Obs} {Q : PV → Obs → Prop} (hf : FnG P n args s Q) (hs : ObOk s) (hb : ∀ k cs, look k s.b = some cs → look k st.b = some cs) (he : ∀ k o, look k s.e = some o → look k st.e = some o)
    (hk : kinL (inObs s) args) (h : ∀ r s', Q r s' → (∀ m, inObs s' (.obj m) → inObs s (.obj m) ∧ Same s s' ∨ .obj m ∉ st.o) ∧ K ⟨putO d r st.t, without s.b st.b ++ s'.b, without s.e st.e ++ s'.e, st.n, st.o ++ obsIds s'⟩) : CallDo P n args st d K := by
  refine ⟨s, Q, fun k cs hc => ⟨hb k cs hc, .inl (by simp [hc]), hs.kb k cs hc⟩, fun k o ho => ⟨he k o ho, .inr (by simp [ho]), hs.ke k o ho⟩, hs.obj, hk, hf, fun r s' hq => ?_⟩
  obtain ⟨h1, h2⟩ := h r s' hq
  refine ⟨⟨fun m hm => ?_, fun m hm => ?_⟩, h2⟩
  · rcases h1 m (.inl hm) with ⟨_, h3⟩ | h3
    · exact .inl (by rw [h3.b]; exact hm)
    · exact .inr h3
  · rcases h1 m (.inr hm) with ⟨_, h3⟩ | h3
    · exact .inl (by rw [h3.e]; exact hm)
    · exact .inr h3
/-- The end of a function that hands back objects, old and new. -/
theorem RetQ.new {rs : List RV} {s : Obs} {Q : PV → Obs → Prop} {e : Exit} {st : St} (s' : Obs) (hee : e = .ret ∨ e = .normal) (hs : ObOk s') (hss : keeps s' s.b ∧ keeps s' s.e) (hb : ∀ k cs, look k s'.b = some cs → look k st.b = some cs) (hE : ∀ k o, look k s'.e = some o → look k st.e = some o)
    (h : ResIs st rs fun r => kin (inObs s') r ∧ Q r s') : RetQ rs s Q e st := by
  unfold ResIs at h
  split at h
  · rename_i c ps hr
    refine ⟨hee, ?_⟩
    rw [hr]
    exact ⟨h.1, s', hss.1, hss.2, fun k cs hcs => ⟨hb k cs hcs, .inl (by simp [hcs]), hs.kb k cs hcs⟩, fun k o ho => ⟨hE k o ho, .inr (by simp [ho]), hs.ke k o ho⟩, hs.obj, h.2.1, h.2.2⟩
  · exact h.elim

@[simp] theorem evC_pubs {P : Program} {ob : List Key} {c d : C} {Q : Exit → St → Prop} {st : St} {s : Nat} : evC P ob (.seq (.pub s c) d) Q st = Pub P ob (.seq c d) Q (pubS st s) := by
  simp only [evC]
  cases pubS st s <;> rfl
@[simp] theorem evC_pubBs {P : Program} {ob : List Key} {c d : C} {Q : Exit → St → Prop} {st : St} {s : Nat} : evC P ob (.seq (.pubB s c) d) Q st = Pub P ob (.seq c d) Q (pubBox st s) := by
  simp only [evC]
  cases pubBox st s <;> rfl
end Go.Pv
