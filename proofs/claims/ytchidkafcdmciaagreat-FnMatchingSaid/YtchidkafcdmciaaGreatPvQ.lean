/- A function's contract, as it is used; calls of functions of values. -/
import Derived.Test.YtchidkafcdmciaaGreatPvP
set_option linter.all false
namespace Go.Pv
open Go Go.RowKit

def fnOk (tys : List (Nat × TF)) (c : C) (rs : List RV) (nargs : Nat) (fn : Func) : Bool :=
  match fn.body with
  | some code => cOkC fn.ntmps tys c code && resOk tys rs fn.results.toList && !(fn.name == "runtime.NumGoroutine") && decide (nargs ≤ fn.ntmps)
  | none => false

theorem FnG.mk {P : Program} (hm : P.follows .mixedOrders = true) {tys : List (Nat × TF)} (ht : tysOk P tys = true) {f : FuncId} {fn : Func} (hf : P.funcs[f]? = some fn) {c : C} {rs : List RV} {n : Nat} (hok : fnOk tys c rs n fn = true)
    {args : List PV} (hl : args.length ≤ n) {s : Obs} (hso : objOnly s) {Q : PV → Obs → Prop} (he : bndA args → (∀ j cs, look j s.b = some cs → plainB cs = true → bndL cs) → evC P (obsIds s) c (RetQ rs s Q) ⟨slots 0 args, s.b, s.e, 0, obsIds s⟩) : FnG P f args s Q := by
  unfold fnOk at hok
  split at hok
  · rename_i code hb
    simp only [Bool.and_eq_true, Bool.not_eq_true', decide_eq_true_eq] at hok
    obtain ⟨⟨⟨h1, h2⟩, h3⟩, h4⟩ := hok
    exact FnG.of hm ht hf hb h3 h1 h2 (Nat.le_trans hl h4) hso he
  · cases hok

theorem objOnly_nil : objOnly ⟨[], []⟩ := ⟨fun _ => rfl, fun _ => rfl⟩

/-- What the end of a function of values owes. -/
def RetV (rs : List RV) (r : PV) (e : Exit) (st : St) : Prop :=
  (e = .ret ∨ e = .normal) ∧ match resL st rs with
    | some (c, ps) => c ∧ strip (tup ps) = r
    | none => False

theorem FnV.mk {P : Program} (hm : P.follows .mixedOrders = true) {tys : List (Nat × TF)} (ht : tysOk P tys = true) {f : FuncId} {fn : Func} (hf : P.funcs[f]? = some fn) {c : C} {rs : List RV} {n : Nat} (hok : fnOk tys c rs n fn = true)
    {args : List PV} (hl : args.length ≤ n) {r : PV} (hr : kin (fun _ => False) r) (he : bndA args → evC P [] c (RetV rs r) ⟨slots 0 args, [], [], 0, []⟩) : FnV P f args r := by
  refine FnG.mk hm ht hf hok hl objOnly_nil fun h1 _ => ?_
  have := he h1
  have hQ : RetV rs r = RetQ rs ⟨[], []⟩ (fun r' s' => r' = r ∧ s' = ⟨[], []⟩) := by
    funext e st
    unfold RetV RetQ
    apply propext
    refine and_congr_right fun _ => ?_
    cases resL st rs with
    | none => exact Iff.rfl
    | some x =>
      obtain ⟨c, ps⟩ := x
      refine and_congr_right fun _ => ?_
      constructor
      · intro h
        refine ⟨⟨[], []⟩, trivial, trivial, fun k cs hk => by simp [look] at hk, fun k cs hk => by simp [look] at hk, objOnly_nil, ?_, h, rfl⟩
        rw [h]; exact kin_mono (fun k hk => hk.elim) r hr
      · rintro ⟨s', _, _, _, _, _, _, h, _⟩
        exact h
  rw [hQ] at this
  exact this

theorem without_nil {α : Type} {β : Type} : ∀ l : List (Key × α), without ([] : List (Key × β)) l = l
  | [] => rfl
  | (k, x) :: r => by simp [without, look, without_nil r]

/-- A call of a function of values. -/
theorem CallDo.val {P : Program} {n : Nat} {args : List PV} {st : St} {d : Option Nat} {K : St → Prop} {r : PV} (hk : kinL (fun _ => False) args) (hf : FnV P n args r) (h : K { st with t := putO d r st.t }) : CallDo P n args st d K := by
  refine ⟨⟨[], []⟩, _, fun k cs hk => by simp [look] at hk, fun k cs hk => by simp [look] at hk, objOnly_nil, kinL_mono (fun _ h => h.elim) _ hk, hf, ?_⟩
  rintro r' s' ⟨rfl, rfl⟩
  refine ⟨⟨fun m h => by simp [look] at h, fun m h => by simp [look] at h⟩, ?_⟩
  have : after st ⟨[], []⟩ ⟨[], []⟩ d r' = { st with t := putO d r' st.t } := by
    simp [after, without_nil, obsIds]
  rw [this]; exact h

end Go.Pv
