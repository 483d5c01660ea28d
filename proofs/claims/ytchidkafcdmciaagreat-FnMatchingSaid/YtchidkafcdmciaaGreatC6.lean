/- Contracts: sorting integers. -/
import Derived.Test.YtchidkafcdmciaaGreatC5
import Derived.Test.YtchidkafcdmciaaGreatPvAA
import Derived.Test.YtchidkafcdmciaaGreatLay1
import Derived.Sort.OwnSortedInts
import Derived.Lib.OwnBridge
set_option linter.all false
namespace Go.Proofs.YtchidkafcdmciaaGreat
open Go Go.Pv

def intsE (xs : List Int) : List PV := xs.map (PV.int .i64)
theorem repC_ints {w : World} {ν : Env} : ∀ {xs : List Int} {us : List Value}, repC w ν 1 (intsE xs) us → us = xs.map (Value.int .i64)
  | [], us, h => by simpa [intsE, repC] using h
  | x :: xs, us, h => by
    simp only [intsE, List.map_cons, repC] at h
    obtain ⟨u, us', rfl, ⟨h1, _, _⟩, h2⟩ := h
    simp only [rep] at h1
    subst h1
    rw [repC_ints h2]
    rfl
theorem ints_repC (w : World) (ν : Env) : ∀ xs : List Int, repC w ν 1 (intsE xs) (xs.map (Value.int .i64))
  | [] => by simp [intsE, repC]
  | x :: xs => by
    simp only [intsE, List.map_cons, repC]
    exact ⟨.int .i64 x, _, rfl, ⟨by simp [rep], rfl, by intro c hc; simp [Value.cells] at hc; subst hc; rfl⟩, ints_repC w ν xs⟩
def SI (K : Nat) (xs : List Int) : Obs := ⟨[], [(.obj K, ⟨xs.length, 3, 1, some (intsE xs)⟩)]⟩
theorem kinL_ints (S : Key → Prop) (xs : List Int) : kinL S (intsE xs) := by
  induction xs with
  | nil => simp [intsE, kinL]
  | cons x r ih => simp only [intsE, List.map_cons, kinL, kin]; exact ⟨trivial, ih⟩
theorem SI_ok (K : Nat) (xs : List Int) : ObOk (SI K xs) := by
  unfold SI
  refine ObOk.of ⟨by intro m; simp [Pv.look], by intro m; simp [Pv.look]⟩ (by simp) ?_
  intro x hx ys hy
  simp at hx
  subst hx
  simp at hy
  subst hy
  exact kinL_ints _ xs
def sortI (xs : List Int) : List Int := xs.mergeSort fun x y => decide (x ≤ y)
theorem sortI_length (xs : List Int) : (sortI xs).length = xs.length := List.length_mergeSort xs
theorem g_sortInts (K : Nat) (xs : List Int) (hl : xs.length ≤ 1000000) : FnG Tryz.prog 120 [.row 1 (.obj K) xs.length] (SI K xs) fun r s' => r = .tuple [] ∧ s' = SI K (sortI xs) := by
  refine FnG.sem (SI_ok K xs).obj fun w ν vs hvs hr => ?_
  refine .inl ⟨⟨Tryz.f120, Tryz.func120, by kernel_rfl, by kernel_rfl⟩, ?_⟩
  have hslot := hr.slot 0
  simp only [slots, Pv.get, if_true] at hslot
  have hlook : Pv.look (.obj K) (SI K xs).e = some ⟨xs.length, 3, 1, some (intsE xs)⟩ := by simp [SI, Pv.look]
  obtain ⟨v, us, q1, q2, q3, q4⟩ := hr.good.own (.obj K) _ hlook
  obtain ⟨q5, q6, q7⟩ := q4 _ rfl
  have hus := repC_ints q6
  subst hus
  simp only [rep] at hslot
  obtain ⟨⟨b0, cap0, hb0⟩, _, n', u, e1, e2, e3⟩ := hslot
  rw [q1] at e1
  simp only [Option.some.injEq, Prod.mk.injEq] at e1
  obtain ⟨rfl, rfl⟩ := e1
  have hv := e3 rfl
  have hvs1 : vs = #[v] := by
    have h1 : vs.size = 1 := by simpa using hvs
    apply Array.ext (by simpa using h1)
    intro i h2 h3
    simp at h3
    subst h3
    rw [← hv]
    simp [Array.getD, h1]
  have hne : v ≠ .slice none 0 0 := by rw [← hv, hb0]; simp
  obtain ⟨g, cap, rfl, _, hg1, hg2, hg3, hg4, hH⟩ := Lib.holds_of_ownsRow q2 hne
  have hc := Any.sort_Ints Tryz.lays191 g 0 cap xs w hH hg1 (by omega)
  subst hvs1
  refine hc.mono ?_
  rintro e w' ⟨rfl, n, os, rfl⟩
  have hsl := sortI_length xs
  have hown := Lib.ownsRow_putRow (q := n) (k := xs.length) (ys := sortI xs) q2 hsl (Nat.le_refl _)
  rw [List.take_of_length_le (by omega)] at hown
  obtain ⟨p1, p2, _⟩ := hr.setRowM (w' := Sort.putRow (Value.int .i64) (Sort.ahead w n) g 0 (sortI xs).toArray) hlook rfl q1 (bl := g) rfl (v' := .slice (some ⟨g, 0, none⟩) xs.length cap) rfl (xs' := intsE (sortI xs)) (us := (sortI xs).map (Value.int .i64)) (.inl ⟨by simp [intsE, hsl], rfl⟩) rfl rfl rfl
    (fun j hj => by simp [Sort.putRow, Sort.mapBlock, Sort.ahead, Array.getElem?_modify, Ne.symm hj]) (by simp [Sort.putRow, Sort.mapBlock, Sort.ahead]) (by simpa [intsE, hsl] using hown) (ints_repC _ _ _)
  have p3 := p1.grown (w' := Sort.grow (Sort.putRow (Value.int .i64) (Sort.ahead w n) g 0 (sortI xs).toArray) os) ⟨rfl, rfl, rfl, by simp, fun k hk _ => Sort.heap_grow_old _ _ hk⟩
  refine ⟨_, _, _, _, .tuple [], SI K (sortI xs), rfl, p3, by simp [rep, repT], by simp [SI, keeps], ?_, ?_, ?_, (SI_ok K _).obj, by simp [kin, kinL], rfl, rfl⟩
  · simp [SI, keeps, inObs, Pv.look]
  · intro k cs hk; simp [SI, Pv.look] at hk
  · intro k o hk
    have hm := look_mem hk
    simp [SI] at hm
    obtain ⟨rfl, rfl⟩ := hm
    refine ⟨by simp [SI, Pv.look, upd, intsE, hsl], .inr (by simp [hk]), fun ys hy => ?_⟩
    simp at hy
    subst hy
    exact kinL_ints _ _
end Go.Proofs.YtchidkafcdmciaaGreat
