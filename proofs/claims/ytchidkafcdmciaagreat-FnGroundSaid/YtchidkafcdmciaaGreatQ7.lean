/- FnGround returns true for every input, and the input reads behind the call as it did before. No conditions. -/
import Derived.Test.YtchidkafcdmciaaGreatRows
import Derived.ProofKit
import Derived.Carry
import Derived.WalkKit
import Derived.Test.YtchidkafcdmciaaGreatQ6
set_option linter.all false
namespace Go.Proofs.YtchidkafcdmciaaGreat
open Go Go.Pv Go.ChangeShapes Go.WideShapes Go.ChangeAt Go.RowKit

theorem rowOwn : ownKnob Tryz.prog.godebug = none := by kernel_rfl
theorem rowLaid : laidOutB Tryz.prog = true := by kernel_rfl
theorem cells5 : Tryz.prog.cellsOf 5 = 1 := by kernel_rfl

/-- Bytes that came in, as values. -/
theorem bytes_repC (w : World) (ν : Env) : ∀ xs : List Int, repC w ν 1 (bytesE xs) (xs.map (Value.int .u8))
  | [] => by simp [bytesE, repC]
  | x :: xs => by
    simp only [bytesE, List.map_cons, repC]
    exact ⟨.int .u8 x, _, rfl, ⟨by simp [rep], rfl, by intro c hc; simp [Value.cells] at hc; subst hc; rfl⟩, bytes_repC w ν xs⟩
def envOf (b off n : Nat) : Env := ⟨fun b' o => b' = b ∧ off ≤ o ∧ o < off + n, fun _ => none, fun _ => none⟩
theorem laid_of (w : World) (A : Nat → Nat → Prop) (b : Nat) : ∀ (us : List Value) (off : Nat), (∀ i u, us[i]? = some u → A b (off + i) ∧ w.cell? ⟨b, off + i, none⟩ = some u) → laid w A b off us
  | [], _, _ => trivial
  | u :: us, off, h => ⟨by simpa using h 0 u rfl, laid_of w A b us (off + 1) fun i u' hu => by
      have := h (i + 1) u' (by simpa using hu)
      rwa [show off + (i + 1) = off + 1 + i from by omega] at this⟩
/-- A law of bytes at the model. -/
theorem calls_of {f : FuncId} {fn : Func} (hfn : Tryz.prog.funcs[f]? = some fn) (eg : ∀ args w, (callFunc f args).run Tryz.prog w = .ok (.enter f args) w) {w : World} {ν : Env} {args : List PV} {vs : Array Value} (h : FnV Tryz.prog f args (.bool true)) (hA : ∀ b o, ν.A b o → b < w.heap.size) (hb : ∀ k, ν.bx k = none) (ho : ∀ k, ν.ow k = none) (hr : repT w ν args vs.toList) :
    Calls Tryz.prog f vs w fun e w' => e = .returned (.bool true) ∧ Below w.heap.size w w' := by
  have hg : Pv.Good (blocksOf ν ⟨[], []⟩) w ν [] [] := ⟨hA, fun k cs hk => by simp [Pv.look] at hk, fun k k' bl h1 => by simp [Pv.look] at h1, fun g o hk => by simp [Pv.look] at hk, fun g g' n n' v v' bl h1 => by simp [Pv.look] at h1, fun g k n v bl h1 => by simp [Pv.look] at h1, fun k => .inl (hb k)⟩
  rcases h w ν vs hg (fun k => ⟨fun _ => hb k, fun _ => ho k⟩) hr with ⟨_, hc⟩ | ⟨v, w', hc, _⟩
  · refine hc.mono ?_
    rintro e w' ⟨v, r, s', ν', rfl, ⟨rfl, rfl⟩, hrep, _, _, _, hfr⟩
    simp only [rep] at hrep
    subst hrep
    refine ⟨rfl, hfr.os, hfr.tape, hfr.output, hfr.size, fun k hk => hfr.block k hk ?_⟩
    simp [blocksOf, Pv.look]
  · rw [eg] at hc
    cases hc
set_option maxHeartbeats 1000000 in
/-- Where the input is long. -/
theorem fnGround_long (a : Option Addr) (len cap : Nat) (h : 1048576 < len) (hm : len ≤ 9223372036854775807) (w : World) : Calls Tryz.prog 3 #[.slice a len cap] w fun e w' => e = .returned (.bool true) ∧ w' = w := by
  go_enter Tryz.func3, Tryz.ntmps3
  go_wp2
  go_ret
  exact ⟨rfl, rfl⟩
/-- The row of a law of bytes: what is left is its walk. -/
theorem wf_u8 {n : Int} (h : (Lit.int .u8 n).wf = true) : 0 ≤ n ∧ n < 256 := by
  simp [Lit.wf, IntKind.min, IntKind.max, IntKind.signed, IntKind.bits] at h
  omega
set_option maxRecDepth 100000 in
theorem fnGround_any (W : World) (a : Addr) (len cap : Nat) (zs : List Int) (hl : len ≤ cap) (hm : cap ≤ maxLen) (hz : zs.length = cap) (hcell : ∀ i, i < zs.length → W.cell? (a.add i) = some (.int .u8 (zs.getD i 0))) (hwz : ∀ n ∈ zs, (Lit.int .u8 n).wf = true) :
    Calls Tryz.prog 3 #[.slice (some a) len cap] W fun e w' => e = .returned (.bool true) ∧ Below W.heap.size W w' := by
  by_cases hbig : 1048576 < len
  · refine (fnGround_long (some a) len cap hbig (by unfold maxLen at hm; omega) W).mono ?_
    rintro e w' ⟨rfl, rfl⟩
    exact ⟨rfl, Below.refl _ _⟩
  · have hlen : (zs.take len).length = len := by simp; omega
    have hd : byteOk (zs.take len) := fun x hx => wf_u8 (hwz x (List.mem_of_mem_take hx))
    have hV := v_FnGround (zs.take len) hd
    rcases Nat.eq_zero_or_pos len with rfl | hpos
    · refine calls_of (ν := envOf 0 0 0) Tryz.func3 (enters_of Tryz.func3 (by kernel_rfl) rfl) hV (fun b o h => by simp [envOf] at h) (fun _ => rfl) (fun _ => rfl) ?_
      simp only [repT, rep]
      refine ⟨_, _, rfl, ⟨⟨some a, cap, by simp [bytesE], by simp [bytesE], ⟨hm, by simp [bytesE, lim]⟩, .inl (by simp [bytesE])⟩, fun e => (by cases e), fun g e => (by cases e)⟩, rfl⟩
    · obtain ⟨ab, ao, spot⟩ := a
      have hspot : spot = none := by simpa [Addr.add] using World.cell?_spot (hcell 0 (by omega))
      subst hspot
      have hblk : ab < W.heap.size := by
        have := hcell 0 (by omega)
        rcases Nat.lt_or_ge ab W.heap.size with h | h
        · exact h
        · simp [World.cell?, Addr.add, Array.getElem?_eq_none h] at this
      refine calls_of (ν := envOf ab ao len) Tryz.func3 (enters_of Tryz.func3 (by kernel_rfl) rfl) hV (fun b o h => by simp [envOf] at h; omega) (fun _ => rfl) (fun _ => rfl) ?_
      simp only [repT, rep]
      refine ⟨_, _, rfl, ⟨⟨some ⟨ab, ao, none⟩, cap, by simp [hlen], by simp [hlen]; omega, ⟨hm, by simp [hlen, lim]; omega⟩, .inr ⟨ab, ao, (zs.take len).map (Value.int .u8), rfl, ?_, bytes_repC _ _ _⟩⟩, fun e => (by cases e), fun g e => (by cases e)⟩, rfl⟩
      refine laid_of _ _ _ _ _ fun i u hu => ?_
      simp only [List.getElem?_map, Option.map_eq_some_iff] at hu
      obtain ⟨x, hx, rfl⟩ := hu
      have hi : i < len := by have := (List.getElem?_eq_some_iff.1 hx).1; omega
      refine ⟨⟨rfl, by omega, by omega⟩, ?_⟩
      have := hcell i (by omega)
      rw [Addr.add_lit] at this
      rw [this]
      congr 2
      rw [List.getElem?_take, if_pos hi] at hx
      simp [List.getD, hx]
theorem fnGround_nil (W : World) : Calls Tryz.prog 3 #[.slice none 0 0] W fun e w' => e = .returned (.bool true) ∧ Below W.heap.size W w' := by
  refine calls_of (ν := envOf 0 0 0) Tryz.func3 (enters_of Tryz.func3 (by kernel_rfl) rfl) (v_FnGround [] (by simp [byteOk])) (fun b o h => by simp [envOf] at h) (fun _ => rfl) (fun _ => rfl) ?_
  simp only [repT, rep]
  exact ⟨_, _, rfl, ⟨⟨none, 0, by simp [bytesE], by simp [bytesE], ⟨by simp [maxLen], by simp [bytesE, lim]⟩, .inl (by simp [bytesE])⟩, fun e => (by cases e), fun g e => (by cases e)⟩, rfl⟩
set_option maxRecDepth 100000 in
theorem fnGround_lifted (os : Os) (started : os.Started) (H : Type) (enc : TypeId × Value → H) :
    ReturnsInHanded {} Tryz.checked os 3 .any (Rows.fnGroundSpec.pre6 enc Tryz.prog Tryz.f3 Rows.fnGroundRow.domain false) (Rows.fnGroundSpec.post enc Tryz.prog Tryz.f3 false true false false) := by
  refine returnsInHanded_of_change (C := Tryz.checked) rowOwn started (by kernel_rfl) Tryz.func3
    (ChangeSpec.witness6 (enc := enc) (C := Tryz.checked) false ⟨#[], #[.slice none 0 0], []⟩ 8 (by kernel_rfl) (by kernel_rfl) (by kernel_rfl) (by kernel_rfl)) ?_
  intro W base args ds gs before hval0 hW hcnd _
  have hval : ∀ (j : Nat) t v, Tryz.f3.params[j]? = some t → args[j]? = some v → Value.okWide Tryz.prog W .any base t v := hval0
  have hW' := hW
  obtain ⟨p, q, hA0, hV, rfl, hfz, hnd⟩ := hW
  have hA : DataW.TrodAll enc Tryz.prog W 0 (fun _ => true) true Tryz.f3.params.toList args.toList ds p := hA0
  rw [Tryz.params3] at hA hval
  obtain ⟨v0, d0, rfl, rfl, h0⟩ := trodAll_one hA
  obtain ⟨rfl, rfl⟩ := trodVars_none hV
  have h0k := h0
  obtain ⟨a0, len, cap, rfl⟩ := okWide_slice Tryz.underlying22 (hval 0 22 v0 rfl rfl)
  obtain ⟨fuel, hf⟩ := h0
  have hlt : ∀ x ∈ p, x.block < W.heap.size := fun x hx => by simpa using hW'.lt x (by simpa using hx)
  have hcall : Calls Tryz.prog 3 #[.slice a0 len cap] W fun e w' => e = .returned (.bool true) ∧ Below W.heap.size W w' := by
    rcases open_ints Tryz.underlying22 Tryz.underlying5 cells5 hf with ⟨hcs, hx⟩ | ⟨a, len', cap', zs, hcs, _, hl, hm, hz, hx, hcell, hwz⟩
    · simp [Value.cells] at hcs
      obtain ⟨rfl, rfl, rfl⟩ := hcs
      exact fnGround_nil W
    · simp [Value.cells] at hcs
      obtain ⟨rfl, rfl, rfl⟩ := hcs
      simp only [if_true] at hz
      exact fnGround_any W a len cap zs hl hm hz hcell hwz
  refine hcall.mono fun e W' ⟨he, hbel⟩ => ?_
  subst he
  refine ⟨_, rfl, _, _, _, [], p, [], hW', ?_, ?_, rfl, hbel.frame _, fun h => by cases h⟩
  · exact trodAll_mk1 (shut_bool Tryz.underlying4 true)
  · exact trodAll_mk1 (Below.trod rowLaid (by kernel_rfl) (of_decide_eq_true (by kernel_rfl)) h0k hbel hlt)
theorem fnGround_holds : Rows.FnGroundSaid :=
  OpenClaim.holds_of_wide 3 Tryz.f3 rfl rfl rfl rfl rfl rfl rfl ⟨rfl, rfl, rfl, rfl, rfl⟩ rfl rfl rfl rfl rfl (by kernel_rfl) Tryz.func3 (by kernel_rfl)
    (of_decide_eq_true (by kernel_rfl)) (by unfold Func.isWrapper; first | (rw [if_pos (by decide +kernel)]; kernel_rfl) | (rw [if_neg (by decide +kernel)]; exact ⟨rfl, rfl⟩))
    (fun os started H enc _ => fnGround_lifted os started H enc)
#print axioms fnGround_holds
end Go.Proofs.YtchidkafcdmciaaGreat
