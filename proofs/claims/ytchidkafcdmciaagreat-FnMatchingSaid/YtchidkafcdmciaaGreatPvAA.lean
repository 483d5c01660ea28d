/- Contracts of functions that are not run by the logic: out of and into the model's own words. -/
import Derived.Test.YtchidkafcdmciaaGreatPvZ
set_option linter.all false
namespace Go.Pv
open Go Go.RowKit

/-- The relation at the beginning of a call. -/
theorem Rel.start {w : World} {ν : Env} {s : Obs} {args : List PV} {vs : Array Value} (hso : objOnly s) (hg : Good (blocksOf ν s) w ν s.b s.e) (hx : exactE ν s) (hr : repT w ν args vs.toList) :
    Rel ⟨w, ν, blocksOf ν s, vs.size, obsIds s⟩ ⟨slots 0 args, s.b, s.e, 0, obsIds s⟩ { tmps := vs, defers := [] } w ν := by
  have hvl := repT_length hr
  have hvs : vs.size = args.length := by simpa using hvl
  have hnone : ∀ k, fresh 0 (obsIds s) k → ν.bx k = none ∧ ν.ow k = none := by
    intro k hk
    cases k with
    | loc m => exact ⟨(hx _).1 (hso.1 m), (hx _).2 (hso.2 m)⟩
    | obj m =>
      simp only [fresh, true_and] at hk
      constructor
      · refine (hx _).1 ?_
        cases h : look (.obj m) s.b with
        | none => rfl
        | some x => exact absurd (obsIds_of (.inl (by simp [h]))) hk
      · refine (hx _).2 ?_
        cases h : look (.obj m) s.e with
        | none => rfl
        | some x => exact absurd (obsIds_of (.inr (by simp [h]))) hk
  have hin : ∀ m, (ν.bx (.obj m) ≠ none ∨ ν.ow (.obj m) ≠ none) → .obj m ∈ obsIds s := by
    intro m hm
    refine Classical.byContradiction fun hc => ?_
    obtain ⟨h1, h2⟩ := hnone (.obj m) ⟨trivial, hc⟩
    rcases hm with hm | hm
    · exact hm h1
    · exact hm h2
  refine ⟨⟨hg.alt, fun k cs hk => ?_, hg.inj, fun g o hgo => ?_, hg.oinj, hg.obx, hg.one⟩, ⟨rfl, rfl, rfl, Nat.le_refl _, fun _ _ _ => rfl, fun b o h => ⟨h, rfl⟩, fun b o h => .inl h, fun n b h => h, fun n b h => hin n (.inl (by rw [h]; simp)), fun m n u h => ⟨n, u, h, .inl ⟨rfl, rfl⟩⟩, fun m n u h => hin m (.inr (by rw [h]; simp))⟩, rfl, rfl, fun i => ?_, hnone⟩
  · obtain ⟨bl, us, el, g1, g2, g3⟩ := hg.box k cs hk
    exact ⟨bl, us, el, g1, .inl g2, g3⟩
  · obtain ⟨v, us, g1, g2, g3, g4⟩ := hg.own g o hgo
    exact ⟨v, us, g1, g2, fun bl hbl => ⟨.inl (g3 bl hbl).1, (g3 bl hbl).2⟩, g4⟩
  · rw [get_slots]
    by_cases hi : i < args.length
    · rw [if_pos (by omega)]
      have hgi : args[i]? = some args[i] := List.getElem?_eq_getElem hi
      obtain ⟨v, e1, e2⟩ := repT_get i hr hgi
      have e1' : vs[i]? = some v := by simpa using e1
      show rep w ν _ (vs.getD i undef)
      rw [Array.getD_eq_getD_getElem?, e1']
      simpa [List.getD, hgi] using e2
    · rw [if_neg (by omega)]; simp [rep]

/-- A contract out of the model's own words. -/
theorem FnG.sem {P : Program} {f : FuncId} {args : List PV} {s : Obs} {Q : PV → Obs → Prop} (hso : objOnly s)
    (h : ∀ (w : World) (ν : Env) (vs : Array Value), vs.size = args.length → Rel ⟨w, ν, blocksOf ν s, vs.size, obsIds s⟩ ⟨slots 0 args, s.b, s.e, 0, obsIds s⟩ { tmps := vs, defers := [] } w ν →
      Does P f vs w fun e w' => ∃ v st' a' ν' r s', e = .returned v ∧ Rel ⟨w, ν, blocksOf ν s, vs.size, obsIds s⟩ st' a' w' ν' ∧ rep w' ν' r v ∧ keeps s' s.b ∧ keeps s' s.e ∧ subB (inObs s') s'.b st'.b ∧ subE (inObs s') s'.e st'.e ∧ objOnly s' ∧ kin (inObs s') r ∧ Q r s') : FnG P f args s Q := by
  intro w ν vs hg hx hr
  have hvs : vs.size = args.length := by simpa using repT_length hr
  have hrel := Rel.start hso hg hx hr
  have hm : ∀ (e : Ending) (w' : World), (∃ v st' a' ν' r s', e = .returned v ∧ Rel ⟨w, ν, blocksOf ν s, vs.size, obsIds s⟩ st' a' w' ν' ∧ rep w' ν' r v ∧ keeps s' s.b ∧ keeps s' s.e ∧ subB (inObs s') s'.b st'.b ∧ subE (inObs s') s'.e st'.e ∧ objOnly s' ∧ kin (inObs s') r ∧ Q r s') →
      ∃ v r s' ν', e = .returned v ∧ Q r s' ∧ rep w' ν' r v ∧ Good (fun bl => blocksOf ν s bl ∨ w.heap.size ≤ bl) w' ν' s'.b s'.e ∧ exactE ν' s' ∧ objOnly s' ∧ Fr ⟨w, ν, blocksOf ν s, 0, obsIds s⟩ w' ν' := by
    rintro e w' ⟨v, st', a', ν', r, s', rfl, hr', q0, kb, ke, q1, q2, q3, q4, q5⟩
    refine ⟨v, r, s', ν'.cut (inObs s'), rfl, q5, rep_overS (OverS.cut _ w' ν') _ _ q4 q0, hr'.good.cut q1 q2 (fun bl h _ => h), ?_, q3, ?_⟩
    · intro k
      constructor
      · intro hk
        by_cases hs : inObs s' k
        · rw [Env.cut_bx hs]
          rcases hs with hs | hs
          · rw [hk] at hs; cases hs
          · obtain ⟨x, hx'⟩ := Option.isSome_iff_exists.1 hs
            obtain ⟨v', us', e1, _⟩ := hr'.good.own k x (q2 k x hx').1
            rcases hr'.good.one k with h1 | h1
            · exact h1
            · rw [h1] at e1; cases e1
        · exact (Env.cut_no hs).1
      · intro hk
        by_cases hs : inObs s' k
        · rw [Env.cut_ow hs]
          rcases hs with hs | hs
          · obtain ⟨x, hx'⟩ := Option.isSome_iff_exists.1 hs
            obtain ⟨bl, us', el, e1, _⟩ := hr'.good.box k x (q1 k x hx').1
            rcases hr'.good.one k with h1 | h1
            · rw [h1] at e1; cases e1
            · exact h1
          · rw [hk] at hs; cases hs
        · exact (Env.cut_no hs).2
    · refine ⟨hr'.fr.os, hr'.fr.tape, hr'.fr.output, hr'.fr.size, hr'.fr.block, hr'.fr.keep, hr'.fr.fresh, fun n b h => ?_, hr'.fr.obn, fun m n u h => ?_, hr'.fr.obr⟩
      · have hs : inObs s' (.obj n) := by
          cases hl : look (.obj n) s.b with
          | none => rw [(hx _).1 hl] at h; cases h
          | some x => exact keeps_of kb _ (by simp [hl])
        rw [Env.cut_bx hs]; exact hr'.fr.obj n b h
      · have hs : inObs s' (.obj m) := by
          cases hl : look (.obj m) s.e with
          | none => rw [(hx _).2 hl] at h; cases h
          | some x => exact keeps_of ke _ (by simp [hl])
        rw [Env.cut_ow hs]; exact hr'.fr.row m n u h
  rcases h w ν vs hvs hrel with ⟨hfn, hc⟩ | ⟨v, w', hc, hres⟩
  · exact .inl ⟨hfn, hc.mono hm⟩
  · exact .inr ⟨v, w', hc, hm _ _ hres⟩

/-- New blocks and draws that no one knows of. -/
theorem Rel.grown {C : Ctx} {st : St} {a : Act} {w w' : World} {ν : Env} (h : Rel C st a w ν) (hg : w.grownBy w' none) : Rel C st a w' ν := by
  have hov : Over w ν w' ν := ⟨fun b o hA => ⟨hA, cell_grown hg (h.good.alt b o hA)⟩, fun _ _ _ h => h, fun _ n u _ h => ⟨n, u, h, .inl ⟨rfl, rfl⟩⟩⟩
  refine h.over hov rfl ⟨fun b o hA => Nat.lt_of_lt_of_le (h.good.alt b o hA) hg.size, fun k cs hk => ?_, h.good.inj, fun g o hgo => ?_, h.good.oinj, h.good.obx, h.good.one⟩
    ⟨hg.os.trans h.fr.os, hg.tape.trans h.fr.tape, hg.output.trans h.fr.output, Nat.le_trans h.fr.size hg.size, fun k hk hm => ?_, fun b o hA => ?_, h.fr.fresh, h.fr.obj, h.fr.obn, h.fr.row, h.fr.obr⟩ h.new
  · obtain ⟨bl, us, el, g1, g2, g3, g4, g5⟩ := h.good.box k cs hk
    exact ⟨bl, us, el, g1, g2, g3, by rw [hg.block bl (Array.getElem?_eq_some_iff.1 g4).1 (by simp)]; exact g4, repB_over hov g5⟩
  · obtain ⟨v, us, g1, g2, g3, g4⟩ := h.good.own g o hgo
    exact ⟨v, us, g1, g2.kept hg (by cases v.ownBlock <;> simp), g3, rowC_over hov (fun _ _ _ h => h) g4⟩
  · rw [hg.block k (Nat.lt_of_lt_of_le hk h.fr.size) (by simp)]; exact h.fr.block k hk hm
  · obtain ⟨k1, k2⟩ := h.fr.keep b o hA
    exact ⟨k1, (hov.A b o k1).2.trans k2⟩

end Go.Pv
