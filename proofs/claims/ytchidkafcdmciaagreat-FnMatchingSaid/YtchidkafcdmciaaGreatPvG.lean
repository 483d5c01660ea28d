/- Every instruction that computes a value is sound. -/
import Derived.Test.YtchidkafcdmciaaGreatPvF
import Derived.MapKept
set_option linter.all false
namespace Go.Pv
open Go Go.RowKit

theorem zEq_eq {c d : PV} (h : zEq c d = true) : c = d := by
  unfold zEq at h
  split at h <;> simp_all
theorem zEqL_eq : ∀ {cs ds : List PV}, zEqL cs ds = true → cs = ds
  | [], [], _ => rfl
  | [], _ :: _, h => by simp [zEqL] at h
  | _ :: _, [], h => by simp [zEqL] at h
  | c :: cs, d :: ds, h => by
    simp only [zEqL, Bool.and_eq_true] at h
    rw [zEq_eq h.1, zEqL_eq h.2]
theorem zeroIs_eq {cs : List PV} {z : PV} (h : zeroIs cs z = true) : z = .agg cs := by
  cases z <;> simp only [zeroIs] at h
  case agg ds => rw [zEqL_eq h]
  all_goals cases h

theorem getElem?_mk (s : List UInt8) (n : Nat) (h : n < s.length) : (⟨s.toArray⟩ : ByteArray)[n]? = some (s.getD n 0) := by
  have hsz : n < (⟨s.toArray⟩ : ByteArray).size := by rw [size_mk]; exact h
  have e : (⟨s.toArray⟩ : ByteArray)[n]? = some ((⟨s.toArray⟩ : ByteArray)[n]'hsz) := getElem?_pos (⟨s.toArray⟩ : ByteArray) n hsz
  rw [e]
  congr 1
  simp [List.getD, h]
  rfl

theorem sliceBound_ok (P : Program) (w : World) (k : IntKind) (i : Int) (y : Nat) (c : BoundsCode) (h0 : 0 ≤ i) (h1 : i ≤ y) : (Instr.sliceBound (.int k i) y c).run P w = .ok i.toNat w := by
  simp [Instr.sliceBound, asIntOf, h0, h1]

theorem bounds_ok (P : Program) (w : World) (isS : Bool) (len cap : Nat) (lo hi : Option Value) (l h : Int) (hlo : (lo = none ∧ l = 0) ∨ ∃ k, lo = some (.int k l)) (hhi : (hi = none ∧ h = len) ∨ ∃ k, hi = some (.int k h))
    (h0 : 0 ≤ l) (h1 : l ≤ h) (h2 : h ≤ len) (hc : len ≤ cap) : (Instr.sliceBounds isS len cap lo hi none).run P w = .ok (l.toNat, h.toNat, cap) w := by
  rcases hlo with ⟨rfl, rfl⟩ | ⟨k, rfl⟩ <;> rcases hhi with ⟨rfl, rfl⟩ | ⟨k', rfl⟩
  · simp [Instr.sliceBounds]
  · simp [Instr.sliceBounds, sliceBound_ok P w k' h cap _ (by omega) (by omega)]
  · simp [Instr.sliceBounds, sliceBound_ok P w k l len _ (by omega) (by omega)]
  · simp [Instr.sliceBounds, sliceBound_ok P w k' h cap _ (by omega) (by omega), sliceBound_ok P w k l h.toNat _ (by omega) (by omega)]

theorem places_ok {P : Program} {tys : List (Nat × TF)} (ht : tysOk P tys = true) : ∀ (gs : List Field), (gs.all fun f => (tf tys f.type).isSome) = true →
    ∃ places : List (Nat × Nat), gs.mapM (fun f => (P.info? f.type).map fun i => (f.offset, i.size)) = some places ∧
      ∀ (i off t sz : Nat), (gs.map (fun f => (f.offset, f.type)))[i]? = some (off, t) → (tf tys t).map (·.size) = some sz → places[i]? = some (off, sz)
  | [], _ => ⟨[], by simp, by simp⟩
  | f :: gs, h => by
    simp only [List.all_cons, Bool.and_eq_true] at h
    obtain ⟨places, h1, h2⟩ := places_ok ht gs h.2
    obtain ⟨g, hg⟩ := Option.isSome_iff_exists.1 h.1
    obtain ⟨i, d, z, e1, e2, e3, e4, e5, e6, e7, e8⟩ := (tyIs ht hg).ex
    refine ⟨(f.offset, g.size) :: places, by simp [List.mapM_cons, e1, e3, h1], fun j off t sz hj hsz => ?_⟩
    cases j with
    | zero =>
      simp only [List.map_cons, List.getElem?_cons_zero, Option.some.injEq, Prod.mk.injEq] at hj ⊢
      obtain ⟨rfl, rfl⟩ := hj
      rw [hg] at hsz
      simpa using hsz
    | succ j =>
      simp only [List.map_cons, List.getElem?_cons_succ] at hj ⊢
      exact h2 j off t sz hj hsz

theorem val_ok {P : Program} {w : World} {x : Sem Value} {v : Value} (h : x.run P w = .ok v w) : (do pure (Next.value (← x)) : Sem Next).run P w = .ok (.value v) w := by
  simp [h]

theorem zeroEq_eq {p q : PV} (h : zeroEq p q = true) : p = q := by
  unfold zeroEq at h
  split at h
  · rw [zEqL_eq h]
  · cases h
  · exact zEq_eq h

theorem zOk_rep (w : World) (ν : Env) {p : PV} {v : Value} (h : zOk p v = true) : rep w ν p v ∧ repL w ν (cells p) v.cells.toList := by
  by_cases ha : ∃ cs, p = .agg cs
  · obtain ⟨cs, rfl⟩ := ha
    cases v <;> simp only [zOk] at h
    case agg us =>
      have := zOkL_rep w ν _ _ h
      exact ⟨by simp only [rep]; exact ⟨us, rfl, this⟩, by simpa [cells, Value.cells] using this⟩
    all_goals cases h
  · have h' : cOk p v = true ∧ v.oneCell' = true := by
      cases p <;> simp only [zOk, Bool.and_eq_true] at h <;> first | exact h | exact absurd ⟨_, rfl⟩ ha
    have hr := cOk_rep w ν h'.1
    refine ⟨hr, ?_⟩
    have hc : cells p = [p] := by cases p <;> first | rfl | exact absurd ⟨_, rfl⟩ ha
    have hv : v.cells = #[v] := by
      have := h'.2
      cases v <;> first | rfl | simp [Value.oneCell'] at this
    rw [hc, hv]
    simp only [repL]
    exact ⟨v, [], rfl, ⟨hr, h'.2⟩, rfl⟩

theorem tf_zero {P : Program} {tys : List (Nat × TF)} (ht : tysOk P tys = true) {t : Nat} {f : TF} (hf : tf tys t = some f) (w : World) : ∃ z, (zeroValue t).run P w = .ok z w ∧ zOk f.zero z = true ∧ z.cells.size = f.size := by
  obtain ⟨i, d, z, h1, h2, h3, h4, h5, h6, h7, h8⟩ := (tyIs ht hf).ex
  exact ⟨z, by simp [zeroValue, typeInfo, h1, h6], h7, h8⟩

theorem repT_args {C : Ctx} {st : St} {a : Act} {w : World} {ν : Env} (h : Rel C st a w ν) : ∀ {xs : List Opd} {os : List Operand}, opsOk' xs os = true → repT w ν (xs.map (evalO st.t)) (os.map a.eval)
  | [], [], _ => by simp [repT]
  | [], _ :: _, hk => by simp [opsOk'] at hk
  | _ :: _, [], hk => by simp [opsOk'] at hk
  | x :: xs, o :: os, hk => by
    simp only [opsOk', Bool.and_eq_true] at hk
    simp only [List.map_cons, repT]
    exact ⟨_, _, rfl, opOk_rep h hk.1, repT_args h hk.2⟩

theorem equalIn_bool {P : Program} {w : World} {t : TypeId} (hd : P.underlying t = some .bool) (d : Nat) (a b : Bool) : (Op.equalIn (d + 1) t (.bool a) (.bool b)).run P w = .ok (a == b) w := by
  rw [Op.equalIn]
  simp only [Sem.run_bind, run_underlying hd, Result.andThen_ok, Sem.run_pure]
theorem equal_bool {P : Program} {w : World} {t : TypeId} (hd : P.underlying t = some .bool) (a b : Bool) : (Op.equal t (.bool a) (.bool b)).run P w = .ok (a == b) w := equalIn_bool hd _ a b
theorem ents_length : ∀ {borns : List Nat} {kvs : List PV} {us : List Value}, kvs.length = 2 * borns.length → us.length = kvs.length → (ents borns us).length = borns.length
  | [], _, us, _, _ => by simp [ents]
  | b' :: bs, kvs, [], h1, h2 => by rw [h1] at h2; simp at h2
  | b' :: bs, kvs, [_], h1, h2 => by rw [h1] at h2; simp at h2; omega
  | b' :: bs, kvs, k :: v :: us, h1, h2 => by
    simp only [ents, List.length_cons]
    rw [ents_length (kvs := kvs.drop 2) (us := us) (borns := bs) (by simp at h1 ⊢; omega) (by simp at h1 h2 ⊢; omega)]
theorem repT_len' {w : World} {ν : Env} : ∀ {ps : List PV} {vs : List Value}, repT w ν ps vs → vs.length = ps.length
  | [], vs, h => by simp only [repT] at h; subst h; rfl
  | p :: ps, vs, h => by
    simp only [repT] at h
    obtain ⟨u, us', rfl, _, h2⟩ := h
    simp [repT_len' h2]
theorem run_getObj' {P : Program} {w : World} {r : Nat} {o : Obj} (hb : w.heap[r]? = some o) (hn : ∀ c e f, o ≠ .cells c e f := by simp) : (getObj r).run P w = .ok o w := by
  simp only [getObj, Sem.run, hb]

/-- Finding a key. -/
theorem mfind_sound {w : World} {ν : Env} {ks : Bool} {d : TypeDesc} (hd : (ks = false ∧ ∃ k, d = .int k) ∨ (ks = true ∧ d = .string)) {k : PV} {kv : Value} (hk : rep w ν k kv) : ∀ (borns : List Nat) (kvs : List PV) (us : List Value) (i : Nat) (r : Option PV), repT w ν kvs us → kvs.length = 2 * borns.length → mfind ks k kvs = some r →
    match r with
    | none => Instr.findNow d kv (ents borns us) i = some none
    | some v => ∃ j u, Instr.findNow d kv (ents borns us) i = some (some (j, u)) ∧ rep w ν v u
  | [], [], us, i, r, h, _, hm => by
    simp only [mfind] at hm; cases hm
    simp only [repT] at h; subst h
    simp [ents, Instr.findNow]
  | [], _ :: _, _, _, _, _, hl, _ => by simp at hl
  | b :: bs, [], _, _, _, _, hl, _ => by simp at hl
  | b :: bs, [_], _, _, _, _, hl, _ => by simp at hl; omega
  | b :: bs, k' :: v :: kvs, us, i, r, h, hl, hm => by
    simp only [repT] at h
    obtain ⟨u1, us1, rfl, h1, u2, us2, rfl, h2, h3⟩ := h
    simp only [mfind] at hm
    have hsame : ∀ bb, keyEq ks k k' = some bb → Instr.sameNow d kv u1 = some bb := by
      intro bb hb
      unfold keyEq at hb
      split at hb
      · split at hb
        · rename_i hcond
          obtain ⟨rfl, rfl⟩ := hcond
          simp only [rep] at hk h1
          subst hk; subst h1
          rcases hd with ⟨_, kk, rfl⟩ | ⟨e, _⟩
          · simpa [Instr.sameNow] using hb
          · cases e
        · cases hb
      · split at hb
        · rename_i hcond
          subst hcond
          simp only [rep] at hk h1
          obtain ⟨rfl, _⟩ := hk
          obtain ⟨rfl, _⟩ := h1
          rcases hd with ⟨e, _⟩ | ⟨_, rfl⟩
          · cases e
          · simp only [Instr.sameNow]
            rw [← hb]
            congr 1
            rename_i a c _
            rw [Bool.eq_iff_iff, MapKept.bytes_beq]
            simp
        · cases hb
      · cases hb
    simp only [ents, Instr.findNow]
    cases hq : keyEq ks k k' with
    | none => simp [hq] at hm
    | some bb =>
      rw [hsame bb hq]
      simp only [hq] at hm
      cases bb with
      | true =>
        simp only [Option.some.injEq] at hm
        subst hm
        exact ⟨i, u2, rfl, h2⟩
      | false =>
        simp only at hm ⊢
        exact mfind_sound hd hk bs kvs us2 (i + 1) r h3 (by simp at hl; omega) hm

theorem run_checkKey {P : Program} {w : World} {t : Nat} {d : TypeDesc} (hu : P.underlying t = some d) (hd : (∃ k, d = .int k) ∨ d = .string) (e : Bool) (v : Value) : (Instr.checkKey e 10000 t v).run P w = .ok () w := by
  unfold Instr.checkKey
  rcases hd with ⟨k, rfl⟩ | rfl <;> simp [run_underlying hu]

theorem mat_sound {w : World} {ν : Env} {n : Nat} : ∀ (borns : List Nat) (kvs : List PV) (us : List Value) (p : PV), repT w ν kvs us → mat n borns kvs = some p → ∃ e, (ents borns us).find? (·.born == n) = some e ∧ rep w ν p (.tuple #[e.key, e.val])
  | [], _, _, _, _, hm => by simp [mat] at hm
  | _ :: _, [], _, _, _, hm => by simp [mat] at hm
  | _ :: _, [_], _, _, _, hm => by simp [mat] at hm
  | b :: bs, k :: v :: kvs, us, p, h, hm => by
    simp only [repT] at h
    obtain ⟨u1, us1, rfl, h1, u2, us2, rfl, h2, h3⟩ := h
    simp only [mat] at hm
    simp only [ents]
    by_cases e : b = n
    · rw [if_pos e] at hm; cases hm
      refine ⟨⟨u1, u2, b⟩, by simp [List.find?, e], ?_⟩
      simp only [rep]
      exact ⟨#[u1, u2], rfl, by simp only [repT]; exact ⟨_, _, rfl, h1, _, _, rfl, h2, rfl⟩⟩
    · rw [if_neg e] at hm
      obtain ⟨x, g1, g2⟩ := mat_sound bs kvs us2 p h3 hm
      have hbe : (b == n) = false := by simpa using e
      exact ⟨x, by simp [List.find?, hbe, g1], g2⟩


set_option maxHeartbeats 1000000 in
theorem vI_sound {P : Program} {tys : List (Nat × TF)} (ht : tysOk P tys = true) {C : Ctx} {st : St} {a : Act} {w : World} {ν : Env} (hr : Rel C st a w ν) {i : VIns} {o : Oper} (ho : vOk tys i o.op = true)
    {c : Prop} {p : PV} (he : vI st i = some (c, p)) (hc : c) : ∃ v, (execOp a.eval o).run P w = .ok (.value v) w ∧ rep w ν p v := by
  obtain ⟨dst, op, type, pos, after, guard⟩ := o
  simp only at ho
  unfold vOk at ho
  split at ho
  · rename_i x o
    simp only [vI] at he; cases he
    exact ⟨_, rfl, opOk_rep hr ho⟩
  · rename_i x o
    simp only [vI] at he; cases he
    exact ⟨_, rfl, opOk_rep hr ho⟩
  · rename_i c' x y c'' x' y'
    simp only [Bool.and_eq_true] at ho
    have h1 := opOk_rep hr ho.1.1
    have h2 := opOk_rep hr ho.1.2
    have h3 := opOk_rep hr ho.2
    simp only [vI, pickV] at he
    split at he
    · rename_i b hb
      rw [hb] at h1; simp only [rep] at h1
      split at he
      · rename_i u v hu hv
        cases he
        rw [hu] at h2; rw [hv] at h3
        simp only [rep] at h2 h3
        refine ⟨.bool (cond b u v), ?_, by simp [rep]⟩
        simp only [execOp, h1, h2, h3, asBool, Sem.run_bind, Sem.run_pure, Result.andThen_ok]
        cases b <;> rfl
      · split at he
        · cases he
          exact ⟨_, by simp only [execOp, h1, asBool, Sem.run_bind, Sem.run_pure, Result.andThen_ok, if_true], h2⟩
        · cases he
          exact ⟨_, by simp only [execOp, h1, asBool, Sem.run_bind, Sem.run_pure, Result.andThen_ok, Bool.false_eq_true, if_false], h3⟩
    · cases he
  · rename_i agg sz x t o
    simp only [Bool.and_eq_true] at ho
    obtain ⟨h1, h2⟩ := ho
    split at h1
    · rename_i f hf
      simp only [Bool.and_eq_true, beq_iff_eq] at h1
      obtain ⟨rfl, rfl⟩ := h1
      obtain ⟨v, g1, g2⟩ := loadV_sound ht hr.good hf (opOk_rep hr h2) (by simpa only [vI] using he) hc
      exact ⟨v, val_ok g1, g2⟩
    · cases h1
  · rename_i off agg sz x s o i
    simp only [Bool.and_eq_true] at ho
    obtain ⟨h1, h2⟩ := ho
    split at h1
    · rename_i f hf
      split at h1
      · rename_i off' t hfi
        simp only [Bool.and_eq_true, beq_iff_eq] at h1
        obtain ⟨rfl, h1⟩ := h1
        split at h1
        · rename_i g hg
          simp only [Bool.and_eq_true, beq_iff_eq, bne_iff_ne, ne_eq] at h1
          obtain ⟨⟨rfl, rfl⟩, h0⟩ := h1
          obtain ⟨v, g1, g2⟩ := faddrV_sound ht hf rfl hfi hg h0 (opOk_rep hr h2) (by simpa only [vI] using he) hc
          exact ⟨v, val_ok g1, g2⟩
        · cases h1
      · cases h1
    · cases h1
  · rename_i off agg sz x s o i
    simp only [Bool.and_eq_true] at ho
    obtain ⟨h1, h2⟩ := ho
    split at h1
    · rename_i f hf
      split at h1
      · rename_i off' t hfi
        simp only [Bool.and_eq_true, beq_iff_eq] at h1
        obtain ⟨rfl, h1⟩ := h1
        split at h1
        · rename_i g hg
          simp only [Bool.and_eq_true, beq_iff_eq] at h1
          obtain ⟨rfl, rfl⟩ := h1
          obtain ⟨v, g1, g2⟩ := fldV_sound ht hf rfl hfi hg (opOk_rep hr h2) (by simpa only [vI] using he) hc
          exact ⟨v, val_ok g1, g2⟩
        · cases h1
      · cases h1
    · cases h1
  · rename_i sz x i t o j
    simp only [Bool.and_eq_true] at ho
    obtain ⟨⟨h1, h2⟩, h3⟩ := ho
    split at h1
    · rename_i e hf
      split at h1
      · rename_i g hg
        simp only [beq_iff_eq] at h1
        subst h1
        obtain ⟨v, g1, g2⟩ := iaddrV_sound ht hf rfl hg (opOk_rep hr h2) (opOk_rep hr h3) (by simpa only [vI] using he) hc
        exact ⟨v, val_ok g1, g2⟩
      · cases h1
    · cases h1
  · rename_i x i t o j
    simp only [Bool.and_eq_true] at ho
    obtain ⟨⟨h1, h2⟩, h3⟩ := ho
    split at h1
    · rename_i hf
      obtain ⟨d, hd, hdk⟩ := tf_und ht hf
      obtain rfl := dOk_str hdk
      have e1 := opOk_rep hr h2
      have e2 := opOk_rep hr h3
      simp only [vI, sidxV] at he
      split at he
      · rename_i s k n hs hn
        cases he
        rw [hs] at e1; rw [hn] at e2
        simp only [rep] at e1 e2
        obtain ⟨hc0, hc1⟩ := hc
        have hlt : n.toNat < s.length := by omega
        have hidx : (⟨s.toArray⟩ : ByteArray)[n.toNat]? = some (s.getD n.toNat 0) := by
          exact getElem?_mk s n.toNat hlt
        refine ⟨_, val_ok (v := .int .u8 (s.getD n.toNat 0).toNat) ?_, by simp [rep]⟩
        simp only [Instr.index, e2, asIntOf, e1.1, Sem.run_bind, Sem.run_pure, Result.andThen_ok, run_underlying hd, hc0, if_true, hidx]
      · cases he
    · cases h1
  · rename_i x lo hi t o l h
    simp only [Bool.and_eq_true] at ho
    obtain ⟨⟨⟨h1, h2⟩, h3⟩, h4⟩ := ho
    split at h1
    · rename_i hf
      obtain ⟨d, hd, hdk⟩ := tf_und ht hf
      obtain rfl := dOk_str hdk
      have e1 := opOk_rep hr h2
      simp only [vI, sslV] at he
      split at he
      · rename_i s hs
        rw [hs] at e1
        simp only [rep] at e1
        split at he
        · rename_i ll hh hl hhh
          cases he
          obtain ⟨c1, c2, c3⟩ := hc
          have k1 := optI_real hr h3 hl
          have k2 := optI_real hr h4 hhh
          refine ⟨_, val_ok (v := .string ⟨((s.take hh.toNat).drop ll.toNat).toArray⟩) ?_, ?_⟩
          · have hb := bounds_ok P w false s.length s.length (l.map a.eval) (h.map a.eval) ll hh
              k1 k2 c1 c2 c3 (Nat.le_refl _)
            simp only [Instr.sliceAt, Instr.slice, e1.1, Sem.run_bind, Sem.run_pure, Result.andThen_ok, run_underlying hd, Option.map_none, Option.isSome_none, Bool.false_eq_true, if_false, size_mk, hb, extract_mk]
          · simp only [rep]
            refine ⟨trivial, ?_⟩
            have := e1.2
            simp only [List.length_drop, List.length_take]
            omega
        · cases he
      · cases he
    · cases h1
  · rename_i sz x lo hi t o l h
    simp only [Bool.and_eq_true] at ho
    obtain ⟨⟨⟨h1, h2⟩, h3⟩, h4⟩ := ho
    split at h1
    · rename_i e hf
      split at h1
      · rename_i g hg
        simp only [beq_iff_eq] at h1
        subst h1
        obtain ⟨d, hd, hdk⟩ := tf_und ht hf
        obtain rfl := dOk_slice hdk
        obtain ⟨_, hsz⟩ := tf_load ht hg w
        have e1 := opOk_rep hr h2
        simp only [vI, lslV] at he
        split at he
        · rename_i sz' tag xs hs
          split at he
          · rename_i hss
            subst hss
            rw [hs] at e1
            simp only [rep] at e1
            obtain ⟨⟨ad, cap, hv, b1, b2, b3⟩, _⟩ := e1
            split at he
            · rename_i ll hh hl hhh
              cases he
              obtain ⟨c1, c2, c3⟩ := hc
              have k1 := optI_real hr h3 hl
              have k2 := optI_real hr h4 hhh
              have hb := bounds_ok P w true xs.length cap (l.map a.eval) (h.map a.eval) ll hh
                k1 k2 c1 c2 c3 b1
              refine ⟨_, val_ok (v := .slice (if cap = ll.toNat then ad else ad.map (·.add (ll.toNat * g.size))) (hh.toNat - ll.toNat) (cap - ll.toNat)) ?_, ?_⟩
              · simp only [Instr.sliceAt, Instr.slice, hv, Sem.run_bind, Sem.run_pure, Result.andThen_ok, run_underlying hd, Option.map_none, hb, hsz]
              · simp only [rep]
                have hlen : ((xs.take hh.toNat).drop ll.toNat).length = hh.toNat - ll.toNat := by simp; omega
                refine ⟨⟨_, _, by rw [hlen], by rw [hlen]; omega, ⟨by omega, by rw [hlen]; omega⟩, ?_⟩, (fun h => by cases h), (fun g h => by cases h)⟩
                rcases b3 with rfl | ⟨b, off, us, rfl, g1, g2⟩
                · left; simp
                · by_cases hcap : cap = ll.toNat
                  · left
                    apply List.eq_nil_of_length_eq_zero
                    rw [hlen]; omega
                  · right
                    rw [if_neg hcap]
                    refine ⟨b, off + ll.toNat * g.size, (us.take (hh.toNat * g.size)).drop (ll.toNat * g.size), by simp [add_mk], laid_drop _ (laid_take _ g1), repC_drop _ (repC_take _ g2)⟩
            · cases he
          · cases he
        · cases he
      · cases h1
    · cases h1
  · rename_i op wr x y op' ty o o' ty'
    simp only [Bool.and_eq_true, decide_eq_true_eq] at ho
    obtain ⟨⟨rfl, h1⟩, h2⟩ := ho
    obtain ⟨r, g1, g2⟩ := binV_sound P w ν (by simpa only [vI] using he) hc ty (opOk_rep hr h1) (opOk_rep hr h2) o o'
    exact ⟨r, val_ok g1, g2⟩
  · rename_i x op ty o
    simp only [Bool.and_eq_true, decide_eq_true_eq] at ho
    obtain ⟨rfl, h1⟩ := ho
    have e1 := opOk_rep hr h1
    simp only [vI] at he
    unfold notV at he
    split at he
    · rename_i b hb
      cases he
      rw [hb] at e1; simp only [rep] at e1
      exact ⟨_, val_ok (v := .bool (!b)) (by simp [Op.unary, e1]), by simp [rep]⟩
    · cases he
  · rename_i x op ty o
    simp only [Bool.and_eq_true, decide_eq_true_eq] at ho
    obtain ⟨rfl, h1⟩ := ho
    have e1 := opOk_rep hr h1
    simp only [vI] at he
    unfold negV at he
    split at he
    · rename_i k n hb
      cases he
      rw [hb] at e1; simp only [rep] at e1
      exact ⟨_, val_ok (v := .int k (k.wrap (0 - n))) (by simp [Op.unary, e1, Op.intArith]), by simp [rep]⟩
    · cases he
  · rename_i k x s d o
    simp only [Bool.and_eq_true] at ho
    obtain ⟨h1, h2⟩ := ho
    split at h1
    · rename_i k1 k2 hf1 hf2
      simp only [decide_eq_true_eq] at h1
      subst h1
      obtain ⟨d1, hd1, hdk1⟩ := tf_und ht hf1
      obtain rfl := dOk_int hdk1
      obtain ⟨d2, hd2, hdk2⟩ := tf_und ht hf2
      obtain rfl := dOk_int hdk2
      have e1 := opOk_rep hr h2
      simp only [vI] at he
      unfold convV at he
      split at he
      · rename_i k' n hb
        cases he
        rw [hb] at e1; simp only [rep] at e1
        exact ⟨_, val_ok (v := .int k (k.wrap n)) (by simp [convert, e1, run_underlying hd1, run_underlying hd2, Conv.intToInt]), by simp [rep]⟩
      · cases he
    · cases h1
  · rename_i i x o j
    simp only [Bool.and_eq_true, beq_iff_eq] at ho
    obtain ⟨rfl, h1⟩ := ho
    have e1 := opOk_rep hr h1
    simp only [vI] at he
    unfold extV at he
    split at he
    · rename_i vs hb
      simp only [Option.map_eq_some_iff] at he
      obtain ⟨q, hq, he⟩ := he
      cases he
      rw [hb] at e1; simp only [rep] at e1
      obtain ⟨us, hu, h2⟩ := e1
      obtain ⟨v, g1, g2⟩ := repT_get i h2 hq
      have g1' : us[i]? = some v := by simpa using g1
      exact ⟨v, val_ok (by simp [Instr.extract, hu, g1']), g2⟩
    · cases he
  · rename_i x o t
    simp only [Bool.and_eq_true] at ho
    obtain ⟨h1, h2⟩ := ho
    have e1 := opOk_rep hr h2
    simp only [vI] at he
    unfold lenV at he
    split at he
    · rename_i sz tag xs hb
      cases he
      rw [hb] at e1; simp only [rep] at e1
      obtain ⟨⟨ad, cap, hv, _⟩, _⟩ := e1
      refine ⟨.int .i64 xs.length, ?_, by simp [rep]⟩
      split at h1
      · rename_i hf
        obtain ⟨d, hd, hdk⟩ := tf_und ht hf
        obtain rfl := dOk_slice hdk
        simp [execOp, resolve, invoke, builtin, Builtin.len_, run_underlying hd, hv, goInt]
      · cases h1
    · rename_i sz k n hb
      cases he
      rw [hb] at e1; simp only [rep] at e1
      obtain ⟨⟨ad, cap, hv⟩, _⟩ := e1
      refine ⟨.int .i64 n, ?_, by simp [rep]⟩
      split at h1
      · rename_i hf
        obtain ⟨d, hd, hdk⟩ := tf_und ht hf
        obtain rfl := dOk_slice hdk
        simp [execOp, resolve, invoke, builtin, Builtin.len_, run_underlying hd, hv, goInt]
      · cases h1
    · cases he
  · rename_i x o t
    simp only [Bool.and_eq_true] at ho
    obtain ⟨h1, h2⟩ := ho
    have e1 := opOk_rep hr h2
    simp only [vI] at he
    unfold slenV at he
    split at he
    · rename_i s hb
      cases he
      rw [hb] at e1; simp only [rep] at e1
      refine ⟨.int .i64 s.length, ?_, by simp [rep]⟩
      split at h1
      · rename_i hf
        obtain ⟨d, hd, hdk⟩ := tf_und ht hf
        obtain rfl := dOk_str hdk
        simp [execOp, resolve, invoke, builtin, Builtin.len_, run_underlying hd, e1.1, goInt, size_mk]
      · cases h1
    · cases he
  · rename_i zero parts t ps
    split at ho
    · rename_i fs z hf
      simp only [Bool.and_eq_true] at ho
      obtain ⟨⟨h1, h2⟩, h3⟩ := ho
      have hz := zeroIs_eq h1
      obtain ⟨i, d, z', e1, e2, e3, e4, e5, e6, e7, e8⟩ := (tyIs ht hf).ex
      obtain ⟨gs, rfl, hgs⟩ := dOk_struct e5
      simp only at hz e7 e8
      subst hz
      have hall : (gs.toList.all fun f => (tf tys f.type).isSome) = true := by
        rw [← hgs] at h2
        simpa [List.all_map, Function.comp_def] using h2
      obtain ⟨places, p1, p2⟩ := places_ok ht gs.toList hall
      rw [hgs] at p2
      cases z' <;> simp only [zOk] at e7
      case agg us =>
        simp only [vI] at he
        cases hb : buildV st.t zero parts with
        | none => simp [hb] at he
        | some x =>
          obtain ⟨c', cs'⟩ := x
          simp only [hb, Option.map_some] at he
          cases he
          obtain ⟨us', g1, g2⟩ := run_fill hr p2 parts ps.toList zero us c cs' h3 (zOkL_rep w ν _ _ e7) hb hc
          refine ⟨.agg us', val_ok (run_build w t _ us' ?_), by simp only [rep]; exact ⟨us', rfl, g2⟩⟩
          simp only [Program.built, e1, e2, e6, p1, Value.cells]
          simpa using g1
      all_goals cases e7
    · cases ho
  · rename_i x o
    have e1 := opOk_rep hr ho
    simp only [vI] at he
    unfold nckV at he
    split at he
    · rename_i k off hb
      cases he
      rw [hb] at e1
      have e2 := e1
      simp only [rep] at e1
      obtain ⟨b, _, hv⟩ := e1
      exact ⟨a.eval o, by simp [execOp, hv], e2⟩
    · rename_i q hb
      cases he
      rw [hb] at e1
      have e2 := e1
      simp only [rep] at e1
      obtain ⟨b, off, u, hv, _⟩ := e1
      exact ⟨a.eval o, by simp [execOp, hv], e2⟩
    · rename_i f cs hb
      cases he
      rw [hb] at e1
      have e2 := e1
      simp only [rep] at e1
      obtain ⟨us, hv, _⟩ := e1
      exact ⟨a.eval o, by simp [execOp, hv], e2⟩
    · cases he
  · rename_i x y o o' t t'
    simp only [Bool.and_eq_true] at ho
    have e1 := opOk_rep hr ho.1
    have e2 := opOk_rep hr ho.2
    simp only [vI] at he
    unfold minV at he
    split at he
    · rename_i k m k' n hm hn
      split at he
      · rename_i hk
        subst hk
        cases he
        rw [hm] at e1; rw [hn] at e2
        simp only [rep] at e1 e2
        exact ⟨.int k (if n < m then n else m), by simp [execOp, resolve, invoke, builtin, Builtin.min_, Builtin.min2, e1, e2], by simp [rep]⟩
      · cases he
    · cases he
  · rename_i n xs m os
    simp only [Bool.and_eq_true, beq_iff_eq] at ho
    obtain ⟨rfl, ho⟩ := ho
    simp only [vI] at he; cases he
    have hargs := repT_args hr ho
    refine ⟨.func (.func n) #[] (os.map a.eval), by simp [execOp, Instr.makeFunc], ?_⟩
    simp only [rep]
    exact ⟨os.map a.eval, rfl, by simpa using hargs⟩
  · rename_i ks zero ok x k t o o' ok'
    simp only [Bool.and_eq_true, beq_iff_eq] at ho
    obtain ⟨⟨⟨rfl, h1⟩, h2⟩, h3⟩ := ho
    have e1 := opOk_rep hr h2
    have e2 := opOk_rep hr h3
    split at h1
    · rename_i sz by' kt et z hf
      simp only [Bool.and_eq_true] at h1
      obtain ⟨hkt, het⟩ := h1
      split at het
      · rename_i fe hfe
        have hz := zeroEq_eq het
        obtain ⟨dd, hu, hdk⟩ := tf_und ht hf
        have hdd : dd = .map kt et := by
          cases dd <;> simp [dOk] at hdk
          obtain ⟨rfl, rfl⟩ := hdk; rfl
        subst hdd
        obtain ⟨zv, z1, z2, _⟩ := tf_zero ht hfe w
        rw [← hz] at z2
        have zr := (zOk_rep w ν z2).1
        have hkd : ∃ dk, P.underlying kt = some dk ∧ ((ks = false ∧ ∃ k, dk = .int k) ∨ (ks = true ∧ dk = .string)) := by
          unfold keyTy at hkt
          split at hkt
          · rename_i f' hf'
            obtain ⟨dk, hu', hd'⟩ := tf_und ht hf'
            obtain rfl := dOk_int hd'
            exact ⟨_, hu', .inl ⟨by simpa using hkt, _, rfl⟩⟩
          · rename_i f' hf'
            obtain ⟨dk, hu', hd'⟩ := tf_und ht hf'
            obtain rfl := dOk_str hd'
            exact ⟨_, hu', .inr ⟨hkt, rfl⟩⟩
          · cases hkt
        obtain ⟨dk, hukt, hcase⟩ := hkd
        simp only [vI] at he
        unfold mgetV at he
        split at he
        · rename_i key hx
          rw [hx] at e1
          simp only [rep] at e1
          obtain ⟨bl, b1, b2⟩ := e1
          split at he
          · rename_i clock borns kvs hlk
            obtain ⟨bl', us, el, g1, g2, g3, g4, g5⟩ := hr.good.box key _ hlk
            rw [b1] at g1; cases g1
            simp only [objFrom] at g4
            simp only [repB] at g5
            have hget : (getObj bl).run P w = .ok (.map (ents borns us.toList).toArray clock) w := run_getObj' g4
            have hck := run_checkKey (P := P) (w := w) hukt (by rcases hcase with ⟨_, h⟩ | ⟨_, h⟩; exact .inl h; exact .inr h) ((ents borns us.toList).toArray.isEmpty) (a.eval o')
            split at he
            · rename_i v hm
              cases he
              obtain ⟨j, u, f1, f2⟩ := mfind_sound hcase e2 borns kvs us.toList 0 _ g5.1 g5.2.len hm
              refine ⟨if ok then .tuple #[u, .bool true] else u, ?_, ?_⟩
              · simp only [execOp]
                refine val_ok ?_
                simp only [Instr.lookup, Sem.run_bind, run_underlying hu, Result.andThen_ok, b2, hget, Sem.run_pure, hck, Instr.findKey, run_underlying hukt, f1]
              · cases ok
                · simpa using f2
                · simp only [if_true, rep]
                  exact ⟨_, rfl, by simp only [repT]; exact ⟨_, _, rfl, f2, _, _, rfl, by simp [rep], rfl⟩⟩
            · rename_i hm
              cases he
              have f1 := mfind_sound hcase e2 borns kvs us.toList 0 _ g5.1 g5.2.len hm
              simp only at f1
              refine ⟨if ok then .tuple #[zv, .bool false] else zv, ?_, ?_⟩
              · simp only [execOp]
                refine val_ok ?_
                simp only [Instr.lookup, Sem.run_bind, run_underlying hu, Result.andThen_ok, b2, hget, Sem.run_pure, hck, Instr.findKey, run_underlying hukt, f1, z1]
              · cases ok
                · simpa using zr
                · simp only [if_true, rep]
                  exact ⟨_, rfl, by simp only [repT]; exact ⟨_, _, rfl, zr, _, _, rfl, by simp [rep], rfl⟩⟩
            · cases he
          · cases he
        · cases he
      · cases het
    · cases h1
  · rename_i x o
    have e1 := opOk_rep hr ho
    simp only [vI] at he
    unfold mentV at he
    split at he
    · rename_i ik hx
      rw [hx] at e1
      simp only [rep] at e1
      obtain ⟨bl, b1, b2⟩ := e1
      split at he
      · rename_i since seen last mk hlk
        obtain ⟨bl', us, el, g1, g2, g3, g4, g5⟩ := hr.good.box ik _ hlk
        rw [b1] at g1; cases g1
        simp only [objFrom] at g4
        simp only [repB, repT, rep] at g5
        obtain ⟨u, us', hus, ⟨mb, m1, rfl⟩, rfl⟩ := g5
        rw [hus] at g4
        simp only at g4
        split at he
        · rename_i clock borns kvs hlm
          obtain ⟨bl2, us2, el2, k1, k2, k3, k4, k5⟩ := hr.good.box mk _ hlm
          rw [m1] at k1; cases k1
          simp only [objFrom] at k4
          simp only [repB] at k5
          split at he
          · rename_i n hn
            simp only [Option.map_eq_some_iff] at he
            obtain ⟨q, hq, he⟩ := he
            cases he
            obtain ⟨e, f1, f2⟩ := mat_sound borns kvs us2.toList p k5.1 hq
            refine ⟨.tuple #[e.key, e.val], ?_, f2⟩
            simp only [execOp]
            refine val_ok ?_
            have hget1 : (getObj bl).run P w = .ok (.mapIter (some mb) since seen.toArray last) w := run_getObj' g4
            have hget2 : (getObj mb).run P w = .ok (.map (ents borns us2.toList).toArray clock) w := run_getObj' k4
            have hback : seen.toArray.back? = some n := by simpa using hn
            have hcl : (clock != last) = false := by simp [hc]
            have hfind : (ents borns us2.toList).toArray.find? (·.born == n) = some e := by simpa using f1
            simp only [Instr.entry, b2, Sem.run_bind, hget1, Result.andThen_ok, hback, hget2, hcl, Bool.false_eq_true, if_false, hfind, Sem.run_pure]
          · cases he
        · cases he
      · cases he
    · cases he
  · rename_i x o t
    simp only [Bool.and_eq_true] at ho
    obtain ⟨h1, h2⟩ := ho
    have e1 := opOk_rep hr h2
    simp only [vI] at he
    unfold mlenV at he
    split at he
    · rename_i key hb
      rw [hb] at e1; simp only [rep] at e1
      obtain ⟨bl, b1, b2⟩ := e1
      split at he
      · rename_i clock borns kvs hlk
        cases he
        obtain ⟨bl', us, el, g1, g2, g3, g4, g5⟩ := hr.good.box key _ hlk
        rw [b1] at g1; cases g1
        simp only [objFrom] at g4
        simp only [repB] at g5
        have hget : (getObj bl).run P w = .ok (.map (ents borns us.toList).toArray clock) w := run_getObj' g4
        have hlen : (ents borns us.toList).length = borns.length := ents_length g5.2.len (repT_len' g5.1)
        refine ⟨.int .i64 borns.length, ?_, by simp [rep]⟩
        split at h1
        · rename_i hf
          obtain ⟨d, hd, hdk⟩ := tf_und ht hf
          obtain ⟨kt, et, rfl⟩ : ∃ kt et, d = .map kt et := by cases d <;> simp [dOk] at hdk; exact ⟨_, _, rfl⟩
          simp [execOp, resolve, invoke, builtin, Builtin.len_, run_underlying hd, b2, goInt, hget, hlen]
        · cases h1
      · cases he
    · cases he
  · rename_i neg x y op t o o' ty'
    simp only [Bool.and_eq_true, decide_eq_true_eq] at ho
    obtain ⟨⟨⟨rfl, h0⟩, h1⟩, h2⟩ := ho
    have e1 := opOk_rep hr h1
    have e2 := opOk_rep hr h2
    simp only [vI] at he
    unfold beqV at he
    split at he
    · rename_i a' b' ha hb
      cases he
      rw [ha] at e1; rw [hb] at e2
      simp only [rep] at e1 e2
      split at h0
      · rename_i hf
        obtain ⟨d, hd, hdk⟩ := tf_und ht hf
        obtain rfl : d = .bool := by cases d <;> simp [dOk] at hdk; rfl
        refine ⟨.bool (if neg then a' != b' else a' == b'), val_ok ?_, by simp [rep]⟩
        cases neg <;> simp [e1, e2, eqGuard, binOp, equal_bool hd, bne]
      · cases h0
    · cases he
  · rename_i x y o o' t t'
    simp only [Bool.and_eq_true] at ho
    have e1 := opOk_rep hr ho.1
    have e2 := opOk_rep hr ho.2
    simp only [vI] at he
    unfold maxV at he
    split at he
    · rename_i k m k' n hm hn
      split at he
      · rename_i hk
        subst hk
        cases he
        rw [hm] at e1; rw [hn] at e2
        simp only [rep] at e1 e2
        exact ⟨.int k (if m < n then n else m), by simp [execOp, resolve, invoke, builtin, Builtin.max_, Builtin.max2, e1, e2], by simp [rep]⟩
      · cases he
    · cases he
  · rename_i t x t' o
    simp only [Bool.and_eq_true, beq_iff_eq] at ho
    obtain ⟨⟨rfl, h1⟩, h2⟩ := ho
    have e1 := opOk_rep hr h2
    simp only [vI] at he; cases he
    split at h1
    · rename_i hf
      obtain ⟨d, hd, hdk⟩ := tf_und ht hf
      obtain rfl := dOk_slice hdk
      refine ⟨.iface t (a.eval o), val_ok (by simp [Instr.makeInterface, run_underlying hd]), ?_⟩
      simp only [rep]
      exact ⟨_, rfl, e1⟩
    · cases h1
  · cases ho

end Go.Pv
