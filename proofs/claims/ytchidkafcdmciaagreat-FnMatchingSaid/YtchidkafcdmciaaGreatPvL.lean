/- Soundness of the straight-line instructions. -/
import Derived.Test.YtchidkafcdmciaaGreatPvK
set_option linter.all false
namespace Go.Pv
open Go Go.RowKit

theorem wp_value {P : Program} {o : Oper} {a : Act} {w w' : World} {v : Value} {K : Act → World → Prop} {Q : Exit → Act → World → Prop} (h : (execOp a.eval o).run P w = .ok (.value v) w') (hk : K (a.put o.dst v) w') : o.wp P a w K Q := by
  unfold Oper.wp; rw [h]; exact hk
theorem wp_skip' {P : Program} {o : Oper} {a : Act} {w w' : World} {K : Act → World → Prop} {Q : Exit → Act → World → Prop} (h : (execOp a.eval o).run P w = .ok .skip w') (hk : K (a.put o.dst undef) w') : o.wp P a w K Q := by
  unfold Oper.wp; rw [h]; exact hk

theorem val_ok_w {P : Program} {w w' : World} {x : Sem Value} {v : Value} (h : x.run P w = .ok v w') : (do pure (Next.value (← x)) : Sem Next).run P w = .ok (.value v) w' := by
  simp [h]
theorem allSz_len {sz : Nat} : ∀ {ps : List PV}, allSz sz ps → ∀ p ∈ ps, solid p = true ∧ (cells p).length = sz
  | [], _, p, hp => by simp at hp
  | q :: ps, h, p, hp => by
    rcases List.mem_cons.1 hp with rfl | hp
    · exact h.1
    · exact allSz_len h.2 p hp

theorem run_buildSlice {P : Program} {tys : List (Nat × TF)} (ht : tysOk P tys = true) {C : Ctx} {st : St} {a : Act} {w : World} {ν : Env} (hr : Rel C st a w ν) {t el : Nat} {f g : TF} (hf : tf tys t = some f) (hk : f.kind = .slice el) (hg : tf tys el = some g)
    {xs : List Opd} {os : List (Nat × Operand)} (hok : opsOk 0 xs os = true) (hsz : allSz g.size (xs.map (evalO st.t))) (hlen : xs.length * g.size ≤ 16777216) :
    ∃ us : Array Value, (Instr.buildSlice t xs.length (os.map fun (x : Nat × Operand) => (x.1, a.eval x.2)).toArray).run P w = .ok (.slice (some ⟨w.heap.size, 0, none⟩) xs.length xs.length) (w.alloc (.cells us el)) ∧
      repC w ν g.size (xs.map (evalO st.t)) us.toList ∧ us.size = xs.length * g.size := by
  obtain ⟨d, hd, hdk⟩ := tf_und ht hf
  rw [hk] at hdk
  obtain rfl := dOk_slice hdk
  obtain ⟨_, hs⟩ := tf_load ht hg w
  obtain ⟨z, hz1, hz2, hz3⟩ := tf_zero ht hg w
  have hn : ¬ xs.length * g.size > 2 ^ 24 := by omega
  let init : Array Value := if xs.length * g.size = 0 then (Array.range (xs.length * g.size)).map ((#[] : Array Value)[· % (#[] : Array Value).size]!) else (Array.range (xs.length * g.size)).map (z.cells[· % z.cells.size]!)
  have hinit : init.size = xs.length * g.size := by
    simp only [init]; split <;> simp
  obtain ⟨us', g1, g2, g3⟩ := run_fillS (a := a) hr xs 0 os [] init [] hok hsz (by simp) (by simp [repC]) rfl (by rw [hinit]; simp)
  refine ⟨us', ?_, by simpa using g2, by rw [g3, hinit]⟩
  simp only [init] at g1
  by_cases h0 : xs.length * g.size = 0
  · rw [if_pos h0] at g1
    rw [h0] at g1
    have h00 : ¬ (0 : Nat) > 2 ^ 24 := by decide
    simp only [Instr.buildSlice, Sem.run_bind, run_underlying hd, Result.andThen_ok, hs, if_false, Sem.run_pure, h0, if_true, h00, g1, newRow, run_newObj]
    rfl
  · rw [if_neg h0] at g1
    simp only [Instr.buildSlice, Sem.run_bind, run_underlying hd, Result.andThen_ok, hs, hn, if_false, Sem.run_pure, h0, hz1, g1, newRow, run_newObj]
    rfl

theorem keyEq_same {w : World} {ν : Env} {ks : Bool} {d : TypeDesc} (hd : (ks = false ∧ ∃ k, d = .int k) ∨ (ks = true ∧ d = .string)) {k k' : PV} {kv u : Value} (hk : rep w ν k kv) (h1 : rep w ν k' u) {bb : Bool} (hb : keyEq ks k k' = some bb) :
    Instr.sameNow d kv u = some bb ∧ (bb = true → u = kv ∧ Instr.sameBits 10000 u kv = true) := by
  unfold keyEq at hb
  split at hb
  · split at hb
    · rename_i hcond
      obtain ⟨rfl, rfl⟩ := hcond
      simp only [rep] at hk h1
      subst hk; subst h1
      rcases hd with ⟨_, kk, rfl⟩ | ⟨e, _⟩
      · refine ⟨by simpa [Instr.sameNow] using hb, fun e => ?_⟩
        subst e
        simp only [Option.some.injEq, beq_iff_eq] at hb
        subst hb
        exact ⟨rfl, by simp [Instr.sameBits]⟩
      · cases e
    · cases hb
  · split at hb
    · rename_i a b hcond
      subst hcond
      simp only [rep] at hk h1
      obtain ⟨rfl, _⟩ := hk
      obtain ⟨rfl, _⟩ := h1
      rcases hd with ⟨e, _⟩ | ⟨_, rfl⟩
      · cases e
      · refine ⟨?_, fun e => ?_⟩
        · simp only [Instr.sameNow]
          rw [← hb]
          congr 1
          rw [Bool.eq_iff_iff, MapKept.bytes_beq]
          simp
        · subst e
          simp only [Option.some.injEq, beq_iff_eq] at hb
          subst hb
          exact ⟨rfl, by simp only [Instr.sameBits]; exact (MapKept.bytes_beq _ _).2 rfl⟩
    · cases hb
  · cases hb

/-- Setting a key. -/
theorem mset_sound {w : World} {ν : Env} {ks : Bool} {d : TypeDesc} (hd : (ks = false ∧ ∃ k, d = .int k) ∨ (ks = true ∧ d = .string)) {k v : PV} {kv vv : Value} (hk : rep w ν k kv) (hv : rep w ν v vv) :
    ∀ (borns : List Nat) (kvs : List PV) (us : List Value) (i : Nat) (r : Option (List PV)), repT w ν kvs us → kvs.length = 2 * borns.length → mset ks k v kvs = some r →
    match r with
    | none => Instr.findNow d kv (ents borns us) i = some none
    | some kvs' => ∃ j u us' e, Instr.findNow d kv (ents borns us) i = some (some (i + j, u)) ∧ repT w ν kvs' us' ∧ kvs'.length = kvs.length ∧ (ents borns us)[j]? = some e ∧ e.key = kv ∧ Instr.sameBits 10000 e.key kv = true ∧ ents borns us' = (ents borns us).modify j (fun e => { e with key := kv, val := vv })
  | [], [], us, i, r, h, _, hm => by
    simp only [mset] at hm; cases hm
    simp only [repT] at h; subst h
    simp [ents, Instr.findNow]
  | [], _ :: _, _, _, _, _, hl, _ => by simp at hl
  | b :: bs, [], _, _, _, _, hl, _ => by simp at hl
  | b :: bs, [_], _, _, _, _, hl, _ => by simp at hl; omega
  | b :: bs, k' :: v' :: kvs, us, i, r, h, hl, hm => by
    simp only [repT] at h
    obtain ⟨u1, us1, rfl, h1, u2, us2, rfl, h2, h3⟩ := h
    simp only [mset] at hm
    simp only [ents, Instr.findNow]
    cases hq : keyEq ks k k' with
    | none => simp [hq] at hm
    | some bb =>
      obtain ⟨s1, s2⟩ := keyEq_same hd hk h1 hq
      rw [s1]
      simp only [hq] at hm
      cases bb with
      | true =>
        simp only [Option.some.injEq] at hm
        subst hm
        obtain ⟨rfl, s3⟩ := s2 rfl
        refine ⟨0, u2, u1 :: vv :: us2, ⟨u1, u2, b⟩, rfl, ?_, by simp, by simp, rfl, s3, by simp [ents]⟩
        simp only [repT]
        exact ⟨_, _, rfl, hk, _, _, rfl, hv, h3⟩
      | false =>
        simp only at hm ⊢
        have ih := fun r' hr' => mset_sound hd hk hv bs kvs us2 (i + 1) r' h3 (by simp at hl; omega) hr'
        split at hm
        · rename_i r' hr'
          cases hm
          obtain ⟨j, u, us', e, g1, g2, g3, g4, g5, g6, g7⟩ := ih _ hr'
          refine ⟨j + 1, u, u1 :: u2 :: us', e, by rw [g1, show i + 1 + j = i + (j + 1) from by omega], ?_, by simp [g3], by simpa using g4, g5, g6, by simp [ents, g7]⟩
          simp only [repT]
          exact ⟨_, _, rfl, h1, _, _, rfl, h2, g2⟩
        · rename_i hr'
          cases hm
          exact ih _ hr'
        · cases hm

theorem ents_append : ∀ (borns : List Nat) (us : List Value) (b : Nat) (k v : Value), us.length = 2 * borns.length → ents (borns ++ [b]) (us ++ [k, v]) = ents borns us ++ [⟨k, v, b⟩]
  | [], us, b, k, v, h => by
    have : us = [] := List.eq_nil_of_length_eq_zero (by simpa using h)
    subst this; simp [ents]
  | b' :: bs, [], b, k, v, h => by simp at h
  | b' :: bs, [_], b, k, v, h => by simp at h; omega
  | b' :: bs, k' :: v' :: us, b, k, v, h => by
    simp only [List.cons_append, ents, ents_append bs us b k v (by simp at h; omega)]

theorem repT_append' {w : World} {ν : Env} : ∀ {ps qs : List PV} {vs us : List Value}, repT w ν ps vs → repT w ν qs us → repT w ν (ps ++ qs) (vs ++ us)
  | [], qs, vs, us, h, h' => by simp only [repT] at h; subst h; simpa using h'
  | p :: ps, qs, vs, us, h, h' => by
    simp only [repT] at h
    obtain ⟨u, us', rfl, h1, h2⟩ := h
    simp only [List.cons_append, repT]
    exact ⟨u, _, rfl, h1, repT_append' h2 h'⟩
theorem repT_len {w : World} {ν : Env} : ∀ {ps : List PV} {vs : List Value}, repT w ν ps vs → vs.length = ps.length
  | [], vs, h => by simp only [repT] at h; subst h; rfl
  | p :: ps, vs, h => by
    simp only [repT] at h
    obtain ⟨u, us', rfl, _, h2⟩ := h
    simp [repT_len h2]

theorem run_setObj' {P : Program} {w : World} {r : Nat} {o o' : Obj} (hb : w.heap[r]? = some o) (hn : ∀ c e f, o ≠ .cells c e f := by simp) : (setObj r o').run P w = .ok () { w with heap := w.heap.setIfInBounds r o' } := by
  simp only [setObj, Sem.run, hb]

/-- Whether an instruction makes something new. -/
def Ins.makes (st : St) : Ins → Bool
  | .box _ _ _ | .alloc _ _ _ | .bsl _ _ _ _ | .bslm _ _ _ _ _ | .mkmap _ _ | .range _ _ _ => true
  | .appm _ _ _ _ x _ => match evalO st.t x with
    | .slice _ .nil _ => true
    | _ => false
  | .app _ _ _ x _ => match evalO st.t x with
    | .slice _ .nil _ => true
    | _ => false
  | _ => false

theorem Rel.forgetRow {C : Ctx} {st : St} {a : Act} {w : World} {ν : Env} (hr : Rel C st a w ν) {k : Key} {ow : Own} (hk : look k st.e = some ow) : Rel C { st with e := upd k ⟨ow.n, ow.el, ow.sz, none⟩ st.e } a w ν := by
  have hlk : ∀ g, (look g (upd k ⟨ow.n, ow.el, ow.sz, none⟩ st.e)).isSome → (look g st.e).isSome := fun g hg => by
    rw [look_upd] at hg; split at hg
    · rename_i e; subst e; simp [hk]
    · exact hg
  refine ⟨⟨hr.good.alt, hr.good.box, hr.good.inj, fun g o hg => ?_, fun g g' n n' v v' bl a1 a2 => hr.good.oinj g g' n n' v v' bl (hlk g a1) (hlk g' a2), fun g j n v bl a1 => hr.good.obx g j n v bl (hlk g a1), hr.good.one⟩, hr.fr, hr.defers, hr.size, hr.slot, hr.new⟩
  simp only at hg
  rw [look_upd] at hg
  split at hg
  · rename_i e; subst e
    cases hg
    obtain ⟨v, us, q1, q2, q3, _⟩ := hr.good.own k ow hk
    exact ⟨v, us, q1, q2, q3, fun xs hx => by cases hx⟩
  · exact hr.good.own g o hg

theorem ownsRow_mono {w : World} {g0 el sz n : Nat} {v : Value} {us : List Value} (h : w.ownsRow g0 el sz v n us) : w.ownsRow 0 el sz v n us := by
  refine ⟨h.1, ?_⟩
  rcases h.2 with e1 | ⟨bb, cap, cur, f1, f2, f3⟩
  · exact .inl e1
  · exact .inr ⟨bb, cap, cur, f1, Nat.zero_le _, f3⟩

theorem owns_some {w : World} {base el sz n : Nat} {v : Value} {us : List Value} (h : w.ownsRow base el sz v n us) (hn : 0 < n) : ∃ b cap, v = .slice (some ⟨b, 0, none⟩) n cap := by
  rcases h.2 with ⟨e1, e2⟩ | ⟨bb, cap, cur, f1, _⟩
  · omega
  · exact ⟨_, _, f1⟩
theorem repC_set {w : World} {ν : Env} {sz : Nat} : ∀ {xs : List PV} {us : List Value} {i : Nat} {q q' : PV} {u' : Value}, repC w ν sz xs us → xs[i]? = some q → rep w ν q' u' → u'.cells.size = sz → (∀ c ∈ u'.cells.toList, c.oneCell' = true) → repC w ν sz (xs.set i q') (us.take (i * sz) ++ u'.cells.toList ++ us.drop (i * sz + sz))
  | [], _, _, _, _, _, _, hq, _, _, _ => by simp at hq
  | x :: xs, us, 0, q, q', u', h, hq, hr, hs, ho => by
    simp only [repC] at h
    obtain ⟨u, us', rfl, ⟨h1, h2, h3⟩, h5⟩ := h
    have hl : u.cells.toList.length = sz := by simpa using h2
    simp only [List.set_cons_zero, repC]
    refine ⟨u', us', ?_, ⟨hr, hs, ho⟩, h5⟩
    simp [← hl]
  | x :: xs, us, i + 1, q, q', u', h, hq, hr, hs, ho => by
    simp only [repC] at h
    obtain ⟨u, us', rfl, ⟨h1, h2, h3⟩, h5⟩ := h
    have hl : u.cells.toList.length = sz := by simpa using h2
    have ih := repC_set h5 (by simpa using hq) hr hs ho
    simp only [List.set_cons_succ, repC]
    refine ⟨u, _, ?_, ⟨h1, h2, h3⟩, ih⟩
    have e : (i + 1) * sz + sz = u.cells.toList.length + (i * sz + sz) := by rw [hl, Nat.succ_mul]; omega
    rw [take_app _ _ _ _ hl, e, ← List.drop_drop]
    simp
theorem rowPut_rep {w : World} {ν : Env} {q : PV} {v : Value} (hq : rep w ν q v) (hs : solid q = true) {cs : List PV} {us : List Value} (hc : repL w ν cs us) {f : Nat} (hf : f + us.length ≤ v.cells.size) (hne : us ≠ []) :
    ∃ v', rep w ν (rowPut q f cs) v' ∧ v'.cells.toList = v.cells.toList.take f ++ us ++ v.cells.toList.drop (f + us.length) ∧ v'.cells.size = v.cells.size ∧ ∀ c ∈ v'.cells.toList, c.oneCell' = true := by
  have hlen := repL_length hc
  have hall := rep_cells hq hs
  by_cases ha : ∃ ds, q = .agg ds
  · obtain ⟨ds, rfl⟩ := ha
    simp only [rep] at hq
    obtain ⟨vs, rfl, hvs⟩ := hq
    simp only [Value.cells] at hf ⊢
    have hnew : repL w ν (splice ds f cs) (vs.toList.take f ++ us ++ vs.toList.drop (f + us.length)) := by
      unfold splice; rw [hlen]
      exact repL_append (repL_append (repL_take f hvs) hc) (repL_drop _ hvs)
    refine ⟨.agg (vs.toList.take f ++ us ++ vs.toList.drop (f + us.length)).toArray, by simp only [rowPut, rep]; exact ⟨_, rfl, by simpa using hnew⟩, by simp [Value.cells], ?_, fun c hc' => ?_⟩
    · simp [Value.cells]; omega
    · exact repL_one hnew c (by simpa [Value.cells] using hc')
  · have ha' : ∀ cs, q ≠ .agg cs := fun cs e => ha ⟨cs, e⟩
    obtain ⟨h1, h2⟩ := rep_one hq hs ha'
    rw [h2] at hf ⊢
    match us, hne, hc with
    | u :: us', _, hc =>
      simp at hf
      obtain ⟨rfl, rfl⟩ : f = 0 ∧ us' = [] := ⟨by omega, List.length_eq_zero_iff.1 (by omega)⟩
      match cs, hc, hlen with
      | [c], hc, _ =>
        simp only [repL] at hc
        obtain ⟨u0, us0, e1, ⟨hcu, hco⟩, _⟩ := hc
        cases e1
        have hu : u.cells = #[u] := by cases u <;> first | rfl | cases hco
        have hrp : rowPut q 0 [c] = c := by cases q <;> first | rfl | exact absurd rfl (ha' _)
        rw [hrp]
        refine ⟨u, hcu, by simp [hu], by simp [hu], fun c hc' => ?_⟩
        rw [hu] at hc'; simp at hc'; subst hc'; exact hco
theorem splice_take {α : Type} (A us : List α) (a f sz N : Nat) (h1 : f + us.length ≤ sz) (h2 : a + sz ≤ N) (h3 : N ≤ A.length) :
    ((A.take (a + f) ++ us ++ A.drop (a + f + us.length)).toArray.toList).take N = (A.take N).take a ++ ((((A.take N).drop a).take sz).take f ++ us ++ (((A.take N).drop a).take sz).drop (f + us.length)) ++ (A.take N).drop (a + sz) := by
  have e1 : (A.take N).take a ++ (((A.take N).drop a).take sz).take f = A.take (a + f) := by
    rw [List.take_take (i := f), Nat.min_eq_left (show f ≤ sz by omega), ← List.take_add, List.take_take, Nat.min_eq_left (by omega)]
  have e2 : (((A.take N).drop a).take sz).drop (f + us.length) ++ (A.take N).drop (a + sz) = (A.take N).drop (a + f + us.length) := by
    have hl : f + us.length ≤ (((A.take N).drop a).take sz).length := by simp; omega
    have e0 : (A.take N).drop (a + sz) = ((A.take N).drop a).drop sz := by rw [List.drop_drop]
    rw [e0, ← List.drop_append_of_le_length hl, List.take_append_drop, List.drop_drop]
    congr 1; omega
  have e3 : (A.take N).drop (a + f + us.length) = (A.drop (a + f + us.length)).take (N - (a + f + us.length)) := by rw [List.drop_take]
  have hl : (A.take (a + f) ++ us).length = a + f + us.length := by simp; omega
  simp only [List.append_assoc] at *
  rw [e2, e3, ← List.append_assoc (List.take a _), e1]
  have hN : N = (A.take (a + f) ++ us).length + (N - (a + f + us.length)) := by rw [hl]; omega
  rw [← List.append_assoc, ← List.append_assoc]
  conv => lhs; rw [hN, List.take_length_add_append]
theorem Rel.storeRow {P : Program} {C : Ctx} {st : St} {a : Act} {w : World} {ν : Env} (h : Rel C st a w ν) {k : Key} {n el sz : Nat} {xs : List PV} (hk : look k st.e = some ⟨n, el, sz, some xs⟩) {i f : Nat} {u : Value} (hx : rep w ν (.rptr sz k n i f) u) {q : PV} (hq : xs[i]? = some q) (hs : solid q = true)
    {cs : List PV} {us : List Value} (hc : repL w ν cs us) (hf : f + us.length ≤ (cells q).length) (hne : us ≠ []) :
    ∃ bl off cur', u = .pointer (some ⟨bl, off, none⟩) ∧ (storeCells ⟨bl, off, none⟩ us).run P w = .ok () (w.setRow bl cur') ∧ ∃ ν', Rel C { st with e := upd k ⟨n, el, sz, some (xs.set i (rowPut q f cs))⟩ st.e } a (w.setRow bl cur') ν' := by
  simp only [rep] at hx
  obtain ⟨_, hi, n', u', h1, h2, h3⟩ := hx
  obtain ⟨v, us0, q1, q2, q3, q4⟩ := h.good.own k _ hk
  rw [h1] at q1
  simp only [Option.some.injEq, Prod.mk.injEq] at q1
  obtain ⟨rfl, rfl⟩ := q1
  obtain ⟨bl, hb, rfl⟩ := h3 rfl
  obtain ⟨q5, q6, q7⟩ := q4 xs rfl
  simp only at q5 q6
  obtain ⟨v, r1, r2, r3⟩ := repC_get i q6 hq
  have hcl := repL_length (rep_cells r1 hs)
  have hqs : (cells q).length = sz := by rw [← hcl]; simpa using r2
  have hfs : f + us.length ≤ sz := by rw [← hqs]; exact hf
  have hmul : i * sz + sz ≤ n' * sz := by
    have := Nat.mul_le_mul_right sz (show i + 1 ≤ n' from hi)
    rwa [Nat.succ_mul] at this
  rcases q2.2 with ⟨e1, e2⟩ | ⟨g, cap, cur, rfl, hb0, hheap, hnc, hcm, hcs, htake⟩
  · rw [e1] at hb; simp [Value.ownBlock] at hb
  simp only [Value.ownBlock, Option.some.injEq] at hb
  subst hb
  simp only at htake hcs hnc hheap
  have hcap : n' * sz ≤ cur.size := by rw [hcs]; exact Nat.mul_le_mul_right sz hnc
  have hst := run_storeCells_at P g (i * sz + f) el us 0 cur w hheap (by omega) (repL_one hc)
  simp only [Nat.add_zero] at hst
  refine ⟨g, i * sz + f, _, rfl, hst, ?_⟩
  generalize hcur : (cur.toList.take (i * sz + f) ++ us ++ cur.toList.drop (i * sz + f + us.length)).toArray = cur'
  obtain ⟨v', p1, p2, p3, p4⟩ := rowPut_rep r1 hs hc (f := f) (by rw [r2]; exact hfs) hne
  have hrep := repC_set q6 hq p1 (by rw [p3, r2]) p4
  have hlen : us0.length = n' * sz := q2.1
  have hnewT : cur'.toList.take (n' * sz) = us0.take (i * sz) ++ v'.cells.toList ++ us0.drop (i * sz + sz) := by
    rw [← hcur, p2, r3, ← htake]
    exact splice_take cur.toList us (i * sz) f sz (n' * sz) hfs hmul (by simpa using hcap)
  have hcs' : cur'.size = cap * sz := by
    rw [← hcur, ← hcs]; simp; omega
  have hlen2 : (xs.set i (rowPut q f cs)).length = n' := by simp [q5]
  obtain ⟨p5, _, _⟩ := h.setRowM (w' := w.setRow g cur') hk rfl h1 (bl := g) rfl (v' := .slice (some ⟨g, 0, none⟩) n' cap) rfl (xs' := xs.set i (rowPut q f cs)) (us := us0.take (i * sz) ++ v'.cells.toList ++ us0.drop (i * sz + sz)) (.inl ⟨by simp [q5], rfl⟩) rfl rfl rfl (fun j hj => setRow_other w g j cur' hj) (setRow_size w g cur')
    ⟨by rw [repC_length hrep], .inr ⟨g, cap, cur', by simp [q5], Nat.zero_le _, setRow_heap w g cur cur' el _ hheap, by simpa [q5] using hnc, hcm, hcs', by simpa [q5] using hnewT⟩⟩ hrep
  exact ⟨_, by simpa [q5] using p5⟩


set_option maxHeartbeats 1000000 in
theorem sIk_sound {P : Program} {tys : List (Nat × TF)} (ht : tysOk P tys = true) {C : Ctx} {st st' : St} {a : Act} {w : World} {ν : Env} (hr : Rel C st a w ν) {i : Ins} {o : Oper} (ho : sOk C.N tys i o = true)
    {κ : Key} {n' : Nat} {o₁ : List Key} (hfresh : i.makes st = true → fresh st.n st.o κ) (hno : i.makes st = true → ∀ j, fresh n' o₁ j → fresh st.n st.o j ∧ j ≠ κ) {c : Prop} (he : sIk κ n' o₁ st i = some (c, st')) (hc : c) {K : Act → World → Prop} {Q : Exit → Act → World → Prop} (hK : ∀ a' w' ν', Rel C st' a' w' ν' → K a' w') : o.wp P a w K Q := by
  obtain ⟨dst, op, type, pos, after, guard⟩ := o
  unfold sOk at ho
  dsimp only at ho
  split at ho
  · rename_i d key t
    simp only [Bool.and_eq_true, beq_iff_eq, decide_eq_true_eq] at ho
    obtain ⟨rfl, h2⟩ := ho
    simp only [sIk] at he
    cases he
    obtain ⟨g1, g2⟩ := hr.newBox (hr.new _ (hfresh rfl)) (hno rfl) (cs := [.hdm 0 []]) (us := #[]) 0 (by simp only [repB]; exact ⟨by simp [repT], ⟨rfl, by simp, by simp⟩⟩)
    refine wp_value (v := .map (some w.heap.size)) (w' := w.alloc (.map #[] 0)) ?_ (hK _ _ _ (g1.put (d := some d) (by simpa [dstOk] using h2) (p := .gmap κ) ?_))
    · simp only [execOp, Instr.makeMap, Option.map_none, Sem.run_bind, run_newObj, Result.andThen_ok, Sem.run_pure]; rfl
    · simp [rep, Env.withBox]
  · rename_i ks x k v t o1 o2 o3
    simp only [Bool.and_eq_true, beq_iff_eq] at ho
    obtain ⟨⟨⟨⟨rfl, h1⟩, h2⟩, h3⟩, h4⟩ := ho
    have rx := opOk_rep hr h2
    have rk := opOk_rep hr h3
    have rv := opOk_rep hr h4
    split at h1
    · rename_i sz by' kt et z hf
      obtain ⟨dd, hu, hdk⟩ := tf_und ht hf
      have hdd : dd = .map kt et := by
        cases dd <;> simp [dOk] at hdk
        obtain ⟨rfl, rfl⟩ := hdk; rfl
      subst hdd
      have hkd : ∃ dk, P.underlying kt = some dk ∧ ((ks = false ∧ ∃ k, dk = .int k) ∨ (ks = true ∧ dk = .string)) := by
        unfold keyTy at h1
        split at h1
        · rename_i f' hf'
          obtain ⟨dk, hu', hd'⟩ := tf_und ht hf'
          obtain rfl := dOk_int hd'
          exact ⟨_, hu', .inl ⟨by simpa using h1, _, rfl⟩⟩
        · rename_i f' hf'
          obtain ⟨dk, hu', hd'⟩ := tf_und ht hf'
          obtain rfl := dOk_str hd'
          exact ⟨_, hu', .inr ⟨h1, rfl⟩⟩
        · cases h1
      obtain ⟨dk, hukt, hcase⟩ := hkd
      simp only [sIk] at he
      split at he
      · rename_i m hx
        rw [hx] at rx
        simp only [rep] at rx
        obtain ⟨bl, b1, b2⟩ := rx
        split at he
        · rename_i cs hcs
          split at he
          · rename_i cs' hm
            cases he
            obtain ⟨bl', us, el, q1, q2, q3, q4, q5⟩ := hr.good.box m cs hcs
            rw [b1] at q1; cases q1
            unfold mputV at hm
            split at hm
            · rename_i clock borns kvs
              simp only [objFrom] at q4
              simp only [repB] at q5
              have hget := run_getObj' (P := P) q4
              have hck := run_checkKey (P := P) (w := w) hukt (by rcases hcase with ⟨_, h⟩ | ⟨_, h⟩; exact .inl h; exact .inr h) false (a.eval o2)
              have hlt : bl < w.heap.size := (Array.getElem?_eq_some_iff.1 q4).1
              have hfin : ∀ (o' : Obj) (us' : Array Value) (ds : List PV), (Instr.mapUpdate t (a.eval o1) (a.eval o2) (a.eval o3)).run P w = .ok () { w with heap := w.heap.setIfInBounds bl o' } → objFrom ds us' el = o' → repB w ν ds us'.toList → some ds = some cs' →
                  (⟨none, .mapUpdate t o1 o2 o3, type, pos, after, guard⟩ : Oper).wp P a w K Q := by
                intro o' us' ds hrun hobj hrep hds
                cases hds
                refine wp_skip' (w' := { w with heap := w.heap.setIfInBounds bl o' }) ?_ (hK _ _ _ (hr.setBox (w' := { w with heap := w.heap.setIfInBounds bl o' }) hcs b1 (us := us') (el := el) rfl rfl rfl (fun j hj => ?_) (by simp) ?_ hrep).1)
                · simp only [execOp, hrun, Sem.run_bind, Result.andThen_ok, Sem.run_pure]
                · exact Array.getElem?_setIfInBounds_ne (Ne.symm hj)
                · rw [hobj]; simp [hlt]
              split at hm
              · rename_i kvs' hms
                obtain ⟨j, u, us', e, f1, f2, f3, f4, f5, f6, f7⟩ := mset_sound hcase rk rv borns kvs us.toList 0 _ q5.1 q5.2.len hms
                refine hfin (.map (ents borns us').toArray clock) us'.toArray (.hdm clock borns :: kvs') ?_ (by simp [objFrom]) (by simp only [repB]; exact ⟨by simpa using f2, ⟨by rw [f3]; exact q5.2.len, q5.2.inc, q5.2.lt⟩⟩) hm
                have hstay : (Instr.keyThatStays (((ents borns us.toList).toArray[j]?.map (·.key)).getD (a.eval o2)) (a.eval o2)).run P w = .ok (a.eval o2) w := by
                  have : ((ents borns us.toList).toArray[j]?.map (·.key)).getD (a.eval o2) = e.key := by simp [f4]
                  rw [this]
                  simp [Instr.keyThatStays, f6]
                simp only [Nat.zero_add] at f1
                simp only [Instr.mapUpdate, Sem.run_bind, run_underlying hu, Result.andThen_ok, b2, hget, hck, Instr.findKey, run_underlying hukt, f1, Sem.run_pure, hstay, run_setObj' q4]
                rw [f7]
                simp
              · rename_i hms
                have f1 := mset_sound hcase rk rv borns kvs us.toList 0 _ q5.1 q5.2.len hms
                simp only at f1
                have hul : us.toList.length = 2 * borns.length := by rw [repT_len q5.1, q5.2.len]
                refine hfin (.map ((ents borns us.toList).toArray.push ⟨a.eval o2, a.eval o3, clock⟩) (clock + 1)) (us.toList ++ [a.eval o2, a.eval o3]).toArray (.hdm (clock + 1) (borns ++ [clock]) :: (kvs ++ [evalO st.t k, evalO st.t v])) ?_ (by simp only [objFrom, ents_append borns us.toList clock _ _ hul]; simp) ?_ hm
                · simp only [Instr.mapUpdate, Sem.run_bind, run_underlying hu, Result.andThen_ok, b2, hget, hck, Instr.findKey, run_underlying hukt, f1, Sem.run_pure, run_setObj' q4]
                · simp only [repB]
                  refine ⟨repT_append' q5.1 (by simp only [repT]; exact ⟨_, _, rfl, rk, _, _, rfl, rv, rfl⟩), ⟨by simp [q5.2.len]; omega, ?_, ?_⟩⟩
                  · rw [List.pairwise_append]
                    exact ⟨q5.2.inc, by simp, fun x hx y hy => by simp at hy; subst hy; exact q5.2.lt x hx⟩
                  · intro b hb
                    rcases List.mem_append.1 hb with hb | hb
                    · have := q5.2.lt b hb; omega
                    · simp at hb; omega
              · cases hm
            · cases hm
          · cases he
        · cases he
      · cases he
    · cases h1
  · rename_i ks x k v t o1 o2 o3
    simp only [Bool.and_eq_true, beq_iff_eq] at ho
    obtain ⟨⟨⟨⟨rfl, h1⟩, h2⟩, h3⟩, h4⟩ := ho
    have rx := opOk_rep hr h2
    have rk := opOk_rep hr h3
    have rv := opOk_rep hr h4
    split at h1
    · rename_i sz by' kt et z hf
      obtain ⟨dd, hu, hdk⟩ := tf_und ht hf
      have hdd : dd = .map kt et := by
        cases dd <;> simp [dOk] at hdk
        obtain ⟨rfl, rfl⟩ := hdk; rfl
      subst hdd
      have hkd : ∃ dk, P.underlying kt = some dk ∧ ((ks = false ∧ ∃ k, dk = .int k) ∨ (ks = true ∧ dk = .string)) := by
        unfold keyTy at h1
        split at h1
        · rename_i f' hf'
          obtain ⟨dk, hu', hd'⟩ := tf_und ht hf'
          obtain rfl := dOk_int hd'
          exact ⟨_, hu', .inl ⟨by simpa using h1, _, rfl⟩⟩
        · rename_i f' hf'
          obtain ⟨dk, hu', hd'⟩ := tf_und ht hf'
          obtain rfl := dOk_str hd'
          exact ⟨_, hu', .inr ⟨h1, rfl⟩⟩
        · cases h1
      obtain ⟨dk, hukt, hcase⟩ := hkd
      simp only [sIk] at he
      split at he
      · rename_i m hx
        rw [hx] at rx
        simp only [rep] at rx
        obtain ⟨bl, b1, b2⟩ := rx
        split at he
        · rename_i cs hcs
          split at he
          · rename_i cs' hm
            cases he
            obtain ⟨bl', us, el, q1, q2, q3, q4, q5⟩ := hr.good.box m cs hcs
            rw [b1] at q1; cases q1
            unfold mputV at hm
            split at hm
            · rename_i clock borns kvs
              simp only [objFrom] at q4
              simp only [repB] at q5
              have hget := run_getObj' (P := P) q4
              have hck := run_checkKey (P := P) (w := w) hukt (by rcases hcase with ⟨_, h⟩ | ⟨_, h⟩; exact .inl h; exact .inr h) false (a.eval o2)
              have hlt : bl < w.heap.size := (Array.getElem?_eq_some_iff.1 q4).1
              have hfin : ∀ (o' : Obj) (us' : Array Value) (ds : List PV), (Instr.mapUpdate t (a.eval o1) (a.eval o2) (a.eval o3)).run P w = .ok () { w with heap := w.heap.setIfInBounds bl o' } → objFrom ds us' el = o' → repB w ν ds us'.toList → some ds = some cs' →
                  (⟨none, .mapUpdate t o1 o2 o3, type, pos, after, guard⟩ : Oper).wp P a w K Q := by
                intro o' us' ds hrun hobj hrep hds
                cases hds
                refine wp_skip' (w' := { w with heap := w.heap.setIfInBounds bl o' }) ?_ (hK _ _ _ (hr.setBox (w' := { w with heap := w.heap.setIfInBounds bl o' }) hcs b1 (us := us') (el := el) rfl rfl rfl (fun j hj => ?_) (by simp) ?_ hrep).1)
                · simp only [execOp, hrun, Sem.run_bind, Result.andThen_ok, Sem.run_pure]
                · exact Array.getElem?_setIfInBounds_ne (Ne.symm hj)
                · rw [hobj]; simp [hlt]
              split at hm
              · rename_i kvs' hms
                obtain ⟨j, u, us', e, f1, f2, f3, f4, f5, f6, f7⟩ := mset_sound hcase rk rv borns kvs us.toList 0 _ q5.1 q5.2.len hms
                refine hfin (.map (ents borns us').toArray clock) us'.toArray (.hdm clock borns :: kvs') ?_ (by simp [objFrom]) (by simp only [repB]; exact ⟨by simpa using f2, ⟨by rw [f3]; exact q5.2.len, q5.2.inc, q5.2.lt⟩⟩) hm
                have hstay : (Instr.keyThatStays (((ents borns us.toList).toArray[j]?.map (·.key)).getD (a.eval o2)) (a.eval o2)).run P w = .ok (a.eval o2) w := by
                  have : ((ents borns us.toList).toArray[j]?.map (·.key)).getD (a.eval o2) = e.key := by simp [f4]
                  rw [this]
                  simp [Instr.keyThatStays, f6]
                simp only [Nat.zero_add] at f1
                simp only [Instr.mapUpdate, Sem.run_bind, run_underlying hu, Result.andThen_ok, b2, hget, hck, Instr.findKey, run_underlying hukt, f1, Sem.run_pure, hstay, run_setObj' q4]
                rw [f7]
                simp
              · rename_i hms
                have f1 := mset_sound hcase rk rv borns kvs us.toList 0 _ q5.1 q5.2.len hms
                simp only at f1
                have hul : us.toList.length = 2 * borns.length := by rw [repT_len q5.1, q5.2.len]
                refine hfin (.map ((ents borns us.toList).toArray.push ⟨a.eval o2, a.eval o3, clock⟩) (clock + 1)) (us.toList ++ [a.eval o2, a.eval o3]).toArray (.hdm (clock + 1) (borns ++ [clock]) :: (kvs ++ [evalO st.t k, evalO st.t v])) ?_ (by simp only [objFrom, ents_append borns us.toList clock _ _ hul]; simp) ?_ hm
                · simp only [Instr.mapUpdate, Sem.run_bind, run_underlying hu, Result.andThen_ok, b2, hget, hck, Instr.findKey, run_underlying hukt, f1, Sem.run_pure, run_setObj' q4]
                · simp only [repB]
                  refine ⟨repT_append' q5.1 (by simp only [repT]; exact ⟨_, _, rfl, rk, _, _, rfl, rv, rfl⟩), ⟨by simp [q5.2.len]; omega, ?_, ?_⟩⟩
                  · rw [List.pairwise_append]
                    exact ⟨q5.2.inc, by simp, fun x hx y hy => by simp at hy; subst hy; exact q5.2.lt x hx⟩
                  · intro b hb
                    rcases List.mem_append.1 hb with hb | hb
                    · have := q5.2.lt b hb; omega
                    · simp at hb; omega
              · cases hm
            · cases hm
          · cases he
        · cases he
      · cases he
    · cases h1
  · rename_i d key x t o1
    simp only [Bool.and_eq_true, beq_iff_eq, decide_eq_true_eq] at ho
    obtain ⟨⟨⟨rfl, h2⟩, h1⟩, h3⟩ := ho
    have rx := opOk_rep hr h3
    split at h1
    · rename_i sz by' kt et z hf
      obtain ⟨dd, hu, hdk⟩ := tf_und ht hf
      have hdd : dd = .map kt et := by
        cases dd <;> simp [dOk] at hdk
        obtain ⟨rfl, rfl⟩ := hdk; rfl
      subst hdd
      simp only [sIk] at he
      split at he
      · rename_i m hx
        rw [hx] at rx
        have rx' := rx
        simp only [rep] at rx
        obtain ⟨bl, b1, b2⟩ := rx
        split at he
        · rename_i cs hcs
          split at he
          · rename_i cs' hm
            cases he
            obtain ⟨bl', us, el, q1, q2, q3, q4, q5⟩ := hr.good.box m cs hcs
            rw [b1] at q1; cases q1
            unfold rangeV at hm
            split at hm
            · rename_i clock borns kvs
              cases hm
              simp only [objFrom] at q4
              have hget := run_getObj' (P := P) q4
              obtain ⟨g1, g2⟩ := hr.newBox (hr.new _ (hfresh rfl)) (hno rfl) (cs := [.hdi clock [] clock, .gmap m]) (us := #[a.eval o1]) 0 (by simp only [repB, repT]; exact ⟨_, _, rfl, rx', rfl⟩)
              have hobj : objFrom [.hdi clock [] clock, .gmap m] #[a.eval o1] 0 = .mapIter (some bl) clock #[] clock := by simp [objFrom, b2]
              rw [hobj] at g1 g2
              refine wp_value (v := .pointer (some ⟨w.heap.size, 0, none⟩)) (w' := w.alloc (.mapIter (some bl) clock #[] clock)) ?_ (hK _ _ _ (g1.put (d := some d) (by simpa [dstOk] using h2) (p := .ptr κ 0) g2))
              · simp only [execOp]
                refine val_ok_w ?_
                simp only [Instr.range, Sem.run_bind, run_underlying hu, Result.andThen_ok, b2, hget, Sem.run_pure, run_newObj]
                rfl
            · cases hm
          · cases he
        · cases he
      · cases he
    · cases h1
  · rename_i d vi
    simp only [Bool.and_eq_true, beq_iff_eq, decide_eq_true_eq] at ho
    obtain ⟨⟨h1, h2⟩, h3⟩ := ho
    subst h1
    simp only [sIk] at he
    split at he
    · rename_i c' p hv
      cases he
      obtain ⟨v, g1, g2⟩ := vI_sound (o := ⟨some d, op, type, pos, after, guard⟩) ht hr h3 hv hc
      refine wp_value g1 (hK _ _ ν ?_)
      exact hr.put (d := some d) (by simpa [dstOk] using h2) g2
    · cases he
  · rename_i d key x el o'
    simp only [Bool.and_eq_true, beq_iff_eq, decide_eq_true_eq] at ho
    obtain ⟨⟨h1, h2⟩, h3⟩ := ho
    subst h1
    simp only [sIk] at he
    cases he
    have hx := opOk_rep hr h3
    have hcx := rep_cells hx hc
    obtain ⟨g1, g2⟩ := hr.newBox (hr.new _ (hfresh rfl)) (hno rfl) el (by rw [plain_repB (repL_plain hcx)]; exact hcx)
    rw [plain_obj (repL_plain hcx)] at g1 g2
    refine wp_value (v := .pointer (some ⟨w.heap.size, 0, none⟩)) (w' := w.alloc (.cells (a.eval o').cells el)) ?_ (hK _ _ _ (g1.put (d := some d) (by simpa [dstOk] using h2) (p := .ptr κ 0) ?_))
    · simp only [execOp, Instr.box, newVar, newRow, Sem.run_bind, run_newObj, Result.andThen_ok, Sem.run_pure]; rfl
    · simpa only [rep] using g2
  · rename_i d key z el
    simp only [Bool.and_eq_true, beq_iff_eq, decide_eq_true_eq] at ho
    obtain ⟨⟨h1, h2⟩, h3⟩ := ho
    subst h1
    simp only [sIk] at he
    cases he
    split at h3
    · rename_i f hf
      have hz := zeroEq_eq h3
      obtain ⟨zv, z1, z2, z3⟩ := tf_zero ht hf w
      rw [← hz] at z2
      obtain ⟨_, hcx⟩ := zOk_rep w ν z2
      obtain ⟨g1, g2⟩ := hr.newBox (hr.new _ (hfresh rfl)) (hno rfl) el (by rw [plain_repB (repL_plain hcx)]; exact hcx)
      rw [plain_obj (repL_plain hcx)] at g1 g2
      refine wp_value (v := .pointer (some ⟨w.heap.size, 0, none⟩)) (w' := w.alloc (.cells zv.cells el)) ?_ (hK _ _ _ (g1.put (d := some d) (by simpa [dstOk] using h2) (p := .ptr κ 0) ?_))
      · simp only [execOp, Instr.alloc, newVar, newRow, Sem.run_bind, z1, run_newObj, Result.andThen_ok, Sem.run_pure]; rfl
      · simpa only [rep] using g2
    · cases h3
  · rename_i sz x y t o' o''
    simp only [Bool.and_eq_true, beq_iff_eq] at ho
    obtain ⟨⟨⟨h1, h2⟩, h3⟩, h4⟩ := ho
    subst h1
    split at h2
    · rename_i f hf
      simp only [beq_iff_eq] at h2
      simp only [sIk] at he
      split at he
      · rename_i k off hx
        split at he
        · rename_i cs hcs
          cases he
          obtain ⟨c0, c1, c2, c3⟩ := hc
          have rx := opOk_rep hr h3
          rw [hx] at rx
          simp only [rep] at rx
          obtain ⟨bl, b1, b2⟩ := rx
          have ry := opOk_rep hr h4
          have rcy := rep_cells ry c1
          have rl := repL_length rcy
          obtain ⟨bl', us, el, q1, q2, q3, q4, q5⟩ := hr.good.box k cs hcs
          rw [b1] at q1; cases q1
          rw [plain_obj c0] at q4
          rw [plain_repB c0] at q5
          have ql := repL_length q5
          obtain ⟨_, hsz⟩ := tf_load ht hf w
          have hyl : (a.eval o'').cells.size = sz := by
            rw [c2] at rl; simpa using rl
          have hst := run_storeCells_at (P := P) bl off el (a.eval o'').cells.toList 0 us w q4 (by simp at ql ⊢; omega) (repL_one rcy)
          simp only [Nat.add_zero] at hst
          refine wp_skip' (w' := w.setRow bl (us.toList.take off ++ (a.eval o'').cells.toList ++ us.toList.drop (off + (a.eval o'').cells.toList.length)).toArray) ?_ (hK _ _ _ (hr.storeBox hcs b1 c0 ?_))
          · simp only [execOp, Instr.storeAt, b2, Instr.sureAddr, storeVar, Sem.run_bind, Sem.run_pure, Result.andThen_ok, hsz, hyl, h2, ne_eq, not_true_eq_false, if_false, hst]
          · simp only [splice]
            rw [rl]
            exact repL_append (repL_append (repL_take off q5) rcy) (repL_drop _ q5)
        · cases he
      · rename_i hx
        generalize hpx : evalO st.t x = px at he
        unfold storeR at he
        split at he
        · rename_i sz' k n i fo
          split at he
          · rename_i n' el sz'' xs hk
            split at he
            · rename_i hnn
              obtain ⟨rfl, rfl⟩ := hnn
              split at he
              · rename_i q hq
                cases he
                obtain ⟨c0, c1, c2, c3, c4⟩ := hc
                have rx := opOk_rep hr h3
                rw [hpx] at rx
                have ry := opOk_rep hr h4
                have rcy := rep_cells ry c1
                have rl := repL_length rcy
                obtain ⟨_, hsz⟩ := tf_load ht hf w
                have hyl : (a.eval o'').cells.size = sz := by
                  rw [c2] at rl; simpa using rl
                obtain ⟨bl, off, cur', hptr, hst, ν', hrel⟩ := hr.storeRow (P := P) hk rx hq c0 rcy (by simpa [hyl] using c3) (fun e => by have := congrArg List.length e; simp [hyl] at this; omega)
                refine wp_skip' (w' := w.setRow bl cur') ?_ (hK _ _ _ hrel)
                simp only [execOp, Instr.storeAt, hptr, Instr.sureAddr, storeVar, Sem.run_bind, Sem.run_pure, Result.andThen_ok, hsz, hyl, h2, ne_eq, not_true_eq_false, if_false, hst]
              · cases he
            · cases he
          · cases he
        · cases he
    · cases h2
  · rename_i d sz el xs t len parts
    simp only [Bool.and_eq_true, beq_iff_eq, decide_eq_true_eq] at ho
    obtain ⟨⟨⟨⟨⟨⟨h1, h2⟩, h3⟩, h4⟩, h5⟩, h6⟩, h7⟩ := ho
    subst h1
    subst h5
    split at h3
    · rename_i el' hf
      simp only [beq_iff_eq] at h3
      subst h3
      split at h4
      · rename_i g hg
        simp only [Bool.and_eq_true, beq_iff_eq, decide_eq_true_eq] at h4
        obtain ⟨rfl, hpos⟩ := h4
        simp only [sIk] at he
        cases he
        obtain ⟨us, g1, g2, g3⟩ := run_buildSlice ht hr hf rfl hg h7 hc h6
        have hown : (w.alloc (.cells us el)).ownsRow w.heap.size el g.size (.slice (some ⟨w.heap.size, 0, none⟩) xs.length xs.length) (xs.map (evalO st.t)).length us.toList := by
          refine ⟨by simp [g3], .inr ⟨w.heap.size, xs.length, us, by simp, Nat.le_refl _, heap_alloc_new w _, by simp, ?_, g3, ?_⟩⟩
          · simp only [maxLen]
            have : xs.length ≤ xs.length * g.size := Nat.le_mul_of_pos_right _ hpos
            omega
          · rw [List.take_of_length_le]; simp [g3]
        obtain ⟨r1, r2⟩ := hr.newRow (k := κ) (xs := xs.map (evalO st.t)) (.inl (hr.new _ (hfresh rfl))) (World.grownBy_alloc w _ none) hown g2
          (by have : xs.length ≤ xs.length * g.size := Nat.le_mul_of_pos_right _ hpos; simp only [lim, List.length_map]; omega) (hno rfl)
        simp only [List.length_map] at r1 r2
        refine wp_value (v := .slice (some ⟨w.heap.size, 0, none⟩) xs.length xs.length) (w' := w.alloc (.cells us el)) ?_ (hK _ _ _ (r1.put (d := some d) (by simpa [dstOk] using h2) (p := .slice g.size (.own κ) (xs.map (evalO st.t))) r2))
        have hp : (parts.map fun (x : Nat × Operand) => (x.1, a.eval x.2)) = (parts.toList.map fun (x : Nat × Operand) => (x.1, a.eval x.2)).toArray := by
          apply Array.ext'; simp
        simp only [execOp]
        refine val_ok_w ?_
        rw [← g1]
        congr 2
      · cases h4
    · cases h3
  · rename_i d sz el x y o' o'' t t'
    simp only [Bool.and_eq_true, beq_iff_eq, decide_eq_true_eq] at ho
    obtain ⟨⟨⟨⟨⟨⟨h1, h2⟩, h3⟩, h4⟩, h5⟩, h6⟩, h7⟩ := ho
    subst h1
    subst h3
    split at h4
    · rename_i el' hf
      simp only [beq_iff_eq] at h4
      subst h4
      split at h5
      · rename_i g hg
        simp only [Bool.and_eq_true, beq_iff_eq, decide_eq_true_eq] at h5
        obtain ⟨⟨rfl, hpos⟩, hby⟩ := h5
        have rx := opOk_rep hr h6
        have ry := opOk_rep hr h7
        have hexec : ∀ v' w', (Builtin.append_ #[t, t] type #[a.eval o', a.eval o'']).run P w = .ok v' w' → (execOp a.eval ⟨some d, .call ⟨.builtin .append, ⟨[o', o'']⟩, ⟨[t, t]⟩⟩, type, pos, after, guard⟩).run P w = .ok (.value v') w' := by
          intro v' w' hrun
          simp only [execOp, resolve, invoke, builtin, Sem.run_bind, Sem.run_pure, Result.andThen_ok, List.map_toArray, List.map_cons, List.map_nil]
          rw [hrun]; rfl
        obtain ⟨ti, d', z, e1, e2, e3, e4, e5, e6, e7, e8⟩ := (tyIs ht hg).ex
        obtain ⟨ds, hds, hdk⟩ := tf_und ht hf
        obtain rfl := dOk_slice hdk
        simp only [sIk] at he
        split at he
        · rename_i sz' tag xs sz'' tag' ys hx hy
          split at he
          · rename_i hss
            obtain ⟨rfl, hss⟩ := hss
            subst hss
            rw [hx] at rx
            rw [hy] at ry
            simp only [rep] at rx ry
            obtain ⟨⟨ax, cx, vx, cx1, ⟨cx2, cx3⟩, cx4⟩, rxn, rxo⟩ := rx
            obtain ⟨⟨ay, cy, vy, cy1, ⟨cy2, cy3⟩, cy4⟩, _⟩ := ry
            split at he
            · rename_i k
              split at he
              · rename_i ow hk
                cases he
                obtain ⟨c1, c2, c3, c4⟩ := hc
                subst c2
                obtain ⟨n0, u0, r1, r2, r3⟩ := rxo k rfl
                obtain ⟨v0, us0, q1, q2, q3, _⟩ := hr.good.own k ow hk
                rw [r1] at q1
                simp only [Option.some.injEq, Prod.mk.injEq] at q1
                obtain ⟨rfl, rfl⟩ := q1
                have hval : a.eval o' = u0 := r3 c1.symm
                by_cases hys : ys = []
                · subst hys
                  rw [vy, vx] at hexec
                  have hrun := run_append_empty (P := P) (w := w) (ty := type) hds e1 ax xs.length cx cx1 ay cy
                  refine wp_value (hexec _ _ (by simpa using hrun)) (hK _ _ ν ?_)
                  have hst : { st with t := put d (.slice ow.sz (.own k) (xs ++ [])) st.t, e := upd k ⟨xs.length + ([] : List PV).length, ow.el, ow.sz, none⟩ st.e } = ({ st with e := upd k ⟨ow.n, ow.el, ow.sz, none⟩ st.e, t := put d (.slice ow.sz (.own k) xs) st.t } : St) := by simp [c1]
                  rw [← c3, hst]
                  have hr2 := hr.forgetRow hk
                  refine hr2.put (d := some d) (by simpa [dstOk] using h2) (p := .slice ow.sz (.own k) xs) ?_
                  simp only [rep]
                  rw [← c3] at cx4
                  exact ⟨⟨ax, cx, rfl, cx1, ⟨cx2, cx3⟩, cx4⟩, fun e => (by cases e), fun g e => by cases e; exact ⟨_, _, r1, r2, fun e => by rw [← vx]; exact r3 e⟩⟩
                · have hyp : 0 < ys.length := by cases ys <;> simp at hys ⊢
                  rcases cy4 with cy4 | ⟨by', offy, usy, rfl, ly, cy5⟩
                  · exact absurd cy4 hys
                  · have hnl := repC_length cy5
                    have hnews : ∀ j u, usy[j]? = some u → w.cell? ((⟨by', offy, none⟩ : Addr).add j) = some u := fun j u hj => by rw [add_mk]; exact (laid_get ly hj).2
                    have hbytes : (xs.length + ys.length) * ti.bytes ≤ 140737488355328 := by
                      have hb1 : ti.bytes ≤ 2048 := by rw [e4]; exact hby
                      have hb2 : (xs.length + ys.length) * ti.bytes ≤ (xs.length + ys.length) * 2048 := Nat.mul_le_mul_left _ hb1
                      simp only [lim] at c4; omega
                    have hml : xs.length + ys.length ≤ maxLen := by simp only [lim] at c4; simp only [maxLen]; omega
                    rw [vy] at hexec
                    have hus0 : us0.length = ow.n * ow.sz := q2.1
                    have hzs : z.cells.size = ti.size := by rw [e8, e3]
                    have hgrow : (∀ cur, False → cur = (0 : Nat)) → (∃ v' w', (Builtin.append_ #[t, t] type #[a.eval o', .slice (some ⟨by', offy, none⟩) ys.length cy]).run P w = .ok v' w' ∧ w'.ownsRow w.heap.size ow.el ti.size v' (xs.length + ys.length) (us0 ++ usy) ∧ w.grownBy w' none ∧ repC w ν ti.size xs us0) →
                        (⟨some d, .call ⟨.builtin .append, ⟨[o', o'']⟩, ⟨[t, t]⟩⟩, type, pos, after, guard⟩ : Oper).wp P a w K Q := by
                      intro _ hh
                      obtain ⟨v', w', f1, f2, f3, f4⟩ := hh
                      have hcc : repC w ν ti.size (xs ++ ys) (us0 ++ usy) := repC_append f4 (by rw [e3]; exact cy5)
                      obtain ⟨p1, p2⟩ := hr.newRow (k := k) (xs := xs ++ ys) (.inr ⟨ow, hk, by rw [c1]; simp; omega⟩) f3 (by simpa using f2) hcc (by simpa using c4) (n' := st.n) (o' := st.o)
                        (fun j hj => ⟨hj, fun e => by subst e; have := (hr.new _ hj).2; rw [r1] at this; cases this⟩)
                      refine wp_value (hexec _ _ f1) (hK _ _ ((ν.withOwn k (xs ++ ys).length v').withRowOf k v' (xs ++ ys).length ((xs ++ ys).length * ti.size)) ?_)
                      have := p1.put (d := some d) (by simpa [dstOk] using h2) p2
                      simpa [e3, putO] using this
                    rcases q2.2 with ⟨q2a, q2b⟩ | ⟨bl, cap, cur, q2a, q2b, q2c, q2d, q2e, q2f, q2g⟩
                    · -- nil
                      have hx0 : xs = [] := List.eq_nil_of_length_eq_zero (by omega)
                      have hu0 : us0 = [] := List.eq_nil_of_length_eq_zero (by rw [hus0, q2b]; simp)
                      subst hx0; subst hu0
                      refine hgrow (fun _ h => h.elim) ?_
                      obtain ⟨v', w', f1, f2, f3, _⟩ := run_append_own (P := P) w w.heap.size t type ow.el ti z ti.size ti.bytes hds e1 e6 rfl rfl hzs (by rw [e3]; exact hpos) (.slice none 0 0) 0 [] (World.ownsRow_nil w _ _ _)
                        ⟨by', offy, none⟩ ys.length cy usy (by rw [hnl, e3]) hnews (repC_one cy5) (by simpa using hml) (by simpa using hbytes) (Nat.le_refl _)
                      refine ⟨v', w', by rw [hval, q2a]; exact f1, by simpa using f2, by simpa [Value.ownBlock] using f3, by simp [repC]⟩
                    · have hlaid : laid w ν.A bl 0 us0 ∧ repC w ν ti.size xs us0 ∧ True := by
                        rw [hval, q2a] at vx
                        rcases cx4 with cx4 | ⟨bb, oo, uu, f1, f2, f3⟩
                        · subst cx4
                          have : us0 = [] := List.eq_nil_of_length_eq_zero (by rw [hus0, c1]; simp)
                          subst this
                          exact ⟨trivial, by simp [repC], trivial⟩
                        · subst f1
                          injection vx with vx1 vx2 vx3
                          injection vx1 with vx1
                          injection vx1 with vx1 vx4
                          subst vx1; subst vx4
                          have heq : uu = us0 := by
                            apply List.ext_getElem?
                            intro j
                            have hul : uu.length = us0.length := by rw [repC_length f3, hus0, c1, c3]
                            by_cases hj : j < uu.length
                            · have h1 := (laid_get f2 (List.getElem?_eq_getElem hj)).2
                              rw [Nat.zero_add] at h1
                              have h2 := q2.cells (g := bl) (by rw [q2a]; rfl) j us0[j] (List.getElem?_eq_getElem (by omega))
                              rw [add_mk, Nat.zero_add, h1] at h2
                              rw [List.getElem?_eq_getElem hj, List.getElem?_eq_getElem (by omega)]
                              exact h2
                            · rw [List.getElem?_eq_none (by omega), List.getElem?_eq_none (by omega)]
                          subst heq
                          exact ⟨f2, by rw [e3]; exact f3, trivial⟩
                      obtain ⟨hl1, hl2, _⟩ := hlaid
                      by_cases hroom : xs.length + ys.length ≤ cap
                      · have hcursz : cur.size = cap * ow.sz := q2f
                        have hmul : (xs.length + ys.length) * ow.sz ≤ cap * ow.sz := Nat.mul_le_mul_right _ hroom
                        rw [Nat.add_mul] at hmul
                        have f1 := run_append_room (P := P) w t type ow.el ti hds e1 bl xs.length cap cur q2c ⟨by', offy, none⟩ ys.length cy usy (by rw [hnl, e3]) hnews (repC_one cy5) hroom (by rw [hnl, e3, ← c3]; omega)
                        obtain ⟨p1, p2⟩ := hr.inPlace hk (bl := bl) (cap := cap) (cur := cur) (by rw [r1, ← q2a]) q2c q2e q2f (xs := xs) (ys := ys) (us := us0) (ns := usy) c1.symm q2g (by rw [c3, ← e3]; exact hl2) (by rw [c3]; exact cy5) hyp (by rw [c1]; exact hroom) c4
                        refine wp_value (v := .slice (some ⟨bl, 0, none⟩) (ow.n + ys.length) cap) (w' := w.setRow bl (us0 ++ usy ++ cur.toList.drop (ow.n * ow.sz + usy.length)).toArray) (hexec _ _ ?_)
                          (hK _ _ (ν.withRowOf k (.slice (some ⟨bl, 0, none⟩) (ow.n + ys.length) cap) (ow.n + ys.length) ((ow.n + ys.length) * ow.sz)) ?_)
                        · rw [hval, q2a, c1, f1, ← q2g, c1, c3, e3]
                        · have := p1.put (d := some d) (by simpa [dstOk] using h2) p2
                          simpa [c1, c3, putO] using this
                      · refine hgrow (fun _ h => h.elim) ?_
                        obtain ⟨v', w', f1, f2, f3⟩ := run_append_arg_grows (P := P) w t type ow.el ti z ti.size ti.bytes hds e1 e6 rfl rfl hzs (by rw [e3]; exact hpos) ⟨bl, 0, none⟩ xs.length cap us0 (by rw [hus0, c1, c3, e3])
                          (fun j u hj => by rw [add_mk]; exact (laid_get hl1 hj).2) ⟨by', offy, none⟩ ys.length cy usy (by rw [hnl, e3]) hnews (by omega) hml hbytes
                        exact ⟨v', w', by rw [hval, q2a, c1]; exact f1, f2, f3, hl2⟩
              · cases he
            · cases he
              have hnilv := rxn rfl
              have hx0 : xs = [] := by
                rw [hnilv] at vx
                injection vx with _ e2
                exact List.eq_nil_of_length_eq_zero e2.symm
              subst hx0
              have hmk : (Ins.app d g.size el x y).makes st = true := by simp only [Ins.makes, hx]
              have hzs : z.cells.size = ti.size := by rw [e8, e3]
              rw [vy, hnilv] at hexec
              have hfin : ∀ (v' : Value) (w' : World) (usy : List Value), (Builtin.append_ #[t, t] type #[.slice none 0 0, .slice ay ys.length cy]).run P w = .ok v' w' → w'.ownsRow w.heap.size el g.size v' ys.length usy → w.grownBy w' none → repC w ν g.size ys usy →
                  (⟨some d, .call ⟨.builtin .append, ⟨[o', o'']⟩, ⟨[t, t]⟩⟩, type, pos, after, guard⟩ : Oper).wp P a w K Q := by
                intro v' w' usy f1 f2 f3 f4
                obtain ⟨p1, p2⟩ := hr.newRow (k := κ) (xs := ys) (.inl (hr.new _ (hfresh hmk))) f3 f2 f4 hc (hno hmk)
                exact wp_value (hexec _ _ f1) (hK _ _ _ (p1.put (d := some d) (by simpa [dstOk] using h2) p2))
              by_cases hys : ys = []
              · subst hys
                exact hfin _ w [] (run_append_empty hds e1 none 0 0 (Nat.le_refl _) ay cy) (World.ownsRow_nil w _ _ _) (World.grownBy.refl w _) (by simp [repC])
              · rcases cy4 with cy4 | ⟨by', offy, usy, rfl, ly, cy5⟩
                · exact absurd cy4 hys
                · have hnl := repC_length cy5
                  have hnews : ∀ j u, usy[j]? = some u → w.cell? ((⟨by', offy, none⟩ : Addr).add j) = some u := fun j u hj => by rw [add_mk]; exact (laid_get ly hj).2
                  have hbytes : ys.length * ti.bytes ≤ 140737488355328 := by
                    have h1 : ti.bytes ≤ 2048 := by rw [e4]; exact hby
                    have h2 : ys.length * ti.bytes ≤ ys.length * 2048 := Nat.mul_le_mul_left _ h1
                    simp only [lim] at hc; omega
                  have hml : ys.length ≤ maxLen := by simp only [lim] at hc; simp only [maxLen]; omega
                  obtain ⟨v', w', f1, f2, f3, _⟩ := run_append_own (P := P) w w.heap.size t type el ti z ti.size ti.bytes hds e1 e6 rfl rfl hzs (by rw [e3]; exact hpos) (.slice none 0 0) 0 [] (World.ownsRow_nil w _ _ _)
                    ⟨by', offy, none⟩ ys.length cy usy (by rw [hnl, e3]) hnews (repC_one cy5) (by simpa using hml) (by simpa using hbytes) (Nat.le_refl _)
                  exact hfin v' w' usy f1 (by rw [← e3]; simpa using f2) (by simpa [Value.ownBlock] using f3) cy5
            · cases he
          · cases he
        · cases he
      · cases h5
    · cases h4
  · rename_i d key sz el xs t len parts
    simp only [Bool.and_eq_true, beq_iff_eq, decide_eq_true_eq] at ho
    obtain ⟨⟨⟨⟨⟨⟨h1, h2⟩, h3⟩, h4⟩, h5⟩, h6⟩, h7⟩ := ho
    subst h1
    subst h5
    split at h3
    · rename_i el' hf
      simp only [beq_iff_eq] at h3
      subst h3
      split at h4
      · rename_i g hg
        simp only [Bool.and_eq_true, beq_iff_eq, decide_eq_true_eq] at h4
        obtain ⟨rfl, hpos⟩ := h4
        simp only [sIk] at he
        cases he
        obtain ⟨us, g1, g2, g3⟩ := run_buildSlice ht hr hf rfl hg h7 hc h6
        have hown : (w.alloc (.cells us el)).ownsRow w.heap.size el g.size (.slice (some ⟨w.heap.size, 0, none⟩) xs.length xs.length) (xs.map (evalO st.t)).length us.toList := by
          refine ⟨by simp [g3], .inr ⟨w.heap.size, xs.length, us, by simp, Nat.le_refl _, heap_alloc_new w _, by simp, ?_, g3, ?_⟩⟩
          · simp only [maxLen]
            have : xs.length ≤ xs.length * g.size := Nat.le_mul_of_pos_right _ hpos
            omega
          · rw [List.take_of_length_le]; simp [g3]
        obtain ⟨r1, r2⟩ := hr.newRowM (k := κ) (xs := xs.map (evalO st.t)) (.inl (hr.new _ (hfresh rfl))) (World.grownBy_alloc w _ none) hown g2
          (by have : xs.length ≤ xs.length * g.size := Nat.le_mul_of_pos_right _ hpos; simp only [lim, List.length_map]; omega) (hno rfl)
        simp only [List.length_map] at r1 r2
        refine wp_value (v := .slice (some ⟨w.heap.size, 0, none⟩) xs.length xs.length) (w' := w.alloc (.cells us el)) ?_ (hK _ _ _ (r1.put (d := some d) (by simpa [dstOk] using h2) (p := .row g.size κ xs.length) (r2 ⟨_, _, rfl⟩)))
        have hp : (parts.map fun (x : Nat × Operand) => (x.1, a.eval x.2)) = (parts.toList.map fun (x : Nat × Operand) => (x.1, a.eval x.2)).toArray := by
          apply Array.ext'; simp
        simp only [execOp]
        refine val_ok_w ?_
        rw [← g1]
        congr 2
      · cases h4
    · cases h3
  · rename_i d key sz el x y o' o'' t t'
    simp only [Bool.and_eq_true, beq_iff_eq, decide_eq_true_eq] at ho
    obtain ⟨⟨⟨⟨⟨⟨h1, h2⟩, h3⟩, h4⟩, h5⟩, h6⟩, h7⟩ := ho
    subst h1
    subst h3
    split at h4
    · rename_i el' hf
      simp only [beq_iff_eq] at h4
      subst h4
      split at h5
      · rename_i g hg
        simp only [Bool.and_eq_true, beq_iff_eq, decide_eq_true_eq] at h5
        obtain ⟨⟨rfl, hpos⟩, hby⟩ := h5
        have rx := opOk_rep hr h6
        have ry := opOk_rep hr h7
        have hexec : ∀ v' w', (Builtin.append_ #[t, t] type #[a.eval o', a.eval o'']).run P w = .ok v' w' → (execOp a.eval ⟨some d, .call ⟨.builtin .append, ⟨[o', o'']⟩, ⟨[t, t]⟩⟩, type, pos, after, guard⟩).run P w = .ok (.value v') w' := by
          intro v' w' hrun
          simp only [execOp, resolve, invoke, builtin, Sem.run_bind, Sem.run_pure, Result.andThen_ok, List.map_toArray, List.map_cons, List.map_nil]
          rw [hrun]; rfl
        obtain ⟨ti, d', z, e1, e2, e3, e4, e5, e6, e7, e8⟩ := (tyIs ht hg).ex
        obtain ⟨ds, hds, hdk⟩ := tf_und ht hf
        obtain rfl := dOk_slice hdk
        have hzs : z.cells.size = ti.size := by rw [e8, e3]
        simp only [sIk] at he
        split at he
        · -- a new row
          rename_i ys hv
          cases he
          unfold appmV at hv
          split at hv
          · rename_i sz' xs sz'' tag' ys' hx hy
            split at hv
            · rename_i hss
              obtain ⟨rfl, hss⟩ := hss
              subst hss
              cases hv
              rw [hx] at rx
              rw [hy] at ry
              simp only [rep] at rx ry
              obtain ⟨⟨ax, cx, vx, cx1, ⟨cx2, cx3⟩, cx4⟩, rxn, rxo⟩ := rx
              obtain ⟨⟨ay, cy, vy, cy1, ⟨cy2, cy3⟩, cy4⟩, _⟩ := ry
              have hnilv := rxn trivial
              have hmk : (Ins.appm d key g.size el x y).makes st = true := by simp only [Ins.makes, hx]
              rw [vy, hnilv] at hexec
              have hfin : ∀ (v' : Value) (w' : World) (usy : List Value), (Builtin.append_ #[t, t] type #[.slice none 0 0, .slice ay ys.length cy]).run P w = .ok v' w' → w'.ownsRow w.heap.size el g.size v' ys.length usy → w.grownBy w' none → repC w ν g.size ys usy →
                  (⟨some d, .call ⟨.builtin .append, ⟨[o', o'']⟩, ⟨[t, t]⟩⟩, type, pos, after, guard⟩ : Oper).wp P a w K Q := by
                intro v' w' usy f1 f2 f3 f4
                obtain ⟨p1, p2⟩ := hr.newRowM (k := κ) (xs := ys) (.inl (hr.new _ (hfresh hmk))) f3 f2 f4 hc.1 (hno hmk)
                exact wp_value (hexec _ _ f1) (hK _ _ _ (p1.put (d := some d) (by simpa [dstOk] using h2) (p2 (owns_some f2 (by cases ys <;> simp at hc ⊢)))))
              by_cases hys : ys = []
              · subst hys
                exact hfin _ w [] (run_append_empty hds e1 none 0 0 (Nat.le_refl _) ay cy) (World.ownsRow_nil w _ _ _) (World.grownBy.refl w _) (by simp [repC])
              · rcases cy4 with cy4 | ⟨by', offy, usy, rfl, ly, cy5⟩
                · exact absurd cy4 hys
                · have hnl := repC_length cy5
                  have hnews : ∀ j u, usy[j]? = some u → w.cell? ((⟨by', offy, none⟩ : Addr).add j) = some u := fun j u hj => by rw [add_mk]; exact (laid_get ly hj).2
                  have hbytes : ys.length * ti.bytes ≤ 140737488355328 := by
                    have h1 : ti.bytes ≤ 2048 := by rw [e4]; exact hby
                    have h2 : ys.length * ti.bytes ≤ ys.length * 2048 := Nat.mul_le_mul_left _ h1
                    simp only [lim] at hc; omega
                  have hml : ys.length ≤ maxLen := by simp only [lim] at hc; simp only [maxLen]; omega
                  obtain ⟨v', w', f1, f2, f3, _⟩ := run_append_own (P := P) w w.heap.size t type el ti z ti.size ti.bytes hds e1 e6 rfl rfl hzs (by rw [e3]; exact hpos) (.slice none 0 0) 0 [] (World.ownsRow_nil w _ _ _)
                    ⟨by', offy, none⟩ ys.length cy usy (by rw [hnl, e3]) hnews (repC_one cy5) (by simpa using hml) (by simpa using hbytes) (Nat.le_refl _)
                  exact hfin v' w' usy f1 (by rw [← e3]; simpa using f2) (by simpa [Value.ownBlock] using f3) cy5
            · cases hv
          · split at hv
            · split at hv
              · split at hv <;> cases hv
              · cases hv
            · cases hv
          · cases hv
        · -- a row that is there
          rename_i k xs ys hv
          cases he
          unfold appmV at hv
          split at hv
          · split at hv <;> cases hv
          · rename_i sz' k' n sz'' tag' ys' hx hy
            split at hv
            · rename_i hss
              obtain ⟨rfl, hss⟩ := hss
              subst hss
              split at hv
              · rename_i n' el' sz3 xs' hk
                split at hv
                · rename_i hee
                  obtain ⟨rfl, rfl, rfl⟩ := hee
                  cases hv
                  rw [hx] at rx
                  rw [hy] at ry
                  simp only [rep] at rx ry
                  obtain ⟨⟨bx, cx, vx⟩, rxl, n0, u0, r1, r2, r3⟩ := rx
                  obtain ⟨⟨ay, cy, vy, cy1, ⟨cy2, cy3⟩, cy4⟩, _⟩ := ry
                  obtain ⟨v0, us0, q1, q2, q3, q4⟩ := hr.good.own k _ hk
                  rw [r1] at q1
                  simp only [Option.some.injEq, Prod.mk.injEq] at q1 q2
                  obtain ⟨rfl, rfl⟩ := q1
                  have hval : a.eval o' = u0 := r3 rfl
                  obtain ⟨q5, q6, q7⟩ := q4 xs rfl
                  simp only at q5 q6
                  have hus0 : us0.length = xs.length * g.size := by rw [q5]; exact q2.1
                  have hxl : xs.length = n0 := q5
                  by_cases hys : ys = []
                  · subst hys
                    rw [vy, vx] at hexec
                    have hcx : n0 ≤ cx := by
                      rcases q2.2 with ⟨q2a, q2b⟩ | ⟨bl, cap, cur, q2a, q2b, q2c, q2d, _⟩
                      · rw [q2b]; exact Nat.zero_le _
                      · rw [← hval, vx] at q2a; injection q2a with _ _ e; rw [e]; exact q2d
                    have hrun := run_append_empty (P := P) (w := w) (ty := type) hds e1 (some ⟨bx, 0, none⟩) n0 cx hcx ay cy
                    refine wp_value (hexec _ _ (by simpa using hrun)) (hK _ _ ν ?_)
                    have hlk : ∀ g', look g' (upd k ⟨n0, el', g.size, some xs⟩ st.e) = look g' st.e := fun g' => by
                      rw [look_upd]; split
                      · rename_i e; subst e; rw [hk]
                      · rfl
                    have hr2 : Rel C { st with e := upd k ⟨n0, el', g.size, some xs⟩ st.e } a w ν :=
                      ⟨⟨hr.good.alt, hr.good.box, hr.good.inj, fun g o hg => hr.good.own g o (by rw [← hlk g]; exact hg), fun g g' n n' v v' bl a1 a2 => hr.good.oinj g g' n n' v v' bl (by rw [← hlk g]; exact a1) (by rw [← hlk g']; exact a2),
                      fun g j n v bl a1 => hr.good.obx g j n v bl (by rw [← hlk g]; exact a1), hr.good.one⟩, hr.fr, hr.defers, hr.size, hr.slot, hr.new⟩
                    have h3 := hr2.put (d := some d) (by simpa [dstOk] using h2) (p := .row g.size k n0) (v := .slice (some ⟨bx, 0, none⟩) n0 cx) (by
                      simp only [rep]; exact ⟨⟨_, _, rfl⟩, rxl, _, _, r1, Nat.le_refl _, fun _ => by rw [← vx]; exact hval⟩)
                    simpa [hxl, putO] using h3
                  · have hyp : 0 < ys.length := by cases ys <;> simp at hys ⊢
                    rcases cy4 with cy4 | ⟨by', offy, usy, rfl, ly, cy5⟩
                    · exact absurd cy4 hys
                    · have hnl := repC_length cy5
                      have hnews : ∀ j u, usy[j]? = some u → w.cell? ((⟨by', offy, none⟩ : Addr).add j) = some u := fun j u hj => by rw [add_mk]; exact (laid_get ly hj).2
                      have hbytes : (xs.length + ys.length) * ti.bytes ≤ 140737488355328 := by
                        have hb1 : ti.bytes ≤ 2048 := by rw [e4]; exact hby
                        have hb2 : (xs.length + ys.length) * ti.bytes ≤ (xs.length + ys.length) * 2048 := Nat.mul_le_mul_left _ hb1
                        simp only [lim] at hc; omega
                      have hml : xs.length + ys.length ≤ maxLen := by simp only [lim] at hc; simp only [maxLen]; omega
                      have hcc : repC w ν g.size (xs ++ ys) (us0 ++ usy) := repC_append q6 cy5
                      rw [vy, hval] at hexec
                      have hgrow : (∃ v' w', (Builtin.append_ #[t, t] type #[u0, .slice (some ⟨by', offy, none⟩) ys.length cy]).run P w = .ok v' w' ∧ w'.ownsRow w.heap.size el' ti.size v' (xs.length + ys.length) (us0 ++ usy) ∧ w.grownBy w' none) →
                          (⟨some d, .call ⟨.builtin .append, ⟨[o', o'']⟩, ⟨[t, t]⟩⟩, type, pos, after, guard⟩ : Oper).wp P a w K Q := by
                        intro hh
                        obtain ⟨v', w', f1, f2, f3⟩ := hh
                        obtain ⟨p1, p2⟩ := hr.newRowM (k := k) (xs := xs ++ ys) (el := el') (sz := g.size) (.inr ⟨_, hk, by simp; omega⟩) f3 (by rw [← e3]; simpa using f2) hcc (by simpa using hc) (n' := st.n) (o' := st.o)
                          (fun j hj => ⟨hj, fun e => by subst e; have := (hr.new _ hj).2; rw [r1] at this; cases this⟩)
                        refine wp_value (hexec _ _ f1) (hK _ _ (ν.withOwn k (xs ++ ys).length v') ?_)
                        have := p1.put (d := some d) (by simpa [dstOk] using h2) (p2 (by simpa using owns_some f2 (by omega)))
                        simpa [putO] using this
                      rcases q2.2 with ⟨q2a, q2b⟩ | ⟨bl, cap, cur, q2a, q2b, q2c, q2d, q2e, q2f, q2g⟩
                      · -- nil
                        have hx0 : xs = [] := List.eq_nil_of_length_eq_zero (by omega)
                        have hu0 : us0 = [] := List.eq_nil_of_length_eq_zero (by rw [hus0, hx0]; simp)
                        subst hx0; subst hu0
                        refine hgrow ?_
                        obtain ⟨v', w', f1, f2, f3, _⟩ := run_append_own (P := P) w w.heap.size t type el' ti z ti.size ti.bytes hds e1 e6 rfl rfl hzs (by rw [e3]; exact hpos) (.slice none 0 0) 0 [] (World.ownsRow_nil w _ _ _)
                          ⟨by', offy, none⟩ ys.length cy usy (by rw [hnl, e3]) hnews (repC_one cy5) (by simpa using hml) (by simpa using hbytes) (Nat.le_refl _)
                        exact ⟨v', w', by rw [q2a]; exact f1, by simpa using f2, by simpa [Value.ownBlock] using f3⟩
                      · have hvb : u0.ownBlock = some bl := by rw [q2a]; rfl
                        by_cases hroom : xs.length + ys.length ≤ cap
                        · have hmul : (xs.length + ys.length) * g.size ≤ cap * g.size := Nat.mul_le_mul_right _ hroom
                          rw [Nat.add_mul] at hmul
                          have f1 := run_append_room (P := P) w t type el' ti hds e1 bl xs.length cap cur q2c ⟨by', offy, none⟩ ys.length cy usy (by rw [hnl, e3]) hnews (repC_one cy5) hroom (by rw [hnl, e3]; omega)
                          generalize hwe : (cur.toList.take (xs.length * ti.size) ++ usy ++ cur.toList.drop (xs.length * ti.size + usy.length)).toArray = nc at f1
                          have hnew : (w.setRow bl nc).heap[bl]? = some (.cells nc el' (0, 0)) := setRow_heap w bl cur nc el' _ q2c
                          have hl : (us0 ++ usy).length = (xs ++ ys).length * g.size := by rw [List.length_append, hus0, hnl, List.length_append, Nat.add_mul]
                          have h5 : cur.toList.take (xs.length * ti.size) = us0 := by rw [hxl, e3]; exact q2g
                          have hs1 : nc.size = cap * g.size := by
                            rw [← hwe]
                            simp only [List.size_toArray, List.length_append, List.length_take, List.length_drop, Array.length_toList]
                            rw [e3]; omega
                          have hs2 : nc.toList.take ((xs ++ ys).length * g.size) = us0 ++ usy := by
                            rw [← hwe, h5]
                            simp only [← hl]
                            rw [List.take_append_of_le_length (Nat.le_refl _), List.take_length]
                          obtain ⟨p1, _, p2⟩ := hr.setRowM (w' := w.setRow bl nc) hk rfl r1 hvb (v' := .slice (some ⟨bl, 0, none⟩) (xs.length + ys.length) cap) rfl (xs' := xs ++ ys) (us := us0 ++ usy) (.inr (by simp; omega)) rfl rfl rfl (fun j hj => setRow_other w bl j nc hj) (setRow_size w bl nc)
                            ⟨hl, .inr ⟨bl, cap, nc, by simp, Nat.zero_le _, hnew, by simpa using hroom, q2e, hs1, hs2⟩⟩ hcc
                          replace p2 := p2 (by simpa using hc)
                          refine wp_value (v := .slice (some ⟨bl, 0, none⟩) (xs.length + ys.length) cap) (w' := w.setRow bl nc) (hexec _ _ ?_) (hK _ _ (ν.withOwn k (xs ++ ys).length (.slice (some ⟨bl, 0, none⟩) (xs.length + ys.length) cap)) ?_)
                          · rw [q2a, ← hxl]; exact f1
                          · have := p1.put (d := some d) (by simpa [dstOk] using h2) p2
                            simpa [putO] using this
                        · refine hgrow ?_
                          obtain ⟨v', w', f1, f2, f3⟩ := run_append_arg_grows (P := P) w t type el' ti z ti.size ti.bytes hds e1 e6 rfl rfl hzs (by rw [e3]; exact hpos) ⟨bl, 0, none⟩ xs.length cap us0 (by rw [hus0, e3])
                            (fun j u hj => by have := q2.cells hvb j u hj; exact this) ⟨by', offy, none⟩ ys.length cy usy (by rw [hnl, e3]) hnews (by omega) hml hbytes
                          exact ⟨v', w', by rw [q2a, ← hxl]; exact f1, f2, f3⟩
                · cases hv
              · cases hv
            · cases hv
          · cases hv
        · cases he
      · cases h5
    · cases h4
  · cases ho

theorem sI_sound {P : Program} {tys : List (Nat × TF)} (ht : tysOk P tys = true) {C : Ctx} {st st' : St} {a : Act} {w : World} {ν : Env} (hr : Rel C st a w ν) {i : Ins} {o : Oper} (ho : sOk C.N tys i o = true)
    {c : Prop} (he : sI st i = some (c, st')) (hc : c) {K : Act → World → Prop} {Q : Exit → Act → World → Prop} (hK : ∀ a' w' ν', Rel C st' a' w' ν' → K a' w') : o.wp P a w K Q := by
  have hnone : keyFree st none → fresh st.n st.o (.loc st.n) := fun h => newKey_fresh (key := none) h
  have hnext : ∀ j, fresh (st.n + 1) st.o j → fresh st.n st.o j ∧ j ≠ .loc st.n := next_fresh (key := none)
  cases i with
  | v d i => exact sIk_sound (κ := .loc 0) (n' := 0) (o₁ := []) ht hr ho (fun h => by simp [Ins.makes] at h) (fun h => by simp [Ins.makes] at h) (by simpa only [sI, sIk] using he) hc hK
  | box d key x =>
    simp only [sI] at he; cases he
    exact sIk_sound (κ := newKey st key) (n' := nextN st key) (o₁ := nextO st key) ht hr ho (fun _ => newKey_fresh hc.1) (fun _ => next_fresh) (by simp only [sIk]) hc.2 hK
  | alloc d key z =>
    simp only [sI] at he; cases he
    exact sIk_sound (κ := newKey st key) (n' := nextN st key) (o₁ := nextO st key) ht hr ho (fun _ => newKey_fresh hc) (fun _ => next_fresh) (by simp only [sIk]) trivial hK
  | store sz x y => exact sIk_sound (κ := .loc 0) (n' := 0) (o₁ := []) ht hr ho (fun h => by simp [Ins.makes] at h) (fun h => by simp [Ins.makes] at h) (by simpa only [sI, sIk] using he) hc hK
  | bsl d sz el xs =>
    simp only [sI] at he; cases he
    exact sIk_sound (κ := .loc st.n) (n' := st.n + 1) (o₁ := st.o) ht hr ho (fun _ => hnone hc.1) (fun _ => hnext) (by simp only [sIk]) hc.2 hK
  | bslm d key sz el xs =>
    simp only [sI] at he; cases he
    exact sIk_sound (κ := newKey st key) (n' := nextN st key) (o₁ := nextO st key) ht hr ho (fun _ => newKey_fresh hc.1) (fun _ => next_fresh) (by simp only [sIk]) hc.2 hK
  | appm d key sz el x y =>
    simp only [sI] at he
    split at he
    · rename_i ys hv
      cases he
      exact sIk_sound (κ := newKey st key) (n' := nextN st key) (o₁ := nextO st key) ht hr ho (fun _ => newKey_fresh hc.1) (fun _ => next_fresh) (by simp only [sIk, hv]) hc.2 hK
    · rename_i k xs ys hv
      cases he
      refine sIk_sound (κ := .loc 0) (n' := 0) (o₁ := []) ht hr ho (fun h => ?_) (fun h => ?_) (by simp only [sIk, hv]) hc hK
      all_goals
        exfalso
        simp only [Ins.makes] at h
        split at h
        · rename_i hx
          unfold appmV at hv
          rw [hx] at hv
          split at hv
          · split at hv <;> cases hv
          · rename_i h1 _; cases h1
          · cases hv
        · cases h
    · cases he
  | mkmap d key =>
    simp only [sI] at he; cases he
    exact sIk_sound (κ := newKey st key) (n' := nextN st key) (o₁ := nextO st key) ht hr ho (fun _ => newKey_fresh hc) (fun _ => next_fresh) (by simp only [sIk]) trivial hK
  | mput ks x k v => exact sIk_sound (κ := .loc 0) (n' := 0) (o₁ := []) ht hr ho (fun h => by simp [Ins.makes] at h) (fun h => by simp [Ins.makes] at h) (by simpa only [sI, sIk] using he) hc hK
  | range d key x =>
    simp only [sI] at he
    split at he
    · rename_i m hx
      split at he
      · rename_i cs hcs
        split at he
        · rename_i cs' hm
          cases he
          exact sIk_sound (κ := newKey st key) (n' := nextN st key) (o₁ := nextO st key) ht hr ho (fun _ => newKey_fresh hc) (fun _ => next_fresh) (by simp only [sIk, hx, hcs, hm]) trivial hK
        · cases he
      · cases he
    · cases he
  | app d sz el x y =>
    simp only [sI] at he
    split at he
    · rename_i sz' tag xs sz'' tag' ys hx hy
      split at he
      · rename_i hss
        split at he
        · rename_i k
          split at he
          · rename_i ow hk
            cases he
            refine sIk_sound (κ := .loc 0) (n' := 0) (o₁ := []) ht hr ho (fun h => by simp [Ins.makes, hx] at h) (fun h => by simp [Ins.makes, hx] at h) ?_ hc hK
            simp only [sIk, hx, hy, hss, and_self, if_true, hk]
          · cases he
        · cases he
          refine sIk_sound (κ := .loc st.n) (n' := st.n + 1) (o₁ := st.o) ht hr ho (fun _ => hnone hc.1) (fun _ => hnext) ?_ hc.2 hK
          simp only [sIk, hx, hy, hss, and_self, if_true]
        · cases he
      · cases he
    · cases he

end Go.Pv
