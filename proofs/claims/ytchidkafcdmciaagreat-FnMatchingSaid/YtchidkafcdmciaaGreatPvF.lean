/- Soundness of the instructions that compute a value, together. -/
import Derived.Test.YtchidkafcdmciaaGreatPvE
set_option linter.all false
namespace Go.Pv
open Go Go.RowKit

theorem tf_load {P : Program} {tys : List (Nat × TF)} (ht : tysOk P tys = true) {t : Nat} {f : TF} (hf : tf tys t = some f) (w : World) :
    (Go.isAgg t).run P w = .ok f.kind.isAgg w ∧ (sizeOf t).run P w = .ok f.size w := by
  obtain ⟨i, d, z, h1, h2, h3, h4, h5, h6, h7, h8⟩ := (tyIs ht hf).ex
  refine ⟨?_, by simp [sizeOf, typeInfo, h1, h3]⟩
  simp only [Go.isAgg, Sem.run_bind, run_underlying h2, Result.andThen_ok]
  cases hk : f.kind <;> rw [hk] at h5 <;> cases d <;> simp [dOk] at h5 <;> simp [TK.isAgg]
theorem tf_und {P : Program} {tys : List (Nat × TF)} (ht : tysOk P tys = true) {t : Nat} {f : TF} (hf : tf tys t = some f) : ∃ d, P.underlying t = some d ∧ dOk f.kind d = true := by
  obtain ⟨i, d, z, h1, h2, h3, h4, h5, h6, h7, h8⟩ := (tyIs ht hf).ex
  exact ⟨d, h2, h5⟩
theorem dOk_slice {e : Nat} {d : TypeDesc} (h : dOk (.slice e) d = true) : d = .slice e := by cases d <;> simp [dOk] at h; subst h; rfl
theorem dOk_str {d : TypeDesc} (h : dOk .str d = true) : d = .string := by cases d <;> simp [dOk] at h; rfl
theorem dOk_int {k : IntKind} {d : TypeDesc} (h : dOk (.int k) d = true) : d = .int k := by cases d <;> simp [dOk] at h; subst h; rfl
theorem dOk_struct {fs : List (Nat × Nat)} {d : TypeDesc} (h : dOk (.struct fs) d = true) : ∃ gs : Array Field, d = .struct gs ∧ gs.toList.map (fun f => (f.offset, f.type)) = fs := by
  cases d <;> simp [dOk] at h; rename_i gs; exact ⟨gs, rfl, by simpa using h⟩

theorem repL_drop_take {w : World} {ν : Env} {cs : List PV} {us : List Value} (h : repL w ν cs us) (off sz : Nat) : repL w ν ((cs.drop off).take sz) ((us.drop off).take sz) := repL_take sz (repL_drop off h)

theorem own_form {w : World} {base el sz n : Nat} {v : Value} {us : List Value} (h : w.ownsRow base el sz v n us) {b : Nat} (hb : v.ownBlock = some b) : ∃ cap, v = .slice (some ⟨b, 0, none⟩) n cap := by
  rcases h.2 with ⟨rfl, _⟩ | ⟨g, cap, cur, rfl, _⟩
  · simp [Value.ownBlock] at hb
  · simp [Value.ownBlock] at hb; subst hb; exact ⟨cap, rfl⟩
/-- An element of a row that no one else knows: its value, and its cells behind a pointer. -/
theorem Good.rowElem {pr : Nat → Prop} {w : World} {ν : Env} {b : List (Key × List PV)} {e : List (Key × Own)} (hg : Good pr w ν b e) {k : Key} {n el sz : Nat} {xs : List PV} (hk : look k e = some ⟨n, el, sz, some xs⟩) {i f : Nat} {u : Value} (hx : rep w ν (.rptr sz k n i f) u) {p : PV} (hp : xs[i]? = some p) :
    ∃ (v : Value) (us : List Value) (el' : Nat), rep w ν p v ∧ v.cells.size = sz ∧ ∃ b o, u = .pointer (some ⟨b, o, none⟩) ∧ ∀ j c, v.cells.toList[f + j]? = some c → w.cell? ⟨b, o + j, none⟩ = some c := by
  simp only [rep] at hx
  obtain ⟨_, hi, n', u', h1, h2, h3⟩ := hx
  obtain ⟨v, us, q1, q2, q3, q4⟩ := hg.own k _ hk
  rw [h1] at q1
  simp only [Option.some.injEq, Prod.mk.injEq] at q1
  obtain ⟨rfl, rfl⟩ := q1
  obtain ⟨bl, hb, rfl⟩ := h3 rfl
  obtain ⟨cap, rfl⟩ := own_form q2 hb
  obtain ⟨hl, hrep, _⟩ := q4 xs rfl
  simp only at hl hrep
  obtain ⟨v, r1, r2, r3⟩ := repC_get i hrep hp
  refine ⟨v, us, el, r1, r2, bl, _, rfl, fun j c hj => ?_⟩
  have hlt : f + j < sz := by
    have := (List.getElem?_eq_some_iff.1 hj).1
    simp [r2] at this; exact this
  have hmul : i * sz + sz ≤ n' * sz := by
    have := Nat.mul_le_mul_right sz (show i + 1 ≤ n' from hi)
    rwa [Nat.succ_mul] at this
  have hc := q2.cellAt (i * sz + f + j) (by show _ < n' * sz; omega)
  rw [hc]
  rw [r3, List.getElem?_take, if_pos hlt, List.getElem?_drop] at hj
  rw [← hj]; congr 1; omega

theorem loadV_sound {P : Program} {tys : List (Nat × TF)} (ht : tysOk P tys = true) {pr : Nat → Prop} {w : World} {ν : Env} {b : List (Key × List PV)} {e : List (Key × Own)} (hg : Good pr w ν b e) {t : Nat} {f : TF} (hf : tf tys t = some f)
    {x : PV} {u : Value} (hx : rep w ν x u) {c : Prop} {p : PV} (he : loadV b e f.kind.isAgg f.size x = some (c, p)) (hc : c) : ∃ v, (Instr.loadAt t u).run P w = .ok v w ∧ rep w ν p v := by
  obtain ⟨ha, hs⟩ := tf_load ht hf w
  generalize hag : f.kind.isAgg = ag at *
  generalize hsz : f.size = sz at *
  unfold loadV at he
  split at he
  · rename_i sz' k n i fo
    unfold rowGet at he
    split at he
    · rename_i n' el sz'' xs hk
      split at he
      · rename_i hn
        obtain ⟨rfl, rfl⟩ := hn
        split at he
        · rename_i p0 hp0
          obtain ⟨vr, us, el', g1, g2, hcell⟩ := Good.rowElem hg hk hx hp0
          have hsol : solid p0 = true := by
            cases ag
            · simp only [Bool.false_eq_true, if_false, Option.map_eq_some_iff] at he
              obtain ⟨q, _, he⟩ := he
              cases he; exact hc
            · simp only [if_true] at he
              cases he; exact hc.1
          have hcs := rep_cells g1 hsol
          cases ag
          · simp only [Bool.false_eq_true, if_false, Option.map_eq_some_iff] at he
            obtain ⟨q, hq, he⟩ := he
            cases he
            obtain ⟨v, f1, f2, f3⟩ := repL_get fo hcs hq
            refine ⟨v, ?_, f2⟩
            obtain ⟨b, o, rfl, hcell⟩ := hcell
            have := hcell 0 v (by simpa using f1)
            simp only [Nat.add_zero] at this
            simp [Instr.loadAt, Instr.sureAddr, loadVar, ha, this]
          · simp only [if_true] at he
            cases he
            obtain ⟨b, o, rfl, hcell⟩ := hcell
            refine ⟨.agg ((vr.cells.toList.drop fo).take sz).toArray, ?_, by simp only [rep]; exact ⟨_, rfl, by simpa using repL_drop_take hcs fo sz⟩⟩
            have hl := repL_length hcs
            have hlen : ((vr.cells.toList.drop fo).take sz).length = sz := by simp only [List.length_take, List.length_drop]; omega
            have hrun := run_loadCells_list (P := P) w ⟨b, o, none⟩ ((vr.cells.toList.drop fo).take sz) (fun j v hj => by
              rw [add_mk]
              refine hcell j v ?_
              rw [List.getElem?_take] at hj
              split at hj
              · simpa [List.getElem?_drop] using hj
              · cases hj)
            rw [hlen] at hrun
            simp only [Instr.loadAt, Instr.sureAddr, loadVar, Sem.run_bind, Sem.run_pure, Result.andThen_ok, ha, if_true, hs, hrun]
        · cases he
      · cases he
    · cases he
  · rename_i k off
    simp only [rep] at hx
    obtain ⟨bl, h1, rfl⟩ := hx
    split at he
    · rename_i cs hk
      obtain ⟨bl', us, el, g1, g2, g3, g4, g5⟩ := hg.box k cs hk
      rw [h1] at g1; cases g1
      have hpl : plainB cs = true := by
        cases ag
        · simp only [Bool.false_eq_true, if_false, Option.map_eq_some_iff] at he
          obtain ⟨q, hq, he⟩ := he
          cases he
          exact hc
        · simp only [if_true] at he
          cases he
          exact hc.1
      rw [plain_obj hpl] at g4
      rw [plain_repB hpl] at g5
      have hl := repL_length g5
      cases ag
      · simp only [Bool.false_eq_true, if_false, Option.map_eq_some_iff] at he
        obtain ⟨q, hq, he⟩ := he
        cases he
        obtain ⟨v, f1, f2, f3⟩ := repL_get off g5 hq
        refine ⟨v, ?_, f2⟩
        have hcell : w.cell? ⟨bl, off, none⟩ = some v := by simpa [World.cell?, g4] using f1
        simp [Instr.loadAt, Instr.sureAddr, loadVar, ha, hcell]
      · simp only [if_true] at he
        cases he
        replace hc := hc.2
        refine ⟨_, ?_, by simp only [rep]; exact ⟨_, rfl, by simpa using repL_drop_take g5 off sz⟩⟩
        simp only [Instr.loadAt, Instr.sureAddr, loadVar, Sem.run_bind, Sem.run_pure, Result.andThen_ok, ha, if_true, hs]
        rw [run_load_block g4 (by simp at hl; omega)]
        rfl
    · cases he
  · rename_i q
    simp only [rep] at hx
    obtain ⟨bl, off, u', rfl, h2, h3⟩ := hx
    cases ag
    · simp only [Bool.false_eq_true, if_false] at he
      cases he
      obtain ⟨hc1, hc2⟩ := hc
      obtain ⟨g1, g2⟩ := rep_one h2 hc1 (fun cs e => by subst e; have := congrArg List.length hc2; simp only [cells, List.length_cons, List.length_nil] at this; cases cs with
        | nil => simp [cells] at hc2
        | cons y ys => simp only [cells, List.cons.injEq] at hc2; obtain ⟨e1, e2⟩ := hc2; subst e2; have := congrArg SizeOf.sizeOf e1; simp at this; omega)
      refine ⟨u', ?_, h2⟩
      rw [g2] at h3
      have hcell := h3.1.2
      simp [Instr.loadAt, Instr.sureAddr, loadVar, ha, hcell]
    · simp only [if_true] at he
      cases he
      obtain ⟨cs, rfl, hlen⟩ := hc
      simp only [rep] at h2
      obtain ⟨us, rfl, h4⟩ := h2
      refine ⟨.agg us, ?_, by simp only [rep]; exact ⟨us, rfl, h4⟩⟩
      simp only [Value.cells] at h3
      have hl := repL_length h4
      have := run_load_laid (P := P) h3
      rw [show us.toList.length = sz from by omega] at this
      simp [Instr.loadAt, Instr.sureAddr, loadVar, ha, hs, this]
  · cases he

theorem faddrV_sound {P : Program} {tys : List (Nat × TF)} (ht : tysOk P tys = true) {w : World} {ν : Env} {s i : Nat} {f : TF} {fs : List (Nat × Nat)} (hf : tf tys s = some f) (hk : f.kind = .struct fs) {off t : Nat} {g : TF} (hi : fs[i]? = some (off, t)) (hg : tf tys t = some g) (h0 : g.size ≠ 0)
    {x : PV} {u : Value} (hx : rep w ν x u) {c : Prop} {p : PV} (he : faddrV off g.kind.isAgg g.size x = some (c, p)) (hc : c) : ∃ v, (Instr.fieldAt s u i).run P w = .ok v w ∧ rep w ν p v := by
  obtain ⟨d, hd, hdk⟩ := tf_und ht hf
  rw [hk] at hdk
  obtain ⟨gs, rfl, hgs⟩ := dOk_struct hdk
  have hgi : ∃ fd : Field, gs[i]? = some fd ∧ fd.offset = off ∧ fd.type = t := by
    rw [← hgs] at hi
    simp only [List.getElem?_map, Option.map_eq_some_iff] at hi
    obtain ⟨fd, h1, h2⟩ := hi
    simp only [Prod.mk.injEq] at h2
    exact ⟨fd, by simpa using h1, h2.1, h2.2⟩
  obtain ⟨fd, hfd, ho, hty⟩ := hgi
  obtain ⟨ha, hs⟩ := tf_load ht hg w
  have hrun : ∀ b o, (Instr.fieldAt s (.pointer (some ⟨b, o, none⟩)) i).run P w = .ok (.pointer (some ⟨b, o + off, none⟩)) w := by
    intro b o
    simp [Instr.fieldAt, run_underlying hd, hfd, Instr.sureAddr, fieldPlace, hty, hs, h0, add_mk, ho]
  unfold faddrV at he
  split at he
  · cases he
    simp only [rep] at hx
    obtain ⟨b, h1, rfl⟩ := hx
    exact ⟨_, hrun _ _, by simp only [rep]; exact ⟨b, h1, rfl⟩⟩
  · cases he
    simp only [rep] at hx
    obtain ⟨⟨b, o, rfl⟩, hi, n', u', h1, h2, h3⟩ := hx
    refine ⟨_, hrun _ _, ?_⟩
    simp only [rep]
    refine ⟨⟨b, _, rfl⟩, hi, n', u', h1, h2, fun e => ?_⟩
    obtain ⟨b', e1, e2⟩ := h3 e
    simp only [Value.pointer.injEq, Option.some.injEq, Addr.mk.injEq, and_true] at e2
    obtain ⟨rfl, rfl⟩ := e2
    exact ⟨b, e1, by rw [Nat.add_assoc]⟩
  · rename_i cs
    simp only [rep] at hx
    obtain ⟨b, o, u', rfl, ⟨us, rfl, h2⟩, h3⟩ := hx
    refine ⟨_, hrun _ _, ?_⟩
    simp only [Value.cells] at h3
    split at he
    · cases he
      simp only [rep]
      exact ⟨b, o + off, .agg ((us.toList.drop off).take g.size).toArray, rfl, ⟨_, rfl, by simpa using repL_drop_take h2 off g.size⟩, by simpa [Value.cells] using laid_take g.size (laid_drop off h3)⟩
    · simp only [Option.map_eq_some_iff] at he
      obtain ⟨q, hq, he⟩ := he
      cases he
      obtain ⟨v, f1, f2, f3⟩ := repL_get off h2 hq
      simp only [rep]
      have hlg := laid_get h3 f1
      have hvc : v.cells = #[v] := by cases v <;> first | rfl | cases f3
      exact ⟨b, o + off, v, rfl, f2, by rw [hvc]; exact ⟨hlg, trivial⟩⟩
  · cases he

theorem fldV_sound {P : Program} {tys : List (Nat × TF)} (ht : tysOk P tys = true) {w : World} {ν : Env} {s i : Nat} {f : TF} {fs : List (Nat × Nat)} (hf : tf tys s = some f) (hk : f.kind = .struct fs) {off t : Nat} {g : TF} (hi : fs[i]? = some (off, t)) (hg : tf tys t = some g)
    {x : PV} {u : Value} (hx : rep w ν x u) {c : Prop} {p : PV} (he : fldV off g.kind.isAgg g.size x = some (c, p)) (hc : c) : ∃ v, (Instr.field s u i).run P w = .ok v w ∧ rep w ν p v := by
  obtain ⟨d, hd, hdk⟩ := tf_und ht hf
  rw [hk] at hdk
  obtain ⟨gs, rfl, hgs⟩ := dOk_struct hdk
  have hgi : ∃ fd : Field, gs[i]? = some fd ∧ fd.offset = off ∧ fd.type = t := by
    rw [← hgs] at hi
    simp only [List.getElem?_map, Option.map_eq_some_iff] at hi
    obtain ⟨fd, h1, h2⟩ := hi
    simp only [Prod.mk.injEq] at h2
    exact ⟨fd, by simpa using h1, h2.1, h2.2⟩
  obtain ⟨fd, hfd, ho, hty⟩ := hgi
  obtain ⟨ha, hs⟩ := tf_load ht hg w
  unfold fldV at he
  split at he
  · rename_i cs
    simp only [rep] at hx
    obtain ⟨us, rfl, h2⟩ := hx
    generalize hag : g.kind.isAgg = ag at *
    cases ag
    · simp only [Bool.false_eq_true, if_false, Option.map_eq_some_iff] at he
      obtain ⟨q, hq, he⟩ := he
      cases he
      obtain ⟨v, f1, f2, f3⟩ := repL_get off h2 hq
      have f1' : us[off]? = some v := by simpa using f1
      exact ⟨v, by simp [Instr.field, run_underlying hd, hfd, asAgg, part, hty, ha, ho, f1'], f2⟩
    · simp only [if_true] at he
      cases he
      refine ⟨.agg (us.extract off (off + g.size)), by simp [Instr.field, run_underlying hd, hfd, asAgg, part, hty, ha, ho, hs], ?_⟩
      simp only [rep]
      refine ⟨_, rfl, ?_⟩
      have := repL_drop_take h2 off g.size
      simpa [List.take_drop] using this
  · cases he

theorem iaddrV_sound {P : Program} {tys : List (Nat × TF)} (ht : tysOk P tys = true) {w : World} {ν : Env} {t e : Nat} {f g : TF} (hf : tf tys t = some f) (hk : f.kind = .slice e) (hg : tf tys e = some g)
    {x y : PV} {u v : Value} (hx : rep w ν x u) (hy : rep w ν y v) {c : Prop} {p : PV} (he : iaddrV g.size x y = some (c, p)) (hc : c) : ∃ r, (Instr.indexAt t u v).run P w = .ok r w ∧ rep w ν p r := by
  obtain ⟨d, hd, hdk⟩ := tf_und ht hf
  rw [hk] at hdk
  obtain rfl := dOk_slice hdk
  obtain ⟨ha, hs⟩ := tf_load ht hg w
  unfold iaddrV at he
  split at he
  · rename_i sz' tag xs k i
    split at he
    · rename_i hsz
      cases he
      simp only [rep] at hx hy
      subst hy
      subst hsz
      obtain ⟨⟨a, cap, rfl, h1, h2, h3⟩, _⟩ := hx
      obtain ⟨hi0, hi1⟩ := hc
      have hin : i.toNat < xs.length := by omega
      rcases h3 with rfl | ⟨b, off, us, rfl, h4, h5⟩
      · simp at hin
      · have hx : xs[i.toNat]? = some xs[i.toNat] := List.getElem?_eq_getElem hin
        obtain ⟨w', r1, r2, r3⟩ := repC_get i.toNat h5 hx
        refine ⟨.pointer (some ⟨b, off + i.toNat * g.size, none⟩), ?_, ?_⟩
        · simp only [Instr.indexAt, asIntOf, Sem.run_bind, Sem.run_pure, Result.andThen_ok, run_underlying hd, hi0, hi1, and_self, if_true, hs, add_mk]
        · simp only [rep]
          refine ⟨b, off + i.toNat * g.size, w', rfl, by simpa [List.getD, hx] using r1, ?_⟩
          rw [r3]
          exact laid_take g.size (laid_drop _ h4)
    · cases he
  · rename_i sz' k n kk i
    split at he
    · rename_i hsz
      cases he
      simp only [rep] at hx hy
      subst hy
      subst hsz
      obtain ⟨⟨b, cap, rfl⟩, h2, n', u', h3, h4, h5⟩ := hx
      obtain ⟨hi0, hi1⟩ := hc
      refine ⟨.pointer (some ⟨b, 0 + i.toNat * g.size, none⟩), ?_, ?_⟩
      · simp only [Instr.indexAt, asIntOf, Sem.run_bind, Sem.run_pure, Result.andThen_ok, run_underlying hd, hi0, hi1, and_self, if_true, hs, add_mk]
      · simp only [rep]
        refine ⟨⟨b, _, rfl⟩, by omega, n', u', h3, h4, fun e => ⟨b, ?_, by simp⟩⟩
        rw [← h5 e]; rfl
    · cases he
  · cases he

theorem optI_real {C : Ctx} {st : St} {a : Act} {w : World} {ν : Env} (h : Rel C st a w ν) {x : Option Opd} {o : Option Operand} (hx : optOk x o = true) {dflt n : Int} (he : optI dflt (x.map (evalO st.t)) = some n) :
    (o.map a.eval = none ∧ n = dflt) ∨ ∃ k, o.map a.eval = some (.int k n) := by
  cases x with
  | none => cases o with
    | none => simp [optI] at he; exact .inl ⟨rfl, he.symm⟩
    | some o => simp [optOk] at hx
  | some x => cases o with
    | none => simp [optOk] at hx
    | some o =>
      simp only [optOk] at hx
      have := opOk_rep h hx
      simp only [Option.map_some] at he ⊢
      cases hev : evalO st.t x <;> simp [hev, optI] at he
      rw [hev] at this
      simp only [rep] at this
      subst he
      exact .inr ⟨_, by rw [this]⟩

end Go.Pv
