/- Code and functions. -/
import Derived.Test.YtchidkafcdmciaaGreatPvY
import Derived.Deep.LoopGhost
set_option linter.all false
namespace Go.Pv
open Go Go.RowKit

/-- What every reading gives: strings and slices are not too long. -/
def bndL : List PV → Prop
  | [] => True
  | p :: ps => (match p with | .slice _ _ xs => xs.length ≤ lim | .str s => s.length ≤ lim | _ => True) ∧ bndL ps
def bndV : PV → Prop
  | .slice _ _ xs => xs.length ≤ lim
  | .str s => s.length ≤ lim
  | .agg cs => bndL cs
  | _ => True
def bndT : List (Nat × PV) → Prop
  | [] => True
  | (_, p) :: r => bndV p ∧ bndT r
def bndB : List (Key × List PV) → Prop
  | [] => True
  | (_, cs) :: r => bndL cs ∧ bndB r
def bndA : List PV → Prop
  | [] => True
  | p :: r => bndV p ∧ bndA r

theorem repL_bnd {w : World} {ν : Env} : ∀ {cs : List PV} {us : List Value}, repL w ν cs us → bndL cs
  | [], _, _ => trivial
  | c :: cs, us, h => by
    simp only [repL] at h
    obtain ⟨u, us', _, h1, h2⟩ := h
    refine ⟨?_, repL_bnd h2⟩
    cases c <;> simp only <;> have h3 := h1.1 <;> simp only [rep] at h3
    · exact h3.2
    · obtain ⟨⟨a, cap, _, _, h4, _⟩, _⟩ := h3; exact h4.2
theorem repB_bnd {w : World} {ν : Env} {cs : List PV} {us : List Value} (h : repB w ν cs us) : plainB cs = true → bndL cs := fun hp => by
  rw [plain_repB hp] at h; exact repL_bnd h
theorem rep_bnd {w : World} {ν : Env} {p : PV} {v : Value} (h : rep w ν p v) : bndV p := by
  cases p <;> simp only [bndV] <;> simp only [rep] at h
  · exact h.2
  · obtain ⟨⟨a, cap, _, _, h4, _⟩, _⟩ := h; exact h4.2
  · obtain ⟨us, _, h2⟩ := h; exact repL_bnd h2
theorem repT_bnd {w : World} {ν : Env} : ∀ {cs : List PV} {us : List Value}, repT w ν cs us → bndA cs
  | [], _, _ => trivial
  | c :: cs, us, h => by
    simp only [repT] at h
    obtain ⟨u, us', _, h1, h2⟩ := h
    exact ⟨rep_bnd h1, repT_bnd h2⟩

inductive C where
  | skip
  | region (gs : List GI)
  | drawn (q : Bool) (N : Nat) (gs : List GI)
  | drawnW (nw : List Nat) (N : Nat) (gs : List GI)
  | seq (a b : C)
  | cond (x : Opd) (t e : C)
  | block (id : Nat) (c : C)
  | loop (c : C)
  | exit (id : Nat)
  | ret
  | pub (s : Nat) (c : C)
  | pubB (s : Nat) (c : C)
  | no

/-- From here on the row in a slot is known. -/
def pubRow (st : St) : PV → Option (PV × List (Key × Own))
  | .row sz k n => match look k st.e with
    | some ⟨n', el, sz', some xs⟩ => if n' = n ∧ sz' = sz then some (.slice sz (.own k) xs, upd k ⟨n, el, sz, none⟩ st.e) else none
    | _ => none
  | _ => none
def pubS (st : St) (s : Nat) : Option St :=
  match pubRow st (get s st.t) with
  | some (p, e) => some { st with t := put s p st.t, e := e }
  | none => none
/-- The same of the row in a variable behind a slot. -/
def pubBox (st : St) (s : Nat) : Option St :=
  match get s st.t with
  | .ptr k off => match look k st.b with
    | some cs => match cs[off]? with
      | some p => match pubRow st p with
        | some (p', e) => if plainB cs then some { st with b := upd k (cs.set off p') st.b, e := e } else none
        | none => none
      | none => none
    | none => none
  | _ => none

theorem relRefine {C : Ctx} {st : St} {a : Act} {w : World} {ν : Env} (h : Rel C st a w ν) {s : Nat} {p : PV} (hs : rep w ν p (a.tmps.getD s undef)) : Rel C { st with t := put s p st.t } a w ν := by
  refine ⟨h.good, h.fr, h.defers, h.size, fun i => ?_, h.new⟩
  have := h.slot i
  simp only [get_put]
  split
  · rename_i e; subst e; exact hs
  · exact this
theorem pubRow_sound {C : Ctx} {st : St} {a : Act} {w : World} {ν : Env} (h : Rel C st a w ν) {p p' : PV} {e : List (Key × Own)} {v : Value} (hp : rep w ν p v) (he : pubRow st p = some (p', e)) :
    ∃ ν', Rel C { st with e := e } a w ν' ∧ rep w ν' p' v ∧ Over w ν w ν' := by
  unfold pubRow at he
  split at he
  · rename_i sz k n
    split at he
    · rename_i n' el sz' xs hk
      split at he
      · rename_i hc
        obtain ⟨rfl, rfl⟩ := hc
        cases he
        simp only [rep] at hp
        obtain ⟨_, hl, n0, u, h1, h2, h3⟩ := hp
        obtain ⟨v0, us0, q1, q2, q3, q4⟩ := h.good.own k _ hk
        rw [h1] at q1
        simp only [Option.some.injEq, Prod.mk.injEq] at q1
        obtain ⟨rfl, rfl⟩ := q1
        have hv : v = u := h3 rfl
        subst hv
        obtain ⟨q5, _, _⟩ := q4 xs rfl
        simp only at q5
        obtain ⟨g1, g2⟩ := h.publish hk rfl h1 (by rw [q5]; exact hl)
        refine ⟨_, g1, g2, ⟨fun b o hA => ⟨.inl hA, rfl⟩, fun j b _ hj => hj, fun g n u _ hgu => ⟨n, u, ?_, .inl ⟨rfl, rfl⟩⟩⟩⟩
        simp only [Env.withRowOf]
        split
        · rename_i e; subst e; rw [h1] at hgu; exact hgu
        · exact hgu
      · cases he
    · cases he
  · cases he
theorem pubS_sound {C : Ctx} {st st' : St} {a : Act} {w : World} {ν : Env} (h : Rel C st a w ν) {s : Nat} (he : pubS st s = some st') : ∃ ν', Rel C st' a w ν' := by
  unfold pubS at he
  split at he
  · rename_i p e hp
    cases he
    obtain ⟨ν', h1, h2, _⟩ := pubRow_sound h (h.slot s) hp
    exact ⟨_, relRefine h1 h2⟩
  · cases he
theorem repL_set {w : World} {ν : Env} : ∀ {cs : List PV} {us : List Value} {i : Nat} {p q : PV} {v : Value}, repL w ν cs us → cs[i]? = some p → us[i]? = some v → rep w ν q v → repL w ν (cs.set i q) us
  | [], _, _, _, _, _, _, h, _, _ => by simp at h
  | c :: cs, us, 0, p, q, v, h, _, hv, hq => by
    simp only [repL] at h
    obtain ⟨u, us', rfl, h1, h2⟩ := h
    simp only [List.getElem?_cons_zero, Option.some.injEq] at hv
    subst hv
    simp only [List.set_cons_zero, repL]
    exact ⟨_, _, rfl, ⟨hq, h1.2⟩, h2⟩
  | c :: cs, us, i + 1, p, q, v, h, hp, hv, hq => by
    simp only [repL] at h
    obtain ⟨u, us', rfl, h1, h2⟩ := h
    simp only [List.set_cons_succ, repL]
    exact ⟨_, _, rfl, h1, repL_set h2 (by simpa using hp) (by simpa using hv) hq⟩
theorem pubBox_sound {C : Ctx} {st st' : St} {a : Act} {w : World} {ν : Env} (h : Rel C st a w ν) {s : Nat} (he : pubBox st s = some st') : ∃ ν', Rel C st' a w ν' := by
  unfold pubBox at he
  split at he
  · rename_i k off hk
    split at he
    · rename_i cs hcs
      split at he
      · rename_i p hp
        split at he
        · rename_i p' e hpp
          split at he
          · rename_i hpl
            cases he
            obtain ⟨bl, us, el, g1, g2, g3, g4, g5⟩ := h.good.box k cs hcs
            rw [plain_repB hpl] at g5
            have hlt : off < us.toList.length := by rw [repL_length g5]; exact (List.getElem?_eq_some_iff.1 hp).1
            obtain ⟨v, hv⟩ : ∃ v, us.toList[off]? = some v := ⟨_, List.getElem?_eq_getElem hlt⟩
            have hrp : rep w ν p v := by
              have := repL_drop off g5
              rw [List.drop_eq_getElem_cons (List.getElem?_eq_some_iff.1 hp).1, List.drop_eq_getElem_cons hlt] at this
              simp only [repL] at this
              obtain ⟨u, us', e1, e2, _⟩ := this
              rw [(List.getElem?_eq_some_iff.1 hp).2] at e2
              rw [(List.getElem?_eq_some_iff.1 hv).2] at e1
              cases e1
              exact e2.1
            obtain ⟨ν', h1, h2, h3⟩ := pubRow_sound h hrp hpp
            have hset : repL w ν' (cs.set off p') us.toList := repL_set (repL_over h3 g5) hp hv h2
            have hpl' := repL_plain hset
            refine ⟨ν', ⟨h1.good.alt, fun j ds hj => ?_, fun j j' b hj hj' => h1.good.inj j j' b ?_ ?_, h1.good.own, h1.good.oinj, fun g j n v b hg hj => h1.good.obx g j n v b hg ?_, h1.good.one⟩, h1.fr, h1.defers, h1.size, h1.slot, h1.new⟩
            · simp only at hj
              rw [look_upd] at hj
              split at hj
              · rename_i e; subst e
                cases hj
                obtain ⟨bl', us', el', f1, f2, f3, f4, f5⟩ := h1.good.box k cs hcs
                have : bl' = bl := by have := h3.bx k bl trivial g1; rw [this] at f1; cases f1; rfl
                subst this
                rw [plain_obj hpl] at g4 f4
                rw [g4] at f4
                injection f4 with f4; injection f4 with f4 f6 f7
                refine ⟨bl', us, el, f1, f2, f3, by rw [plain_obj hpl']; exact g4, by rw [plain_repB hpl']; exact hset⟩
              · exact h1.good.box j ds hj
            · simp only at hj; rw [look_upd] at hj; split at hj
              · rename_i e; subst e; simp [hcs]
              · exact hj
            · simp only at hj'; rw [look_upd] at hj'; split at hj'
              · rename_i e; subst e; simp [hcs]
              · exact hj'
            · simp only at hj; rw [look_upd] at hj; split at hj
              · rename_i e; subst e; simp [hcs]
              · exact hj
          · cases he
        · cases he
      · cases he
    · cases he
  · cases he

def refineO (st : St) (x : Opd) (b : Bool) : St := match x with
  | .t i => { st with t := put i (.bool b) st.t }
  | .c _ => st

def evC (P : Program) (ob : List Key) : C → (Exit → St → Prop) → St → Prop
  | .skip, Q, st => Q .normal st
  | .region gs, Q, st => evG P gs st (Q .normal)
  | .drawn q N gs, Q, st => evD P q [] st.n gs st (DEnd (st.n + N) st.o (Q .normal))
  | .drawnW nw N gs, Q, st => (∀ j ∈ nw, .obj j ∉ st.o) ∧ evD P false nw st.n gs st (DEnd (st.n + N) (nw.map Key.obj ++ st.o) (Q .normal))
  | .seq a b, Q, st => evC P ob a (fun e st' => match e with | .normal => evC P ob b Q st' | e => Q e st') st
  | .cond x t e, Q, st => match evalO st.t x with
    | .bool b => (b = true → evC P ob t Q (refineO st x true)) ∧ (b = false → evC P ob e Q (refineO st x false))
    | _ => False
  | .block id c, Q, st => evC P ob c (fun e st' => match e with | .exit j => if j = id then Q .normal st' else Q (.exit j) st' | e => Q e st') st
  | .loop c, Q, st => ∃ (I : Nat → St → Prop) (m : Nat) (st0 : St), Weaker ob st st0 ∧ I m st0 ∧
      ∀ k s, I k s → (∀ i, bndV (get i s.t)) → (∀ j cs, look j s.b = some cs → plainB cs = true → bndL cs) → evC P ob c (fun e s' => match e with | .normal => ∃ k' s'', k' < k ∧ Weaker ob s' s'' ∧ I k' s'' | e => Q e s') s
  | .exit id, Q, st => Q (.exit id) st
  | .ret, Q, st => Q .ret st
  | .pub s c, Q, st => match pubS st s with
    | some st' => evC P ob c Q st'
    | none => False
  | .pubB s c, Q, st => match pubBox st s with
    | some st' => evC P ob c Q st'
    | none => False
  | .no, _, _ => False

def cOkC (N : Nat) (tys : List (Nat × TF)) : C → Code → Bool
  | .skip, .skip => true
  | .region gs, .region _ ops false => gsOk N tys ops.toList gs ops.toList
  | .drawn _ N' gs, .region _ ops true => N' == N && gsOk N tys ops.toList gs ops.toList && anyOk gs ops.toList && dstsOk N gs
  | .drawnW _ N' gs, .region _ ops true => N' == N && gsOk N tys ops.toList gs ops.toList && anyOk gs ops.toList && dstsOk N gs
  | .seq a b, .seq x y => cOkC N tys a x && cOkC N tys b y
  | .cond x t e, .cond o t' e' => opOk x o && cOkC N tys t t' && cOkC N tys e e'
  | .block id c, .block id' c' => id == id' && cOkC N tys c c'
  | .loop c, .loop c' => cOkC N tys c c'
  | .exit id, .exit id' => id == id'
  | .ret, .ret => true
  | .pub _ c, c' => cOkC N tys c c'
  | .pubB _ c, c' => cOkC N tys c c'
  | .no, _ => true
  | _, _ => false

theorem gsOk_length {N : Nat} {tys : List (Nat × TF)} {ops : List Oper} : ∀ {gs : List GI} {os : List Oper}, gsOk N tys ops gs os = true → gs.length = os.length
  | [], [], _ => rfl
  | [], _ :: _, h => by simp [gsOk] at h
  | _ :: _, [], h => by simp [gsOk] at h
  | g :: gs, o :: os, h => by
    simp only [gsOk, Bool.and_eq_true] at h
    simp [gsOk_length h.2]

/-- The state's description of code. -/
def EW (P : Program) (C : Ctx) (c : Code) (Q : Exit → St → Prop) (st : St) : Prop := ∀ a w ν, Rel C st a w ν → c.wp P (fun e a' w' => ∃ st' ν', Q e st' ∧ Rel C st' a' w' ν') a w

theorem evC_sound {P : Program} (hm : P.follows .mixedOrders = true) {tys : List (Nat × TF)} (ht : tysOk P tys = true) {X : Ctx} : ∀ (c : C) (code : Code) (Q : Exit → St → Prop) (st : St), cOkC X.N tys c code = true → evC P X.ob c Q st → EW P X code Q st
  | .skip, code, Q, st, ho, he => by
    cases code <;> simp only [cOkC] at ho <;> try cases ho
    intro a w ν hr
    exact wp_skip ⟨st, ν, he, hr⟩
  | .region gs, code, Q, st, ho, he => by
    cases code <;> try (simp [cOkC] at ho; done)
    rename_i id ops draw
    cases draw <;> simp only [cOkC] at ho
    · intro a w ν hr
      refine wp_region ?_
      have hl : gs.length = ops.size := by simpa using gsOk_length ho
      rw [List.range_eq_range', ← hl]
      exact evG_sound ht (K := Q .normal) (fun st' a' w' ν' h1 h2 => ⟨st', ν', h1, h2⟩) gs ops.toList 0 (by simp) ho st a w ν he hr
    · cases ho
  | .drawn q N gs, code, Q, st, ho, he => by
    cases code <;> try (simp [cOkC] at ho; done)
    rename_i id ops draw
    cases draw <;> simp only [cOkC] at ho
    · cases ho
    · simp only [Bool.and_eq_true, beq_iff_eq] at ho
      obtain ⟨⟨⟨rfl, h1⟩, h2⟩, h3⟩ := ho
      intro a w ν hr
      exact evD_sound hm ht h1 h2 h3 (nw := []) (K := Q .normal) (fun st' a' w' ν' h1 h2 => ⟨st', ν', h1, h2⟩) (by simp) he hr
  | .drawnW nw N gs, code, Q, st, ho, he => by
    cases code <;> try (simp [cOkC] at ho; done)
    rename_i id ops draw
    cases draw <;> simp only [cOkC] at ho
    · cases ho
    · simp only [Bool.and_eq_true, beq_iff_eq] at ho
      obtain ⟨⟨⟨rfl, h1⟩, h2⟩, h3⟩ := ho
      intro a w ν hr
      exact evD_sound hm ht h1 h2 h3 (nw := nw) (K := Q .normal) (fun st' a' w' ν' h1 h2 => ⟨st', ν', h1, h2⟩) he.1 he.2 hr
  | .seq x y, code, Q, st, ho, he => by
    cases code <;> try (simp [cOkC] at ho; done)
    rename_i cx cy
    simp only [cOkC, Bool.and_eq_true] at ho
    intro a w ν hr
    refine wp_seq ?_
    have h1 := evC_sound hm ht x cx _ st ho.1 he a w ν hr
    refine wp_mono h1 fun e a' w' hh => ?_
    obtain ⟨st', ν', hq, hr'⟩ := hh
    cases e with
    | normal => exact evC_sound hm ht y cy Q st' ho.2 hq a' w' ν' hr'
    | _ => exact ⟨st', ν', hq, hr'⟩
  | .cond x t e, code, Q, st, ho, he => by
    cases code <;> try (simp [cOkC] at ho; done)
    rename_i o ct ce
    simp only [cOkC, Bool.and_eq_true] at ho
    intro a w ν hr
    simp only [evC] at he
    have hx := opOk_rep hr ho.1.1
    split at he
    · rename_i b hb
      rw [hb] at hx
      simp only [rep] at hx
      have hrr : Rel X (refineO st x b) a w ν := by
        unfold refineO
        split
        · exact refineSlot hr (by simpa [evalO] using hb)
        · exact hr
      refine wp_cond hx ?_
      cases b
      · exact evC_sound hm ht e ce Q _ ho.2 (he.2 rfl) a w ν hrr
      · exact evC_sound hm ht t ct Q _ ho.1.2 (he.1 rfl) a w ν hrr
    · exact he.elim
  | .block id c, code, Q, st, ho, he => by
    cases code <;> try (simp [cOkC] at ho; done)
    rename_i id' c'
    simp only [cOkC, Bool.and_eq_true, beq_iff_eq] at ho
    obtain ⟨rfl, ho⟩ := ho
    intro a w ν hr
    refine wp_block ?_
    refine wp_mono (evC_sound hm ht c c' _ st ho he a w ν hr) fun e a' w' hh => ?_
    obtain ⟨st', ν', hq, hr'⟩ := hh
    cases e with
    | exit j =>
      simp only [Exit.inBlock] at hq ⊢
      by_cases hj : j = id
      · rw [if_pos hj] at hq ⊢; exact ⟨st', ν', hq, hr'⟩
      · rw [if_neg hj] at hq ⊢; exact ⟨st', ν', hq, hr'⟩
    | _ => exact ⟨st', ν', hq, hr'⟩
  | .loop c, code, Q, st, ho, he => by
    cases code <;> try (simp [cOkC] at ho; done)
    rename_i c'
    simp only [cOkC] at ho
    intro a w ν hr
    simp only [evC] at he
    obtain ⟨I, m, st0, hw, hi, hstep⟩ := he
    refine wp_loop_ghost (fun k a w => ∃ s ν, I k s ∧ Rel X s a w ν) m ⟨st0, _, hi, hr.weaker hw⟩ ?_
    intro k a w hI
    obtain ⟨s, ν, hs, hrs⟩ := hI
    have h1 := hstep k s hs (fun i => rep_bnd (hrs.slot i)) (fun j cs hj => by obtain ⟨bl, us, el, _, _, _, _, g5⟩ := hrs.good.box j cs hj; exact repB_bnd g5)
    refine wp_mono (evC_sound hm ht c c' _ s ho h1 a w ν hrs) fun e a' w' hh => ?_
    obtain ⟨st', ν', hq, hr'⟩ := hh
    cases e with
    | normal =>
      obtain ⟨k', s'', e1, e2, e3⟩ := hq
      exact ⟨k', e1, s'', _, e3, hr'.weaker e2⟩
    | _ => exact ⟨st', ν', hq, hr'⟩
  | .exit id, code, Q, st, ho, he => by
    cases code <;> try (simp [cOkC] at ho; done)
    rename_i id'
    simp only [cOkC, beq_iff_eq] at ho
    subst ho
    intro a w ν hr
    exact wp_exit ⟨st, ν, he, hr⟩
  | .ret, code, Q, st, ho, he => by
    cases code <;> try (simp [cOkC] at ho; done)
    intro a w ν hr
    exact wp_ret ⟨st, ν, he, hr⟩
  | .pub s c, code, Q, st, ho, he => by
    simp only [cOkC] at ho
    simp only [evC] at he
    split at he
    · rename_i st' hs
      intro a w ν hr
      obtain ⟨ν', h1⟩ := pubS_sound hr hs
      exact evC_sound hm ht c code Q st' ho he a w ν' h1
    · exact he.elim
  | .pubB s c, code, Q, st, ho, he => by
    simp only [cOkC] at ho
    simp only [evC] at he
    split at he
    · rename_i st' hs
      intro a w ν hr
      obtain ⟨ν', h1⟩ := pubBox_sound hr hs
      exact evC_sound hm ht c code Q st' ho he a w ν' h1
    · exact he.elim
  | .no, code, Q, st, ho, he => by
    simp only [evC] at he

/-- Where a result lies: in a slot, or in a variable behind a slot. -/
inductive RV where
  | tmp (i : Nat)
  | cell (i : Nat) (agg : Bool) (sz : Nat)
def resV (st : St) : RV → Option (Prop × PV)
  | .tmp i => some (True, get i st.t)
  | .cell i agg sz => loadV st.b st.e agg sz (get i st.t)
def resL (st : St) : List RV → Option (Prop × List PV)
  | [] => some (True, [])
  | r :: rs => match resV st r, resL st rs with
    | some (c, p), some (c', ps) => some (c ∧ c', p :: ps)
    | _, _ => none
def resOk (tys : List (Nat × TF)) : List RV → List ResultVar → Bool
  | [], [] => true
  | .tmp i :: rs, .tmp j :: os => i == j && resOk tys rs os
  | .cell i agg sz :: rs, .cell j t :: os => i == j && (match tf tys t with | some f => f.size == sz && f.kind.isAgg == agg | none => false) && resOk tys rs os
  | _, _ => false
def tup : List PV → PV
  | [p] => p
  | ps => .tuple ps

def rvRun (tmps : Array Value) : ResultVar → Sem Value
  | .tmp t => pure (tmps.getD t undef)
  | .cell x t => do loadVar t (← asAddr (tmps.getD x undef))
theorem results_eq (fn : Func) (tmps : Array Value) : results fn tmps = (do let vs ← fn.results.mapM (rvRun tmps); pure (if h : vs.size = 1 then vs[0] else .tuple vs)) := by
  unfold results
  congr 2
theorem resL_sound {P : Program} {tys : List (Nat × TF)} (ht : tysOk P tys = true) {X : Ctx} {st : St} {a : Act} {w : World} {ν : Env} (hr : Rel X st a w ν) :
    ∀ (rs : List RV) (os : List ResultVar) (c : Prop) (ps : List PV), resOk tys rs os = true → resL st rs = some (c, ps) → c →
    ∃ vs, (os.mapM (rvRun a.tmps)).run P w = .ok vs w ∧ repT w ν ps vs
  | [], [], c, ps, _, he, _ => by
    simp only [resL] at he; cases he
    exact ⟨[], by simp, by simp [repT]⟩
  | [], _ :: _, _, _, ho, _, _ => by simp [resOk] at ho
  | .tmp _ :: _, [], _, _, ho, _, _ => by simp [resOk] at ho
  | .cell _ _ _ :: _, [], _, _, ho, _, _ => by simp [resOk] at ho
  | r :: rs, o :: os, c, ps, ho, he, hc => by
    simp only [resL] at he
    split at he
    · rename_i c1 p c2 ps' h1 h2
      cases he
      cases r with
      | tmp i =>
        cases o with
        | cell _ _ => simp [resOk] at ho
        | tmp j =>
          simp only [resOk, Bool.and_eq_true, beq_iff_eq] at ho
          obtain ⟨rfl, ho⟩ := ho
          simp only [resV] at h1; cases h1
          obtain ⟨vs, g1, g2⟩ := resL_sound ht hr rs os c2 ps' ho h2 hc.2
          refine ⟨a.tmps.getD i undef :: vs, ?_, by simp only [repT]; exact ⟨_, _, rfl, hr.slot i, g2⟩⟩
          simp only [List.mapM_cons, Sem.run_bind, rvRun, Sem.run_pure, Result.andThen_ok, g1]
      | cell i agg sz =>
        cases o with
        | tmp _ => simp [resOk] at ho
        | cell j t =>
          simp only [resOk, Bool.and_eq_true, beq_iff_eq] at ho
          obtain ⟨⟨rfl, h3⟩, ho⟩ := ho
          split at h3
          · rename_i f hf
            simp only [Bool.and_eq_true, beq_iff_eq] at h3
            obtain ⟨rfl, rfl⟩ := h3
            simp only [resV] at h1
            obtain ⟨vs, g1, g2⟩ := resL_sound ht hr rs os c2 ps' ho h2 hc.2
            obtain ⟨v, f1, f2⟩ := loadV_sound ht hr.good hf (hr.slot i) h1 hc.1
            have hptr : ∃ ad, a.tmps.getD i undef = .pointer (some ad) := by
              have hs := hr.slot i
              unfold loadV at h1
              split at h1
              · rename_i sz' k n i' f' hk; rw [hk] at hs; simp only [rep] at hs; obtain ⟨⟨b, o, e⟩, _⟩ := hs; exact ⟨_, e⟩
              · rename_i k off hk; rw [hk] at hs; simp only [rep] at hs; obtain ⟨b, _, e⟩ := hs; exact ⟨_, e⟩
              · rename_i q hk; rw [hk] at hs; simp only [rep] at hs; obtain ⟨b, off, u, e, _⟩ := hs; exact ⟨_, e⟩
              · cases h1
            obtain ⟨ad, had⟩ := hptr
            rw [had] at f1
            simp only [Instr.loadAt, Instr.sureAddr, Sem.run_bind, Sem.run_pure, Result.andThen_ok] at f1
            refine ⟨v :: vs, ?_, by simp only [repT]; exact ⟨_, _, rfl, f2, g2⟩⟩
            have hasA : (asAddr (.pointer (some ad)) : Sem Addr).run P w = .ok ad w := rfl
            simp only [List.mapM_cons, Sem.run_bind, rvRun, Sem.run_pure, Result.andThen_ok, g1, had, hasA, f1]
          · cases h3
    · cases he

theorem repT_length {w : World} {ν : Env} : ∀ {ps : List PV} {vs : List Value}, repT w ν ps vs → vs.length = ps.length
  | [], vs, h => by simp only [repT] at h; subst h; rfl
  | p :: ps, vs, h => by
    simp only [repT] at h
    obtain ⟨u, us', rfl, _, h2⟩ := h
    simp [repT_length h2]

/-- The frame at the beginning of a call. -/
def slots : Nat → List PV → List (Nat × PV)
  | _, [] => []
  | i, p :: ps => (i, p) :: slots (i + 1) ps
theorem get_slots : ∀ (ps : List PV) (i j : Nat), get j (slots i ps) = if i ≤ j ∧ j < i + ps.length then ps.getD (j - i) .junk else .junk
  | [], i, j => by simp [slots, get]
  | p :: ps, i, j => by
    simp only [slots, get]
    by_cases h : i = j
    · subst h; simp
    · rw [if_neg h, get_slots ps (i + 1) j]
      by_cases h2 : i ≤ j ∧ j < i + (p :: ps).length
      · rw [if_pos h2, if_pos (by simp at h2 ⊢; omega)]
        have : j - i = (j - (i + 1)) + 1 := by omega
        rw [this]; simp
      · rw [if_neg h2, if_neg (by simp at h2 ⊢; omega)]

def keeps {α : Type} (s' : Obs) : List (Key × α) → Prop
  | [] => True
  | (k, _) :: r => inObs s' k ∧ keeps s' r
theorem keeps_of {α : Type} {s' : Obs} : ∀ {l : List (Key × α)}, keeps s' l → ∀ k, (look k l).isSome → inObs s' k
  | [], _, k, h => by simp [look] at h
  | (i, x) :: r, hk, k, h => by
    simp only [keeps] at hk
    simp only [look] at h
    split at h
    · rename_i e; subst e; exact hk.1
    · exact keeps_of hk.2 k h
/-- What the end of a function owes: the results, the objects that are handed back. -/
def RetQ (rs : List RV) (s : Obs) (Q : PV → Obs → Prop) (e : Exit) (st : St) : Prop :=
  (e = .ret ∨ e = .normal) ∧ match resL st rs with
    | some (c, ps) => c ∧ ∃ s', keeps s' s.b ∧ keeps s' s.e ∧ subB (inObs s') s'.b st.b ∧ subE (inObs s') s'.e st.e ∧ objOnly s' ∧ kin (inObs s') (strip (tup ps)) ∧ Q (strip (tup ps)) s'
    | none => False

set_option maxHeartbeats 1000000 in
/-- A function's contract out of the evaluation of its code. -/
theorem FnG.of {P : Program} (hm : P.follows .mixedOrders = true) {tys : List (Nat × TF)} (ht : tysOk P tys = true) {f : FuncId} {fn : Func} (hf : P.funcs[f]? = some fn) {code : Code} (hb : fn.body = some code) (hnm : (fn.name == "runtime.NumGoroutine") = false) {c : C} (hc : cOkC fn.ntmps tys c code = true) {rs : List RV} (hrs : resOk tys rs fn.results.toList = true)
    {args : List PV} (hl : args.length ≤ fn.ntmps) {s : Obs} (hso : objOnly s) {Q : PV → Obs → Prop} (he : bndA args → (∀ j cs, look j s.b = some cs → plainB cs = true → bndL cs) → evC P (obsIds s) c (RetQ rs s Q) ⟨slots 0 args, s.b, s.e, 0, obsIds s⟩) : FnG P f args s Q := by
  intro w ν vs hg hx hr
  refine .inl ⟨⟨fn, hf, by simp [hb], hnm⟩, ?_⟩
  have hvl := repT_length hr
  have hvs : vs.size = args.length := by simpa using hvl
  let X : Ctx := ⟨w, ν, blocksOf ν s, fn.ntmps, obsIds s⟩
  have hnone : ∀ k, fresh 0 (obsIds s) k → ν.bx k = none ∧ ν.ow k = none := by
    intro k hk
    cases k with
    | loc m => exact ⟨(hx _).1 (hso.1 m), (hx _).2 (hso.2 m)⟩
    | obj m =>
      simp only [fresh, true_and] at hk
      constructor
      · refine (hx _).1 ?_
        cases h : look (.obj m) s.b with
        | none => rfl
        | some x => exact absurd (obsIds_of (.inl (by simp [h]))) hk
      · refine (hx _).2 ?_
        cases h : look (.obj m) s.e with
        | none => rfl
        | some x => exact absurd (obsIds_of (.inr (by simp [h]))) hk
  have hin : ∀ m, (ν.bx (.obj m) ≠ none ∨ ν.ow (.obj m) ≠ none) → .obj m ∈ obsIds s := by
    intro m hm
    refine Classical.byContradiction fun hc => ?_
    obtain ⟨h1, h2⟩ := hnone (.obj m) ⟨trivial, hc⟩
    rcases hm with hm | hm
    · exact hm h1
    · exact hm h2
  have hrel : Rel X ⟨slots 0 args, s.b, s.e, 0, obsIds s⟩ { tmps := vs ++ Array.replicate (fn.ntmps - vs.size) undef, defers := [] } w ν := by
    refine ⟨⟨hg.alt, fun k cs hk => ?_, hg.inj, fun g o hgo => ?_, hg.oinj, hg.obx, hg.one⟩, ⟨rfl, rfl, rfl, Nat.le_refl _, fun _ _ _ => rfl, fun b o h => ⟨h, rfl⟩, fun b o h => .inl h, fun n b h => h, fun n b h => hin n (.inl (by rw [h]; simp)), fun m n u h => ⟨n, u, h, .inl ⟨rfl, rfl⟩⟩, fun m n u h => hin m (.inr (by rw [h]; simp))⟩, rfl, ?_, fun i => ?_, hnone⟩
    · obtain ⟨bl, us, el, g1, g2, g3⟩ := hg.box k cs hk
      exact ⟨bl, us, el, g1, .inl g2, g3⟩
    · obtain ⟨v, us, g1, g2, g3, g4⟩ := hg.own g o hgo
      exact ⟨v, us, g1, g2, fun bl hbl => ⟨.inl (g3 bl hbl).1, (g3 bl hbl).2⟩, g4⟩
    · show (vs ++ Array.replicate (fn.ntmps - vs.size) undef).size = fn.ntmps
      simp; omega
    · rw [get_slots]
      by_cases hi : i < args.length
      · rw [if_pos (by omega)]
        have hgi : args[i]? = some args[i] := List.getElem?_eq_getElem hi
        obtain ⟨v, e1, e2⟩ := repT_get i hr hgi
        have hv : (vs ++ Array.replicate (fn.ntmps - vs.size) undef).getD i undef = v := by
          have e1' : vs[i]? = some v := by simpa using e1
          rw [Array.getD_eq_getD_getElem?, Array.getElem?_append_left (by omega), e1']; rfl
        show rep w ν _ ((vs ++ Array.replicate (fn.ntmps - vs.size) undef).getD i undef)
        rw [hv]
        simpa [List.getD, hgi] using e2
      · rw [if_neg (by omega)]; simp [rep]
  have hev := he (repT_bnd hr) (fun j cs hj => by obtain ⟨bl, us, el, _, _, _, _, g5⟩ := hg.box j cs hj; exact repB_bnd g5)
  have hwp := evC_sound hm ht (X := X) c code (RetQ rs s Q) _ hc hev _ w ν hrel
  refine calls_of_wp hf hb (wp_mono hwp fun e a' w' hh => ?_)
  obtain ⟨st', ν', ⟨hee, hq⟩, hr'⟩ := hh
  cases hres : resL st' rs with
  | none => simp [hres] at hq
  | some x =>
    obtain ⟨c', ps⟩ := x
    simp only [hres] at hq
    obtain ⟨hc', s', kb, ke, q1, q2, q3, q4, q5⟩ := hq
    obtain ⟨rvs, g1, g2⟩ := resL_sound ht hr' rs fn.results.toList c' ps hrs hres hc'
    have hrl := repT_length g2
    have hfin : a'.defers = [] ∧ ∃ v, (results fn a'.tmps).run P w' = .ok v w' ∧ (fun (e : Ending) w' => ∃ v r s' ν', e = .returned v ∧ Q r s' ∧ rep w' ν' r v ∧ Good (fun bl => blocksOf ν s bl ∨ w.heap.size ≤ bl) w' ν' s'.b s'.e ∧ exactE ν' s' ∧ objOnly s' ∧ Fr ⟨w, ν, blocksOf ν s, 0, obsIds s⟩ w' ν') (.returned v) w' := by
      refine ⟨hr'.defers, ?_⟩
      have hrun : (results fn a'.tmps).run P w' = .ok (if h : rvs.toArray.size = 1 then rvs.toArray[0] else .tuple rvs.toArray) w' := by
        rw [results_eq]
        simp only [Sem.run_bind, Array.mapM_eq_mapM_toList, Sem.run_map, g1, Result.andThen_ok, Sem.run_pure]
      refine ⟨_, hrun, _, strip (tup ps), s', ν'.cut (inObs s'), rfl, q5, ?_, hr'.good.cut q1 q2 (fun bl h _ => h), ?_, q3, ?_⟩
      · have hrep : rep w' ν' (tup ps) (if h : rvs.toArray.size = 1 then rvs.toArray[0] else .tuple rvs.toArray) := by
          match ps, rvs, g2, hrl with
          | [p], [v], g2, _ =>
            simp only [repT] at g2
            obtain ⟨u, us', e1, e2, _⟩ := g2
            cases e1
            simpa [tup] using e2
          | [], [], g2, _ => simp [tup, rep, repT]
          | p :: p2 :: ps, v :: v2 :: rvs, g2, _ =>
            rw [dif_neg (by simp)]
            simp only [tup, rep]
            exact ⟨_, rfl, by simpa using g2⟩
          | [_], [], _, h => simp at h
          | [], _ :: _, _, h => simp at h
          | [_], _ :: _ :: _, _, h => simp at h
          | _ :: _ :: _, [], _, h => simp at h
          | _ :: _ :: _, [_], _, h => simp at h
        exact rep_overS (OverS.cut _ w' ν') _ _ q4 (rep_strip _ _ hrep)
      · intro k
        constructor
        · intro hk
          by_cases hs : inObs s' k
          · rw [Env.cut_bx hs]
            rcases hs with hs | hs
            · rw [hk] at hs; cases hs
            · obtain ⟨x, hx'⟩ := Option.isSome_iff_exists.1 hs
              obtain ⟨v', us', e1, _⟩ := hr'.good.own k x (q2 k x hx').1
              rcases hr'.good.one k with h1 | h1
              · exact h1
              · rw [h1] at e1; cases e1
          · exact (Env.cut_no hs).1
        · intro hk
          by_cases hs : inObs s' k
          · rw [Env.cut_ow hs]
            rcases hs with hs | hs
            · obtain ⟨x, hx'⟩ := Option.isSome_iff_exists.1 hs
              obtain ⟨bl, us', el, e1, _⟩ := hr'.good.box k x (q1 k x hx').1
              rcases hr'.good.one k with h1 | h1
              · rw [h1] at e1; cases e1
              · exact h1
            · rw [hk] at hs; cases hs
          · exact (Env.cut_no hs).2
      · refine ⟨hr'.fr.os, hr'.fr.tape, hr'.fr.output, hr'.fr.size, hr'.fr.block, hr'.fr.keep, hr'.fr.fresh, fun n b h => ?_, fun n b h => hin n (.inl (by rw [h]; simp)), fun m n u h => ?_, fun m n u h => hin m (.inr (by rw [h]; simp))⟩
        · have hs : inObs s' (.obj n) := by
            cases hl : look (.obj n) s.b with
            | none => rw [(hx _).1 hl] at h; cases h
            | some x => exact keeps_of kb _ (by simp [hl])
          rw [Env.cut_bx hs]; exact hr'.fr.obj n b h
        · have hs : inObs s' (.obj m) := by
            cases hl : look (.obj m) s.e with
            | none => rw [(hx _).2 hl] at h; cases h
            | some x => exact keeps_of ke _ (by simp [hl])
          rw [Env.cut_ow hs]; exact hr'.fr.row m n u h
    rcases hee with rfl | rfl <;> exact hfin

end Go.Pv
