/- Regions in the order of their text; code; functions. -/
import Derived.Test.YtchidkafcdmciaaGreatPvN
set_option linter.all false
namespace Go.Pv
open Go Go.RowKit

inductive RIns where
  | s (i : Ins)
  | call (d : Option Nat) (f : Opd) (xs : List Opd)
  | next (d : Nat) (x : Opd)
structure GI where
  g : Option (Nat × Bool)
  i : RIns

def Ins.dst : Ins → Option Nat
  | .v d _ | .box d _ _ | .alloc d _ _ | .bsl d _ _ _ | .app d _ _ _ _ | .bslm d _ _ _ _ | .appm d _ _ _ _ _ | .mkmap d _ | .range d _ _ => some d
  | .store _ _ _ | .mput _ _ _ _ => none
def RIns.dst : RIns → Option Nat
  | .s i => i.dst
  | .call d _ _ => d
  | .next d _ => some d

/-- A call: some of the state's objects are handed on, the contract tells what comes back. -/
def CallDo (P : Program) (n : Nat) (args : List PV) (st : St) (d : Option Nat) (K : St → Prop) : Prop :=
  ∃ s Q, subB (inObs s) s.b st.b ∧ subE (inObs s) s.e st.e ∧ objOnly s ∧ kinL (inObs s) args ∧ FnG P n args s Q ∧
    ∀ r s', Q r s' → ((∀ m, (look (.obj m) s'.b).isSome → (look (.obj m) s.b).isSome ∨ .obj m ∉ st.o) ∧ (∀ m, (look (.obj m) s'.e).isSome → (look (.obj m) s.e).isSome ∨ .obj m ∉ st.o)) ∧ K (after st s s' d r)

/-- A step of an iterator: over, or any entry that is left. -/
def nextDo (st : St) (d : Nat) (ik mk : Key) (since : Nat) (seen : List Nat) (last clock : Nat) (borns : List Nat) (kvs : List PV) (K : St → Prop) : Prop :=
  (since = clock ∧ last = clock) ∧ ((∀ b ∈ borns, b ∈ seen) → K { st with t := put d (.tuple [.bool false]) st.t }) ∧
  (∀ b k v, mat b borns kvs = some (.tuple [k, v]) → b ∉ seen → K { st with t := put d (.tuple [.bool true, k, v]) st.t, b := upd ik [.hdi since (seen ++ [b]) last, .gmap mk] st.b })
def ev1n (st : St) (d : Nat) (v : PV) (K : St → Prop) : Prop :=
  match v with
  | .ptr ik 0 => match look ik st.b with
    | some [.hdi since seen last, .gmap mk] => match look mk st.b with
      | some (.hdm clock borns :: kvs) => nextDo st d ik mk since seen last clock borns kvs K
      | _ => False
    | _ => False
  | _ => False

def ev1 (P : Program) (st : St) (K : St → Prop) : RIns → Prop
  | .next d x => ev1n st d (evalO st.t x) K
  | .s i => match sI st i with
    | some (c, st') => c ∧ K st'
    | none => False
  | .call d f xs => match evalO st.t f with
    | .func n caps => CallDo P n (stripL (xs.map (evalO st.t) ++ caps)) st d K
    | _ => False

def evG (P : Program) : List GI → St → (St → Prop) → Prop
  | [], st, K => K st
  | ⟨none, i⟩ :: r, st, K => ev1 P st (fun st' => evG P r st' K) i
  | ⟨some (s, want), i⟩ :: r, st, K => match get s st.t with
    | .bool b => (b = want → ev1 P { st with t := put s (.bool want) st.t } (fun st' => evG P r st' K) i) ∧ (b = !want → evG P r { st with t := putO i.dst (.tuple []) (put s (.bool !want) st.t) } K)
    | .tuple [] => evG P r { st with t := putO i.dst (.tuple []) st.t } K
    | _ => False

def rOk (N : Nat) (tys : List (Nat × TF)) (i : RIns) (o : Oper) : Bool :=
  match i with
  | .s i => sOk N tys i o
  | .next d x => match o.op with
    | .next it false => o.dst == some d && decide (d < N) && opOk x it
    | _ => false
  | .call d f xs => match o.op with
    | .call ⟨.value f', args, _⟩ => o.dst == d && dstOk N d && opOk f f' && opsOk' xs args.toList
    | _ => false
def gOk (N : Nat) (tys : List (Nat × TF)) (ops : List Oper) (g : GI) (o : Oper) : Bool :=
  (match g.g, o.guard with
   | none, none => true
   | some (s, b), some (j, b') => b == b' && ((ops[j]?).bind (·.dst)) == some s && decide (s < N) && o.dst == g.i.dst && dstOk N g.i.dst
   | _, _ => false) && rOk N tys g.i o
def gsOk (N : Nat) (tys : List (Nat × TF)) (ops : List Oper) : List GI → List Oper → Bool
  | [], [] => true
  | g :: gs, o :: os => gOk N tys ops g o && gsOk N tys ops gs os
  | _, _ => false

theorem repT_append {w : World} {ν : Env} : ∀ {ps qs : List PV} {vs us : List Value}, repT w ν ps vs → repT w ν qs us → repT w ν (ps ++ qs) (vs ++ us)
  | [], qs, vs, us, h, h' => by simp only [repT] at h; subst h; simpa using h'
  | p :: ps, qs, vs, us, h, h' => by
    simp only [repT] at h
    obtain ⟨u, us', rfl, h1, h2⟩ := h
    simp only [List.cons_append, repT]
    exact ⟨u, _, rfl, h1, repT_append h2 h'⟩

theorem call_sound {P : Program} {C : Ctx} {st : St} {a : Act} {w : World} {ν : Env} (hr : Rel C st a w ν) {o : Oper} {f' : Operand} {args : Array Operand} {ts : Array TypeId} (hop : o.op = .call ⟨.value f', args, ts⟩) {d : Option Nat} (hd : o.dst = d) (hdok : dstOk C.N d = true)
    {n : Nat} {caps : List PV} (hf : rep w ν (.func n caps) (a.eval f')) {ps : List PV} (hargs : repT w ν ps (args.toList.map a.eval)) {K : St → Prop} (hc : CallDo P n (stripL (ps ++ caps)) st d K)
    {K' : Act → World → Prop} {Q : Exit → Act → World → Prop} (hK : ∀ st' a' w' ν', K st' → Rel C st' a' w' ν' → K' a' w') : o.wp P a w K' Q := by
  obtain ⟨s, Q', c1, c2, c3, c4, c5, c6⟩ := hc
  simp only [rep] at hf
  obtain ⟨us, hv, hu⟩ := hf
  have hrep : repT w (ν.cut (inObs s)) (stripL (ps ++ caps)) ((args.map a.eval) ++ us).toList := by
    refine repT_overS (OverS.cut _ w ν) _ _ c4 (repT_strip _ _ ?_)
    simpa using repT_append hargs hu
  have hgood : Good (blocksOf (ν.cut (inObs s)) s) w (ν.cut (inObs s)) s.b s.e := hr.good.cut c1 c2 (fun bl _ h => h)
  have hex : exactE (ν.cut (inObs s)) s := by
    intro k
    constructor
    · intro hl
      by_cases hs : inObs s k
      · rw [Env.cut_bx hs]
        rcases hs with hs | hs
        · rw [hl] at hs; cases hs
        · obtain ⟨x, hx⟩ := Option.isSome_iff_exists.1 hs
          obtain ⟨v', us', e1, _⟩ := hr.good.own k x (c2 k x hx).1
          rcases hr.good.one k with h1 | h1
          · exact h1
          · rw [h1] at e1; cases e1
      · exact (Env.cut_no hs).1
    · intro hl
      by_cases hs : inObs s k
      · rw [Env.cut_ow hs]
        rcases hs with hs | hs
        · obtain ⟨x, hx⟩ := Option.isSome_iff_exists.1 hs
          obtain ⟨bl, us', el, e1, _⟩ := hr.good.box k x (c1 k x hx).1
          rcases hr.good.one k with h1 | h1
          · rw [h1] at e1; cases e1
          · exact h1
        · rw [hl] at hs; cases hs
      · exact (Env.cut_no hs).2
  rcases c5 w (ν.cut (inObs s)) ((args.map a.eval) ++ us) hgood hex hrep with ⟨⟨fn, g1, g2, g3⟩, c5⟩ | ⟨v, w', c5, hp⟩
  · obtain ⟨code, hcode⟩ := Option.isSome_iff_exists.1 g2
    have hrun : (execOp a.eval o).run P w = .ok (.enter n ((args.map a.eval) ++ us)) w := by
      obtain ⟨dst, op, ty, pos, aft, gd⟩ := o
      simp only at hop
      subst hop
      simp only [execOp, resolve, hv, Deferred.ofValue, Sem.run_bind, Sem.run_pure, Result.andThen_ok, invoke, callFunc, run_program, g1, g3, hcode]
      simp
    unfold Oper.wp
    rw [hrun]
    simp only [Oper.upon]
    refine c5.mono fun e w' hp => ?_
    obtain ⟨v, r, s', ν', rfl, hq, q1, q2, q3, q4, q5⟩ := hp
    obtain ⟨⟨n1, n2⟩, hk⟩ := c6 r s' hq
    rw [hd]
    exact hK _ _ _ _ hk (hr.call c1 c2 c3 q2 q3 q4 q5 n1 n2 d hdok q1)
  · have hrun : (execOp a.eval o).run P w = .ok (.value v) w' := by
      obtain ⟨dst, op, ty, pos, aft, gd⟩ := o
      simp only at hop
      subst hop
      simp only [execOp, resolve, hv, Deferred.ofValue, Sem.run_bind, Sem.run_pure, Result.andThen_ok, invoke]
      simpa using c5
    obtain ⟨v2, r, s', ν', hvv, hq, q1, q2, q3, q4, q5⟩ := hp
    cases hvv
    obtain ⟨⟨n1, n2⟩, hk⟩ := c6 r s' hq
    refine wp_value hrun ?_
    rw [hd]
    exact hK _ _ _ _ hk (hr.call c1 c2 c3 q2 q3 q4 q5 n1 n2 d hdok q1)

theorem Rel.drawn {C : Ctx} {st : St} {a : Act} {w : World} {ν : Env} (hr : Rel C st a w ν) (n : Nat) : Rel C st a { w with drawn := n } ν := by
  have hov : Over w ν { w with drawn := n } ν := ⟨fun _ _ h => ⟨h, rfl⟩, fun _ _ _ h => h, fun _ n u _ h => ⟨n, u, h, .inl ⟨rfl, rfl⟩⟩⟩
  refine hr.over hov rfl ⟨hr.good.alt, fun k cs hk => ?_, hr.good.inj, fun g o hg => ?_, hr.good.oinj, hr.good.obx, hr.good.one⟩ ⟨hr.fr.os, hr.fr.tape, hr.fr.output, hr.fr.size, hr.fr.block, hr.fr.keep, hr.fr.fresh, hr.fr.obj, hr.fr.obn, hr.fr.row, hr.fr.obr⟩ hr.new
  · obtain ⟨bl, us, el, h1, h2, h3, h4, h5⟩ := hr.good.box k cs hk
    exact ⟨bl, us, el, h1, h2, h3, h4, repB_over hov h5⟩
  · obtain ⟨v, us, h1, h2, h3, h4⟩ := hr.good.own g o hg
    exact ⟨v, us, h1, h2, h3, rowC_over hov (fun _ _ _ h => h) h4⟩

theorem filter_none {α : Type} {l : List α} {p : α → Bool} (h : ∀ x ∈ l, p x = false) : l.filter p = [] := by
  rw [List.filter_eq_nil_iff]; intro x hx; simp [h x hx]
theorem filter_all {α : Type} {l : List α} {p : α → Bool} (h : ∀ x ∈ l, p x = true) : l.filter p = l := List.filter_eq_self.2 h

def nextC (r m since clock : Nat) (seen : Array Nat) (cands : Array (Option MapEntry)) : Sem Value := do
  match cands[← choose (.mapNext cands.size)]? with
  | some (some e) =>
    setObj r (.mapIter (some m) since (seen.push e.born) clock)
    pure (.tuple #[.bool true, e.key, e.val])
  | some none => pure (.tuple #[.bool false])
  | none => stuck "Next: no such candidate"

theorem run_nextC {P : Program} {w : World} (r m since clock : Nat) (seen : Array Nat) (l : List (Option MapEntry)) (hl : l ≠ []) : ∃ n x, x ∈ l ∧ (nextC r m since clock seen l.toArray).run P w =
    (match x with | some e => (do setObj r (.mapIter (some m) since (seen.push e.born) clock); pure (.tuple #[.bool true, e.key, e.val]) : Sem Value) | none => pure (.tuple #[.bool false])).run P { w with drawn := n } := by
  have hpos : 0 < l.length := List.length_pos_iff.2 hl
  unfold nextC
  have key : ∀ i, i < l.length → ∀ w', ((do match (l.toArray[i]? : Option (Option MapEntry)) with
      | some (some e) => setObj r (.mapIter (some m) since (seen.push e.born) clock); pure (.tuple #[.bool true, e.key, e.val])
      | some none => pure (.tuple #[.bool false])
      | none => stuck "Next: no such candidate" : Sem Value)).run P w' = ((match l[i]! with | some e => (do setObj r (.mapIter (some m) since (seen.push e.born) clock); pure (.tuple #[.bool true, e.key, e.val]) : Sem Value) | none => pure (.tuple #[.bool false]))).run P w' := by
    intro i hi w'
    have h1 : l.toArray[i]? = some l[i]! := by simp [hi]
    rw [h1]
    cases l[i]! <;> rfl
  by_cases hf : (Question.mapNext l.length).forced = true
  · refine ⟨w.drawn, l[0]!, by simp [hpos], ?_⟩
    rw [← key 0 hpos]
    have hc : (choose (.mapNext l.length) : Sem Nat).run P w = .ok 0 w := by simp [hf]
    simp only [List.size_toArray, Sem.run_bind, hc, Result.andThen_ok]
  · refine ⟨w.drawn + 1, l[(w.tape w.drawn (.mapNext l.length)) % l.length]!, by simp [Nat.mod_lt _ hpos], ?_⟩
    rw [← key _ (Nat.mod_lt _ hpos)]
    have hc : (choose (.mapNext l.length) : Sem Nat).run P w = .ok ((w.tape w.drawn (.mapNext l.length)) % l.length) { w with drawn := w.drawn + 1 } := by simp [hf, Question.cut]
    simp only [List.size_toArray, Sem.run_bind, hc, Result.andThen_ok]

theorem run_next {P : Program} {w : World} {bl mb : Nat} {seen : List Nat} {es : List MapEntry} {clock : Nat} {ty : TypeId} (h1 : w.heap[bl]? = some (.mapIter (some mb) clock seen.toArray clock)) (h2 : w.heap[mb]? = some (.map es.toArray clock)) (hlt : ∀ e ∈ es, e.born < clock) :
    ∃ n, ((∀ e ∈ es, e.born ∈ seen) ∧ (Instr.next (.pointer (some ⟨bl, 0, none⟩)) false ty).run P w = .ok (.tuple #[.bool false]) { w with drawn := n }) ∨
      ∃ e ∈ es, e.born ∉ seen ∧ (Instr.next (.pointer (some ⟨bl, 0, none⟩)) false ty).run P w = .ok (.tuple #[.bool true, e.key, e.val]) { w with drawn := n, heap := w.heap.setIfInBounds bl (.mapIter (some mb) clock (seen ++ [e.born]).toArray clock) } := by
  have hbad : (!seen.toArray.isEmpty && !es.toArray.isEmpty && es.toArray.all (fun e => decide (e.born ≥ clock))) = false := by
    cases es with
    | nil => simp
    | cons e r =>
      have := hlt e (by simp)
      simp
      intro _ h
      omega
  generalize hL : (es.filter fun e => !seen.contains e.born) = left
  have hleft : (es.toArray.filter fun e => !seen.toArray.contains e.born) = left.toArray := by rw [← hL]; simp
  have hmem : ∀ e ∈ left, e ∈ es ∧ e.born ∉ seen := fun e he => by
    rw [← hL] at he
    have := List.mem_filter.1 he
    exact ⟨this.1, by simpa using this.2⟩
  have hold : (left.toArray.filter fun e => decide (e.born < clock)) = left.toArray := by
    rw [List.filter_toArray, filter_all]
    intro e he
    have := hlt e (hmem e he).1
    simp [this]
  have hnew : (left.toArray.filter fun e => decide (e.born ≥ clock)) = #[] := by
    rw [List.filter_toArray, filter_none]
    intro e he
    have := hlt e (hmem e he).1
    simp; omega
  have hrun : (Instr.next (.pointer (some ⟨bl, 0, none⟩)) false ty).run P w = (nextC bl mb clock clock seen.toArray ((if left.toArray.isEmpty then #[none] else #[]) ++ (left.toArray ++ #[]).map some)).run P w := by
    unfold Instr.next nextC
    simp only [Sem.run_bind, run_getObj' h1, run_getObj' h2, Result.andThen_ok, hbad, hleft, hold, hnew, Bool.false_eq_true, if_false]
    rfl
  rw [hrun]
  by_cases hl0 : left = []
  · subst hl0
    obtain ⟨n, x, g1, g2⟩ := run_nextC (P := P) (w := w) bl mb clock clock seen.toArray [none] (by simp)
    refine ⟨n, .inl ⟨fun e he => ?_, ?_⟩⟩
    · have := List.filter_eq_nil_iff.1 hL e he
      simpa using this
    · simp only [List.mem_singleton] at g1
      subst g1
      have hc : ((if (([] : List MapEntry).toArray).isEmpty then #[none] else #[]) ++ (([] : List MapEntry).toArray ++ #[]).map some) = [none].toArray := by simp
      rw [hc, g2]
      rfl
  · have hc : ((if left.toArray.isEmpty then #[none] else #[]) ++ (left.toArray ++ #[]).map some) = (left.map some).toArray := by simp [hl0]
    obtain ⟨n, x, g1, g2⟩ := run_nextC (P := P) (w := w) bl mb clock clock seen.toArray (left.map some) (by simpa using hl0)
    simp only [List.mem_map] at g1
    obtain ⟨e, he, rfl⟩ := g1
    refine ⟨n, .inr ⟨e, (hmem e he).1, (hmem e he).2, ?_⟩⟩
    rw [hc, g2]
    simp only [Sem.run_bind]
    rw [run_setObj' (w := { w with drawn := n }) (o := .mapIter (some mb) clock seen.toArray clock) h1]
    simp

theorem ents_born : ∀ {borns : List Nat} {us : List Value} {e : MapEntry}, e ∈ ents borns us → e.born ∈ borns
  | [], us, e, h => by simp [ents] at h
  | b :: bs, [], e, h => by simp [ents] at h
  | b :: bs, [_], e, h => by simp [ents] at h
  | b :: bs, k :: v :: us, e, h => by
    simp only [ents, List.mem_cons] at h
    rcases h with rfl | h
    · simp
    · exact List.mem_cons_of_mem _ (ents_born h)
theorem ents_of_born : ∀ {borns : List Nat} {kvs : List PV} {us : List Value}, kvs.length = 2 * borns.length → us.length = kvs.length → ∀ {b : Nat}, b ∈ borns → ∃ e ∈ ents borns us, e.born = b
  | [], _, _, _, _, b, hb => by simp at hb
  | b' :: bs, kvs, [], h1, h2, b, hb => by rw [h1] at h2; simp at h2
  | b' :: bs, kvs, [_], h1, h2, b, hb => by rw [h1] at h2; simp at h2; omega
  | b' :: bs, kvs, k :: v :: us, h1, h2, b, hb => by
    rcases List.mem_cons.1 hb with rfl | hb
    · exact ⟨⟨k, v, b⟩, by simp [ents], rfl⟩
    · obtain ⟨e, g1, g2⟩ := ents_of_born (kvs := kvs.drop 2) (us := us) (borns := bs) (by simp at h1 ⊢; omega) (by simp at h1 h2 ⊢; omega) hb
      exact ⟨e, by simp [ents, g1], g2⟩
theorem mat_of_ents {w : World} {ν : Env} : ∀ {borns : List Nat} {kvs : List PV} {us : List Value}, kvs.length = 2 * borns.length → borns.Pairwise (· < ·) → repT w ν kvs us → ∀ {e : MapEntry}, e ∈ ents borns us → ∃ k v, mat e.born borns kvs = some (.tuple [k, v]) ∧ rep w ν k e.key ∧ rep w ν v e.val
  | [], _, _, _, _, _, e, h => by simp [ents] at h
  | b :: bs, [], us, h1, _, _, e, _ => by simp at h1
  | b :: bs, [_], us, h1, _, _, e, _ => by simp at h1; omega
  | b :: bs, k :: v :: kvs, us, h1, h2, h3, e, h => by
    simp only [repT] at h3
    obtain ⟨u1, us1, rfl, r1, u2, us2, rfl, r2, r3⟩ := h3
    simp only [ents, List.mem_cons] at h
    rw [List.pairwise_cons] at h2
    rcases h with rfl | h
    · exact ⟨k, v, by simp [mat], r1, r2⟩
    · obtain ⟨k', v', g1, g2, g3⟩ := mat_of_ents (by simp at h1; omega) h2.2 r3 h
      have hne : b ≠ e.born := Nat.ne_of_lt (h2.1 _ (ents_born h))
      exact ⟨k', v', by simp [mat, hne, g1], g2, g3⟩

theorem next_sound {P : Program} {C : Ctx} {st : St} {a : Act} {w : World} {ν : Env} (hr : Rel C st a w ν) {o : Oper} {it : Operand} (hop : o.op = .next it false) {d : Nat} (hd : o.dst = some d) (hdok : dstOk C.N (some d) = true) {v : PV} (hv : rep w ν v (a.eval it)) {K : St → Prop} (he : ev1n st d v K)
    {K' : Act → World → Prop} {Q : Exit → Act → World → Prop} (hK : ∀ st' a' w' ν', K st' → Rel C st' a' w' ν' → K' a' w') : o.wp P a w K' Q := by
  unfold ev1n at he
  split at he
  · rename_i ik
    split at he
    · rename_i since seen last mk hik
      split at he
      · rename_i clock borns kvs hmk
        obtain ⟨⟨rfl, rfl⟩, he1, he2⟩ := he
        simp only [rep] at hv
        obtain ⟨bl, b1, b2⟩ := hv
        obtain ⟨bl', us, el, q1, q2, q3, q4, q5⟩ := hr.good.box ik _ hik
        rw [b1] at q1; cases q1
        obtain ⟨mb, ms, mel, m1, m2, m3, m4, m5⟩ := hr.good.box mk _ hmk
        simp only [repB, repT] at q5
        obtain ⟨u, us', hu, ⟨mb', r1, rfl⟩, rfl⟩ := q5
        rw [m1] at r1; cases r1
        simp only [objFrom, hu] at q4
        simp only [objFrom] at m4
        simp only [repB] at m5
        obtain ⟨n, hcase⟩ := run_next (P := P) (ty := o.type) q4 m4 (fun e he => m5.2.lt _ (ents_born he))
        have hexec : ∀ v' w', (Instr.next (.pointer (some ⟨bl, 0, none⟩)) false o.type).run P w = .ok v' w' → (execOp a.eval o).run P w = .ok (.value v') w' := by
          intro v' w' hrun
          obtain ⟨dst, op, ty, pos, aft, gd⟩ := o
          simp only at hop hrun
          subst hop
          simp only [execOp, b2]
          exact val_ok_w hrun
        rcases hcase with ⟨h1, h2⟩ | ⟨e, h1, h2, h3⟩
        · refine wp_value (hexec _ _ h2) ?_
          rw [hd]
          refine hK _ _ _ _ (he1 fun b hb => ?_) ((hr.drawn n).put hdok (p := .tuple [.bool false]) (by simp [rep, repT]))
          obtain ⟨e, f1, f2⟩ := ents_of_born m5.2.len (repT_len m5.1) hb
          rw [← f2]; exact h1 e f1
        · obtain ⟨k, v, f1, f2, f3⟩ := mat_of_ents m5.2.len m5.2.inc m5.1 h1
          refine wp_value (hexec _ _ h3) ?_
          rw [hd]
          have hset := ((hr.drawn n).setBox (w' := { w with drawn := n, heap := w.heap.setIfInBounds bl (.mapIter (some mb) last (seen ++ [e.born]).toArray last) }) hik b1 (cs' := [.hdi last (seen ++ [e.born]) last, .gmap mk]) (us := us) (el := el) rfl rfl rfl
            (fun j hj => Array.getElem?_setIfInBounds_ne (Ne.symm hj)) (by simp) (by simp [objFrom, hu, (Array.getElem?_eq_some_iff.1 q4).1]) (by simp only [repB, repT]; exact ⟨_, _, hu, by simp only [rep]; exact ⟨mb, m1, rfl⟩, rfl⟩))
          refine hK _ _ _ _ (he2 e.born k v f1 h2) (hset.1.put hdok (p := .tuple [.bool true, k, v]) ?_)
          simp only [rep]
          refine ⟨_, rfl, ?_⟩
          simp only [repT]
          have hov : Over w ν { w with drawn := n } ν := ⟨fun _ _ h => ⟨h, rfl⟩, fun _ _ _ h => h, fun _ n u _ h => ⟨n, u, h, .inl ⟨rfl, rfl⟩⟩⟩
          exact ⟨_, _, rfl, by simp [rep], _, _, rfl, rep_over hset.2 (rep_over hov f2), _, _, rfl, rep_over hset.2 (rep_over hov f3), rfl⟩
      · exact he.elim
    · exact he.elim
  · exact he.elim

theorem ev1_sound {P : Program} {tys : List (Nat × TF)} (ht : tysOk P tys = true) {C : Ctx} {st : St} {a : Act} {w : World} {ν : Env} (hr : Rel C st a w ν) {i : RIns} {o : Oper} (ho : rOk C.N tys i o = true) {K : St → Prop} (he : ev1 P st K i)
    {K' : Act → World → Prop} {Q : Exit → Act → World → Prop} (hK : ∀ st' a' w' ν', K st' → Rel C st' a' w' ν' → K' a' w') : o.wp P a w K' Q := by
  cases i with
  | s i =>
    simp only [ev1] at he
    split at he
    · rename_i c st' hs
      exact sI_sound ht hr (by simpa only [rOk] using ho) hs he.1 fun a' w' ν' h => hK _ _ _ _ he.2 h
    · exact he.elim
  | next d x =>
    simp only [ev1] at he
    simp only [rOk] at ho
    split at ho
    · rename_i it hop
      simp only [Bool.and_eq_true, beq_iff_eq, decide_eq_true_eq] at ho
      obtain ⟨⟨h1, h2⟩, h3⟩ := ho
      exact next_sound hr hop h1 (by simpa [dstOk] using h2) (opOk_rep hr h3) he hK
    · cases ho
  | call d f xs =>
    simp only [ev1] at he
    simp only [rOk] at ho
    split at ho
    · rename_i f' args ts hop
      simp only [Bool.and_eq_true, beq_iff_eq] at ho
      obtain ⟨⟨⟨h1, h2⟩, h3⟩, h4⟩ := ho
      split at he
      · rename_i n caps hf
        have := opOk_rep hr h3
        rw [hf] at this
        exact call_sound hr hop h1 h2 this (repT_args hr h4) he hK
      · exact he.elim
    · cases ho

theorem refineSlot {C : Ctx} {st : St} {a : Act} {w : World} {ν : Env} (h : Rel C st a w ν) {s : Nat} {b : Bool} (hs : get s st.t = .bool b) : Rel C { st with t := put s (.bool b) st.t } a w ν := by
  refine ⟨h.good, h.fr, h.defers, h.size, fun i => ?_, h.new⟩
  have := h.slot i
  simp only [get_put]
  split
  · rename_i e; subst e; rw [← hs]; exact this
  · exact this

theorem yielded_of {C : Ctx} {st : St} {a : Act} {w : World} {ν : Env} (h : Rel C st a w ν) {ops : Array Oper} {j s : Nat} (hj : (ops.toList[j]?).bind (·.dst) = some s) (hs : s < C.N) :
    (∀ b, get s st.t = .bool b → yielded ops a.tmps j = some b) ∧ (get s st.t = .tuple [] → yielded ops a.tmps j = none) := by
  have hlt : s < a.tmps.size := by rw [h.size]; exact hs
  have hslot := h.slot s
  have hget : a.tmps.getD s undef = a.tmps[s] := by simp [Array.getD, hlt]
  rw [hget] at hslot
  have hy : yielded ops a.tmps j = match a.tmps[s] with | .bool b => some b | _ => none := by
    unfold yielded
    rw [Array.getElem?_toList] at hj
    rw [hj]
    simp only [Option.bind_some, Array.getElem?_eq_getElem hlt]
    cases a.tmps[s] <;> rfl
  constructor
  · intro b hb
    rw [hb] at hslot
    simp only [rep] at hslot
    rw [hy, hslot]
  · intro hb
    rw [hb] at hslot
    simp only [rep, repT] at hslot
    obtain ⟨us, e1, e2⟩ := hslot
    rw [hy, e1]

theorem evG_sound {P : Program} {tys : List (Nat × TF)} (ht : tysOk P tys = true) {C : Ctx} {ops : Array Oper} {K : St → Prop} {Q : Exit → Act → World → Prop} (hQ : ∀ st' a' w' ν', K st' → Rel C st' a' w' ν' → Q .normal a' w') :
    ∀ (gs : List GI) (os : List Oper) (k : Nat), (∀ j, os[j]? = ops[k + j]?) → gsOk C.N tys ops.toList gs os = true → ∀ (st : St) (a : Act) (w : World) (ν : Env), evG P gs st K → Rel C st a w ν → wpOps P ops Q (List.range' k gs.length) a w
  | [], [], k, _, _, st, a, w, ν, he, hr => by
    simp only [List.length_nil, List.range'_zero, wpOps]
    exact hQ _ _ _ _ he hr
  | [], _ :: _, _, _, hk, _, _, _, _, _, _ => by simp [gsOk] at hk
  | _ :: _, [], _, _, hk, _, _, _, _, _, _ => by simp [gsOk] at hk
  | g :: gs, o :: os, k, hos, hk, st, a, w, ν, he, hr => by
    simp only [gsOk, Bool.and_eq_true] at hk
    have h0 : ops[k]? = some o := by simpa using (hos 0).symm
    have hrest : ∀ j, os[j]? = ops[k + 1 + j]? := fun j => by have := hos (j + 1); simpa [Nat.add_assoc, Nat.add_comm 1 j] using this
    simp only [List.length_cons, List.range'_succ, wpOps, h0]
    have ih : ∀ st' a' w' ν', evG P gs st' K → Rel C st' a' w' ν' → wpOps P ops Q (List.range' (k + 1) gs.length) a' w' := fun st' a' w' ν' h1 h2 => evG_sound ht hQ gs os (k + 1) hrest hk.2 st' a' w' ν' h1 h2
    obtain ⟨gg, gi⟩ := g
    have hg := hk.1
    simp only [gOk, Bool.and_eq_true] at hg
    obtain ⟨hg1, hg2⟩ := hg
    cases gg with
    | none =>
      cases hgo : o.guard with
      | some x => simp [hgo] at hg1
      | none =>
        have hw : Region.wanted o (yielded ops a.tmps) = true := by simp [Region.wanted, hgo]
        rw [if_pos hw]
        simp only [evG] at he
        exact .inl (ev1_sound ht hr hg2 he ih)
    | some sw =>
      obtain ⟨s, want⟩ := sw
      cases hgo : o.guard with
      | none => simp [hgo] at hg1
      | some x =>
        obtain ⟨j, b'⟩ := x
        simp only [hgo, Bool.and_eq_true, beq_iff_eq, decide_eq_true_eq] at hg1
        obtain ⟨⟨⟨⟨rfl, h2⟩, h3⟩, h4⟩, h5⟩ := hg1
        obtain ⟨y1, y2⟩ := yielded_of hr h2 h3
        simp only [evG] at he
        split at he
        · rename_i b hb
          have hy := y1 b hb
          by_cases e : b = want
          · subst e
            have hw : Region.wanted o (yielded ops a.tmps) = true := by simp [Region.wanted, hgo, hy]
            rw [if_pos hw]
            exact .inl (ev1_sound ht (refineSlot hr hb) hg2 (he.1 rfl) ih)
          · have hw : ¬(Region.wanted o (yielded ops a.tmps) = true) := by simp [Region.wanted, hgo, hy, e]
            rw [if_neg hw]
            have hb' : b = !want := by cases b <;> cases want <;> simp at e ⊢
            have hr2 : Rel C { st with t := put s (.bool !want) st.t } a w ν := refineSlot hr (by rw [hb, hb'])
            rw [h4]
            exact ih _ _ _ _ (he.2 hb') (hr2.put h5 (by simp [rep, repT, undef]))
        · rename_i hb
          have hy := y2 hb
          have hw : ¬(Region.wanted o (yielded ops a.tmps) = true) := by simp [Region.wanted, hgo, hy]
          rw [if_neg hw, h4]
          exact ih _ _ _ _ he (hr.put h5 (by simp [rep, repT, undef]))
        · exact he.elim

end Go.Pv
