/- The abstract state of a frame (slots, boxes, rows of its own), its relation to the model's frame and world, and the operations that only compute a value. -/
import Derived.Test.YtchidkafcdmciaaGreatPvA
set_option linter.all false
namespace Go.Pv
open Go Go.RowKit

def get (k : Nat) : List (Nat × PV) → PV
  | [] => .junk
  | (i, p) :: r => if i = k then p else get k r
def put (k : Nat) (p : PV) : List (Nat × PV) → List (Nat × PV)
  | [] => [(k, p)]
  | (i, q) :: r => if i = k then (i, p) :: r else (i, q) :: put k p r
def look {α : Type} (k : Key) : List (Key × α) → Option α
  | [] => none
  | (i, p) :: r => if i = k then some p else look k r
def upd {α : Type} (k : Key) (p : α) : List (Key × α) → List (Key × α)
  | [] => [(k, p)]
  | (i, q) :: r => if i = k then (i, p) :: r else (i, q) :: upd k p r

theorem get_put (k j : Nat) (p : PV) : ∀ l, get j (put k p l) = if k = j then p else get j l
  | [] => by simp [get, put]
  | (i, q) :: r => by
    by_cases h : i = k
    · subst h; by_cases h2 : i = j <;> simp [get, put, h2]
    · by_cases h2 : i = j
      · subst h2; simp [get, put, h, Ne.symm h]
      · simp [get, put, h, h2, get_put k j p r]
theorem look_upd {α : Type} (k j : Key) (p : α) : ∀ l, look j (upd k p l) = if k = j then some p else look j l
  | [] => by simp [look, upd]
  | (i, q) :: r => by
    by_cases h : i = k
    · subst h; by_cases h2 : i = j <;> simp [look, upd, h2]
    · by_cases h2 : i = j
      · subst h2; simp [look, upd, h, Ne.symm h]
      · simp [look, upd, h, h2, look_upd k j p r]

/-- A row of the call's own: how many elements, their type's number and size; what lies in it, if no one else may know it yet. -/
structure Own where
  n : Nat
  el : Nat
  sz : Nat
  xs : Option (List PV)
/-- What a row holds that no one else knows. -/
def rowC (w : World) (ν : Env) (o : Own) (v : Value) (us : List Value) : Prop :=
  ∀ xs, o.xs = some xs → xs.length = o.n ∧ repC w ν o.sz xs us ∧ ∀ bl, v.ownBlock = some bl → ∀ j, ¬ν.A bl j
theorem rowC_over {w w' : World} {ν ν' : Env} (ho : Over w ν w' ν') {o : Own} {v : Value} {us : List Value} (hA : ∀ bl, v.ownBlock = some bl → ∀ j, ν'.A bl j → ν.A bl j) (h : rowC w ν o v us) : rowC w' ν' o v us :=
  fun xs hx => ⟨(h xs hx).1, repC_over ho (h xs hx).2.1, fun bl hb j hj => (h xs hx).2.2 bl hb j (hA bl hb j hj)⟩
def kinO (S : Key → Prop) (o : Own) : Prop := ∀ xs, o.xs = some xs → kinL S xs

structure St where
  t : List (Nat × PV)
  b : List (Key × List PV)
  e : List (Key × Own)
  n : Nat
  o : List Key

/-- The names that are free. -/
def fresh (n : Nat) (o : List Key) (k : Key) : Prop := (match k with | .loc m => n ≤ m | .obj _ => True) ∧ k ∉ o
theorem fresh_mono {n n' : Nat} {o o' : List Key} (hn : n ≤ n') (ho : ∀ k ∈ o, k ∈ o') {k : Key} (h : fresh n' o' k) : fresh n o k := by
  unfold fresh at h ⊢
  exact ⟨by cases k <;> simp at h ⊢; omega, fun hk => h.2 (ho k hk)⟩

structure Good (pr : Nat → Prop) (w : World) (ν : Env) (b : List (Key × List PV)) (e : List (Key × Own)) : Prop where
  alt : ∀ bl o, ν.A bl o → bl < w.heap.size
  box : ∀ k cs, look k b = some cs → ∃ bl us el, ν.bx k = some bl ∧ pr bl ∧ (∀ o, ¬ν.A bl o) ∧ w.heap[bl]? = some (objFrom cs us el) ∧ repB w ν cs us.toList
  inj : ∀ k k' bl, (look k b).isSome → (look k' b).isSome → ν.bx k = some bl → ν.bx k' = some bl → k = k'
  own : ∀ g o, look g e = some o → ∃ v us, ν.ow g = some (o.n, v) ∧ w.ownsRow 0 o.el o.sz v o.n us ∧ (∀ bl, v.ownBlock = some bl → pr bl ∧ (∀ j, ν.A bl j → j < o.n * o.sz)) ∧ rowC w ν o v us
  oinj : ∀ g g' n n' v v' bl, (look g e).isSome → (look g' e).isSome → ν.ow g = some (n, v) → ν.ow g' = some (n', v') → v.ownBlock = some bl → v'.ownBlock = some bl → g = g'
  obx : ∀ g k n v bl, (look g e).isSome → (look k b).isSome → ν.ow g = some (n, v) → v.ownBlock = some bl → ν.bx k = some bl → False
  one : ∀ k, ν.bx k = none ∨ ν.ow k = none

/-- Of a call: the world and the environment at its beginning, the blocks that were there and that it may change, how many slots its frame has. -/
structure Ctx where
  w0 : World
  ν0 : Env
  mt : Nat → Prop
  N : Nat
  ob : List Key
def Ctx.pr (C : Ctx) (bl : Nat) : Prop := C.mt bl ∨ C.w0.heap.size ≤ bl

structure Fr (C : Ctx) (w : World) (ν : Env) : Prop where
  os : w.os = C.w0.os
  tape : w.tape = C.w0.tape
  output : w.output = C.w0.output
  size : C.w0.heap.size ≤ w.heap.size
  block : ∀ k, k < C.w0.heap.size → ¬C.mt k → w.heap[k]? = C.w0.heap[k]?
  keep : ∀ b o, C.ν0.A b o → ν.A b o ∧ w.cell? ⟨b, o, none⟩ = C.w0.cell? ⟨b, o, none⟩
  fresh : ∀ b o, ν.A b o → C.ν0.A b o ∨ C.pr b
  obj : ∀ n b, C.ν0.bx (.obj n) = some b → ν.bx (.obj n) = some b
  obn : ∀ n b, C.ν0.bx (.obj n) = some b → .obj n ∈ C.ob
  row : ∀ m n u, C.ν0.ow (.obj m) = some (n, u) → ∃ n' u', ν.ow (.obj m) = some (n', u') ∧ (n' = n ∧ u' = u ∨ n < n')
  obr : ∀ m n u, C.ν0.ow (.obj m) = some (n, u) → .obj m ∈ C.ob

theorem row_trans {ν ν' : Env} {g : Key} {n : Nat} {u : Value} (h : ∃ n' u', ν.ow g = some (n', u') ∧ (n' = n ∧ u' = u ∨ n < n')) (ho : ∀ n u, ν.ow g = some (n, u) → ∃ n' u', ν'.ow g = some (n', u') ∧ (n' = n ∧ u' = u ∨ n < n')) :
    ∃ n' u', ν'.ow g = some (n', u') ∧ (n' = n ∧ u' = u ∨ n < n') := by
  obtain ⟨n1, u1, e1, e2⟩ := h
  obtain ⟨n2, u2, f1, f2⟩ := ho n1 u1 e1
  refine ⟨n2, u2, f1, ?_⟩
  rcases e2 with ⟨rfl, rfl⟩ | e2
  · exact f2
  · rcases f2 with ⟨rfl, rfl⟩ | f2
    · exact .inr e2
    · exact .inr (by omega)

structure Rel (C : Ctx) (st : St) (a : Act) (w : World) (ν : Env) : Prop where
  good : Good C.pr w ν st.b st.e
  fr : Fr C w ν
  defers : a.defers = []
  size : a.tmps.size = C.N
  slot : ∀ i, rep w ν (get i st.t) (a.tmps.getD i undef)
  new : ∀ k, fresh st.n st.o k → ν.bx k = none ∧ ν.ow k = none

def putO (d : Option Nat) (p : PV) (t : List (Nat × PV)) : List (Nat × PV) :=
  match d with
  | some d => put d p t
  | none => t
def dstOk (N : Nat) (d : Option Nat) : Bool := match d with | some d => decide (d < N) | none => true

theorem Rel.put {C : Ctx} {st : St} {a : Act} {w : World} {ν : Env} (h : Rel C st a w ν) {d : Option Nat} (hd : dstOk C.N d = true) {p : PV} {v : Value} (hp : rep w ν p v) :
    Rel C { st with t := putO d p st.t } (a.put d v) w ν := by
  cases d with
  | none => exact h
  | some d =>
    have hlt : d < a.tmps.size := by rw [h.size]; simpa [dstOk] using hd
    refine ⟨h.good, h.fr, h.defers, by simpa [Act.put] using h.size, fun i => ?_, h.new⟩
    simp only [putO, get_put]
    by_cases e : d = i
    · subst e
      simpa [Act.put, Array.getD_eq_getD_getElem?, hlt] using hp
    · have := h.slot i
      simpa [e, Act.put, Array.getD_eq_getD_getElem?, Array.getElem?_setIfInBounds_ne e] using this

/-- The relation over a change of the world and of the environment. -/
theorem Rel.over {C : Ctx} {st st' : St} {a : Act} {w w' : World} {ν ν' : Env} (h : Rel C st a w ν) (ho : Over w ν w' ν') (ht : st'.t = st.t) (hg : Good C.pr w' ν' st'.b st'.e) (hf : Fr C w' ν')
    (hn : ∀ k, fresh st'.n st'.o k → ν'.bx k = none ∧ ν'.ow k = none) : Rel C st' a w' ν' :=
  ⟨hg, hf, h.defers, h.size, fun i => by rw [ht]; exact rep_over ho (h.slot i), hn⟩

/-- Operands. -/
inductive Opd where
  | t (i : Nat)
  | c (p : PV)
  deriving Inhabited
def evalO (t : List (Nat × PV)) : Opd → PV
  | .t i => get i t
  | .c p => p
def cOk0 : PV → Value → Bool
  | .int k n, .int k' n' => decide (k = k' ∧ n = n')
  | .bool b, .bool b' => b == b'
  | .str s, .string l => decide (l.data.toList = s ∧ s.length ≤ lim)
  | .slice _ .nil [], .slice none 0 0 => true
  | .nilp, .pointer none => true
  | .tuple [], .tuple ⟨[]⟩ => true
  | .func f [], .func (.func g) ⟨[]⟩ ⟨[]⟩ => f == g
  | .junk, _ => true
  | _, _ => false
theorem cOk0_rep (w : World) (ν : Env) {p : PV} {v : Value} (h : cOk0 p v = true) : rep w ν p v := by
  unfold cOk0 at h
  split at h
  · simp at h; obtain ⟨rfl, rfl⟩ := h; simp [rep]
  · simp at h; subst h; simp [rep]
  · rename_i s l
    simp at h; obtain ⟨h1, h2⟩ := h
    refine ⟨?_, h2⟩
    subst h1
    simp
  · simp only [rep]
    refine ⟨⟨none, 0, rfl, by simp, by simp, by simp⟩, by simp, fun _ h => by cases h⟩
  · simp [rep]
  · simp [rep, repT]
  · simp at h; subst h; simp [rep, repT]
  · simp [rep]
  · cases h
def cOkL : List PV → List Value → Bool
  | [], [] => true
  | p :: ps, v :: vs => cOk0 p v && v.oneCell' && cOkL ps vs
  | _, _ => false
def cOk : PV → Value → Bool
  | .agg cs, .agg us => cOkL cs us.toList
  | p, v => cOk0 p v
theorem cOkL_rep (w : World) (ν : Env) : ∀ (ps : List PV) (vs : List Value), cOkL ps vs = true → repL w ν ps vs
  | [], [], _ => by simp [repL]
  | [], _ :: _, h => by simp [cOkL] at h
  | _ :: _, [], h => by simp [cOkL] at h
  | p :: ps, v :: vs, h => by
    simp only [cOkL, Bool.and_eq_true] at h
    simp only [repL]
    exact ⟨v, vs, rfl, ⟨cOk0_rep w ν h.1.1, h.1.2⟩, cOkL_rep w ν ps vs h.2⟩
theorem cOk_rep (w : World) (ν : Env) {p : PV} {v : Value} (h : cOk p v = true) : rep w ν p v := by
  unfold cOk at h
  split at h
  · simp only [rep]
    exact ⟨_, rfl, cOkL_rep w ν _ _ h⟩
  · exact cOk0_rep w ν h
def opOk : Opd → Operand → Bool
  | .t i, .tmp j => i == j
  | .c p, .const v => cOk p v
  | .c (.func f []), .func g => f == g
  | _, _ => false
theorem opOk_rep {C : Ctx} {st : St} {a : Act} {w : World} {ν : Env} (h : Rel C st a w ν) {x : Opd} {o : Operand} (hx : opOk x o = true) : rep w ν (evalO st.t x) (a.eval o) := by
  unfold opOk at hx
  split at hx
  · simp at hx; subst hx; simpa [evalO, Act.eval] using h.slot _
  · simpa [evalO, Act.eval] using cOk_rep w ν hx
  · simp at hx; subst hx; simp [evalO, Act.eval, rep, repT]
  · cases hx

end Go.Pv
