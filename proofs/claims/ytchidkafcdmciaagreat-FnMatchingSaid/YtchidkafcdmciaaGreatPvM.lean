/- Contracts of functions; the end of names; code. -/
import Derived.Test.YtchidkafcdmciaaGreatPvL
set_option linter.all false
namespace Go.Pv
open Go Go.RowKit

/-- Objects and rows that a call is handed and hands back. -/
structure Obs where
  b : List (Key × List PV)
  e : List (Key × Own)

def blocksOf (ν : Env) (s : Obs) (bl : Nat) : Prop :=
  (∃ k, (look k s.b).isSome ∧ ν.bx k = some bl) ∨ (∃ g n v, (look g s.e).isSome ∧ ν.ow g = some (n, v) ∧ v.ownBlock = some bl)
def exactE (ν : Env) (s : Obs) : Prop := ∀ k, (look k s.b = none → ν.bx k = none) ∧ (look k s.e = none → ν.ow k = none)
def obsIds (s : Obs) : List Key := s.b.map (·.1) ++ s.e.map (·.1)
def objOnly (s : Obs) : Prop := (∀ m, look (.loc m) s.b = none) ∧ (∀ m, look (.loc m) s.e = none)

/-- The contract of a function: handed args and objects s it returns, and what comes back meets Q. -/
def Does (P : Program) (f : FuncId) (vs : Array Value) (w : World) (R : Ending → World → Prop) : Prop :=
  ((∃ fn, P.funcs[f]? = some fn ∧ fn.body.isSome = true ∧ (fn.name == "runtime.NumGoroutine") = false) ∧ Calls P f vs w R) ∨ ∃ v w', (callFunc f vs).run P w = .ok (.value v) w' ∧ R (.returned v) w'
def FnG (P : Program) (f : FuncId) (args : List PV) (s : Obs) (Q : PV → Obs → Prop) : Prop :=
  ∀ (w : World) (ν : Env) (vs : Array Value), Good (blocksOf ν s) w ν s.b s.e → exactE ν s → repT w ν args vs.toList →
    Does P f vs w fun e w' => ∃ v r s' ν', e = .returned v ∧ Q r s' ∧ rep w' ν' r v ∧ Good (fun bl => blocksOf ν s bl ∨ w.heap.size ≤ bl) w' ν' s'.b s'.e ∧ exactE ν' s' ∧ objOnly s' ∧ Fr ⟨w, ν, blocksOf ν s, 0, obsIds s⟩ w' ν'
/-- The contract of a function of values alone. -/
def FnV (P : Program) (f : FuncId) (args : List PV) (r : PV) : Prop := FnG P f args ⟨[], []⟩ fun r' s' => r' = r ∧ s' = ⟨[], []⟩

theorem look_mem {α : Type} {k : Key} {x : α} : ∀ {l : List (Key × α)}, look k l = some x → (k, x) ∈ l
  | [], h => by simp [look] at h
  | (i, y) :: r, h => by
    simp only [look] at h
    split at h
    · rename_i e; subst e; cases h; simp
    · exact List.mem_cons_of_mem _ (look_mem h)
theorem obsIds_of {s : Obs} {k : Key} (h : (look k s.b).isSome ∨ (look k s.e).isSome) : k ∈ obsIds s := by
  unfold obsIds
  rcases h with h | h <;> obtain ⟨x, hx⟩ := Option.isSome_iff_exists.1 h <;> have := look_mem hx
  · exact List.mem_append_left _ (List.mem_map.2 ⟨_, this, rfl⟩)
  · exact List.mem_append_right _ (List.mem_map.2 ⟨_, this, rfl⟩)

section
open Classical
/-- The environment cut down to the names in S. -/
noncomputable def Env.cut (ν : Env) (S : Key → Prop) : Env := { A := ν.A, bx := fun k => if S k then ν.bx k else none, ow := fun k => if S k then ν.ow k else none }
theorem Env.cut_bx {ν : Env} {S : Key → Prop} {k : Key} (h : S k) : (ν.cut S).bx k = ν.bx k := by simp [Env.cut, h]
theorem Env.cut_ow {ν : Env} {S : Key → Prop} {k : Key} (h : S k) : (ν.cut S).ow k = ν.ow k := by simp [Env.cut, h]
theorem Env.cut_no {ν : Env} {S : Key → Prop} {k : Key} (h : ¬S k) : (ν.cut S).bx k = none ∧ (ν.cut S).ow k = none := by simp [Env.cut, h]
theorem Env.cut_some {ν : Env} {S : Key → Prop} {k : Key} {b : Nat} (h : (ν.cut S).bx k = some b) : S k ∧ ν.bx k = some b := by
  by_cases hs : S k
  · exact ⟨hs, by rw [Env.cut_bx hs] at h; exact h⟩
  · rw [(Env.cut_no hs).1] at h; cases h
theorem Env.cut_someO {ν : Env} {S : Key → Prop} {k : Key} {b : Nat × Value} (h : (ν.cut S).ow k = some b) : S k ∧ ν.ow k = some b := by
  by_cases hs : S k
  · exact ⟨hs, by rw [Env.cut_ow hs] at h; exact h⟩
  · rw [(Env.cut_no hs).2] at h; cases h
theorem OverS.cut (S : Key → Prop) (w : World) (ν : Env) : OverS S w ν w (ν.cut S) :=
  ⟨fun _ _ h => ⟨h, rfl⟩, fun k b hk h => by rw [Env.cut_bx hk]; exact h, fun g n u hg h => ⟨n, u, by rw [Env.cut_ow hg]; exact h, .inl ⟨rfl, rfl⟩⟩⟩
end

def subB (S : Key → Prop) (b' b : List (Key × List PV)) : Prop := ∀ k cs, look k b' = some cs → look k b = some cs ∧ S k ∧ kinL S cs
def subE (S : Key → Prop) (e' e : List (Key × Own)) : Prop := ∀ k o, look k e' = some o → look k e = some o ∧ S k ∧ kinO S o

theorem Good.cut {pr pr' : Nat → Prop} {w : World} {ν : Env} {b b' : List (Key × List PV)} {e e' : List (Key × Own)} (h : Good pr w ν b e) {S : Key → Prop} (hb : subB S b' b) (he : subE S e' e)
    (hpr : ∀ bl, pr bl → (∃ k, (look k b').isSome ∧ (ν.cut S).bx k = some bl) ∨ (∃ g n v, (look g e').isSome ∧ (ν.cut S).ow g = some (n, v) ∧ v.ownBlock = some bl) → pr' bl) : Good pr' w (ν.cut S) b' e' := by
  have hbs : ∀ k, (look k b').isSome → (look k b).isSome ∧ S k := fun k hk => by
    obtain ⟨cs, hcs⟩ := Option.isSome_iff_exists.1 hk
    have := hb k cs hcs
    exact ⟨by simp [this.1], this.2.1⟩
  have hes : ∀ k, (look k e').isSome → (look k e).isSome ∧ S k := fun k hk => by
    obtain ⟨cs, hcs⟩ := Option.isSome_iff_exists.1 hk
    have := he k cs hcs
    exact ⟨by simp [this.1], this.2.1⟩
  refine ⟨h.alt, fun k cs hk => ?_, fun k k' bl h1 h2 h3 h4 => ?_, fun g o hg => ?_, fun g g' n n' v v' bl h1 h2 h3 h4 h5 h6 => ?_, fun g k n v bl h1 h2 h3 h4 h5 => ?_, fun k => ?_⟩
  · obtain ⟨g1, g2, g3⟩ := hb k cs hk
    obtain ⟨bl, us, el, f1, f2, f3, f4, f5⟩ := h.box k cs g1
    have hbx : (ν.cut S).bx k = some bl := by rw [Env.cut_bx g2]; exact f1
    exact ⟨bl, us, el, hbx, hpr bl f2 (.inl ⟨k, by simp [hk], hbx⟩), f3, f4, repB_overS (OverS.cut S w ν) g3 f5⟩
  · obtain ⟨a1, a2⟩ := hbs k h1
    obtain ⟨b1, b2⟩ := hbs k' h2
    exact h.inj k k' bl a1 b1 (Env.cut_some h3).2 (Env.cut_some h4).2
  · obtain ⟨g1, g2, g3⟩ := he g o hg
    obtain ⟨v, us, f1, f2, f3, f4⟩ := h.own g o g1
    have hox : (ν.cut S).ow g = some (o.n, v) := by rw [Env.cut_ow g2]; exact f1
    exact ⟨v, us, hox, f2, fun bl hbl => ⟨hpr bl (f3 bl hbl).1 (.inr ⟨g, o.n, v, by simp [hg], hox, hbl⟩), (f3 bl hbl).2⟩,
      fun xs hx => ⟨(f4 xs hx).1, repC_overS (OverS.cut S w ν) _ _ _ (g3 xs hx) (f4 xs hx).2.1, (f4 xs hx).2.2⟩⟩
  · obtain ⟨a1, a2⟩ := hes g h1
    obtain ⟨b1, b2⟩ := hes g' h2
    exact h.oinj g g' n n' v v' bl a1 b1 (Env.cut_someO h3).2 (Env.cut_someO h4).2 h5 h6
  · obtain ⟨a1, a2⟩ := hes g h1
    obtain ⟨b1, b2⟩ := hbs k h2
    exact h.obx g k n v bl a1 b1 (Env.cut_someO h3).2 h4 (Env.cut_some h5).2
  · by_cases hs : S k
    · rw [Env.cut_bx hs, Env.cut_ow hs]; exact h.one k
    · exact .inl (Env.cut_no hs).1

/-- What is known may be forgotten. -/
structure Weaker (ob : List Key) (st st' : St) : Prop where
  t : ∀ x ∈ st'.t, get x.1 st.t = x.2 ∧ kin (fun k => ¬fresh st'.n st'.o k) x.2
  b : subB (fun k => ¬fresh st'.n st'.o k) st'.b st.b
  e : subE (fun k => ¬fresh st'.n st'.o k) st'.e st.e
  o : ∀ m ∈ ob, m ∈ st'.o

theorem get_mem : ∀ (i : Nat) (l : List (Nat × PV)), get i l = .junk ∨ (i, get i l) ∈ l
  | _, [] => .inl rfl
  | i, (j, p) :: r => by
    by_cases h : j = i
    · subst h; right; simp [get]
    · rcases get_mem i r with h1 | h1
      · left; simp [get, h, h1]
      · right; simp [get, h]; right; exact h1

theorem Rel.weaker {C : Ctx} {st st' : St} {a : Act} {w : World} {ν : Env} (h : Rel C st a w ν) (hw : Weaker C.ob st st') : Rel C st' a w (ν.cut fun k => ¬fresh st'.n st'.o k) := by
  refine ⟨h.good.cut hw.b hw.e (fun bl hp _ => hp), ⟨h.fr.os, h.fr.tape, h.fr.output, h.fr.size, h.fr.block, h.fr.keep, h.fr.fresh, fun n b hb => ?_, h.fr.obn, fun m n u hm => ?_, h.fr.obr⟩, h.defers, h.size, fun i => ?_, fun k hk => Env.cut_no (fun hn => hn hk)⟩
  · rw [Env.cut_bx (fun hh => hh.2 (hw.o _ (h.fr.obn n b hb)))]
    exact h.fr.obj n b hb
  · rw [Env.cut_ow (fun hh => hh.2 (hw.o _ (h.fr.obr m n u hm)))]
    exact h.fr.row m n u hm
  · rcases get_mem i st'.t with hj | hm
    · rw [hj]; simp [rep]
    · obtain ⟨h1, h2⟩ := hw.t _ hm
      simp only at h1
      have := h.slot i
      rw [h1] at this
      exact rep_overS (OverS.cut _ w ν) _ _ h2 this

mutual
def strip : PV → PV
  | .slice sz _ xs => .slice sz .no (stripL xs)
  | .agg cs => .agg (stripL cs)
  | .tuple vs => .tuple (stripL vs)
  | .eptr x => .eptr (strip x)
  | .iface t x => .iface t (strip x)
  | .func f caps => .func f (stripL caps)
  | p => p
def stripL : List PV → List PV
  | [] => []
  | x :: xs => strip x :: stripL xs
end
theorem stripL_length : ∀ xs, (stripL xs).length = xs.length
  | [] => rfl
  | x :: xs => by simp [stripL, stripL_length xs]
theorem stripL_map : ∀ xs, stripL xs = xs.map strip
  | [] => rfl
  | x :: xs => by simp [stripL, stripL_map xs]

mutual
theorem rep_strip {w : World} {ν : Env} : ∀ (p : PV) (v : Value), rep w ν p v → rep w ν (strip p) v
  | .junk, _, h => by simpa only [strip] using h
  | .int k n, _, h => by simpa only [strip] using h
  | .bool b, _, h => by simpa only [strip] using h
  | .str s, _, h => by simpa only [strip] using h
  | .slice sz tag xs, v, h => by
    simp only [rep, strip] at h ⊢
    obtain ⟨⟨a, cap, h1, h2, h3, h4⟩, h5, h6⟩ := h
    refine ⟨⟨a, cap, by rw [stripL_length]; exact h1, by rw [stripL_length]; exact h2, by rw [stripL_length]; exact h3, ?_⟩, fun e => (by cases e), fun g e => (by cases e)⟩
    rcases h4 with rfl | ⟨b, off, us, h4, h6, h7⟩
    · exact .inl rfl
    · exact .inr ⟨b, off, us, h4, h6, repC_strip sz xs us h7⟩
  | .agg cs, v, h => by
    simp only [rep, strip] at h ⊢
    obtain ⟨us, h1, h2⟩ := h
    exact ⟨us, h1, repL_strip cs _ h2⟩
  | .ptr key off, v, h => by simpa only [strip] using h
  | .iface t x, v, h => by
    simp only [rep, strip] at h ⊢
    obtain ⟨u, h1, h2⟩ := h
    exact ⟨u, h1, rep_strip x u h2⟩
  | .eptr x, v, h => by
    simp only [rep, strip] at h ⊢
    obtain ⟨b, off, u, h1, h2, h3⟩ := h
    exact ⟨b, off, u, h1, rep_strip x u h2, h3⟩
  | .nilp, _, h => by simpa only [strip] using h
  | .tuple vs, v, h => by
    simp only [rep, strip] at h ⊢
    obtain ⟨us, h1, h2⟩ := h
    exact ⟨us, h1, repT_strip vs _ h2⟩
  | .func f caps, v, h => by
    simp only [rep, strip] at h ⊢
    obtain ⟨us, h1, h2⟩ := h
    exact ⟨us, h1, repT_strip caps _ h2⟩
  | .gmap key, v, h => by simpa only [strip] using h
  | .row _ _ _, v, h => by simpa only [strip] using h
  | .rptr _ _ _ _ _, v, h => by simpa only [strip] using h
theorem repL_strip {w : World} {ν : Env} : ∀ (cs : List PV) (us : List Value), repL w ν cs us → repL w ν (stripL cs) us
  | [], _, h => by simpa only [stripL] using h
  | c :: cs, us, h => by
    simp only [repL, stripL] at h ⊢
    obtain ⟨u, us', h1, h2, h3⟩ := h
    exact ⟨u, us', h1, ⟨rep_strip c u h2.1, h2.2⟩, repL_strip cs us' h3⟩
theorem repT_strip {w : World} {ν : Env} : ∀ (cs : List PV) (us : List Value), repT w ν cs us → repT w ν (stripL cs) us
  | [], _, h => by simpa only [stripL] using h
  | c :: cs, us, h => by
    simp only [repT, stripL] at h ⊢
    obtain ⟨u, us', h1, h2, h3⟩ := h
    exact ⟨u, us', h1, rep_strip c u h2, repT_strip cs us' h3⟩
theorem repC_strip {w : World} {ν : Env} (sz : Nat) : ∀ (xs : List PV) (us : List Value), repC w ν sz xs us → repC w ν sz (stripL xs) us
  | [], _, h => by simpa only [stripL] using h
  | x :: xs, us, h => by
    simp only [repC, stripL] at h ⊢
    obtain ⟨u, us', h1, ⟨h2, h3, h4⟩, h5⟩ := h
    exact ⟨u, us', h1, ⟨rep_strip x u h2, h3, h4⟩, repC_strip sz xs us' h5⟩
end

end Go.Pv
