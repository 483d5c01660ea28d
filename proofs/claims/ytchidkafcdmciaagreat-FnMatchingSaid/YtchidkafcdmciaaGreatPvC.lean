/- Facts on types, and the operations that compute a value out of slots and boxes, each proved against the model's own run. -/
import Derived.Test.YtchidkafcdmciaaGreatPvB
import Derived.IntWalk
set_option linter.all false
namespace Go.Pv
open Go Go.RowKit

inductive TK where
  | int (k : IntKind)
  | bool
  | str
  | slice (e : Nat)
  | struct (fs : List (Nat × Nat))
  | map (k e : Nat)
  | other
  deriving DecidableEq

structure TF where
  size : Nat
  bytes : Nat
  kind : TK
  zero : PV

def TK.isAgg : TK → Bool
  | .struct _ => true
  | _ => false

def zOkL : List PV → List Value → Bool
  | [], [] => true
  | p :: ps, v :: vs => cOk p v && v.oneCell' && zOkL ps vs
  | _, _ => false
def zOk : PV → Value → Bool
  | .agg cs, .agg us => zOkL cs us.toList
  | .agg _, _ => false
  | p, v => cOk p v && v.oneCell'
def dOk : TK → TypeDesc → Bool
  | .int k, .int k' => decide (k = k')
  | .bool, .bool => true
  | .str, .string => true
  | .slice e, .slice e' => e == e'
  | .struct fs, .struct gs => decide (gs.toList.map (fun f => (f.offset, f.type)) = fs)
  | .map k e, .map k' e' => k == k' && e == e'
  | .other, d => match d with | .struct _ | .array _ _ | .int _ | .bool | .string | .slice _ => false | _ => true
  | _, _ => false
def tyOk (P : Program) (t : Nat) (f : TF) : Bool :=
  match P.info? t, P.underlying t with
  | some i, some d => i.size == f.size && i.bytes == f.bytes && dOk f.kind d && (match i.zero with | some z => zOk f.zero z && z.cells.size == f.size | none => false)
  | _, _ => false
def tysOk (P : Program) (tys : List (Nat × TF)) : Bool := tys.all fun x => tyOk P x.1 x.2
def tf (tys : List (Nat × TF)) (t : Nat) : Option TF := (tys.find? fun x => x.1 == t).map (·.2)

theorem tf_ok {P : Program} {tys : List (Nat × TF)} (h : tysOk P tys = true) {t : Nat} {f : TF} (hf : tf tys t = some f) : tyOk P t f = true := by
  unfold tf at hf
  cases hx : tys.find? fun x => x.1 == t with
  | none => simp [hx] at hf
  | some x =>
    simp [hx] at hf
    have h1 := List.find?_some hx
    simp at h1
    have h2 := List.mem_of_find?_eq_some hx
    have h3 := List.all_eq_true.1 h x h2
    rw [← hf, ← h1]; exact h3

structure TyIs (P : Program) (t : Nat) (f : TF) : Prop where
  ex : ∃ i d z, P.info? t = some i ∧ P.underlying t = some d ∧ i.size = f.size ∧ i.bytes = f.bytes ∧ dOk f.kind d = true ∧ i.zero = some z ∧ zOk f.zero z = true ∧ z.cells.size = f.size

theorem tyIs {P : Program} {tys : List (Nat × TF)} (h : tysOk P tys = true) {t : Nat} {f : TF} (hf : tf tys t = some f) : TyIs P t f := by
  have h := tf_ok h hf
  unfold tyOk at h
  split at h
  · rename_i i d h1 h2
    simp only [Bool.and_eq_true, beq_iff_eq] at h
    obtain ⟨⟨⟨h3, h4⟩, h5⟩, h6⟩ := h
    split at h6
    · rename_i z hz
      simp only [Bool.and_eq_true, beq_iff_eq] at h6
      exact ⟨i, d, z, h1, h2, h3, h4, h5, hz, h6.1, h6.2⟩
    · cases h6
  · cases h

theorem add_mk (b o j : Nat) : (⟨b, o, none⟩ : Addr).add j = ⟨b, o + j, none⟩ := by
  unfold Addr.add; split
  · rename_i h; subst h; rfl
  · rfl

theorem zOkL_rep (w : World) (ν : Env) : ∀ (ps : List PV) (vs : List Value), zOkL ps vs = true → repL w ν ps vs
  | [], [], _ => by simp [repL]
  | [], _ :: _, h => by simp [zOkL] at h
  | _ :: _, [], h => by simp [zOkL] at h
  | p :: ps, v :: vs, h => by
    simp only [zOkL, Bool.and_eq_true] at h
    simp only [repL]
    exact ⟨v, vs, rfl, ⟨cOk_rep w ν h.1.1, h.1.2⟩, zOkL_rep w ν ps vs h.2⟩

/-- The cells of a value, as they lie in a variable. -/
def cells : PV → List PV
  | .agg cs => cs
  | p => [p]
def solid : PV → Bool
  | .junk | .tuple _ => false
  | _ => true
theorem rep_one {w : World} {ν : Env} {p : PV} {v : Value} (h : rep w ν p v) (hs : solid p = true) (ha : ∀ cs, p ≠ .agg cs) : v.oneCell' = true ∧ v.cells = #[v] := by
  cases p <;> simp only [rep, solid] at h hs
  case junk => cases hs
  case tuple => cases hs
  case agg cs => exact absurd rfl (ha cs)
  case int => subst h; exact ⟨rfl, rfl⟩
  case bool => subst h; exact ⟨rfl, rfl⟩
  case str => rw [h.1]; exact ⟨rfl, rfl⟩
  case slice => obtain ⟨⟨a, cap, h1, _⟩, _⟩ := h; subst h1; exact ⟨rfl, rfl⟩
  case ptr => obtain ⟨b, _, h1⟩ := h; subst h1; exact ⟨rfl, rfl⟩
  case eptr => obtain ⟨b, o, u, h1, _⟩ := h; subst h1; exact ⟨rfl, rfl⟩
  case iface => obtain ⟨u, h1, _⟩ := h; subst h1; exact ⟨rfl, rfl⟩
  case nilp => subst h; exact ⟨rfl, rfl⟩
  case func => obtain ⟨us, h1, _⟩ := h; subst h1; exact ⟨rfl, rfl⟩
  case gmap => obtain ⟨b, _, h1⟩ := h; subst h1; exact ⟨rfl, rfl⟩
  case row => obtain ⟨⟨a, cap, h1⟩, _⟩ := h; subst h1; exact ⟨rfl, rfl⟩
  case rptr => obtain ⟨⟨a, o, h1⟩, _⟩ := h; subst h1; exact ⟨rfl, rfl⟩
theorem rep_cells {w : World} {ν : Env} {p : PV} {v : Value} (h : rep w ν p v) (hs : solid p = true) : repL w ν (cells p) v.cells.toList := by
  by_cases ha : ∃ cs, p = .agg cs
  · obtain ⟨cs, rfl⟩ := ha
    simp only [rep] at h
    obtain ⟨us, rfl, h2⟩ := h
    simpa [cells, Value.cells] using h2
  · have ha' : ∀ cs, p ≠ .agg cs := fun cs e => ha ⟨cs, e⟩
    obtain ⟨h1, h2⟩ := rep_one h hs ha'
    have hc : cells p = [p] := by cases p <;> first | rfl | exact absurd rfl (ha' _)
    rw [hc, h2]
    simp only [repL]
    exact ⟨v, [], rfl, ⟨h, h1⟩, rfl⟩
theorem repL_one {w : World} {ν : Env} : ∀ {ps : List PV} {vs : List Value}, repL w ν ps vs → ∀ c ∈ vs, c.oneCell' = true
  | [], vs, h => by simp only [repL] at h; subst h; simp
  | p :: ps, vs, h => by
    simp only [repL] at h
    obtain ⟨u, us', rfl, h1, h2⟩ := h
    intro c hc
    rcases List.mem_cons.1 hc with rfl | hc
    · exact h1.2
    · exact repL_one h2 c hc
theorem repL_length {w : World} {ν : Env} : ∀ {ps : List PV} {vs : List Value}, repL w ν ps vs → vs.length = ps.length
  | [], vs, h => by simp only [repL] at h; subst h; rfl
  | p :: ps, vs, h => by
    simp only [repL] at h
    obtain ⟨u, us', rfl, _, h2⟩ := h
    simp [repL_length h2]
theorem repL_drop {w : World} {ν : Env} : ∀ (n : Nat) {ps : List PV} {vs : List Value}, repL w ν ps vs → repL w ν (ps.drop n) (vs.drop n)
  | 0, _, _, h => by simpa using h
  | n + 1, [], vs, h => by simp only [repL] at h; subst h; simp [repL]
  | n + 1, p :: ps, vs, h => by
    simp only [repL] at h
    obtain ⟨u, us', rfl, _, h2⟩ := h
    simpa using repL_drop n h2
theorem repL_take {w : World} {ν : Env} : ∀ (n : Nat) {ps : List PV} {vs : List Value}, repL w ν ps vs → repL w ν (ps.take n) (vs.take n)
  | 0, _, _, _ => by simp [repL]
  | n + 1, [], vs, h => by simp only [repL] at h; subst h; simp [repL]
  | n + 1, p :: ps, vs, h => by
    simp only [repL] at h
    obtain ⟨u, us', rfl, h1, h2⟩ := h
    simp only [List.take_succ_cons, repL]
    exact ⟨u, _, rfl, h1, repL_take n h2⟩
theorem repL_append {w : World} {ν : Env} : ∀ {ps qs : List PV} {vs us : List Value}, repL w ν ps vs → repL w ν qs us → repL w ν (ps ++ qs) (vs ++ us)
  | [], qs, vs, us, h, h' => by simp only [repL] at h; subst h; simpa using h'
  | p :: ps, qs, vs, us, h, h' => by
    simp only [repL] at h
    obtain ⟨u, us', rfl, h1, h2⟩ := h
    simp only [List.cons_append, repL]
    exact ⟨u, _, rfl, h1, repL_append h2 h'⟩
theorem repL_get {w : World} {ν : Env} : ∀ (n : Nat) {ps : List PV} {vs : List Value} {p : PV}, repL w ν ps vs → ps[n]? = some p → ∃ v, vs[n]? = some v ∧ rep w ν p v ∧ v.oneCell' = true
  | n, [], _, p, _, hp => by simp at hp
  | 0, q :: ps, vs, p, h, hp => by
    simp only [repL] at h
    obtain ⟨u, us', rfl, h1, _⟩ := h
    simp at hp; subst hp
    exact ⟨u, rfl, h1.1, h1.2⟩
  | n + 1, q :: ps, vs, p, h, hp => by
    simp only [repL] at h
    obtain ⟨u, us', rfl, _, h2⟩ := h
    simpa using repL_get n h2 (by simpa using hp)
theorem repT_get {w : World} {ν : Env} : ∀ (n : Nat) {ps : List PV} {vs : List Value} {p : PV}, repT w ν ps vs → ps[n]? = some p → ∃ v, vs[n]? = some v ∧ rep w ν p v
  | n, [], _, p, _, hp => by simp at hp
  | 0, q :: ps, vs, p, h, hp => by
    simp only [repT] at h
    obtain ⟨u, us', rfl, h1, _⟩ := h
    simp at hp; subst hp
    exact ⟨u, rfl, h1⟩
  | n + 1, q :: ps, vs, p, h, hp => by
    simp only [repT] at h
    obtain ⟨u, us', rfl, _, h2⟩ := h
    simpa using repT_get n h2 (by simpa using hp)

theorem laid_get {w : World} {A : Nat → Nat → Prop} {b : Nat} : ∀ {us : List Value} {off j : Nat} {u : Value}, laid w A b off us → us[j]? = some u → A b (off + j) ∧ w.cell? ⟨b, off + j, none⟩ = some u
  | [], _, _, _, _, h => by simp at h
  | x :: us, off, 0, u, hl, h => by simp at h; subst h; exact hl.1
  | x :: us, off, j + 1, u, hl, h => by
    have := laid_get (j := j) hl.2 (by simpa using h)
    rwa [show off + 1 + j = off + (j + 1) from by omega] at this
theorem laid_drop {w : World} {A : Nat → Nat → Prop} {b : Nat} : ∀ (n : Nat) {us : List Value} {off : Nat}, laid w A b off us → laid w A b (off + n) (us.drop n)
  | 0, _, _, h => by simpa using h
  | n + 1, [], _, _ => by simp [laid]
  | n + 1, x :: us, off, h => by
    have := laid_drop n h.2
    rw [show off + (n + 1) = off + 1 + n from by omega]; simpa using this
theorem laid_take {w : World} {A : Nat → Nat → Prop} {b : Nat} : ∀ (n : Nat) {us : List Value} {off : Nat}, laid w A b off us → laid w A b off (us.take n)
  | 0, _, _, _ => by simp [laid]
  | n + 1, [], _, _ => by simp [laid]
  | n + 1, x :: us, off, h => by simp only [List.take_succ_cons]; exact ⟨h.1, laid_take n h.2⟩
theorem run_load_laid {P : Program} {w : World} {A : Nat → Nat → Prop} {b off : Nat} {us : List Value} (h : laid w A b off us) : (loadCells ⟨b, off, none⟩ us.length).run P w = .ok us.toArray w :=
  run_loadCells_list w _ us fun j v hj => by rw [add_mk]; exact (laid_get h hj).2
theorem run_load_block {P : Program} {w : World} {b off n : Nat} {us : Array Value} {el : TypeId} {fr : Nat × Nat} (h : w.heap[b]? = some (.cells us el fr)) (hn : off + n ≤ us.size) :
    (loadCells ⟨b, off, none⟩ n).run P w = .ok ((us.toList.drop off).take n).toArray w := by
  have hl : ((us.toList.drop off).take n).length = n := by simp; omega
  have := run_loadCells_list (P := P) w ⟨b, off, none⟩ ((us.toList.drop off).take n) fun j v hj => by
    rw [add_mk]
    have hjn : j < n := by
      have := (List.getElem?_eq_some_iff.1 hj).1
      omega
    simp only [World.cell?, h, Option.isSome_none, Bool.false_eq_true, if_false]
    rw [List.getElem?_take] at hj
    simpa [hjn] using hj
  rw [hl] at this
  exact this

theorem drop_app {α : Type} (l r : List α) (n sz : Nat) (h : l.length = sz) : (l ++ r).drop ((n + 1) * sz) = r.drop (n * sz) := by
  have e : (n + 1) * sz = l.length + n * sz := by rw [h, Nat.succ_mul, Nat.add_comm]
  rw [e, ← List.drop_drop]; simp
theorem take_app {α : Type} (l r : List α) (n sz : Nat) (h : l.length = sz) : (l ++ r).take ((n + 1) * sz) = l ++ r.take (n * sz) := by
  have e : (n + 1) * sz = l.length + n * sz := by rw [h, Nat.succ_mul, Nat.add_comm]
  rw [e, List.take_length_add_append]
theorem repC_get {w : World} {ν : Env} {sz : Nat} : ∀ (i : Nat) {xs : List PV} {us : List Value} {p : PV}, repC w ν sz xs us → xs[i]? = some p →
    ∃ u, rep w ν p u ∧ u.cells.size = sz ∧ u.cells.toList = (us.drop (i * sz)).take sz
  | i, [], _, p, _, hp => by simp at hp
  | 0, x :: xs, us, p, h, hp => by
    simp only [repC] at h
    obtain ⟨u, us', rfl, ⟨h1, h2, h3⟩, _⟩ := h
    simp at hp; subst hp
    refine ⟨u, h1, h2, ?_⟩
    have : u.cells.toList.length = sz := by simpa using h2
    simp [← this]
  | i + 1, x :: xs, us, p, h, hp => by
    simp only [repC] at h
    obtain ⟨u, us', rfl, ⟨_, h2, _⟩, h5⟩ := h
    obtain ⟨v, g1, g2, g3⟩ := repC_get i h5 (by simpa using hp)
    refine ⟨v, g1, g2, ?_⟩
    have : u.cells.toList.length = sz := by simpa using h2
    rw [g3, drop_app _ _ _ _ this]
theorem repC_length {w : World} {ν : Env} {sz : Nat} : ∀ {xs : List PV} {us : List Value}, repC w ν sz xs us → us.length = xs.length * sz
  | [], us, h => by simp only [repC] at h; subst h; simp
  | x :: xs, us, h => by
    simp only [repC] at h
    obtain ⟨u, us', rfl, ⟨_, h2, _⟩, h5⟩ := h
    have : u.cells.toList.length = sz := by simpa using h2
    rw [List.length_append, this, repC_length h5, List.length_cons, Nat.succ_mul]; omega
theorem repC_one {w : World} {ν : Env} {sz : Nat} : ∀ {xs : List PV} {us : List Value}, repC w ν sz xs us → ∀ c ∈ us, c.oneCell' = true
  | [], us, h => by simp only [repC] at h; subst h; simp
  | x :: xs, us, h => by
    simp only [repC] at h
    obtain ⟨u, us', rfl, ⟨_, _, h3⟩, h5⟩ := h
    intro c hc
    rcases List.mem_append.1 hc with hc | hc
    · exact h3 c hc
    · exact repC_one h5 c hc
theorem repC_append {w : World} {ν : Env} {sz : Nat} : ∀ {ps qs : List PV} {vs us : List Value}, repC w ν sz ps vs → repC w ν sz qs us → repC w ν sz (ps ++ qs) (vs ++ us)
  | [], qs, vs, us, h, h' => by simp only [repC] at h; subst h; simpa using h'
  | p :: ps, qs, vs, us, h, h' => by
    simp only [repC] at h
    obtain ⟨u, us', rfl, h1, h2⟩ := h
    simp only [List.cons_append, repC]
    exact ⟨u, us' ++ us, by simp, h1, repC_append h2 h'⟩
theorem repC_drop {w : World} {ν : Env} {sz : Nat} : ∀ (n : Nat) {xs : List PV} {us : List Value}, repC w ν sz xs us → repC w ν sz (xs.drop n) (us.drop (n * sz))
  | 0, _, _, h => by simpa using h
  | n + 1, [], us, h => by simp only [repC] at h; subst h; simp [repC]
  | n + 1, x :: xs, us, h => by
    simp only [repC] at h
    obtain ⟨u, us', rfl, ⟨_, h2, _⟩, h5⟩ := h
    have : u.cells.toList.length = sz := by simpa using h2
    rw [drop_app _ _ _ _ this]
    simpa using repC_drop n h5
theorem repC_take {w : World} {ν : Env} {sz : Nat} : ∀ (n : Nat) {xs : List PV} {us : List Value}, repC w ν sz xs us → repC w ν sz (xs.take n) (us.take (n * sz))
  | 0, _, _, _ => by simp [repC]
  | n + 1, [], us, h => by simp only [repC] at h; subst h; simp [repC]
  | n + 1, x :: xs, us, h => by
    simp only [repC] at h
    obtain ⟨u, us', rfl, ⟨h1, h2, h3⟩, h5⟩ := h
    have : u.cells.toList.length = sz := by simpa using h2
    simp only [List.take_succ_cons, repC]
    refine ⟨u, us'.take (n * sz), ?_, ⟨h1, h2, h3⟩, repC_take n h5⟩
    rw [take_app _ _ _ _ this]

end Go.Pv
