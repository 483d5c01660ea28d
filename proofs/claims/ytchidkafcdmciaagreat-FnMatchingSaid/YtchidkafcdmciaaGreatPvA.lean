/- Heap-free values and what it means that a Go value of the model reads as one: the ground of a program logic by reflection. -/
import Derived.WalkKit
import Derived.Orders
import Derived.KernelRfl
set_option linter.all false
namespace Go.Pv
open Go Go.RowKit

/-- The name of a box: a variable of the frame's own (by its slot), or an object that may be handed to other calls. -/
inductive Key where
  | loc (s : Nat)
  | obj (n : Nat)
  deriving DecidableEq, Inhabited

/-- What is known of a slice besides its elements: nothing; that it is nil; that it is the row 'own k' (which may be appended to as long as its length is the row's). -/
inductive Tag where
  | no
  | nil
  | own (k : Key)
  deriving DecidableEq, Inhabited

/-- A heap-free value. 'ptr' points into a box; 'eptr' at an element that no one changes any more. -/
inductive PV where
  | junk
  | int (k : IntKind) (n : Int)
  | bool (b : Bool)
  | str (s : List UInt8)
  | slice (sz : Nat) (tag : Tag) (xs : List PV)
  | agg (cs : List PV)
  | ptr (key : Key) (off : Nat)
  | eptr (x : PV)
  | iface (t : Nat) (x : PV)
  | nilp
  | tuple (vs : List PV)
  | func (f : Nat) (caps : List PV)
  | gmap (key : Key)
  | row (sz : Nat) (key : Key) (n : Nat)
  | rptr (sz : Nat) (key : Key) (n i f : Nat)
  | hdm (clock : Nat) (borns : List Nat)
  | hdi (since : Nat) (seen : List Nat) (last : Nat)
  deriving Inhabited

/-- 'A': the cells that never change; 'bx': the boxes' blocks; 'ow': the rows that may be appended to: how many elements, and the slice value. -/
structure Env where
  A : Nat → Nat → Prop
  bx : Key → Option Nat
  ow : Key → Option (Nat × Value)

/-- How long a string or a slice may be that the logic speaks of. -/
def lim : Nat := 68719476736

def laid (w : World) (A : Nat → Nat → Prop) (b : Nat) : Nat → List Value → Prop
  | _, [] => True
  | off, u :: us => (A b off ∧ w.cell? ⟨b, off, none⟩ = some u) ∧ laid w A b (off + 1) us

mutual
def rep (w : World) (ν : Env) : PV → Value → Prop
  | .junk, _ => True
  | .int k n, v => v = .int k n
  | .bool b, v => v = .bool b
  | .str s, v => v = .string ⟨s.toArray⟩ ∧ s.length ≤ lim
  | .slice sz tag xs, v =>
      (∃ a cap, v = .slice a xs.length cap ∧ xs.length ≤ cap ∧ (cap ≤ maxLen ∧ xs.length ≤ lim) ∧ (xs = [] ∨ ∃ b off us, a = some ⟨b, off, none⟩ ∧ laid w ν.A b off us ∧ repC w ν sz xs us)) ∧
      (tag = .nil → v = .slice none 0 0) ∧
      (∀ g, tag = .own g → ∃ n u, ν.ow g = some (n, u) ∧ xs.length ≤ n ∧ (xs.length = n → v = u))
  | .agg cs, v => ∃ us : Array Value, v = .agg us ∧ repL w ν cs us.toList
  | .ptr key off, v => ∃ b, ν.bx key = some b ∧ v = .pointer (some ⟨b, off, none⟩)
  | .eptr x, v => ∃ b off u, v = .pointer (some ⟨b, off, none⟩) ∧ rep w ν x u ∧ laid w ν.A b off u.cells.toList
  | .iface t x, v => ∃ u, v = .iface t u ∧ rep w ν x u
  | .nilp, v => v = .pointer none
  | .tuple vs, v => ∃ us : Array Value, v = .tuple us ∧ repT w ν vs us.toList
  | .func f caps, v => ∃ us : Array Value, v = .func (.func f) #[] us ∧ repT w ν caps us.toList
  | .gmap key, v => ∃ b, ν.bx key = some b ∧ v = .map (some b)
  | .row _ key n, v => (∃ b cap, v = .slice (some ⟨b, 0, none⟩) n cap) ∧ n ≤ lim ∧ ∃ n' u, ν.ow key = some (n', u) ∧ n ≤ n' ∧ (n = n' → v = u)
  | .rptr sz key n i f, v => (∃ b o, v = .pointer (some ⟨b, o, none⟩)) ∧ i < n ∧ ∃ n' u, ν.ow key = some (n', u) ∧ n ≤ n' ∧ (n = n' → ∃ b, u.ownBlock = some b ∧ v = .pointer (some ⟨b, i * sz + f, none⟩))
  | .hdm _ _, _ => False
  | .hdi _ _ _, _ => False
def repL (w : World) (ν : Env) : List PV → List Value → Prop
  | [], us => us = []
  | c :: cs, us => ∃ u us', us = u :: us' ∧ (rep w ν c u ∧ u.oneCell' = true) ∧ repL w ν cs us'
def repT (w : World) (ν : Env) : List PV → List Value → Prop
  | [], us => us = []
  | c :: cs, us => ∃ u us', us = u :: us' ∧ rep w ν c u ∧ repT w ν cs us'
def repC (w : World) (ν : Env) (sz : Nat) : List PV → List Value → Prop
  | [], us => us = []
  | x :: xs, us => ∃ u us', us = u.cells.toList ++ us' ∧ (rep w ν x u ∧ u.cells.size = sz ∧ (∀ c ∈ u.cells.toList, c.oneCell' = true)) ∧ repC w ν sz xs us'
end

theorem laid_mono {w w' : World} {A A' : Nat → Nat → Prop} {b : Nat} (hA : ∀ b o, A b o → A' b o ∧ w'.cell? ⟨b, o, none⟩ = w.cell? ⟨b, o, none⟩) :
    ∀ (us : List Value) (off : Nat), laid w A b off us → laid w' A' b off us
  | [], _, _ => trivial
  | _ :: us, off, h => ⟨⟨(hA _ _ h.1.1).1, (hA _ _ h.1.1).2.trans h.1.2⟩, laid_mono hA us (off + 1) h.2⟩

mutual
/-- All names in a value lie in S. -/
def kin (S : Key → Prop) : PV → Prop
  | .slice _ tag xs => (match tag with | .own k => S k | _ => True) ∧ kinL S xs
  | .agg cs => kinL S cs
  | .ptr k _ => S k
  | .eptr x => kin S x
  | .iface _ x => kin S x
  | .tuple vs => kinL S vs
  | .func _ caps => kinL S caps
  | .gmap k => S k
  | .row _ k _ => S k
  | .rptr _ k _ _ _ => S k
  | _ => True
def kinL (S : Key → Prop) : List PV → Prop
  | [] => True
  | x :: xs => kin S x ∧ kinL S xs
end

mutual
theorem kin_mono {S T : Key → Prop} (h : ∀ k, S k → T k) : ∀ p : PV, kin S p → kin T p
  | .junk, _ => by simp [kin]
  | .int _ _, _ => by simp [kin]
  | .bool _, _ => by simp [kin]
  | .str _, _ => by simp [kin]
  | .slice sz tag xs, hp => by
    simp only [kin] at hp ⊢
    exact ⟨by cases tag <;> first | trivial | exact h _ hp.1, kinL_mono h xs hp.2⟩
  | .agg cs, hp => by simp only [kin] at hp ⊢; exact kinL_mono h cs hp
  | .ptr k _, hp => by simp only [kin] at hp ⊢; exact h _ hp
  | .eptr x, hp => by simp only [kin] at hp ⊢; exact kin_mono h x hp
  | .iface _ x, hp => by simp only [kin] at hp ⊢; exact kin_mono h x hp
  | .nilp, _ => by simp [kin]
  | .tuple vs, hp => by simp only [kin] at hp ⊢; exact kinL_mono h vs hp
  | .func _ caps, hp => by simp only [kin] at hp ⊢; exact kinL_mono h caps hp
  | .gmap k, hp => by simp only [kin] at hp ⊢; exact h _ hp
  | .row _ k _, hp => by simp only [kin] at hp ⊢; exact h _ hp
  | .rptr _ k _ _ _, hp => by simp only [kin] at hp ⊢; exact h _ hp
  | .hdm _ _, _ => by simp [kin]
  | .hdi _ _ _, _ => by simp [kin]
theorem kinL_mono {S T : Key → Prop} (h : ∀ k, S k → T k) : ∀ ps : List PV, kinL S ps → kinL T ps
  | [], _ => by simp [kinL]
  | x :: xs, hp => by simp only [kinL] at hp ⊢; exact ⟨kin_mono h x hp.1, kinL_mono h xs hp.2⟩
end

mutual
theorem kin_univ : ∀ p : PV, kin (fun _ => True) p
  | .junk => by simp [kin]
  | .int _ _ => by simp [kin]
  | .bool _ => by simp [kin]
  | .str _ => by simp [kin]
  | .slice sz tag xs => by simp only [kin]; exact ⟨by cases tag <;> trivial, kinL_univ xs⟩
  | .agg cs => by simp only [kin]; exact kinL_univ cs
  | .ptr k _ => by simp [kin]
  | .eptr x => by simp only [kin]; exact kin_univ x
  | .iface _ x => by simp only [kin]; exact kin_univ x
  | .nilp => by simp [kin]
  | .tuple vs => by simp only [kin]; exact kinL_univ vs
  | .func _ caps => by simp only [kin]; exact kinL_univ caps
  | .gmap k => by simp [kin]
  | .row _ k _ => by simp [kin]
  | .rptr _ k _ _ _ => by simp [kin]
  | .hdm _ _ => by simp [kin]
  | .hdi _ _ _ => by simp [kin]
theorem kinL_univ : ∀ ps : List PV, kinL (fun _ => True) ps
  | [] => by simp [kinL]
  | x :: xs => by simp only [kinL]; exact ⟨kin_univ x, kinL_univ xs⟩
end

/-- The entries of a map, out of their stamps and of keys and values in turn. -/
def ents : List Nat → List Value → List MapEntry
  | b :: bs, k :: v :: r => ⟨k, v, b⟩ :: ents bs r
  | _, _ => []
/-- What lies in a box: cells; or, if its content begins with a head, a map or an iterator over a map. -/
def objFrom (cs : List PV) (us : Array Value) (el : TypeId) : Obj :=
  match cs with
  | .hdm clock borns :: _ => .map (ents borns us.toList).toArray clock
  | .hdi since seen last :: _ => .mapIter (match us.toList with | [.map m] => m | _ => none) since seen.toArray last
  | _ => .cells us el
/-- What holds of a map's stamps. -/
structure mapWf (clock : Nat) (borns : List Nat) (r : List PV) : Prop where
  len : r.length = 2 * borns.length
  inc : borns.Pairwise (· < ·)
  lt : ∀ b ∈ borns, b < clock
def repB (w : World) (ν : Env) (cs : List PV) (us : List Value) : Prop :=
  match cs with
  | .hdm clock borns :: r => repT w ν r us ∧ mapWf clock borns r
  | .hdi _ _ _ :: r => repT w ν r us
  | cs => repL w ν cs us
def plainB : List PV → Bool
  | .hdm _ _ :: _ => false
  | .hdi _ _ _ :: _ => false
  | _ => true
theorem repL_plain {w : World} {ν : Env} {cs : List PV} {us : List Value} (h : repL w ν cs us) : plainB cs = true := by
  unfold plainB
  split
  · simp only [repL, rep] at h; obtain ⟨_, _, _, ⟨h, _⟩, _⟩ := h; exact h.elim
  · simp only [repL, rep] at h; obtain ⟨_, _, _, ⟨h, _⟩, _⟩ := h; exact h.elim
  · rfl
theorem plain_obj {cs : List PV} (h : plainB cs = true) (us : Array Value) (el : TypeId) : objFrom cs us el = .cells us el := by
  unfold plainB at h; unfold objFrom
  split at h <;> first | cases h | skip
  rfl
theorem plain_repB {w : World} {ν : Env} {cs : List PV} (h : plainB cs = true) (us : List Value) : repB w ν cs us = repL w ν cs us := by
  unfold plainB at h; unfold repB
  split at h <;> first | cases h | skip
  rfl

/-- What must hold between two worlds and environments that every reading whose names lie in S goes over. -/
structure OverS (S : Key → Prop) (w : World) (ν : Env) (w' : World) (ν' : Env) : Prop where
  A : ∀ b o, ν.A b o → ν'.A b o ∧ w'.cell? ⟨b, o, none⟩ = w.cell? ⟨b, o, none⟩
  bx : ∀ k b, S k → ν.bx k = some b → ν'.bx k = some b
  ow : ∀ g n u, S g → ν.ow g = some (n, u) → ∃ n' u', ν'.ow g = some (n', u') ∧ (n' = n ∧ u' = u ∨ n < n')
abbrev Over := OverS (fun _ => True)

mutual
theorem rep_overS {S : Key → Prop} {w w' : World} {ν ν' : Env} (ho : OverS S w ν w' ν') : ∀ (p : PV) (v : Value), kin S p → rep w ν p v → rep w' ν' p v
  | .junk, _, _, _ => by simp [rep]
  | .int k n, _, _, h => by simp only [rep] at h ⊢; exact h
  | .bool b, _, _, h => by simp only [rep] at h ⊢; exact h
  | .str s, _, _, h => by simp only [rep] at h ⊢; exact h
  | .slice sz tag xs, v, hk, h => by
    simp only [rep, kin] at h hk ⊢
    obtain ⟨⟨a, cap, h1, h2, h3, h4⟩, h5, h6⟩ := h
    refine ⟨⟨a, cap, h1, h2, h3, ?_⟩, h5, fun g hg => ?_⟩
    · rcases h4 with h4 | ⟨b, off, us, h4, h6, h7⟩
      · exact .inl h4
      · exact .inr ⟨b, off, us, h4, laid_mono ho.A _ _ h6, repC_overS ho sz xs us hk.2 h7⟩
    · obtain ⟨n, u, e1, e2, e3⟩ := h6 g hg
      subst hg
      obtain ⟨n', u', f1, f2⟩ := ho.ow g n u hk.1 e1
      refine ⟨n', u', f1, ?_⟩
      rcases f2 with ⟨rfl, rfl⟩ | f2
      · exact ⟨e2, e3⟩
      · exact ⟨by omega, fun e => by omega⟩
  | .agg cs, v, hk, h => by
    simp only [rep, kin] at h hk ⊢
    obtain ⟨us, h1, h2⟩ := h
    exact ⟨us, h1, repL_overS ho cs _ hk h2⟩
  | .ptr key off, v, hk, h => by
    simp only [rep, kin] at h hk ⊢
    obtain ⟨b, h1, h2⟩ := h
    exact ⟨b, ho.bx _ _ hk h1, h2⟩
  | .iface t x, v, hk, h => by
    simp only [rep, kin] at h hk ⊢
    obtain ⟨u, h1, h2⟩ := h
    exact ⟨u, h1, rep_overS ho x u hk h2⟩
  | .eptr x, v, hk, h => by
    simp only [rep, kin] at h hk ⊢
    obtain ⟨b, off, u, h1, h2, h3⟩ := h
    exact ⟨b, off, u, h1, rep_overS ho x u hk h2, laid_mono ho.A _ _ h3⟩
  | .nilp, _, _, h => by simp only [rep] at h ⊢; exact h
  | .tuple vs, v, hk, h => by
    simp only [rep, kin] at h hk ⊢
    obtain ⟨us, h1, h2⟩ := h
    exact ⟨us, h1, repT_overS ho vs _ hk h2⟩
  | .func f caps, v, hk, h => by
    simp only [rep, kin] at h hk ⊢
    obtain ⟨us, h1, h2⟩ := h
    exact ⟨us, h1, repT_overS ho caps _ hk h2⟩
  | .gmap key, v, hk, h => by
    simp only [rep, kin] at h hk ⊢
    obtain ⟨b, h1, h2⟩ := h
    exact ⟨b, ho.bx _ _ hk h1, h2⟩
  | .row sz key n, v, hk, h => by
    simp only [rep, kin] at h hk ⊢
    obtain ⟨h1, h2, n', u, h3, h4, h5⟩ := h
    obtain ⟨n2, u2, f1, f2⟩ := ho.ow key n' u hk h3
    refine ⟨h1, h2, n2, u2, f1, ?_⟩
    rcases f2 with ⟨rfl, rfl⟩ | f2
    · exact ⟨h4, h5⟩
    · exact ⟨by omega, fun e => by omega⟩
  | .rptr sz key n i f, v, hk, h => by
    simp only [rep, kin] at h hk ⊢
    obtain ⟨h1, h2, n', u, h3, h4, h5⟩ := h
    obtain ⟨n2, u2, f1, f2⟩ := ho.ow key n' u hk h3
    refine ⟨h1, h2, n2, u2, f1, ?_⟩
    rcases f2 with ⟨rfl, rfl⟩ | f2
    · exact ⟨h4, h5⟩
    · exact ⟨by omega, fun e => by omega⟩
  | .hdm _ _, _, _, h => by simp only [rep] at h
  | .hdi _ _ _, _, _, h => by simp only [rep] at h
theorem repL_overS {S : Key → Prop} {w w' : World} {ν ν' : Env} (ho : OverS S w ν w' ν') : ∀ (cs : List PV) (us : List Value), kinL S cs → repL w ν cs us → repL w' ν' cs us
  | [], _, _, h => by simp only [repL] at h ⊢; exact h
  | c :: cs, us, hk, h => by
    simp only [repL, kinL] at h hk ⊢
    obtain ⟨u, us', h1, h2, h3⟩ := h
    exact ⟨u, us', h1, ⟨rep_overS ho c u hk.1 h2.1, h2.2⟩, repL_overS ho cs us' hk.2 h3⟩
theorem repT_overS {S : Key → Prop} {w w' : World} {ν ν' : Env} (ho : OverS S w ν w' ν') : ∀ (cs : List PV) (us : List Value), kinL S cs → repT w ν cs us → repT w' ν' cs us
  | [], _, _, h => by simp only [repT] at h ⊢; exact h
  | c :: cs, us, hk, h => by
    simp only [repT, kinL] at h hk ⊢
    obtain ⟨u, us', h1, h2, h3⟩ := h
    exact ⟨u, us', h1, rep_overS ho c u hk.1 h2, repT_overS ho cs us' hk.2 h3⟩
theorem repC_overS {S : Key → Prop} {w w' : World} {ν ν' : Env} (ho : OverS S w ν w' ν') (sz : Nat) : ∀ (xs : List PV) (us : List Value), kinL S xs → repC w ν sz xs us → repC w' ν' sz xs us
  | [], _, _, h => by simp only [repC] at h ⊢; exact h
  | x :: xs, us, hk, h => by
    simp only [repC, kinL] at h hk ⊢
    obtain ⟨u, us', h1, ⟨h2, h3, h4⟩, h5⟩ := h
    exact ⟨u, us', h1, ⟨rep_overS ho x u hk.1 h2, h3, h4⟩, repC_overS ho sz xs us' hk.2 h5⟩
end

theorem repB_overS {S : Key → Prop} {w w' : World} {ν ν' : Env} (ho : OverS S w ν w' ν') {cs : List PV} {us : List Value} (hk : kinL S cs) (h : repB w ν cs us) : repB w' ν' cs us := by
  unfold repB at h ⊢
  split
  · simp only [kinL] at hk; exact ⟨repT_overS ho _ _ hk.2 h.1, h.2⟩
  · simp only [kinL] at hk; exact repT_overS ho _ _ hk.2 h
  · rename_i h1 h2
    split at h
    · exact absurd rfl (h1 _ _ _)
    · exact absurd rfl (h2 _ _ _ _)
    · exact repL_overS ho _ _ hk h

section
variable {w w' : World} {ν ν' : Env} (ho : Over w ν w' ν')
include ho
theorem rep_over {p : PV} {v : Value} (h : rep w ν p v) : rep w' ν' p v := rep_overS ho p v (kin_univ p) h
theorem repL_over {p : List PV} {v : List Value} (h : repL w ν p v) : repL w' ν' p v := repL_overS ho p v (kinL_univ p) h
theorem repT_over {p : List PV} {v : List Value} (h : repT w ν p v) : repT w' ν' p v := repT_overS ho p v (kinL_univ p) h
theorem repB_over {p : List PV} {v : List Value} (h : repB w ν p v) : repB w' ν' p v := repB_overS ho (kinL_univ p) h
theorem repC_over {sz : Nat} {p : List PV} {v : List Value} (h : repC w ν sz p v) : repC w' ν' sz p v := repC_overS ho sz p v (kinL_univ p) h
end

theorem OverS.refl (S : Key → Prop) (w : World) (ν : Env) : OverS S w ν w ν := ⟨fun _ _ h => ⟨h, rfl⟩, fun _ _ _ h => h, fun _ n u _ h => ⟨n, u, h, .inl ⟨rfl, rfl⟩⟩⟩
theorem OverS.trans {S : Key → Prop} {w1 w2 w3 : World} {ν1 ν2 ν3 : Env} (h : OverS S w1 ν1 w2 ν2) (k : OverS S w2 ν2 w3 ν3) : OverS S w1 ν1 w3 ν3 :=
  ⟨fun b o ha => ⟨(k.A b o (h.A b o ha).1).1, (k.A b o (h.A b o ha).1).2.trans (h.A b o ha).2⟩, fun _ _ hs hb => k.bx _ _ hs (h.bx _ _ hs hb),
   fun g n u hs hg => by
    obtain ⟨n1, u1, e1, e2⟩ := h.ow g n u hs hg
    obtain ⟨n2, u2, f1, f2⟩ := k.ow g n1 u1 hs e1
    refine ⟨n2, u2, f1, ?_⟩
    rcases e2 with ⟨rfl, rfl⟩ | e2
    · exact f2
    · rcases f2 with ⟨rfl, rfl⟩ | f2
      · exact .inr e2
      · exact .inr (by omega)⟩
theorem OverS.mono {S T : Key → Prop} {w w' : World} {ν ν' : Env} (h : OverS S w ν w' ν') (hs : ∀ k, T k → S k) : OverS T w ν w' ν' :=
  ⟨h.A, fun k b hk => h.bx k b (hs k hk), fun g n u hg => h.ow g n u (hs g hg)⟩

end Go.Pv
