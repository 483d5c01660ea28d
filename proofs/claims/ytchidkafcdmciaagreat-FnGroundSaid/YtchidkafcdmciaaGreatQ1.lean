/- Heap-free values and what it means that a Go value of the model reads as one: the ground of a program logic by reflection. -/
import Derived.WalkKit
import Derived.Orders
import Derived.KernelRfl
import Derived.IntWalk
import Derived.MapKept
import Derived.ArgAppend
set_option linter.all false
namespace Go.Pv
open Go Go.RowKit

/-- The name of a box: a variable of the frame's own (by its slot), or an object that may be handed to other calls. -/
inductive Key where
  | loc (s : Nat)
  | obj (n : Nat)
  deriving DecidableEq, Inhabited

/-- What is known of a slice besides its elements: nothing; that it is nil; that it is the row 'own k' (which may be appended to as long as its length is the row's). -/
inductive Tag where
  | no
  | nil
  | own (k : Key)
  deriving DecidableEq, Inhabited

/-- A heap-free value. 'ptr' points into a box; 'eptr' at an element that no one changes any more. -/
inductive PV where
  | junk
  | int (k : IntKind) (n : Int)
  | bool (b : Bool)
  | str (s : List UInt8)
  | slice (sz : Nat) (tag : Tag) (xs : List PV)
  | agg (cs : List PV)
  | ptr (key : Key) (off : Nat)
  | eptr (x : PV)
  | iface (t : Nat) (x : PV)
  | nilp
  | tuple (vs : List PV)
  | func (f : Nat) (caps : List PV)
  | gmap (key : Key)
  | row (sz : Nat) (key : Key) (n : Nat)
  | rptr (sz : Nat) (key : Key) (n i f : Nat)
  | hdm (clock : Nat) (borns : List Nat)
  | hdi (since : Nat) (seen : List Nat) (last : Nat)
  | cst (v : Value)
  deriving Inhabited

/-- 'A': the cells that never change; 'bx': the boxes' blocks; 'ow': the rows that may be appended to: how many elements, and the slice value. -/
structure Env where
  A : Nat → Nat → Prop
  bx : Key → Option Nat
  ow : Key → Option (Nat × Value)

/-- How long a string or a slice may be that the logic speaks of. -/
def lim : Nat := 68719476736

def laid (w : World) (A : Nat → Nat → Prop) (b : Nat) : Nat → List Value → Prop
  | _, [] => True
  | off, u :: us => (A b off ∧ w.cell? ⟨b, off, none⟩ = some u) ∧ laid w A b (off + 1) us

mutual
def rep (w : World) (ν : Env) : PV → Value → Prop
  | .junk, _ => True
  | .int k n, v => v = .int k n
  | .bool b, v => v = .bool b
  | .str s, v => v = .string ⟨s.toArray⟩ ∧ s.length ≤ lim
  | .slice sz tag xs, v =>
      (∃ a cap, v = .slice a xs.length cap ∧ xs.length ≤ cap ∧ (cap ≤ maxLen ∧ xs.length ≤ lim) ∧ (xs = [] ∨ ∃ b off us, a = some ⟨b, off, none⟩ ∧ laid w ν.A b off us ∧ repC w ν sz xs us)) ∧
      (tag = .nil → v = .slice none 0 0) ∧
      (∀ g, tag = .own g → ∃ n u, ν.ow g = some (n, u) ∧ xs.length ≤ n ∧ (xs.length = n → v = u))
  | .agg cs, v => ∃ us : Array Value, v = .agg us ∧ repL w ν cs us.toList
  | .ptr key off, v => ∃ b, ν.bx key = some b ∧ v = .pointer (some ⟨b, off, none⟩)
  | .eptr x, v => ∃ b off u, v = .pointer (some ⟨b, off, none⟩) ∧ rep w ν x u ∧ laid w ν.A b off u.cells.toList
  | .iface t x, v => ∃ u, v = .iface t u ∧ rep w ν x u
  | .nilp, v => v = .pointer none
  | .tuple vs, v => ∃ us : Array Value, v = .tuple us ∧ repT w ν vs us.toList
  | .func f caps, v => ∃ us : Array Value, v = .func (.func f) #[] us ∧ repT w ν caps us.toList
  | .gmap key, v => ∃ b, ν.bx key = some b ∧ v = .map (some b)
  | .row _ key n, v => (∃ b cap, v = .slice (some ⟨b, 0, none⟩) n cap) ∧ n ≤ lim ∧ ∃ n' u, ν.ow key = some (n', u) ∧ n ≤ n' ∧ (n = n' → v = u)
  | .rptr sz key n i f, v => (∃ b o, v = .pointer (some ⟨b, o, none⟩)) ∧ i < n ∧ ∃ n' u, ν.ow key = some (n', u) ∧ n ≤ n' ∧ (n = n' → ∃ b, u.ownBlock = some b ∧ v = .pointer (some ⟨b, i * sz + f, none⟩))
  | .hdm _ _, _ => False
  | .hdi _ _ _, _ => False
  | .cst c, v => v = c
def repL (w : World) (ν : Env) : List PV → List Value → Prop
  | [], us => us = []
  | c :: cs, us => ∃ u us', us = u :: us' ∧ (rep w ν c u ∧ u.oneCell' = true) ∧ repL w ν cs us'
def repT (w : World) (ν : Env) : List PV → List Value → Prop
  | [], us => us = []
  | c :: cs, us => ∃ u us', us = u :: us' ∧ rep w ν c u ∧ repT w ν cs us'
def repC (w : World) (ν : Env) (sz : Nat) : List PV → List Value → Prop
  | [], us => us = []
  | x :: xs, us => ∃ u us', us = u.cells.toList ++ us' ∧ (rep w ν x u ∧ u.cells.size = sz ∧ (∀ c ∈ u.cells.toList, c.oneCell' = true)) ∧ repC w ν sz xs us'
end

theorem laid_mono {w w' : World} {A A' : Nat → Nat → Prop} {b : Nat} (hA : ∀ b o, A b o → A' b o ∧ w'.cell? ⟨b, o, none⟩ = w.cell? ⟨b, o, none⟩) :
    ∀ (us : List Value) (off : Nat), laid w A b off us → laid w' A' b off us
  | [], _, _ => trivial
  | _ :: us, off, h => ⟨⟨(hA _ _ h.1.1).1, (hA _ _ h.1.1).2.trans h.1.2⟩, laid_mono hA us (off + 1) h.2⟩

mutual
/-- All names in a value lie in S. -/
def kin (S : Key → Prop) : PV → Prop
  | .slice _ tag xs => (match tag with | .own k => S k | _ => True) ∧ kinL S xs
  | .agg cs => kinL S cs
  | .ptr k _ => S k
  | .eptr x => kin S x
  | .iface _ x => kin S x
  | .tuple vs => kinL S vs
  | .func _ caps => kinL S caps
  | .gmap k => S k
  | .row _ k _ => S k
  | .rptr _ k _ _ _ => S k
  | _ => True
def kinL (S : Key → Prop) : List PV → Prop
  | [] => True
  | x :: xs => kin S x ∧ kinL S xs
end

mutual
theorem kin_mono {S T : Key → Prop} (h : ∀ k, S k → T k) : ∀ p : PV, kin S p → kin T p
  | .junk, _ => by simp [kin]
  | .int _ _, _ => by simp [kin]
  | .bool _, _ => by simp [kin]
  | .str _, _ => by simp [kin]
  | .slice sz tag xs, hp => by
    simp only [kin] at hp ⊢
    exact ⟨by cases tag <;> first | trivial | exact h _ hp.1, kinL_mono h xs hp.2⟩
  | .agg cs, hp => by simp only [kin] at hp ⊢; exact kinL_mono h cs hp
  | .ptr k _, hp => by simp only [kin] at hp ⊢; exact h _ hp
  | .eptr x, hp => by simp only [kin] at hp ⊢; exact kin_mono h x hp
  | .iface _ x, hp => by simp only [kin] at hp ⊢; exact kin_mono h x hp
  | .nilp, _ => by simp [kin]
  | .tuple vs, hp => by simp only [kin] at hp ⊢; exact kinL_mono h vs hp
  | .func _ caps, hp => by simp only [kin] at hp ⊢; exact kinL_mono h caps hp
  | .gmap k, hp => by simp only [kin] at hp ⊢; exact h _ hp
  | .row _ k _, hp => by simp only [kin] at hp ⊢; exact h _ hp
  | .rptr _ k _ _ _, hp => by simp only [kin] at hp ⊢; exact h _ hp
  | .hdm _ _, _ => by simp [kin]
  | .hdi _ _ _, _ => by simp [kin]
  | .cst _, _ => by simp [kin]
theorem kinL_mono {S T : Key → Prop} (h : ∀ k, S k → T k) : ∀ ps : List PV, kinL S ps → kinL T ps
  | [], _ => by simp [kinL]
  | x :: xs, hp => by simp only [kinL] at hp ⊢; exact ⟨kin_mono h x hp.1, kinL_mono h xs hp.2⟩
end

mutual
theorem kin_univ : ∀ p : PV, kin (fun _ => True) p
  | .junk => by simp [kin]
  | .int _ _ => by simp [kin]
  | .bool _ => by simp [kin]
  | .str _ => by simp [kin]
  | .slice sz tag xs => by simp only [kin]; exact ⟨by cases tag <;> trivial, kinL_univ xs⟩
  | .agg cs => by simp only [kin]; exact kinL_univ cs
  | .ptr k _ => by simp [kin]
  | .eptr x => by simp only [kin]; exact kin_univ x
  | .iface _ x => by simp only [kin]; exact kin_univ x
  | .nilp => by simp [kin]
  | .tuple vs => by simp only [kin]; exact kinL_univ vs
  | .func _ caps => by simp only [kin]; exact kinL_univ caps
  | .gmap k => by simp [kin]
  | .row _ k _ => by simp [kin]
  | .rptr _ k _ _ _ => by simp [kin]
  | .hdm _ _ => by simp [kin]
  | .hdi _ _ _ => by simp [kin]
  | .cst _ => by simp [kin]
theorem kinL_univ : ∀ ps : List PV, kinL (fun _ => True) ps
  | [] => by simp [kinL]
  | x :: xs => by simp only [kinL]; exact ⟨kin_univ x, kinL_univ xs⟩
end

/-- The entries of a map, out of their stamps and of keys and values in turn. -/
def ents : List Nat → List Value → List MapEntry
  | b :: bs, k :: v :: r => ⟨k, v, b⟩ :: ents bs r
  | _, _ => []
/-- What lies in a box: cells; or, if its content begins with a head, a map or an iterator over a map. -/
def objFrom (cs : List PV) (us : Array Value) (el : TypeId) : Obj :=
  match cs with
  | .hdm clock borns :: _ => .map (ents borns us.toList).toArray clock
  | .hdi since seen last :: _ => .mapIter (match us.toList with | [.map m] => m | _ => none) since seen.toArray last
  | _ => .cells us el
/-- What holds of a map's stamps. -/
structure mapWf (clock : Nat) (borns : List Nat) (r : List PV) : Prop where
  len : r.length = 2 * borns.length
  inc : borns.Pairwise (· < ·)
  lt : ∀ b ∈ borns, b < clock
def repB (w : World) (ν : Env) (cs : List PV) (us : List Value) : Prop :=
  match cs with
  | .hdm clock borns :: r => repT w ν r us ∧ mapWf clock borns r
  | .hdi _ _ _ :: r => repT w ν r us
  | cs => repL w ν cs us
def plainB : List PV → Bool
  | .hdm _ _ :: _ => false
  | .hdi _ _ _ :: _ => false
  | _ => true
theorem repL_plain {w : World} {ν : Env} {cs : List PV} {us : List Value} (h : repL w ν cs us) : plainB cs = true := by
  unfold plainB
  split
  · simp only [repL, rep] at h; obtain ⟨_, _, _, ⟨h, _⟩, _⟩ := h; exact h.elim
  · simp only [repL, rep] at h; obtain ⟨_, _, _, ⟨h, _⟩, _⟩ := h; exact h.elim
  · rfl
theorem plain_obj {cs : List PV} (h : plainB cs = true) (us : Array Value) (el : TypeId) : objFrom cs us el = .cells us el := by
  unfold plainB at h; unfold objFrom
  split at h <;> first | cases h | skip
  rfl
theorem plain_repB {w : World} {ν : Env} {cs : List PV} (h : plainB cs = true) (us : List Value) : repB w ν cs us = repL w ν cs us := by
  unfold plainB at h; unfold repB
  split at h <;> first | cases h | skip
  rfl

/-- What must hold between two worlds and environments that every reading whose names lie in S goes over. -/
structure OverS (S : Key → Prop) (w : World) (ν : Env) (w' : World) (ν' : Env) : Prop where
  A : ∀ b o, ν.A b o → ν'.A b o ∧ w'.cell? ⟨b, o, none⟩ = w.cell? ⟨b, o, none⟩
  bx : ∀ k b, S k → ν.bx k = some b → ν'.bx k = some b
  ow : ∀ g n u, S g → ν.ow g = some (n, u) → ∃ n' u', ν'.ow g = some (n', u') ∧ (n' = n ∧ u' = u ∨ n < n')
abbrev Over := OverS (fun _ => True)

mutual
theorem rep_overS {S : Key → Prop} {w w' : World} {ν ν' : Env} (ho : OverS S w ν w' ν') : ∀ (p : PV) (v : Value), kin S p → rep w ν p v → rep w' ν' p v
  | .junk, _, _, _ => by simp [rep]
  | .int k n, _, _, h => by simp only [rep] at h ⊢; exact h
  | .bool b, _, _, h => by simp only [rep] at h ⊢; exact h
  | .str s, _, _, h => by simp only [rep] at h ⊢; exact h
  | .slice sz tag xs, v, hk, h => by
    simp only [rep, kin] at h hk ⊢
    obtain ⟨⟨a, cap, h1, h2, h3, h4⟩, h5, h6⟩ := h
    refine ⟨⟨a, cap, h1, h2, h3, ?_⟩, h5, fun g hg => ?_⟩
    · rcases h4 with h4 | ⟨b, off, us, h4, h6, h7⟩
      · exact .inl h4
      · exact .inr ⟨b, off, us, h4, laid_mono ho.A _ _ h6, repC_overS ho sz xs us hk.2 h7⟩
    · obtain ⟨n, u, e1, e2, e3⟩ := h6 g hg
      subst hg
      obtain ⟨n', u', f1, f2⟩ := ho.ow g n u hk.1 e1
      refine ⟨n', u', f1, ?_⟩
      rcases f2 with ⟨rfl, rfl⟩ | f2
      · exact ⟨e2, e3⟩
      · exact ⟨by omega, fun e => by omega⟩
  | .agg cs, v, hk, h => by
    simp only [rep, kin] at h hk ⊢
    obtain ⟨us, h1, h2⟩ := h
    exact ⟨us, h1, repL_overS ho cs _ hk h2⟩
  | .ptr key off, v, hk, h => by
    simp only [rep, kin] at h hk ⊢
    obtain ⟨b, h1, h2⟩ := h
    exact ⟨b, ho.bx _ _ hk h1, h2⟩
  | .iface t x, v, hk, h => by
    simp only [rep, kin] at h hk ⊢
    obtain ⟨u, h1, h2⟩ := h
    exact ⟨u, h1, rep_overS ho x u hk h2⟩
  | .eptr x, v, hk, h => by
    simp only [rep, kin] at h hk ⊢
    obtain ⟨b, off, u, h1, h2, h3⟩ := h
    exact ⟨b, off, u, h1, rep_overS ho x u hk h2, laid_mono ho.A _ _ h3⟩
  | .nilp, _, _, h => by simp only [rep] at h ⊢; exact h
  | .tuple vs, v, hk, h => by
    simp only [rep, kin] at h hk ⊢
    obtain ⟨us, h1, h2⟩ := h
    exact ⟨us, h1, repT_overS ho vs _ hk h2⟩
  | .func f caps, v, hk, h => by
    simp only [rep, kin] at h hk ⊢
    obtain ⟨us, h1, h2⟩ := h
    exact ⟨us, h1, repT_overS ho caps _ hk h2⟩
  | .gmap key, v, hk, h => by
    simp only [rep, kin] at h hk ⊢
    obtain ⟨b, h1, h2⟩ := h
    exact ⟨b, ho.bx _ _ hk h1, h2⟩
  | .row sz key n, v, hk, h => by
    simp only [rep, kin] at h hk ⊢
    obtain ⟨h1, h2, n', u, h3, h4, h5⟩ := h
    obtain ⟨n2, u2, f1, f2⟩ := ho.ow key n' u hk h3
    refine ⟨h1, h2, n2, u2, f1, ?_⟩
    rcases f2 with ⟨rfl, rfl⟩ | f2
    · exact ⟨h4, h5⟩
    · exact ⟨by omega, fun e => by omega⟩
  | .rptr sz key n i f, v, hk, h => by
    simp only [rep, kin] at h hk ⊢
    obtain ⟨h1, h2, n', u, h3, h4, h5⟩ := h
    obtain ⟨n2, u2, f1, f2⟩ := ho.ow key n' u hk h3
    refine ⟨h1, h2, n2, u2, f1, ?_⟩
    rcases f2 with ⟨rfl, rfl⟩ | f2
    · exact ⟨h4, h5⟩
    · exact ⟨by omega, fun e => by omega⟩
  | .hdm _ _, _, _, h => by simp only [rep] at h
  | .hdi _ _ _, _, _, h => by simp only [rep] at h
  | .cst c, _, _, h => by simp only [rep] at h ⊢; exact h
theorem repL_overS {S : Key → Prop} {w w' : World} {ν ν' : Env} (ho : OverS S w ν w' ν') : ∀ (cs : List PV) (us : List Value), kinL S cs → repL w ν cs us → repL w' ν' cs us
  | [], _, _, h => by simp only [repL] at h ⊢; exact h
  | c :: cs, us, hk, h => by
    simp only [repL, kinL] at h hk ⊢
    obtain ⟨u, us', h1, h2, h3⟩ := h
    exact ⟨u, us', h1, ⟨rep_overS ho c u hk.1 h2.1, h2.2⟩, repL_overS ho cs us' hk.2 h3⟩
theorem repT_overS {S : Key → Prop} {w w' : World} {ν ν' : Env} (ho : OverS S w ν w' ν') : ∀ (cs : List PV) (us : List Value), kinL S cs → repT w ν cs us → repT w' ν' cs us
  | [], _, _, h => by simp only [repT] at h ⊢; exact h
  | c :: cs, us, hk, h => by
    simp only [repT, kinL] at h hk ⊢
    obtain ⟨u, us', h1, h2, h3⟩ := h
    exact ⟨u, us', h1, rep_overS ho c u hk.1 h2, repT_overS ho cs us' hk.2 h3⟩
theorem repC_overS {S : Key → Prop} {w w' : World} {ν ν' : Env} (ho : OverS S w ν w' ν') (sz : Nat) : ∀ (xs : List PV) (us : List Value), kinL S xs → repC w ν sz xs us → repC w' ν' sz xs us
  | [], _, _, h => by simp only [repC] at h ⊢; exact h
  | x :: xs, us, hk, h => by
    simp only [repC, kinL] at h hk ⊢
    obtain ⟨u, us', h1, ⟨h2, h3, h4⟩, h5⟩ := h
    exact ⟨u, us', h1, ⟨rep_overS ho x u hk.1 h2, h3, h4⟩, repC_overS ho sz xs us' hk.2 h5⟩
end

theorem repB_overS {S : Key → Prop} {w w' : World} {ν ν' : Env} (ho : OverS S w ν w' ν') {cs : List PV} {us : List Value} (hk : kinL S cs) (h : repB w ν cs us) : repB w' ν' cs us := by
  unfold repB at h ⊢
  split
  · simp only [kinL] at hk; exact ⟨repT_overS ho _ _ hk.2 h.1, h.2⟩
  · simp only [kinL] at hk; exact repT_overS ho _ _ hk.2 h
  · rename_i h1 h2
    split at h
    · exact absurd rfl (h1 _ _ _)
    · exact absurd rfl (h2 _ _ _ _)
    · exact repL_overS ho _ _ hk h

section
variable {w w' : World} {ν ν' : Env} (ho : Over w ν w' ν')
include ho
theorem rep_over {p : PV} {v : Value} (h : rep w ν p v) : rep w' ν' p v := rep_overS ho p v (kin_univ p) h
theorem repL_over {p : List PV} {v : List Value} (h : repL w ν p v) : repL w' ν' p v := repL_overS ho p v (kinL_univ p) h
theorem repT_over {p : List PV} {v : List Value} (h : repT w ν p v) : repT w' ν' p v := repT_overS ho p v (kinL_univ p) h
theorem repB_over {p : List PV} {v : List Value} (h : repB w ν p v) : repB w' ν' p v := repB_overS ho (kinL_univ p) h
theorem repC_over {sz : Nat} {p : List PV} {v : List Value} (h : repC w ν sz p v) : repC w' ν' sz p v := repC_overS ho sz p v (kinL_univ p) h
end

theorem OverS.refl (S : Key → Prop) (w : World) (ν : Env) : OverS S w ν w ν := ⟨fun _ _ h => ⟨h, rfl⟩, fun _ _ _ h => h, fun _ n u _ h => ⟨n, u, h, .inl ⟨rfl, rfl⟩⟩⟩
theorem OverS.trans {S : Key → Prop} {w1 w2 w3 : World} {ν1 ν2 ν3 : Env} (h : OverS S w1 ν1 w2 ν2) (k : OverS S w2 ν2 w3 ν3) : OverS S w1 ν1 w3 ν3 :=
  ⟨fun b o ha => ⟨(k.A b o (h.A b o ha).1).1, (k.A b o (h.A b o ha).1).2.trans (h.A b o ha).2⟩, fun _ _ hs hb => k.bx _ _ hs (h.bx _ _ hs hb),
   fun g n u hs hg => by
    obtain ⟨n1, u1, e1, e2⟩ := h.ow g n u hs hg
    obtain ⟨n2, u2, f1, f2⟩ := k.ow g n1 u1 hs e1
    refine ⟨n2, u2, f1, ?_⟩
    rcases e2 with ⟨rfl, rfl⟩ | e2
    · exact f2
    · rcases f2 with ⟨rfl, rfl⟩ | f2
      · exact .inr e2
      · exact .inr (by omega)⟩
theorem OverS.mono {S T : Key → Prop} {w w' : World} {ν ν' : Env} (h : OverS S w ν w' ν') (hs : ∀ k, T k → S k) : OverS T w ν w' ν' :=
  ⟨h.A, fun k b hk => h.bx k b (hs k hk), fun g n u hg => h.ow g n u (hs g hg)⟩

end Go.Pv
/- The abstract state of a frame (slots, boxes, rows of its own), its relation to the model's frame and world, and the operations that only compute a value. -/
set_option linter.all false
namespace Go.Pv
open Go Go.RowKit

def get (k : Nat) : List (Nat × PV) → PV
  | [] => .junk
  | (i, p) :: r => if i = k then p else get k r
def put (k : Nat) (p : PV) : List (Nat × PV) → List (Nat × PV)
  | [] => [(k, p)]
  | (i, q) :: r => if i = k then (i, p) :: r else (i, q) :: put k p r
def look {α : Type} (k : Key) : List (Key × α) → Option α
  | [] => none
  | (i, p) :: r => if i = k then some p else look k r
def upd {α : Type} (k : Key) (p : α) : List (Key × α) → List (Key × α)
  | [] => [(k, p)]
  | (i, q) :: r => if i = k then (i, p) :: r else (i, q) :: upd k p r

theorem get_put (k j : Nat) (p : PV) : ∀ l, get j (put k p l) = if k = j then p else get j l
  | [] => by simp [get, put]
  | (i, q) :: r => by
    by_cases h : i = k
    · subst h; by_cases h2 : i = j <;> simp [get, put, h2]
    · by_cases h2 : i = j
      · subst h2; simp [get, put, h, Ne.symm h]
      · simp [get, put, h, h2, get_put k j p r]
theorem look_upd {α : Type} (k j : Key) (p : α) : ∀ l, look j (upd k p l) = if k = j then some p else look j l
  | [] => by simp [look, upd]
  | (i, q) :: r => by
    by_cases h : i = k
    · subst h; by_cases h2 : i = j <;> simp [look, upd, h2]
    · by_cases h2 : i = j
      · subst h2; simp [look, upd, h, Ne.symm h]
      · simp [look, upd, h, h2, look_upd k j p r]

/-- A row of the call's own: how many elements, their type's number and size; what lies in it, if no one else may know it yet. -/
structure Own where
  n : Nat
  el : Nat
  sz : Nat
  xs : Option (List PV)
/-- What a row holds that no one else knows. -/
def rowC (w : World) (ν : Env) (o : Own) (v : Value) (us : List Value) : Prop :=
  ∀ xs, o.xs = some xs → xs.length = o.n ∧ repC w ν o.sz xs us ∧ ∀ bl, v.ownBlock = some bl → ∀ j, ¬ν.A bl j
theorem rowC_over {w w' : World} {ν ν' : Env} (ho : Over w ν w' ν') {o : Own} {v : Value} {us : List Value} (hA : ∀ bl, v.ownBlock = some bl → ∀ j, ν'.A bl j → ν.A bl j) (h : rowC w ν o v us) : rowC w' ν' o v us :=
  fun xs hx => ⟨(h xs hx).1, repC_over ho (h xs hx).2.1, fun bl hb j hj => (h xs hx).2.2 bl hb j (hA bl hb j hj)⟩
def kinO (S : Key → Prop) (o : Own) : Prop := ∀ xs, o.xs = some xs → kinL S xs

structure St where
  t : List (Nat × PV)
  b : List (Key × List PV)
  e : List (Key × Own)
  n : Nat
  o : List Key

/-- The names that are free. -/
def fresh (n : Nat) (o : List Key) (k : Key) : Prop := (match k with | .loc m => n ≤ m | .obj _ => True) ∧ k ∉ o
theorem fresh_mono {n n' : Nat} {o o' : List Key} (hn : n ≤ n') (ho : ∀ k ∈ o, k ∈ o') {k : Key} (h : fresh n' o' k) : fresh n o k := by
  unfold fresh at h ⊢
  exact ⟨by cases k <;> simp at h ⊢; omega, fun hk => h.2 (ho k hk)⟩

structure Good (pr : Nat → Prop) (w : World) (ν : Env) (b : List (Key × List PV)) (e : List (Key × Own)) : Prop where
  alt : ∀ bl o, ν.A bl o → bl < w.heap.size
  box : ∀ k cs, look k b = some cs → ∃ bl us el, ν.bx k = some bl ∧ pr bl ∧ (∀ o, ¬ν.A bl o) ∧ w.heap[bl]? = some (objFrom cs us el) ∧ repB w ν cs us.toList
  inj : ∀ k k' bl, (look k b).isSome → (look k' b).isSome → ν.bx k = some bl → ν.bx k' = some bl → k = k'
  own : ∀ g o, look g e = some o → ∃ v us, ν.ow g = some (o.n, v) ∧ w.ownsRow 0 o.el o.sz v o.n us ∧ (∀ bl, v.ownBlock = some bl → pr bl ∧ (∀ j, ν.A bl j → j < o.n * o.sz)) ∧ rowC w ν o v us
  oinj : ∀ g g' n n' v v' bl, (look g e).isSome → (look g' e).isSome → ν.ow g = some (n, v) → ν.ow g' = some (n', v') → v.ownBlock = some bl → v'.ownBlock = some bl → g = g'
  obx : ∀ g k n v bl, (look g e).isSome → (look k b).isSome → ν.ow g = some (n, v) → v.ownBlock = some bl → ν.bx k = some bl → False
  one : ∀ k, ν.bx k = none ∨ ν.ow k = none

/-- Of a call: the world and the environment at its beginning, the blocks that were there and that it may change, how many slots its frame has. -/
structure Ctx where
  w0 : World
  ν0 : Env
  mt : Nat → Prop
  N : Nat
  ob : List Key
def Ctx.pr (C : Ctx) (bl : Nat) : Prop := C.mt bl ∨ C.w0.heap.size ≤ bl

structure Fr (C : Ctx) (w : World) (ν : Env) : Prop where
  os : w.os = C.w0.os
  tape : w.tape = C.w0.tape
  output : w.output = C.w0.output
  size : C.w0.heap.size ≤ w.heap.size
  block : ∀ k, k < C.w0.heap.size → ¬C.mt k → w.heap[k]? = C.w0.heap[k]?
  keep : ∀ b o, C.ν0.A b o → ν.A b o ∧ w.cell? ⟨b, o, none⟩ = C.w0.cell? ⟨b, o, none⟩
  fresh : ∀ b o, ν.A b o → C.ν0.A b o ∨ C.pr b
  obj : ∀ n b, C.ν0.bx (.obj n) = some b → ν.bx (.obj n) = some b
  obn : ∀ n b, C.ν0.bx (.obj n) = some b → .obj n ∈ C.ob
  row : ∀ m n u, C.ν0.ow (.obj m) = some (n, u) → ∃ n' u', ν.ow (.obj m) = some (n', u') ∧ (n' = n ∧ u' = u ∨ n < n')
  obr : ∀ m n u, C.ν0.ow (.obj m) = some (n, u) → .obj m ∈ C.ob

theorem row_trans {ν ν' : Env} {g : Key} {n : Nat} {u : Value} (h : ∃ n' u', ν.ow g = some (n', u') ∧ (n' = n ∧ u' = u ∨ n < n')) (ho : ∀ n u, ν.ow g = some (n, u) → ∃ n' u', ν'.ow g = some (n', u') ∧ (n' = n ∧ u' = u ∨ n < n')) :
    ∃ n' u', ν'.ow g = some (n', u') ∧ (n' = n ∧ u' = u ∨ n < n') := by
  obtain ⟨n1, u1, e1, e2⟩ := h
  obtain ⟨n2, u2, f1, f2⟩ := ho n1 u1 e1
  refine ⟨n2, u2, f1, ?_⟩
  rcases e2 with ⟨rfl, rfl⟩ | e2
  · exact f2
  · rcases f2 with ⟨rfl, rfl⟩ | f2
    · exact .inr e2
    · exact .inr (by omega)

structure Rel (C : Ctx) (st : St) (a : Act) (w : World) (ν : Env) : Prop where
  good : Good C.pr w ν st.b st.e
  fr : Fr C w ν
  defers : a.defers = []
  size : a.tmps.size = C.N
  slot : ∀ i, rep w ν (get i st.t) (a.tmps.getD i undef)
  new : ∀ k, fresh st.n st.o k → ν.bx k = none ∧ ν.ow k = none

def putO (d : Option Nat) (p : PV) (t : List (Nat × PV)) : List (Nat × PV) :=
  match d with
  | some d => put d p t
  | none => t
def dstOk (N : Nat) (d : Option Nat) : Bool := match d with | some d => decide (d < N) | none => true

theorem Rel.put {C : Ctx} {st : St} {a : Act} {w : World} {ν : Env} (h : Rel C st a w ν) {d : Option Nat} (hd : dstOk C.N d = true) {p : PV} {v : Value} (hp : rep w ν p v) :
    Rel C { st with t := putO d p st.t } (a.put d v) w ν := by
  cases d with
  | none => exact h
  | some d =>
    have hlt : d < a.tmps.size := by rw [h.size]; simpa [dstOk] using hd
    refine ⟨h.good, h.fr, h.defers, by simpa [Act.put] using h.size, fun i => ?_, h.new⟩
    simp only [putO, get_put]
    by_cases e : d = i
    · subst e
      simpa [Act.put, Array.getD_eq_getD_getElem?, hlt] using hp
    · have := h.slot i
      simpa [e, Act.put, Array.getD_eq_getD_getElem?, Array.getElem?_setIfInBounds_ne e] using this

/-- The relation over a change of the world and of the environment. -/
theorem Rel.over {C : Ctx} {st st' : St} {a : Act} {w w' : World} {ν ν' : Env} (h : Rel C st a w ν) (ho : Over w ν w' ν') (ht : st'.t = st.t) (hg : Good C.pr w' ν' st'.b st'.e) (hf : Fr C w' ν')
    (hn : ∀ k, fresh st'.n st'.o k → ν'.bx k = none ∧ ν'.ow k = none) : Rel C st' a w' ν' :=
  ⟨hg, hf, h.defers, h.size, fun i => by rw [ht]; exact rep_over ho (h.slot i), hn⟩

/-- Operands. -/
inductive Opd where
  | t (i : Nat)
  | c (p : PV)
  deriving Inhabited
def evalO (t : List (Nat × PV)) : Opd → PV
  | .t i => get i t
  | .c p => p
def cOk0 : PV → Value → Bool
  | .int k n, .int k' n' => decide (k = k' ∧ n = n')
  | .bool b, .bool b' => b == b'
  | .str s, .string l => decide (l.data.toList = s ∧ s.length ≤ lim)
  | .slice _ .nil [], .slice none 0 0 => true
  | .nilp, .pointer none => true
  | .tuple [], .tuple ⟨[]⟩ => true
  | .func f [], .func (.func g) ⟨[]⟩ ⟨[]⟩ => f == g
  | .junk, _ => true
  | _, _ => false
theorem cOk0_rep (w : World) (ν : Env) {p : PV} {v : Value} (h : cOk0 p v = true) : rep w ν p v := by
  unfold cOk0 at h
  split at h
  · simp at h; obtain ⟨rfl, rfl⟩ := h; simp [rep]
  · simp at h; subst h; simp [rep]
  · rename_i s l
    simp at h; obtain ⟨h1, h2⟩ := h
    refine ⟨?_, h2⟩
    subst h1
    simp
  · simp only [rep]
    refine ⟨⟨none, 0, rfl, by simp, by simp, by simp⟩, by simp, fun _ h => by cases h⟩
  · simp [rep]
  · simp [rep, repT]
  · simp at h; subst h; simp [rep, repT]
  · simp [rep]
  · cases h
def cOkL : List PV → List Value → Bool
  | [], [] => true
  | p :: ps, v :: vs => cOk0 p v && v.oneCell' && cOkL ps vs
  | _, _ => false
def cOk : PV → Value → Bool
  | .agg cs, .agg us => cOkL cs us.toList
  | p, v => cOk0 p v
theorem cOkL_rep (w : World) (ν : Env) : ∀ (ps : List PV) (vs : List Value), cOkL ps vs = true → repL w ν ps vs
  | [], [], _ => by simp [repL]
  | [], _ :: _, h => by simp [cOkL] at h
  | _ :: _, [], h => by simp [cOkL] at h
  | p :: ps, v :: vs, h => by
    simp only [cOkL, Bool.and_eq_true] at h
    simp only [repL]
    exact ⟨v, vs, rfl, ⟨cOk0_rep w ν h.1.1, h.1.2⟩, cOkL_rep w ν ps vs h.2⟩
theorem cOk_rep (w : World) (ν : Env) {p : PV} {v : Value} (h : cOk p v = true) : rep w ν p v := by
  unfold cOk at h
  split at h
  · simp only [rep]
    exact ⟨_, rfl, cOkL_rep w ν _ _ h⟩
  · exact cOk0_rep w ν h
def opOk : Opd → Operand → Bool
  | .t i, .tmp j => i == j
  | .c p, .const v => cOk p v
  | .c (.func f []), .func g => f == g
  | _, _ => false
theorem opOk_rep {C : Ctx} {st : St} {a : Act} {w : World} {ν : Env} (h : Rel C st a w ν) {x : Opd} {o : Operand} (hx : opOk x o = true) : rep w ν (evalO st.t x) (a.eval o) := by
  unfold opOk at hx
  split at hx
  · simp at hx; subst hx; simpa [evalO, Act.eval] using h.slot _
  · simpa [evalO, Act.eval] using cOk_rep w ν hx
  · simp at hx; subst hx; simp [evalO, Act.eval, rep, repT]
  · cases hx

end Go.Pv
/- Facts on types, and the operations that compute a value out of slots and boxes, each proved against the model's own run. -/
set_option linter.all false
namespace Go.Pv
open Go Go.RowKit

inductive TK where
  | int (k : IntKind)
  | bool
  | str
  | slice (e : Nat)
  | struct (fs : List (Nat × Nat))
  | map (k e : Nat)
  | other
  deriving DecidableEq

structure TF where
  size : Nat
  bytes : Nat
  kind : TK
  zero : PV

def TK.isAgg : TK → Bool
  | .struct _ => true
  | _ => false

def zOkL : List PV → List Value → Bool
  | [], [] => true
  | p :: ps, v :: vs => cOk p v && v.oneCell' && zOkL ps vs
  | _, _ => false
def zOk : PV → Value → Bool
  | .agg cs, .agg us => zOkL cs us.toList
  | .agg _, _ => false
  | p, v => cOk p v && v.oneCell'
def dOk : TK → TypeDesc → Bool
  | .int k, .int k' => decide (k = k')
  | .bool, .bool => true
  | .str, .string => true
  | .slice e, .slice e' => e == e'
  | .struct fs, .struct gs => decide (gs.toList.map (fun f => (f.offset, f.type)) = fs)
  | .map k e, .map k' e' => k == k' && e == e'
  | .other, d => match d with | .struct _ | .array _ _ | .int _ | .bool | .string | .slice _ => false | _ => true
  | _, _ => false
def tyOk (P : Program) (t : Nat) (f : TF) : Bool :=
  match P.info? t, P.underlying t with
  | some i, some d => i.size == f.size && i.bytes == f.bytes && dOk f.kind d && (match i.zero with | some z => zOk f.zero z && z.cells.size == f.size | none => false)
  | _, _ => false
def tysOk (P : Program) (tys : List (Nat × TF)) : Bool := tys.all fun x => tyOk P x.1 x.2
def tf (tys : List (Nat × TF)) (t : Nat) : Option TF := (tys.find? fun x => x.1 == t).map (·.2)

theorem tf_ok {P : Program} {tys : List (Nat × TF)} (h : tysOk P tys = true) {t : Nat} {f : TF} (hf : tf tys t = some f) : tyOk P t f = true := by
  unfold tf at hf
  cases hx : tys.find? fun x => x.1 == t with
  | none => simp [hx] at hf
  | some x =>
    simp [hx] at hf
    have h1 := List.find?_some hx
    simp at h1
    have h2 := List.mem_of_find?_eq_some hx
    have h3 := List.all_eq_true.1 h x h2
    rw [← hf, ← h1]; exact h3

structure TyIs (P : Program) (t : Nat) (f : TF) : Prop where
  ex : ∃ i d z, P.info? t = some i ∧ P.underlying t = some d ∧ i.size = f.size ∧ i.bytes = f.bytes ∧ dOk f.kind d = true ∧ i.zero = some z ∧ zOk f.zero z = true ∧ z.cells.size = f.size

theorem tyIs {P : Program} {tys : List (Nat × TF)} (h : tysOk P tys = true) {t : Nat} {f : TF} (hf : tf tys t = some f) : TyIs P t f := by
  have h := tf_ok h hf
  unfold tyOk at h
  split at h
  · rename_i i d h1 h2
    simp only [Bool.and_eq_true, beq_iff_eq] at h
    obtain ⟨⟨⟨h3, h4⟩, h5⟩, h6⟩ := h
    split at h6
    · rename_i z hz
      simp only [Bool.and_eq_true, beq_iff_eq] at h6
      exact ⟨i, d, z, h1, h2, h3, h4, h5, hz, h6.1, h6.2⟩
    · cases h6
  · cases h

theorem add_mk (b o j : Nat) : (⟨b, o, none⟩ : Addr).add j = ⟨b, o + j, none⟩ := by
  unfold Addr.add; split
  · rename_i h; subst h; rfl
  · rfl

theorem zOkL_rep (w : World) (ν : Env) : ∀ (ps : List PV) (vs : List Value), zOkL ps vs = true → repL w ν ps vs
  | [], [], _ => by simp [repL]
  | [], _ :: _, h => by simp [zOkL] at h
  | _ :: _, [], h => by simp [zOkL] at h
  | p :: ps, v :: vs, h => by
    simp only [zOkL, Bool.and_eq_true] at h
    simp only [repL]
    exact ⟨v, vs, rfl, ⟨cOk_rep w ν h.1.1, h.1.2⟩, zOkL_rep w ν ps vs h.2⟩

/-- The cells of a value, as they lie in a variable. -/
def cells : PV → List PV
  | .agg cs => cs
  | p => [p]
def solid : PV → Bool
  | .junk | .tuple _ | .cst _ => false
  | _ => true
theorem rep_one {w : World} {ν : Env} {p : PV} {v : Value} (h : rep w ν p v) (hs : solid p = true) (ha : ∀ cs, p ≠ .agg cs) : v.oneCell' = true ∧ v.cells = #[v] := by
  cases p <;> simp only [rep, solid] at h hs
  case junk => cases hs
  case tuple => cases hs
  case cst => cases hs
  case agg cs => exact absurd rfl (ha cs)
  case int => subst h; exact ⟨rfl, rfl⟩
  case bool => subst h; exact ⟨rfl, rfl⟩
  case str => rw [h.1]; exact ⟨rfl, rfl⟩
  case slice => obtain ⟨⟨a, cap, h1, _⟩, _⟩ := h; subst h1; exact ⟨rfl, rfl⟩
  case ptr => obtain ⟨b, _, h1⟩ := h; subst h1; exact ⟨rfl, rfl⟩
  case eptr => obtain ⟨b, o, u, h1, _⟩ := h; subst h1; exact ⟨rfl, rfl⟩
  case iface => obtain ⟨u, h1, _⟩ := h; subst h1; exact ⟨rfl, rfl⟩
  case nilp => subst h; exact ⟨rfl, rfl⟩
  case func => obtain ⟨us, h1, _⟩ := h; subst h1; exact ⟨rfl, rfl⟩
  case gmap => obtain ⟨b, _, h1⟩ := h; subst h1; exact ⟨rfl, rfl⟩
  case row => obtain ⟨⟨a, cap, h1⟩, _⟩ := h; subst h1; exact ⟨rfl, rfl⟩
  case rptr => obtain ⟨⟨a, o, h1⟩, _⟩ := h; subst h1; exact ⟨rfl, rfl⟩
theorem rep_cells {w : World} {ν : Env} {p : PV} {v : Value} (h : rep w ν p v) (hs : solid p = true) : repL w ν (cells p) v.cells.toList := by
  by_cases ha : ∃ cs, p = .agg cs
  · obtain ⟨cs, rfl⟩ := ha
    simp only [rep] at h
    obtain ⟨us, rfl, h2⟩ := h
    simpa [cells, Value.cells] using h2
  · have ha' : ∀ cs, p ≠ .agg cs := fun cs e => ha ⟨cs, e⟩
    obtain ⟨h1, h2⟩ := rep_one h hs ha'
    have hc : cells p = [p] := by cases p <;> first | rfl | exact absurd rfl (ha' _)
    rw [hc, h2]
    simp only [repL]
    exact ⟨v, [], rfl, ⟨h, h1⟩, rfl⟩
theorem repL_one {w : World} {ν : Env} : ∀ {ps : List PV} {vs : List Value}, repL w ν ps vs → ∀ c ∈ vs, c.oneCell' = true
  | [], vs, h => by simp only [repL] at h; subst h; simp
  | p :: ps, vs, h => by
    simp only [repL] at h
    obtain ⟨u, us', rfl, h1, h2⟩ := h
    intro c hc
    rcases List.mem_cons.1 hc with rfl | hc
    · exact h1.2
    · exact repL_one h2 c hc
theorem repL_length {w : World} {ν : Env} : ∀ {ps : List PV} {vs : List Value}, repL w ν ps vs → vs.length = ps.length
  | [], vs, h => by simp only [repL] at h; subst h; rfl
  | p :: ps, vs, h => by
    simp only [repL] at h
    obtain ⟨u, us', rfl, _, h2⟩ := h
    simp [repL_length h2]
theorem repL_drop {w : World} {ν : Env} : ∀ (n : Nat) {ps : List PV} {vs : List Value}, repL w ν ps vs → repL w ν (ps.drop n) (vs.drop n)
  | 0, _, _, h => by simpa using h
  | n + 1, [], vs, h => by simp only [repL] at h; subst h; simp [repL]
  | n + 1, p :: ps, vs, h => by
    simp only [repL] at h
    obtain ⟨u, us', rfl, _, h2⟩ := h
    simpa using repL_drop n h2
theorem repL_take {w : World} {ν : Env} : ∀ (n : Nat) {ps : List PV} {vs : List Value}, repL w ν ps vs → repL w ν (ps.take n) (vs.take n)
  | 0, _, _, _ => by simp [repL]
  | n + 1, [], vs, h => by simp only [repL] at h; subst h; simp [repL]
  | n + 1, p :: ps, vs, h => by
    simp only [repL] at h
    obtain ⟨u, us', rfl, h1, h2⟩ := h
    simp only [List.take_succ_cons, repL]
    exact ⟨u, _, rfl, h1, repL_take n h2⟩
theorem repL_append {w : World} {ν : Env} : ∀ {ps qs : List PV} {vs us : List Value}, repL w ν ps vs → repL w ν qs us → repL w ν (ps ++ qs) (vs ++ us)
  | [], qs, vs, us, h, h' => by simp only [repL] at h; subst h; simpa using h'
  | p :: ps, qs, vs, us, h, h' => by
    simp only [repL] at h
    obtain ⟨u, us', rfl, h1, h2⟩ := h
    simp only [List.cons_append, repL]
    exact ⟨u, _, rfl, h1, repL_append h2 h'⟩
theorem repL_get {w : World} {ν : Env} : ∀ (n : Nat) {ps : List PV} {vs : List Value} {p : PV}, repL w ν ps vs → ps[n]? = some p → ∃ v, vs[n]? = some v ∧ rep w ν p v ∧ v.oneCell' = true
  | n, [], _, p, _, hp => by simp at hp
  | 0, q :: ps, vs, p, h, hp => by
    simp only [repL] at h
    obtain ⟨u, us', rfl, h1, _⟩ := h
    simp at hp; subst hp
    exact ⟨u, rfl, h1.1, h1.2⟩
  | n + 1, q :: ps, vs, p, h, hp => by
    simp only [repL] at h
    obtain ⟨u, us', rfl, _, h2⟩ := h
    simpa using repL_get n h2 (by simpa using hp)
theorem repT_get {w : World} {ν : Env} : ∀ (n : Nat) {ps : List PV} {vs : List Value} {p : PV}, repT w ν ps vs → ps[n]? = some p → ∃ v, vs[n]? = some v ∧ rep w ν p v
  | n, [], _, p, _, hp => by simp at hp
  | 0, q :: ps, vs, p, h, hp => by
    simp only [repT] at h
    obtain ⟨u, us', rfl, h1, _⟩ := h
    simp at hp; subst hp
    exact ⟨u, rfl, h1⟩
  | n + 1, q :: ps, vs, p, h, hp => by
    simp only [repT] at h
    obtain ⟨u, us', rfl, _, h2⟩ := h
    simpa using repT_get n h2 (by simpa using hp)

theorem laid_get {w : World} {A : Nat → Nat → Prop} {b : Nat} : ∀ {us : List Value} {off j : Nat} {u : Value}, laid w A b off us → us[j]? = some u → A b (off + j) ∧ w.cell? ⟨b, off + j, none⟩ = some u
  | [], _, _, _, _, h => by simp at h
  | x :: us, off, 0, u, hl, h => by simp at h; subst h; exact hl.1
  | x :: us, off, j + 1, u, hl, h => by
    have := laid_get (j := j) hl.2 (by simpa using h)
    rwa [show off + 1 + j = off + (j + 1) from by omega] at this
theorem laid_drop {w : World} {A : Nat → Nat → Prop} {b : Nat} : ∀ (n : Nat) {us : List Value} {off : Nat}, laid w A b off us → laid w A b (off + n) (us.drop n)
  | 0, _, _, h => by simpa using h
  | n + 1, [], _, _ => by simp [laid]
  | n + 1, x :: us, off, h => by
    have := laid_drop n h.2
    rw [show off + (n + 1) = off + 1 + n from by omega]; simpa using this
theorem laid_take {w : World} {A : Nat → Nat → Prop} {b : Nat} : ∀ (n : Nat) {us : List Value} {off : Nat}, laid w A b off us → laid w A b off (us.take n)
  | 0, _, _, _ => by simp [laid]
  | n + 1, [], _, _ => by simp [laid]
  | n + 1, x :: us, off, h => by simp only [List.take_succ_cons]; exact ⟨h.1, laid_take n h.2⟩
theorem run_load_laid {P : Program} {w : World} {A : Nat → Nat → Prop} {b off : Nat} {us : List Value} (h : laid w A b off us) : (loadCells ⟨b, off, none⟩ us.length).run P w = .ok us.toArray w :=
  run_loadCells_list w _ us fun j v hj => by rw [add_mk]; exact (laid_get h hj).2
theorem run_load_block {P : Program} {w : World} {b off n : Nat} {us : Array Value} {el : TypeId} {fr : Nat × Nat} (h : w.heap[b]? = some (.cells us el fr)) (hn : off + n ≤ us.size) :
    (loadCells ⟨b, off, none⟩ n).run P w = .ok ((us.toList.drop off).take n).toArray w := by
  have hl : ((us.toList.drop off).take n).length = n := by simp; omega
  have := run_loadCells_list (P := P) w ⟨b, off, none⟩ ((us.toList.drop off).take n) fun j v hj => by
    rw [add_mk]
    have hjn : j < n := by
      have := (List.getElem?_eq_some_iff.1 hj).1
      omega
    simp only [World.cell?, h, Option.isSome_none, Bool.false_eq_true, if_false]
    rw [List.getElem?_take] at hj
    simpa [hjn] using hj
  rw [hl] at this
  exact this

theorem drop_app {α : Type} (l r : List α) (n sz : Nat) (h : l.length = sz) : (l ++ r).drop ((n + 1) * sz) = r.drop (n * sz) := by
  have e : (n + 1) * sz = l.length + n * sz := by rw [h, Nat.succ_mul, Nat.add_comm]
  rw [e, ← List.drop_drop]; simp
theorem take_app {α : Type} (l r : List α) (n sz : Nat) (h : l.length = sz) : (l ++ r).take ((n + 1) * sz) = l ++ r.take (n * sz) := by
  have e : (n + 1) * sz = l.length + n * sz := by rw [h, Nat.succ_mul, Nat.add_comm]
  rw [e, List.take_length_add_append]
theorem repC_get {w : World} {ν : Env} {sz : Nat} : ∀ (i : Nat) {xs : List PV} {us : List Value} {p : PV}, repC w ν sz xs us → xs[i]? = some p →
    ∃ u, rep w ν p u ∧ u.cells.size = sz ∧ u.cells.toList = (us.drop (i * sz)).take sz
  | i, [], _, p, _, hp => by simp at hp
  | 0, x :: xs, us, p, h, hp => by
    simp only [repC] at h
    obtain ⟨u, us', rfl, ⟨h1, h2, h3⟩, _⟩ := h
    simp at hp; subst hp
    refine ⟨u, h1, h2, ?_⟩
    have : u.cells.toList.length = sz := by simpa using h2
    simp [← this]
  | i + 1, x :: xs, us, p, h, hp => by
    simp only [repC] at h
    obtain ⟨u, us', rfl, ⟨_, h2, _⟩, h5⟩ := h
    obtain ⟨v, g1, g2, g3⟩ := repC_get i h5 (by simpa using hp)
    refine ⟨v, g1, g2, ?_⟩
    have : u.cells.toList.length = sz := by simpa using h2
    rw [g3, drop_app _ _ _ _ this]
theorem repC_length {w : World} {ν : Env} {sz : Nat} : ∀ {xs : List PV} {us : List Value}, repC w ν sz xs us → us.length = xs.length * sz
  | [], us, h => by simp only [repC] at h; subst h; simp
  | x :: xs, us, h => by
    simp only [repC] at h
    obtain ⟨u, us', rfl, ⟨_, h2, _⟩, h5⟩ := h
    have : u.cells.toList.length = sz := by simpa using h2
    rw [List.length_append, this, repC_length h5, List.length_cons, Nat.succ_mul]; omega
theorem repC_one {w : World} {ν : Env} {sz : Nat} : ∀ {xs : List PV} {us : List Value}, repC w ν sz xs us → ∀ c ∈ us, c.oneCell' = true
  | [], us, h => by simp only [repC] at h; subst h; simp
  | x :: xs, us, h => by
    simp only [repC] at h
    obtain ⟨u, us', rfl, ⟨_, _, h3⟩, h5⟩ := h
    intro c hc
    rcases List.mem_append.1 hc with hc | hc
    · exact h3 c hc
    · exact repC_one h5 c hc
theorem repC_append {w : World} {ν : Env} {sz : Nat} : ∀ {ps qs : List PV} {vs us : List Value}, repC w ν sz ps vs → repC w ν sz qs us → repC w ν sz (ps ++ qs) (vs ++ us)
  | [], qs, vs, us, h, h' => by simp only [repC] at h; subst h; simpa using h'
  | p :: ps, qs, vs, us, h, h' => by
    simp only [repC] at h
    obtain ⟨u, us', rfl, h1, h2⟩ := h
    simp only [List.cons_append, repC]
    exact ⟨u, us' ++ us, by simp, h1, repC_append h2 h'⟩
theorem repC_drop {w : World} {ν : Env} {sz : Nat} : ∀ (n : Nat) {xs : List PV} {us : List Value}, repC w ν sz xs us → repC w ν sz (xs.drop n) (us.drop (n * sz))
  | 0, _, _, h => by simpa using h
  | n + 1, [], us, h => by simp only [repC] at h; subst h; simp [repC]
  | n + 1, x :: xs, us, h => by
    simp only [repC] at h
    obtain ⟨u, us', rfl, ⟨_, h2, _⟩, h5⟩ := h
    have : u.cells.toList.length = sz := by simpa using h2
    rw [drop_app _ _ _ _ this]
    simpa using repC_drop n h5
theorem repC_take {w : World} {ν : Env} {sz : Nat} : ∀ (n : Nat) {xs : List PV} {us : List Value}, repC w ν sz xs us → repC w ν sz (xs.take n) (us.take (n * sz))
  | 0, _, _, _ => by simp [repC]
  | n + 1, [], us, h => by simp only [repC] at h; subst h; simp [repC]
  | n + 1, x :: xs, us, h => by
    simp only [repC] at h
    obtain ⟨u, us', rfl, ⟨h1, h2, h3⟩, h5⟩ := h
    have : u.cells.toList.length = sz := by simpa using h2
    simp only [List.take_succ_cons, repC]
    refine ⟨u, us'.take (n * sz), ?_, ⟨h1, h2, h3⟩, repC_take n h5⟩
    rw [take_app _ _ _ _ this]

end Go.Pv
/- The instructions that compute a value: their abstract evaluation and its soundness. -/
set_option linter.all false
namespace Go.Pv
open Go Go.RowKit

def isAgg (sz : Nat) (p : PV) : Prop := ∃ cs, p = .agg cs ∧ cs.length = sz

/-- A part of an element of a row that no one else knows. -/
def rowGet (agg : Bool) (sz sz' n i f : Nat) : Option Own → Option (Prop × PV)
  | some ⟨n', _, sz'', some xs⟩ => if n' = n ∧ sz'' = sz' then
      (match xs[i]? with
       | some p => if agg then some (solid p = true ∧ f + sz ≤ (cells p).length, .agg (((cells p).drop f).take sz)) else ((cells p)[f]?).map fun q => (solid p = true, q)
       | none => none) else none
  | _ => none
def loadV (b : List (Key × List PV)) (e : List (Key × Own)) (agg : Bool) (sz : Nat) : PV → Option (Prop × PV)
  | .rptr sz' k n i f => rowGet agg sz sz' n i f (look k e)
  | .ptr k off =>
    match look k b with
    | some cs => if agg then some (plainB cs = true ∧ off + sz ≤ cs.length, .agg ((cs.drop off).take sz)) else (cs[off]?).map fun p => (plainB cs = true, p)
    | none => none
  | .eptr p => if agg then some (isAgg sz p, p) else some (solid p = true ∧ cells p = [p], p)
  | _ => none

theorem loadV_noE {b : List (Key × List PV)} {e : List (Key × Own)} {agg : Bool} {sz : Nat} {p : PV} {r : Prop × PV} (h : loadV b [] agg sz p = some r) : loadV b e agg sz p = some r := by
  cases p <;> simp only [loadV] at h ⊢ <;> first | exact h | (simp [look, rowGet] at h)

def faddrV (off : Nat) (agg : Bool) (sz : Nat) : PV → Option (Prop × PV)
  | .ptr k o => some (True, .ptr k (o + off))
  | .rptr sz' k n i f => some (True, .rptr sz' k n i (f + off))
  | .eptr (.agg cs) => if agg then some (off + sz ≤ cs.length, .eptr (.agg ((cs.drop off).take sz))) else (cs[off]?).map fun p => (solid p = true ∧ cells p = [p], .eptr p)
  | _ => none

def fldV (off : Nat) (agg : Bool) (sz : Nat) : PV → Option (Prop × PV)
  | .agg cs => if agg then some (off + sz ≤ cs.length, .agg ((cs.drop off).take sz)) else (cs[off]?).map fun p => (True, p)
  | _ => none

def iaddrV (sz : Nat) : PV → PV → Option (Prop × PV)
  | .slice sz' _ xs, .int _ i => if sz' = sz then some (0 ≤ i ∧ i < xs.length, .eptr (xs.getD i.toNat .junk)) else none
  | .row sz' k n, .int _ i => if sz' = sz then some (0 ≤ i ∧ i < n, .rptr sz' k n i.toNat 0) else none
  | _, _ => none

def sidxV : PV → PV → Option (Prop × PV)
  | .str s, .int _ i => some (0 ≤ i ∧ i < s.length, .int .u8 (s.getD i.toNat 0).toNat)
  | _, _ => none

def optI (dflt : Int) : Option PV → Option Int
  | none => some dflt
  | some (.int _ i) => some i
  | _ => none

def sslV (x : PV) (lo hi : Option PV) : Option (Prop × PV) :=
  match x with
  | .str s => match optI 0 lo, optI s.length hi with
    | some l, some h => some (0 ≤ l ∧ l ≤ h ∧ h ≤ s.length, .str ((s.take h.toNat).drop l.toNat))
    | _, _ => none
  | _ => none

def lslV (sz : Nat) (x : PV) (lo hi : Option PV) : Option (Prop × PV) :=
  match x with
  | .slice sz' _ xs => if sz' = sz then match optI 0 lo, optI xs.length hi with
    | some l, some h => some (0 ≤ l ∧ l ≤ h ∧ h ≤ xs.length, .slice sz .no ((xs.take h.toNat).drop l.toNat))
    | _, _ => none else none
  | _ => none

def in64 (n : Int) : Prop := -9223372036854775808 ≤ n ∧ n ≤ 9223372036854775807

def intV (op : BinOp) (wr : Bool) (k : IntKind) (a b : Int) : Option (Prop × PV) :=
  match op with
  | .add => if wr then some (True, .int k (k.wrap (a + b))) else some (k = .i64 ∧ in64 (a + b), .int .i64 (a + b))
  | .sub => if wr then some (True, .int k (k.wrap (a - b))) else some (k = .i64 ∧ in64 (a - b), .int .i64 (a - b))
  | .mul => if wr then some (True, .int k (k.wrap (a * b))) else some (k = .i64 ∧ in64 (a * b), .int .i64 (a * b))
  | .quo => some (b ≠ 0, .int k (k.wrap (a.tdiv b)))
  | .rem => some (b ≠ 0, .int k (a.tmod b))
  | .eql => some (True, .bool (a == b))
  | .neq => some (True, .bool (a != b))
  | .lss => some (True, .bool (decide (a < b)))
  | .leq => some (True, .bool (decide (a ≤ b)))
  | .gtr => some (True, .bool (decide (b < a)))
  | .geq => some (True, .bool (decide (b ≤ a)))
  | .and => some (True, .int k (k.wrap (BitVec.ofInt k.bits a &&& BitVec.ofInt k.bits b).toNat))
  | .or => some (True, .int k (k.wrap (BitVec.ofInt k.bits a ||| BitVec.ofInt k.bits b).toNat))
  | .xor => some (True, .int k (k.wrap (BitVec.ofInt k.bits a ^^^ BitVec.ofInt k.bits b).toNat))
  | _ => none

def strV (op : BinOp) (a b : List UInt8) : Option (Prop × PV) :=
  match op with
  | .add => some (a.length + b.length ≤ lim, .str (a ++ b))
  | .eql => some (True, .bool (a == b))
  | .neq => some (True, .bool (!(a == b)))
  | .lss => some (True, .bool (Op.bytesLess a b))
  | .leq => some (True, .bool (Op.bytesLess a b || a == b))
  | .gtr => some (True, .bool (!(Op.bytesLess a b || a == b)))
  | .geq => some (True, .bool (!Op.bytesLess a b))
  | _ => none

def binV (op : BinOp) (wr : Bool) : PV → PV → Option (Prop × PV)
  | .int k a, .int k' b => match op with
    | .shl => some (0 ≤ b, .int k (k.wrap (a * 2 ^ (min b.toNat k.bits))))
    | .shr => some (0 ≤ b, .int k (a.fdiv (2 ^ (min b.toNat k.bits))))
    | _ => if k = k' then intV op wr k a b else none
  | .str a, .str b => strV op a b
  | _, _ => none

def splice (cs : List PV) (off : Nat) (ps : List PV) : List PV := cs.take off ++ ps ++ cs.drop (off + ps.length)

def buildV (t : List (Nat × PV)) : List PV → List (Nat × Nat × Opd) → Option (Prop × List PV)
  | cs, [] => some (True, cs)
  | cs, (off, sz, x) :: r =>
    let p := evalO t x
    match buildV t (splice cs off (cells p)) r with
    | some (c, cs') => some ((solid p = true ∧ (cells p).length = sz ∧ off + sz ≤ cs.length) ∧ c, cs')
    | none => none

def pickV (c x y : PV) : Option (Prop × PV) :=
  match c with
  | .bool b => match x, y with
    | .bool u, .bool v => some (True, .bool (cond b u v))
    | p, q => match b with
      | true => some (True, p)
      | false => some (True, q)
  | _ => none

def notV : PV → Option (Prop × PV)
  | .bool b => some (True, .bool (!b))
  | _ => none
def negV : PV → Option (Prop × PV)
  | .int k n => some (True, .int k (k.wrap (0 - n)))
  | _ => none
def extV (i : Nat) : PV → Option (Prop × PV)
  | .tuple vs => (vs[i]?).map fun p => (True, p)
  | _ => none
def lenV : PV → Option (Prop × PV)
  | .slice _ _ xs => some (True, .int .i64 xs.length)
  | .row _ _ n => some (True, .int .i64 n)
  | _ => none
def slenV : PV → Option (Prop × PV)
  | .str s => some (True, .int .i64 s.length)
  | _ => none
def convV (k : IntKind) : PV → Option (Prop × PV)
  | .int _ n => some (True, .int k (k.wrap n))
  | _ => none
def nckV : PV → Option (Prop × PV)
  | .ptr k o => some (True, .ptr k o)
  | .eptr p => some (True, .eptr p)
  | .func f cs => some (True, .func f cs)
  | _ => none
def minV : PV → PV → Option (Prop × PV)
  | .int k a, .int k' b => if k = k' then some (True, .int k (if b < a then b else a)) else none
  | _, _ => none

/-- Equality of keys; 'ks': the keys are strings. -/
def keyEq (ks : Bool) : PV → PV → Option Bool
  | .int k a, .int k' b => if ks = false ∧ k = k' then some (a == b) else none
  | .str a, .str b => if ks then some (a == b) else none
  | _, _ => none
def mfind (ks : Bool) (k : PV) : List PV → Option (Option PV)
  | k' :: v :: r => match keyEq ks k k' with
    | some true => some (some v)
    | some false => mfind ks k r
    | none => none
  | _ => some none
def mgetV (b : Key → Option (List PV)) (ks : Bool) (zero : PV) (ok : Bool) (x k : PV) : Option (Prop × PV) :=
  match x with
  | .gmap key => match b key with
    | some (.hdm _ _ :: kvs) => match mfind ks k kvs with
      | some (some v) => some (True, if ok then .tuple [v, .bool true] else v)
      | some none => some (True, if ok then .tuple [zero, .bool false] else zero)
      | none => none
    | _ => none
  | _ => none
def mlenV (b : Key → Option (List PV)) (x : PV) : Option (Prop × PV) :=
  match x with
  | .gmap key => match b key with
    | some (.hdm _ borns :: _) => some (True, .int .i64 borns.length)
    | _ => none
  | _ => none
def beqV (neg : Bool) : PV → PV → Option (Prop × PV)
  | .bool a, .bool b => some (True, .bool (if neg then a != b else a == b))
  | _, _ => none
def maxV : PV → PV → Option (Prop × PV)
  | .int k a, .int k' b => if k = k' then some (True, .int k (if a < b then b else a)) else none
  | _, _ => none
/-- Setting a key: none if it is new. -/
def mset (ks : Bool) (k v : PV) : List PV → Option (Option (List PV))
  | k' :: v' :: r => match keyEq ks k k' with
    | some true => some (some (k :: v :: r))
    | some false => match mset ks k v r with
      | some (some r') => some (some (k' :: v' :: r'))
      | some none => some none
      | none => none
    | none => none
  | _ => some none
/-- The entry with a stamp. -/
def mat (n : Nat) : List Nat → List PV → Option PV
  | b :: bs, k :: v :: r => if b = n then some (.tuple [k, v]) else mat n bs r
  | _, _ => none
def mentV (b : Key → Option (List PV)) (x : PV) : Option (Prop × PV) :=
  match x with
  | .ptr ik 0 => match b ik with
    | some [.hdi _ seen last, .gmap mk] => match b mk with
      | some (.hdm clock borns :: kvs) => match seen.getLast? with
        | some n => (mat n borns kvs).map fun p => (clock = last, p)
        | none => none
      | _ => none
    | _ => none
  | _ => none

theorem mgetV_congr {f g : Key → Option (List PV)} (h : ∀ k, f k ≠ none → g k = f k) {ks : Bool} {zero : PV} {ok : Bool} {x k : PV} {r : Prop × PV} (he : mgetV f ks zero ok x k = some r) : mgetV g ks zero ok x k = some r := by
  unfold mgetV at he ⊢
  split at he
  · rename_i key
    cases hf : f key with
    | none => simp [hf] at he
    | some cs => rw [h key (by rw [hf]; simp), hf]; rw [hf] at he; exact he
  · cases he
theorem mlenV_congr {f g : Key → Option (List PV)} (h : ∀ k, f k ≠ none → g k = f k) {x : PV} {r : Prop × PV} (he : mlenV f x = some r) : mlenV g x = some r := by
  unfold mlenV at he ⊢
  split at he
  · rename_i key
    cases hf : f key with
    | none => simp [hf] at he
    | some cs => rw [h key (by rw [hf]; simp), hf]; rw [hf] at he; exact he
  · cases he
theorem mentV_congr {f g : Key → Option (List PV)} (h : ∀ k, f k ≠ none → g k = f k) {x : PV} {r : Prop × PV} (he : mentV f x = some r) : mentV g x = some r := by
  unfold mentV at he ⊢
  split at he
  · rename_i ik
    cases hf : f ik with
    | none => simp [hf] at he
    | some cs =>
      simp only [h ik (by rw [hf]; simp), hf] at he ⊢
      split at he
      · rename_i since seen last mk hcs
        cases hf2 : f mk with
        | none => simp [hf2] at he
        | some ds => simp only [h mk (by rw [hf2]; simp), hf2] at he ⊢; exact he
      · cases he
  · cases he

inductive VIns where
  | mov (x : Opd)
  | pick (c x y : Opd)
  | load (agg : Bool) (sz : Nat) (x : Opd)
  | faddr (off : Nat) (agg : Bool) (sz : Nat) (x : Opd)
  | fld (off : Nat) (agg : Bool) (sz : Nat) (x : Opd)
  | iaddr (sz : Nat) (x i : Opd)
  | sidx (x i : Opd)
  | ssl (x : Opd) (lo hi : Option Opd)
  | lsl (sz : Nat) (x : Opd) (lo hi : Option Opd)
  | bin (op : BinOp) (wr : Bool) (x y : Opd)
  | notB (x : Opd)
  | neg (x : Opd)
  | conv (k : IntKind) (x : Opd)
  | ext (i : Nat) (x : Opd)
  | len (x : Opd)
  | slen (x : Opd)
  | build (zero : List PV) (parts : List (Nat × Nat × Opd))
  | nck (x : Opd)
  | min2 (x y : Opd)
  | mkf (n : Nat) (xs : List Opd)
  | mget (ks : Bool) (zero : PV) (ok : Bool) (x k : Opd)
  | ment (x : Opd)
  | mlen (x : Opd)
  | beq (neg : Bool) (x y : Opd)
  | max2 (x y : Opd)
  | mkif (t : Nat) (x : Opd)
  | loadB (agg : Bool) (sz : Nat) (x : Opd)

def vI (st : St) : VIns → Option (Prop × PV)
  | .mov x => some (True, evalO st.t x)
  | .pick c x y => pickV (evalO st.t c) (evalO st.t x) (evalO st.t y)
  | .load agg sz x => loadV st.b st.e agg sz (evalO st.t x)
  | .faddr off agg sz x => faddrV off agg sz (evalO st.t x)
  | .fld off agg sz x => fldV off agg sz (evalO st.t x)
  | .iaddr sz x i => iaddrV sz (evalO st.t x) (evalO st.t i)
  | .sidx x i => sidxV (evalO st.t x) (evalO st.t i)
  | .ssl x lo hi => sslV (evalO st.t x) (lo.map (evalO st.t)) (hi.map (evalO st.t))
  | .lsl sz x lo hi => lslV sz (evalO st.t x) (lo.map (evalO st.t)) (hi.map (evalO st.t))
  | .bin op wr x y => binV op wr (evalO st.t x) (evalO st.t y)
  | .notB x => notV (evalO st.t x)
  | .neg x => negV (evalO st.t x)
  | .conv k x => convV k (evalO st.t x)
  | .ext i x => extV i (evalO st.t x)
  | .len x => lenV (evalO st.t x)
  | .slen x => slenV (evalO st.t x)
  | .build zero parts => (buildV st.t zero parts).map fun (c, cs) => (c, .agg cs)
  | .nck x => nckV (evalO st.t x)
  | .min2 x y => minV (evalO st.t x) (evalO st.t y)
  | .mkf n xs => some (True, .func n (xs.map (evalO st.t)))
  | .mget ks zero ok x k => mgetV (fun k => look k st.b) ks zero ok (evalO st.t x) (evalO st.t k)
  | .ment x => mentV (fun k => look k st.b) (evalO st.t x)
  | .mlen x => mlenV (fun k => look k st.b) (evalO st.t x)
  | .beq neg x y => beqV neg (evalO st.t x) (evalO st.t y)
  | .max2 x y => maxV (evalO st.t x) (evalO st.t y)
  | .mkif t x => some (True, .iface t (evalO st.t x))
  | .loadB agg sz x => loadV st.b [] agg sz (evalO st.t x)

/-- The parts of a literal against the struct's fields. -/
def partsOk (tys : List (Nat × TF)) (fs : List (Nat × Nat)) : List (Nat × Nat × Opd) → List (Nat × Operand) → Bool
  | [], [] => true
  | (off, sz, x) :: r, (i, o) :: s => (match fs[i]? with | some (off', t) => off == off' && ((tf tys t).map (·.size)) == some sz | none => false) && opOk x o && partsOk tys fs r s
  | _, _ => false
def zEq : PV → PV → Bool
  | .int k n, .int k' n' => decide (k = k' ∧ n = n')
  | .bool b, .bool b' => b == b'
  | .str [], .str [] => true
  | .slice a .nil [], .slice b .nil [] => a == b
  | .nilp, .nilp => true
  | .junk, .junk => true
  | _, _ => false
def zEqL : List PV → List PV → Bool
  | [], [] => true
  | c :: cs, d :: ds => zEq c d && zEqL cs ds
  | _, _ => false
def zeroEq : PV → PV → Bool
  | .agg cs, .agg ds => zEqL cs ds
  | .agg _, _ => false
  | p, q => zEq p q
def opsOk' : List Opd → List Operand → Bool
  | [], [] => true
  | x :: xs, o :: os => opOk x o && opsOk' xs os
  | _, _ => false
def keyTy (tys : List (Nat × TF)) (ks : Bool) (t : Nat) : Bool := match tf tys t with
  | some ⟨_, _, .int _, _⟩ => !ks
  | some ⟨_, _, .str, _⟩ => ks
  | _ => false
def zeroIs : List PV → PV → Bool
  | cs, .agg ds => zEqL cs ds
  | _, _ => false
def optOk : Option Opd → Option Operand → Bool
  | none, none => true
  | some x, some o => opOk x o
  | _, _ => false

def vOk (tys : List (Nat × TF)) : VIns → Op → Bool
  | .mov x, .move o => opOk x o
  | .mov x, .assign o => opOk x o
  | .pick c x y, .pick c' x' y' => opOk c c' && opOk x x' && opOk y y'
  | .load agg sz x, .load t o => (match tf tys t with | some f => f.size == sz && f.kind.isAgg == agg | none => false) && opOk x o
  | .faddr off agg sz x, .fieldAddr s o i =>
    (match tf tys s with
     | some ⟨_, _, .struct fs, _⟩ => (match fs[i]? with | some (off', t) => off == off' && (match tf tys t with | some f => f.size == sz && f.kind.isAgg == agg && sz != 0 | none => false) | none => false)
     | _ => false) && opOk x o
  | .fld off agg sz x, .field s o i =>
    (match tf tys s with
     | some ⟨_, _, .struct fs, _⟩ => (match fs[i]? with | some (off', t) => off == off' && (match tf tys t with | some f => f.size == sz && f.kind.isAgg == agg | none => false) | none => false)
     | _ => false) && opOk x o
  | .iaddr sz x i, .indexAddr t o j => (match tf tys t with | some ⟨_, _, .slice e, _⟩ => (match tf tys e with | some f => f.size == sz | none => false) | _ => false) && opOk x o && opOk i j
  | .sidx x i, .index t o j => (match tf tys t with | some ⟨_, _, .str, _⟩ => true | _ => false) && opOk x o && opOk i j
  | .ssl x lo hi, .slice t o l h none => (match tf tys t with | some ⟨_, _, .str, _⟩ => true | _ => false) && opOk x o && optOk lo l && optOk hi h
  | .lsl sz x lo hi, .slice t o l h none => (match tf tys t with | some ⟨_, _, .slice e, _⟩ => (match tf tys e with | some f => f.size == sz | none => false) | _ => false) && opOk x o && optOk lo l && optOk hi h
  | .bin op _ x y, .binOp op' _ o o' _ => decide (op = op') && opOk x o && opOk y o'
  | .notB x, .unOp op _ o => decide (op = .not) && opOk x o
  | .neg x, .unOp op _ o => decide (op = .neg) && opOk x o
  | .conv k x, .convert s d o => (match tf tys s, tf tys d with | some ⟨_, _, .int _, _⟩, some ⟨_, _, .int k', _⟩ => decide (k = k') | _, _ => false) && opOk x o
  | .ext i x, .extract o j => i == j && opOk x o
  | .len x, .call ⟨.builtin .len, ⟨[o]⟩, ⟨[t]⟩⟩ => (match tf tys t with | some ⟨_, _, .slice _, _⟩ => true | _ => false) && opOk x o
  | .slen x, .call ⟨.builtin .len, ⟨[o]⟩, ⟨[t]⟩⟩ => (match tf tys t with | some ⟨_, _, .str, _⟩ => true | _ => false) && opOk x o
  | .build zero parts, .build t ps => (match tf tys t with | some ⟨_, _, .struct fs, z⟩ => zeroIs zero z && (fs.all fun x => (tf tys x.2).isSome) && partsOk tys fs parts ps.toList | _ => false)
  | .nck x, .nilCheck o => opOk x o
  | .min2 x y, .call ⟨.builtin .min, ⟨[o, o']⟩, ⟨[_, _]⟩⟩ => opOk x o && opOk y o'
  | .mkf n xs, .makeFunc (.func m) ⟨[]⟩ os => n == m && opsOk' xs os.toList
  | .mget ks zero ok x k, .lookup t o o' ok' => ok == ok' && (match tf tys t with | some ⟨_, _, .map kt et, _⟩ => keyTy tys ks kt && (match tf tys et with | some f => zeroEq zero f.zero | none => false) | _ => false) && opOk x o && opOk k o'
  | .ment x, .entry o => opOk x o
  | .mlen x, .call ⟨.builtin .len, ⟨[o]⟩, ⟨[t]⟩⟩ => (match tf tys t with | some ⟨_, _, .map _ _, _⟩ => true | _ => false) && opOk x o
  | .beq neg x y, .binOp op t o o' _ => decide (op = if neg then .neq else .eql) && (match tf tys t with | some ⟨_, _, .bool, _⟩ => true | _ => false) && opOk x o && opOk y o'
  | .max2 x y, .call ⟨.builtin .max, ⟨[o, o']⟩, ⟨[_, _]⟩⟩ => opOk x o && opOk y o'
  | .mkif t x, .makeInterface t' o => t == t' && (match tf tys t with | some ⟨_, _, .slice _, _⟩ => true | _ => false) && opOk x o
  | .loadB agg sz x, .load t o => (match tf tys t with | some f => f.size == sz && f.kind.isAgg == agg | none => false) && opOk x o
  | _, _ => false

end Go.Pv
/- Soundness of the instructions that compute a value. -/
set_option linter.all false
namespace Go.Pv
open Go Go.RowKit

theorem eqGuard_int (P : Program) (w : World) (op : BinOp) (t : TypeId) (x y : Operand) (k k' : IntKind) (m n : Int) : (eqGuard op t x y (.int k m) (.int k' n)).run P w = .ok () w := by
  cases op <;> rfl
theorem eqGuard_str (P : Program) (w : World) (op : BinOp) (t : TypeId) (x y : Operand) (m n : ByteArray) : (eqGuard op t x y (.string m) (.string n)).run P w = .ok () w := by
  cases op <;> rfl
theorem toList_mk (l : List UInt8) : (⟨l.toArray⟩ : ByteArray).toList = l := by simp
theorem append_mk (a b : List UInt8) : (⟨a.toArray⟩ : ByteArray) ++ (⟨b.toArray⟩ : ByteArray) = ⟨(a ++ b).toArray⟩ := by
  apply ByteArray.ext; simp
theorem extract_mk (a : List UInt8) (l h : Nat) : (⟨a.toArray⟩ : ByteArray).extract l h = ⟨((a.take h).drop l).toArray⟩ := by
  apply ByteArray.ext; simp [List.drop_take]
theorem size_mk (a : List UInt8) : (⟨a.toArray⟩ : ByteArray).size = a.length := by simp [ByteArray.size]

section
variable {P : Program} {w : World} {r : Sem Value}
theorem givesInt {k : IntKind} {x : Int} (h : r.run P w = .ok (.int k x) w) : ∃ v, r.run P w = .ok v w ∧ ∀ ν, rep w ν (.int k x) v := ⟨_, h, fun ν => by simp [rep]⟩
theorem givesBool {x : Bool} (h : r.run P w = .ok (.bool x) w) : ∃ v, r.run P w = .ok v w ∧ ∀ ν, rep w ν (.bool x) v := ⟨_, h, fun ν => by simp [rep]⟩
end

theorem intV_sound (P : Program) (w : World) {op : BinOp} {wr : Bool} {k : IntKind} {a b : Int} {c : Prop} {p : PV} (he : intV op wr k a b = some (c, p)) (hc : c) (t : TypeId) :
    ∃ v, (binOp op t (.int k a) (.int k b)).run P w = .ok v w ∧ ∀ ν, rep w ν p v := by
  cases op <;> simp only [intV] at he
  case add =>
    cases wr <;> simp only [if_true, Bool.false_eq_true, if_false] at he <;> cases he
    · obtain ⟨rfl, h⟩ := hc
      exact givesInt (by simp [binOp, Op.intArith, IntWalk.i64_in _ h])
    · exact givesInt (by simp [binOp, Op.intArith])
  case sub =>
    cases wr <;> simp only [if_true, Bool.false_eq_true, if_false] at he <;> cases he
    · obtain ⟨rfl, h⟩ := hc
      exact givesInt (by simp [binOp, Op.intArith, IntWalk.i64_in _ h])
    · exact givesInt (by simp [binOp, Op.intArith])
  case mul =>
    cases wr <;> simp only [if_true, Bool.false_eq_true, if_false] at he <;> cases he
    · obtain ⟨rfl, h⟩ := hc
      exact givesInt (by simp [binOp, Op.intArith, IntWalk.i64_in _ h])
    · exact givesInt (by simp [binOp, Op.intArith])
  case quo => cases he; exact givesInt (by simp [binOp, Op.intDiv, hc])
  case rem => cases he; exact givesInt (by simp [binOp, Op.intDiv, hc])
  case and => cases he; exact givesInt (by simp only [binOp, Op.intBits, ne_eq, not_true_eq_false, if_false, Sem.run_pure])
  case or => cases he; exact givesInt (by simp only [binOp, Op.intBits, ne_eq, not_true_eq_false, if_false, Sem.run_pure])
  case xor => cases he; exact givesInt (by simp only [binOp, Op.intBits, ne_eq, not_true_eq_false, if_false, Sem.run_pure])
  all_goals cases he
  all_goals exact givesBool (by simp only [binOp, Op.intCmp, ne_eq, not_true_eq_false, if_false, Sem.run_pure, gt_iff_lt, ge_iff_le])

theorem strV_sound (P : Program) (w : World) {op : BinOp} {a b : List UInt8} {c : Prop} {p : PV} (he : strV op a b = some (c, p)) (hc : c) (t : TypeId) :
    ∃ v, (binOp op t (.string ⟨a.toArray⟩) (.string ⟨b.toArray⟩)).run P w = .ok v w ∧ ∀ ν, rep w ν p v := by
  cases op <;> simp only [strV] at he
  case add =>
    cases he
    refine ⟨.string ⟨(a ++ b).toArray⟩, ?_, fun ν => by simp only [rep]; exact ⟨trivial, by simpa using hc⟩⟩
    have h1 : ¬ (((⟨a.toArray⟩ : ByteArray).size + (⟨b.toArray⟩ : ByteArray).size : Nat) : Int) > IntKind.i64.max := by
      have : IntKind.i64.max = 9223372036854775807 := by decide
      rw [this, size_mk, size_mk]
      simp only [lim] at hc
      omega
    simp only [binOp, Op.stringOp, h1, if_false, Sem.run_pure, append_mk]
  all_goals cases he
  all_goals exact givesBool (by simp only [binOp, Op.stringOp, toList_mk, Sem.run_pure])

theorem binV_sound (P : Program) (w : World) (ν : Env) {op : BinOp} {wr : Bool} {x y : PV} {c : Prop} {p : PV} (he : binV op wr x y = some (c, p)) (hc : c) (t : TypeId) {u v : Value} (hu : rep w ν x u) (hv : rep w ν y v) (o o' : Operand) :
    ∃ r, (do eqGuard op t o o' u v; binOp op t u v).run P w = .ok r w ∧ rep w ν p r := by
  unfold binV at he
  split at he
  · rename_i k a k' b
    simp only [rep] at hu hv
    subst hu; subst hv
    split at he
    · cases he
      refine ⟨_, ?_, by simp [rep]; rfl⟩
      simp [binOp, Op.shift, eqGuard_int, Int.not_lt.2 hc]
    · cases he
      refine ⟨_, ?_, by simp [rep]; rfl⟩
      simp [binOp, Op.shift, eqGuard_int, Int.not_lt.2 hc]
    · split at he
      · rename_i hk
        subst hk
        obtain ⟨r, h1, h2⟩ := intV_sound P w he hc t
        exact ⟨r, by simp [eqGuard_int, h1], h2 ν⟩
      · cases he
  · simp only [rep] at hu hv
    rw [hu.1, hv.1]
    obtain ⟨r, h1, h2⟩ := strV_sound P w he hc t
    exact ⟨r, by simp [eqGuard_str, h1], h2 ν⟩
  · cases he

theorem fill_splice {w : World} {ν : Env} : ∀ (v : List Value) (i off : Nat) (cs : Array Value), off + i + v.length ≤ cs.size →
    ((v.zipIdx i).foldl (fun cs (x : Value × Nat) => cs.setIfInBounds (off + x.2) x.1) cs).toList = cs.toList.take (off + i) ++ v ++ cs.toList.drop (off + i + v.length)
  | [], i, off, cs, _ => by simp
  | u :: v, i, off, cs, h => by
    simp only [List.zipIdx_cons, List.foldl_cons]
    rw [fill_splice (w := w) (ν := ν) v (i + 1) off _ (by simp at h ⊢; omega)]
    have hlt : off + i < cs.toList.length := by simp at h ⊢; omega
    simp only [Array.toList_setIfInBounds]
    have e1 : (cs.toList.set (off + i) u).take (off + (i + 1)) = cs.toList.take (off + i) ++ [u] := by
      rw [show off + (i + 1) = (off + i) + 1 from by omega, List.take_succ_eq_append_getElem (by simpa using hlt)]
      simp [List.take_set_of_le (Nat.le_refl _)]
    have e2 : (cs.toList.set (off + i) u).drop (off + (i + 1) + v.length) = cs.toList.drop (off + i + (u :: v).length) := by
      rw [List.drop_set_of_lt (by omega)]
      congr 1
      simp; omega
    rw [e1, e2]
    simp

theorem run_fill {w : World} {ν : Env} {C : Ctx} {st : St} {a : Act} (hr : Rel C st a w ν) {tys : List (Nat × TF)} {fs : List (Nat × Nat)} {places : List (Nat × Nat)}
    (hp : ∀ (i off t sz : Nat), fs[i]? = some (off, t) → (tf tys t).map (·.size) = some sz → places[i]? = some (off, sz)) :
    ∀ (parts : List (Nat × Nat × Opd)) (ps : List (Nat × Operand)) (cs : List PV) (us : Array Value) (c : Prop) (cs' : List PV), partsOk tys fs parts ps = true → repL w ν cs us.toList → buildV st.t cs parts = some (c, cs') → c →
    ∃ us' : Array Value, Instr.fill (places.toArray[·]?) us (ps.map fun (x : Nat × Operand) => (x.1, a.eval x.2)) = some us' ∧ repL w ν cs' us'.toList
  | [], [], cs, us, c, cs', _, h, he, hc => by
    simp only [buildV] at he
    cases he
    exact ⟨us, by simp [Instr.fill], h⟩
  | [], _ :: _, _, _, _, _, hok, _, _, _ => by simp [partsOk] at hok
  | _ :: _, [], _, _, _, _, hok, _, _, _ => by simp [partsOk] at hok
  | (off, sz, x) :: parts, (i, o) :: ps, cs, us, c, cs', hok, h, he, hc => by
    simp only [partsOk, Bool.and_eq_true] at hok
    obtain ⟨⟨h1, h2⟩, h3⟩ := hok
    split at h1
    · rename_i off' t hfi
      simp only [Bool.and_eq_true, beq_iff_eq] at h1
      obtain ⟨rfl, h1⟩ := h1
      have hpl := hp i off t sz hfi h1
      simp only [buildV] at he
      split at he
      · rename_i c' cs'' hb
        cases he
        obtain ⟨⟨hs, hl, hle⟩, hc'⟩ := hc
        have hx := opOk_rep hr h2
        have hcx := rep_cells hx hs
        have hlen := repL_length hcx
        have hul := repL_length h
        have hvs : (a.eval o).cells.size = sz := by
          have : (a.eval o).cells.toList.length = (cells (evalO st.t x)).length := hlen
          rw [hl] at this; simpa using this
        have hus : us.size = cs.length := by simpa using hul
        have hsp := fill_splice (w := w) (ν := ν) (a.eval o).cells.toList 0 off us (by simp [hvs, hus]; omega)
        have hrep : repL w ν (splice cs off (cells (evalO st.t x))) ((((a.eval o).cells.toList.zipIdx 0).foldl (fun cs (x : Value × Nat) => cs.setIfInBounds (off + x.2) x.1) us).toList) := by
          rw [hsp]
          unfold splice
          refine repL_append (repL_append (repL_take off h) hcx) ?_
          rw [Nat.add_zero, hlen]
          exact repL_drop _ h
        obtain ⟨us', g1, g2⟩ := run_fill hr hp parts ps _ _ c' cs' h3 hrep hb hc'
        refine ⟨us', ?_, g2⟩
        simp only [List.map_cons, Instr.fill, List.getElem?_toArray, hpl]
        rw [if_neg (by simp [hvs, hus]; omega)]
        rw [← g1]
        simp only [List.getElem?_toArray]
        congr 1
        rw [← Array.foldl_toList]
        simp
      · cases he
    · cases h1

end Go.Pv
/- Soundness of the instructions that compute a value, together. -/
set_option linter.all false
namespace Go.Pv
open Go Go.RowKit

theorem tf_load {P : Program} {tys : List (Nat × TF)} (ht : tysOk P tys = true) {t : Nat} {f : TF} (hf : tf tys t = some f) (w : World) :
    (Go.isAgg t).run P w = .ok f.kind.isAgg w ∧ (sizeOf t).run P w = .ok f.size w := by
  obtain ⟨i, d, z, h1, h2, h3, h4, h5, h6, h7, h8⟩ := (tyIs ht hf).ex
  refine ⟨?_, by simp [sizeOf, typeInfo, h1, h3]⟩
  simp only [Go.isAgg, Sem.run_bind, run_underlying h2, Result.andThen_ok]
  cases hk : f.kind <;> rw [hk] at h5 <;> cases d <;> simp [dOk] at h5 <;> simp [TK.isAgg]
theorem tf_und {P : Program} {tys : List (Nat × TF)} (ht : tysOk P tys = true) {t : Nat} {f : TF} (hf : tf tys t = some f) : ∃ d, P.underlying t = some d ∧ dOk f.kind d = true := by
  obtain ⟨i, d, z, h1, h2, h3, h4, h5, h6, h7, h8⟩ := (tyIs ht hf).ex
  exact ⟨d, h2, h5⟩
theorem dOk_slice {e : Nat} {d : TypeDesc} (h : dOk (.slice e) d = true) : d = .slice e := by cases d <;> simp [dOk] at h; subst h; rfl
theorem dOk_str {d : TypeDesc} (h : dOk .str d = true) : d = .string := by cases d <;> simp [dOk] at h; rfl
theorem dOk_int {k : IntKind} {d : TypeDesc} (h : dOk (.int k) d = true) : d = .int k := by cases d <;> simp [dOk] at h; subst h; rfl
theorem dOk_struct {fs : List (Nat × Nat)} {d : TypeDesc} (h : dOk (.struct fs) d = true) : ∃ gs : Array Field, d = .struct gs ∧ gs.toList.map (fun f => (f.offset, f.type)) = fs := by
  cases d <;> simp [dOk] at h; rename_i gs; exact ⟨gs, rfl, by simpa using h⟩

theorem repL_drop_take {w : World} {ν : Env} {cs : List PV} {us : List Value} (h : repL w ν cs us) (off sz : Nat) : repL w ν ((cs.drop off).take sz) ((us.drop off).take sz) := repL_take sz (repL_drop off h)

theorem own_form {w : World} {base el sz n : Nat} {v : Value} {us : List Value} (h : w.ownsRow base el sz v n us) {b : Nat} (hb : v.ownBlock = some b) : ∃ cap, v = .slice (some ⟨b, 0, none⟩) n cap := by
  rcases h.2 with ⟨rfl, _⟩ | ⟨g, cap, cur, rfl, _⟩
  · simp [Value.ownBlock] at hb
  · simp [Value.ownBlock] at hb; subst hb; exact ⟨cap, rfl⟩
/-- An element of a row that no one else knows: its value, and its cells behind a pointer. -/
theorem Good.rowElem {pr : Nat → Prop} {w : World} {ν : Env} {b : List (Key × List PV)} {e : List (Key × Own)} (hg : Good pr w ν b e) {k : Key} {n el sz : Nat} {xs : List PV} (hk : look k e = some ⟨n, el, sz, some xs⟩) {i f : Nat} {u : Value} (hx : rep w ν (.rptr sz k n i f) u) {p : PV} (hp : xs[i]? = some p) :
    ∃ (v : Value) (us : List Value) (el' : Nat), rep w ν p v ∧ v.cells.size = sz ∧ ∃ b o, u = .pointer (some ⟨b, o, none⟩) ∧ ∀ j c, v.cells.toList[f + j]? = some c → w.cell? ⟨b, o + j, none⟩ = some c := by
  simp only [rep] at hx
  obtain ⟨_, hi, n', u', h1, h2, h3⟩ := hx
  obtain ⟨v, us, q1, q2, q3, q4⟩ := hg.own k _ hk
  rw [h1] at q1
  simp only [Option.some.injEq, Prod.mk.injEq] at q1
  obtain ⟨rfl, rfl⟩ := q1
  obtain ⟨bl, hb, rfl⟩ := h3 rfl
  obtain ⟨cap, rfl⟩ := own_form q2 hb
  obtain ⟨hl, hrep, _⟩ := q4 xs rfl
  simp only at hl hrep
  obtain ⟨v, r1, r2, r3⟩ := repC_get i hrep hp
  refine ⟨v, us, el, r1, r2, bl, _, rfl, fun j c hj => ?_⟩
  have hlt : f + j < sz := by
    have := (List.getElem?_eq_some_iff.1 hj).1
    simp [r2] at this; exact this
  have hmul : i * sz + sz ≤ n' * sz := by
    have := Nat.mul_le_mul_right sz (show i + 1 ≤ n' from hi)
    rwa [Nat.succ_mul] at this
  have hc := q2.cellAt (i * sz + f + j) (by show _ < n' * sz; omega)
  rw [hc]
  rw [r3, List.getElem?_take, if_pos hlt, List.getElem?_drop] at hj
  rw [← hj]; congr 1; omega

theorem loadV_sound {P : Program} {tys : List (Nat × TF)} (ht : tysOk P tys = true) {pr : Nat → Prop} {w : World} {ν : Env} {b : List (Key × List PV)} {e : List (Key × Own)} (hg : Good pr w ν b e) {t : Nat} {f : TF} (hf : tf tys t = some f)
    {x : PV} {u : Value} (hx : rep w ν x u) {c : Prop} {p : PV} (he : loadV b e f.kind.isAgg f.size x = some (c, p)) (hc : c) : ∃ v, (Instr.loadAt t u).run P w = .ok v w ∧ rep w ν p v := by
  obtain ⟨ha, hs⟩ := tf_load ht hf w
  generalize hag : f.kind.isAgg = ag at *
  generalize hsz : f.size = sz at *
  unfold loadV at he
  split at he
  · rename_i sz' k n i fo
    unfold rowGet at he
    split at he
    · rename_i n' el sz'' xs hk
      split at he
      · rename_i hn
        obtain ⟨rfl, rfl⟩ := hn
        split at he
        · rename_i p0 hp0
          obtain ⟨vr, us, el', g1, g2, hcell⟩ := Good.rowElem hg hk hx hp0
          have hsol : solid p0 = true := by
            cases ag
            · simp only [Bool.false_eq_true, if_false, Option.map_eq_some_iff] at he
              obtain ⟨q, _, he⟩ := he
              cases he; exact hc
            · simp only [if_true] at he
              cases he; exact hc.1
          have hcs := rep_cells g1 hsol
          cases ag
          · simp only [Bool.false_eq_true, if_false, Option.map_eq_some_iff] at he
            obtain ⟨q, hq, he⟩ := he
            cases he
            obtain ⟨v, f1, f2, f3⟩ := repL_get fo hcs hq
            refine ⟨v, ?_, f2⟩
            obtain ⟨b, o, rfl, hcell⟩ := hcell
            have := hcell 0 v (by simpa using f1)
            simp only [Nat.add_zero] at this
            simp [Instr.loadAt, Instr.sureAddr, loadVar, ha, this]
          · simp only [if_true] at he
            cases he
            obtain ⟨b, o, rfl, hcell⟩ := hcell
            refine ⟨.agg ((vr.cells.toList.drop fo).take sz).toArray, ?_, by simp only [rep]; exact ⟨_, rfl, by simpa using repL_drop_take hcs fo sz⟩⟩
            have hl := repL_length hcs
            have hlen : ((vr.cells.toList.drop fo).take sz).length = sz := by simp only [List.length_take, List.length_drop]; omega
            have hrun := run_loadCells_list (P := P) w ⟨b, o, none⟩ ((vr.cells.toList.drop fo).take sz) (fun j v hj => by
              rw [add_mk]
              refine hcell j v ?_
              rw [List.getElem?_take] at hj
              split at hj
              · simpa [List.getElem?_drop] using hj
              · cases hj)
            rw [hlen] at hrun
            simp only [Instr.loadAt, Instr.sureAddr, loadVar, Sem.run_bind, Sem.run_pure, Result.andThen_ok, ha, if_true, hs, hrun]
        · cases he
      · cases he
    · cases he
  · rename_i k off
    simp only [rep] at hx
    obtain ⟨bl, h1, rfl⟩ := hx
    split at he
    · rename_i cs hk
      obtain ⟨bl', us, el, g1, g2, g3, g4, g5⟩ := hg.box k cs hk
      rw [h1] at g1; cases g1
      have hpl : plainB cs = true := by
        cases ag
        · simp only [Bool.false_eq_true, if_false, Option.map_eq_some_iff] at he
          obtain ⟨q, hq, he⟩ := he
          cases he
          exact hc
        · simp only [if_true] at he
          cases he
          exact hc.1
      rw [plain_obj hpl] at g4
      rw [plain_repB hpl] at g5
      have hl := repL_length g5
      cases ag
      · simp only [Bool.false_eq_true, if_false, Option.map_eq_some_iff] at he
        obtain ⟨q, hq, he⟩ := he
        cases he
        obtain ⟨v, f1, f2, f3⟩ := repL_get off g5 hq
        refine ⟨v, ?_, f2⟩
        have hcell : w.cell? ⟨bl, off, none⟩ = some v := by simpa [World.cell?, g4] using f1
        simp [Instr.loadAt, Instr.sureAddr, loadVar, ha, hcell]
      · simp only [if_true] at he
        cases he
        replace hc := hc.2
        refine ⟨_, ?_, by simp only [rep]; exact ⟨_, rfl, by simpa using repL_drop_take g5 off sz⟩⟩
        simp only [Instr.loadAt, Instr.sureAddr, loadVar, Sem.run_bind, Sem.run_pure, Result.andThen_ok, ha, if_true, hs]
        rw [run_load_block g4 (by simp at hl; omega)]
        rfl
    · cases he
  · rename_i q
    simp only [rep] at hx
    obtain ⟨bl, off, u', rfl, h2, h3⟩ := hx
    cases ag
    · simp only [Bool.false_eq_true, if_false] at he
      cases he
      obtain ⟨hc1, hc2⟩ := hc
      obtain ⟨g1, g2⟩ := rep_one h2 hc1 (fun cs e => by subst e; have := congrArg List.length hc2; simp only [cells, List.length_cons, List.length_nil] at this; cases cs with
        | nil => simp [cells] at hc2
        | cons y ys => simp only [cells, List.cons.injEq] at hc2; obtain ⟨e1, e2⟩ := hc2; subst e2; have := congrArg SizeOf.sizeOf e1; simp at this; omega)
      refine ⟨u', ?_, h2⟩
      rw [g2] at h3
      have hcell := h3.1.2
      simp [Instr.loadAt, Instr.sureAddr, loadVar, ha, hcell]
    · simp only [if_true] at he
      cases he
      obtain ⟨cs, rfl, hlen⟩ := hc
      simp only [rep] at h2
      obtain ⟨us, rfl, h4⟩ := h2
      refine ⟨.agg us, ?_, by simp only [rep]; exact ⟨us, rfl, h4⟩⟩
      simp only [Value.cells] at h3
      have hl := repL_length h4
      have := run_load_laid (P := P) h3
      rw [show us.toList.length = sz from by omega] at this
      simp [Instr.loadAt, Instr.sureAddr, loadVar, ha, hs, this]
  · cases he

theorem faddrV_sound {P : Program} {tys : List (Nat × TF)} (ht : tysOk P tys = true) {w : World} {ν : Env} {s i : Nat} {f : TF} {fs : List (Nat × Nat)} (hf : tf tys s = some f) (hk : f.kind = .struct fs) {off t : Nat} {g : TF} (hi : fs[i]? = some (off, t)) (hg : tf tys t = some g) (h0 : g.size ≠ 0)
    {x : PV} {u : Value} (hx : rep w ν x u) {c : Prop} {p : PV} (he : faddrV off g.kind.isAgg g.size x = some (c, p)) (hc : c) : ∃ v, (Instr.fieldAt s u i).run P w = .ok v w ∧ rep w ν p v := by
  obtain ⟨d, hd, hdk⟩ := tf_und ht hf
  rw [hk] at hdk
  obtain ⟨gs, rfl, hgs⟩ := dOk_struct hdk
  have hgi : ∃ fd : Field, gs[i]? = some fd ∧ fd.offset = off ∧ fd.type = t := by
    rw [← hgs] at hi
    simp only [List.getElem?_map, Option.map_eq_some_iff] at hi
    obtain ⟨fd, h1, h2⟩ := hi
    simp only [Prod.mk.injEq] at h2
    exact ⟨fd, by simpa using h1, h2.1, h2.2⟩
  obtain ⟨fd, hfd, ho, hty⟩ := hgi
  obtain ⟨ha, hs⟩ := tf_load ht hg w
  have hrun : ∀ b o, (Instr.fieldAt s (.pointer (some ⟨b, o, none⟩)) i).run P w = .ok (.pointer (some ⟨b, o + off, none⟩)) w := by
    intro b o
    simp [Instr.fieldAt, run_underlying hd, hfd, Instr.sureAddr, fieldPlace, hty, hs, h0, add_mk, ho]
  unfold faddrV at he
  split at he
  · cases he
    simp only [rep] at hx
    obtain ⟨b, h1, rfl⟩ := hx
    exact ⟨_, hrun _ _, by simp only [rep]; exact ⟨b, h1, rfl⟩⟩
  · cases he
    simp only [rep] at hx
    obtain ⟨⟨b, o, rfl⟩, hi, n', u', h1, h2, h3⟩ := hx
    refine ⟨_, hrun _ _, ?_⟩
    simp only [rep]
    refine ⟨⟨b, _, rfl⟩, hi, n', u', h1, h2, fun e => ?_⟩
    obtain ⟨b', e1, e2⟩ := h3 e
    simp only [Value.pointer.injEq, Option.some.injEq, Addr.mk.injEq, and_true] at e2
    obtain ⟨rfl, rfl⟩ := e2
    exact ⟨b, e1, by rw [Nat.add_assoc]⟩
  · rename_i cs
    simp only [rep] at hx
    obtain ⟨b, o, u', rfl, ⟨us, rfl, h2⟩, h3⟩ := hx
    refine ⟨_, hrun _ _, ?_⟩
    simp only [Value.cells] at h3
    split at he
    · cases he
      simp only [rep]
      exact ⟨b, o + off, .agg ((us.toList.drop off).take g.size).toArray, rfl, ⟨_, rfl, by simpa using repL_drop_take h2 off g.size⟩, by simpa [Value.cells] using laid_take g.size (laid_drop off h3)⟩
    · simp only [Option.map_eq_some_iff] at he
      obtain ⟨q, hq, he⟩ := he
      cases he
      obtain ⟨v, f1, f2, f3⟩ := repL_get off h2 hq
      simp only [rep]
      have hlg := laid_get h3 f1
      have hvc : v.cells = #[v] := by cases v <;> first | rfl | cases f3
      exact ⟨b, o + off, v, rfl, f2, by rw [hvc]; exact ⟨hlg, trivial⟩⟩
  · cases he

theorem fldV_sound {P : Program} {tys : List (Nat × TF)} (ht : tysOk P tys = true) {w : World} {ν : Env} {s i : Nat} {f : TF} {fs : List (Nat × Nat)} (hf : tf tys s = some f) (hk : f.kind = .struct fs) {off t : Nat} {g : TF} (hi : fs[i]? = some (off, t)) (hg : tf tys t = some g)
    {x : PV} {u : Value} (hx : rep w ν x u) {c : Prop} {p : PV} (he : fldV off g.kind.isAgg g.size x = some (c, p)) (hc : c) : ∃ v, (Instr.field s u i).run P w = .ok v w ∧ rep w ν p v := by
  obtain ⟨d, hd, hdk⟩ := tf_und ht hf
  rw [hk] at hdk
  obtain ⟨gs, rfl, hgs⟩ := dOk_struct hdk
  have hgi : ∃ fd : Field, gs[i]? = some fd ∧ fd.offset = off ∧ fd.type = t := by
    rw [← hgs] at hi
    simp only [List.getElem?_map, Option.map_eq_some_iff] at hi
    obtain ⟨fd, h1, h2⟩ := hi
    simp only [Prod.mk.injEq] at h2
    exact ⟨fd, by simpa using h1, h2.1, h2.2⟩
  obtain ⟨fd, hfd, ho, hty⟩ := hgi
  obtain ⟨ha, hs⟩ := tf_load ht hg w
  unfold fldV at he
  split at he
  · rename_i cs
    simp only [rep] at hx
    obtain ⟨us, rfl, h2⟩ := hx
    generalize hag : g.kind.isAgg = ag at *
    cases ag
    · simp only [Bool.false_eq_true, if_false, Option.map_eq_some_iff] at he
      obtain ⟨q, hq, he⟩ := he
      cases he
      obtain ⟨v, f1, f2, f3⟩ := repL_get off h2 hq
      have f1' : us[off]? = some v := by simpa using f1
      exact ⟨v, by simp [Instr.field, run_underlying hd, hfd, asAgg, part, hty, ha, ho, f1'], f2⟩
    · simp only [if_true] at he
      cases he
      refine ⟨.agg (us.extract off (off + g.size)), by simp [Instr.field, run_underlying hd, hfd, asAgg, part, hty, ha, ho, hs], ?_⟩
      simp only [rep]
      refine ⟨_, rfl, ?_⟩
      have := repL_drop_take h2 off g.size
      simpa [List.take_drop] using this
  · cases he

theorem iaddrV_sound {P : Program} {tys : List (Nat × TF)} (ht : tysOk P tys = true) {w : World} {ν : Env} {t e : Nat} {f g : TF} (hf : tf tys t = some f) (hk : f.kind = .slice e) (hg : tf tys e = some g)
    {x y : PV} {u v : Value} (hx : rep w ν x u) (hy : rep w ν y v) {c : Prop} {p : PV} (he : iaddrV g.size x y = some (c, p)) (hc : c) : ∃ r, (Instr.indexAt t u v).run P w = .ok r w ∧ rep w ν p r := by
  obtain ⟨d, hd, hdk⟩ := tf_und ht hf
  rw [hk] at hdk
  obtain rfl := dOk_slice hdk
  obtain ⟨ha, hs⟩ := tf_load ht hg w
  unfold iaddrV at he
  split at he
  · rename_i sz' tag xs k i
    split at he
    · rename_i hsz
      cases he
      simp only [rep] at hx hy
      subst hy
      subst hsz
      obtain ⟨⟨a, cap, rfl, h1, h2, h3⟩, _⟩ := hx
      obtain ⟨hi0, hi1⟩ := hc
      have hin : i.toNat < xs.length := by omega
      rcases h3 with rfl | ⟨b, off, us, rfl, h4, h5⟩
      · simp at hin
      · have hx : xs[i.toNat]? = some xs[i.toNat] := List.getElem?_eq_getElem hin
        obtain ⟨w', r1, r2, r3⟩ := repC_get i.toNat h5 hx
        refine ⟨.pointer (some ⟨b, off + i.toNat * g.size, none⟩), ?_, ?_⟩
        · simp only [Instr.indexAt, asIntOf, Sem.run_bind, Sem.run_pure, Result.andThen_ok, run_underlying hd, hi0, hi1, and_self, if_true, hs, add_mk]
        · simp only [rep]
          refine ⟨b, off + i.toNat * g.size, w', rfl, by simpa [List.getD, hx] using r1, ?_⟩
          rw [r3]
          exact laid_take g.size (laid_drop _ h4)
    · cases he
  · rename_i sz' k n kk i
    split at he
    · rename_i hsz
      cases he
      simp only [rep] at hx hy
      subst hy
      subst hsz
      obtain ⟨⟨b, cap, rfl⟩, h2, n', u', h3, h4, h5⟩ := hx
      obtain ⟨hi0, hi1⟩ := hc
      refine ⟨.pointer (some ⟨b, 0 + i.toNat * g.size, none⟩), ?_, ?_⟩
      · simp only [Instr.indexAt, asIntOf, Sem.run_bind, Sem.run_pure, Result.andThen_ok, run_underlying hd, hi0, hi1, and_self, if_true, hs, add_mk]
      · simp only [rep]
        refine ⟨⟨b, _, rfl⟩, by omega, n', u', h3, h4, fun e => ⟨b, ?_, by simp⟩⟩
        rw [← h5 e]; rfl
    · cases he
  · cases he

theorem optI_real {C : Ctx} {st : St} {a : Act} {w : World} {ν : Env} (h : Rel C st a w ν) {x : Option Opd} {o : Option Operand} (hx : optOk x o = true) {dflt n : Int} (he : optI dflt (x.map (evalO st.t)) = some n) :
    (o.map a.eval = none ∧ n = dflt) ∨ ∃ k, o.map a.eval = some (.int k n) := by
  cases x with
  | none => cases o with
    | none => simp [optI] at he; exact .inl ⟨rfl, he.symm⟩
    | some o => simp [optOk] at hx
  | some x => cases o with
    | none => simp [optOk] at hx
    | some o =>
      simp only [optOk] at hx
      have := opOk_rep h hx
      simp only [Option.map_some] at he ⊢
      cases hev : evalO st.t x <;> simp [hev, optI] at he
      rw [hev] at this
      simp only [rep] at this
      subst he
      exact .inr ⟨_, by rw [this]⟩

end Go.Pv
/- Every instruction that computes a value is sound. -/
set_option linter.all false
namespace Go.Pv
open Go Go.RowKit

theorem zEq_eq {c d : PV} (h : zEq c d = true) : c = d := by
  unfold zEq at h
  split at h <;> simp_all
theorem zEqL_eq : ∀ {cs ds : List PV}, zEqL cs ds = true → cs = ds
  | [], [], _ => rfl
  | [], _ :: _, h => by simp [zEqL] at h
  | _ :: _, [], h => by simp [zEqL] at h
  | c :: cs, d :: ds, h => by
    simp only [zEqL, Bool.and_eq_true] at h
    rw [zEq_eq h.1, zEqL_eq h.2]
theorem zeroIs_eq {cs : List PV} {z : PV} (h : zeroIs cs z = true) : z = .agg cs := by
  cases z <;> simp only [zeroIs] at h
  case agg ds => rw [zEqL_eq h]
  all_goals cases h

theorem getElem?_mk (s : List UInt8) (n : Nat) (h : n < s.length) : (⟨s.toArray⟩ : ByteArray)[n]? = some (s.getD n 0) := by
  have hsz : n < (⟨s.toArray⟩ : ByteArray).size := by rw [size_mk]; exact h
  have e : (⟨s.toArray⟩ : ByteArray)[n]? = some ((⟨s.toArray⟩ : ByteArray)[n]'hsz) := getElem?_pos (⟨s.toArray⟩ : ByteArray) n hsz
  rw [e]
  congr 1
  simp [List.getD, h]
  rfl

theorem sliceBound_ok (P : Program) (w : World) (k : IntKind) (i : Int) (y : Nat) (c : BoundsCode) (h0 : 0 ≤ i) (h1 : i ≤ y) : (Instr.sliceBound (.int k i) y c).run P w = .ok i.toNat w := by
  simp [Instr.sliceBound, asIntOf, h0, h1]

theorem bounds_ok (P : Program) (w : World) (isS : Bool) (len cap : Nat) (lo hi : Option Value) (l h : Int) (hlo : (lo = none ∧ l = 0) ∨ ∃ k, lo = some (.int k l)) (hhi : (hi = none ∧ h = len) ∨ ∃ k, hi = some (.int k h))
    (h0 : 0 ≤ l) (h1 : l ≤ h) (h2 : h ≤ len) (hc : len ≤ cap) : (Instr.sliceBounds isS len cap lo hi none).run P w = .ok (l.toNat, h.toNat, cap) w := by
  rcases hlo with ⟨rfl, rfl⟩ | ⟨k, rfl⟩ <;> rcases hhi with ⟨rfl, rfl⟩ | ⟨k', rfl⟩
  · simp [Instr.sliceBounds]
  · simp [Instr.sliceBounds, sliceBound_ok P w k' h cap _ (by omega) (by omega)]
  · simp [Instr.sliceBounds, sliceBound_ok P w k l len _ (by omega) (by omega)]
  · simp [Instr.sliceBounds, sliceBound_ok P w k' h cap _ (by omega) (by omega), sliceBound_ok P w k l h.toNat _ (by omega) (by omega)]

theorem places_ok {P : Program} {tys : List (Nat × TF)} (ht : tysOk P tys = true) : ∀ (gs : List Field), (gs.all fun f => (tf tys f.type).isSome) = true →
    ∃ places : List (Nat × Nat), gs.mapM (fun f => (P.info? f.type).map fun i => (f.offset, i.size)) = some places ∧
      ∀ (i off t sz : Nat), (gs.map (fun f => (f.offset, f.type)))[i]? = some (off, t) → (tf tys t).map (·.size) = some sz → places[i]? = some (off, sz)
  | [], _ => ⟨[], by simp, by simp⟩
  | f :: gs, h => by
    simp only [List.all_cons, Bool.and_eq_true] at h
    obtain ⟨places, h1, h2⟩ := places_ok ht gs h.2
    obtain ⟨g, hg⟩ := Option.isSome_iff_exists.1 h.1
    obtain ⟨i, d, z, e1, e2, e3, e4, e5, e6, e7, e8⟩ := (tyIs ht hg).ex
    refine ⟨(f.offset, g.size) :: places, by simp [List.mapM_cons, e1, e3, h1], fun j off t sz hj hsz => ?_⟩
    cases j with
    | zero =>
      simp only [List.map_cons, List.getElem?_cons_zero, Option.some.injEq, Prod.mk.injEq] at hj ⊢
      obtain ⟨rfl, rfl⟩ := hj
      rw [hg] at hsz
      simpa using hsz
    | succ j =>
      simp only [List.map_cons, List.getElem?_cons_succ] at hj ⊢
      exact h2 j off t sz hj hsz

theorem val_ok {P : Program} {w : World} {x : Sem Value} {v : Value} (h : x.run P w = .ok v w) : (do pure (Next.value (← x)) : Sem Next).run P w = .ok (.value v) w := by
  simp [h]

theorem zeroEq_eq {p q : PV} (h : zeroEq p q = true) : p = q := by
  unfold zeroEq at h
  split at h
  · rw [zEqL_eq h]
  · cases h
  · exact zEq_eq h

theorem zOk_rep (w : World) (ν : Env) {p : PV} {v : Value} (h : zOk p v = true) : rep w ν p v ∧ repL w ν (cells p) v.cells.toList := by
  by_cases ha : ∃ cs, p = .agg cs
  · obtain ⟨cs, rfl⟩ := ha
    cases v <;> simp only [zOk] at h
    case agg us =>
      have := zOkL_rep w ν _ _ h
      exact ⟨by simp only [rep]; exact ⟨us, rfl, this⟩, by simpa [cells, Value.cells] using this⟩
    all_goals cases h
  · have h' : cOk p v = true ∧ v.oneCell' = true := by
      cases p <;> simp only [zOk, Bool.and_eq_true] at h <;> first | exact h | exact absurd ⟨_, rfl⟩ ha
    have hr := cOk_rep w ν h'.1
    refine ⟨hr, ?_⟩
    have hc : cells p = [p] := by cases p <;> first | rfl | exact absurd ⟨_, rfl⟩ ha
    have hv : v.cells = #[v] := by
      have := h'.2
      cases v <;> first | rfl | simp [Value.oneCell'] at this
    rw [hc, hv]
    simp only [repL]
    exact ⟨v, [], rfl, ⟨hr, h'.2⟩, rfl⟩

theorem tf_zero {P : Program} {tys : List (Nat × TF)} (ht : tysOk P tys = true) {t : Nat} {f : TF} (hf : tf tys t = some f) (w : World) : ∃ z, (zeroValue t).run P w = .ok z w ∧ zOk f.zero z = true ∧ z.cells.size = f.size := by
  obtain ⟨i, d, z, h1, h2, h3, h4, h5, h6, h7, h8⟩ := (tyIs ht hf).ex
  exact ⟨z, by simp [zeroValue, typeInfo, h1, h6], h7, h8⟩

theorem repT_args {C : Ctx} {st : St} {a : Act} {w : World} {ν : Env} (h : Rel C st a w ν) : ∀ {xs : List Opd} {os : List Operand}, opsOk' xs os = true → repT w ν (xs.map (evalO st.t)) (os.map a.eval)
  | [], [], _ => by simp [repT]
  | [], _ :: _, hk => by simp [opsOk'] at hk
  | _ :: _, [], hk => by simp [opsOk'] at hk
  | x :: xs, o :: os, hk => by
    simp only [opsOk', Bool.and_eq_true] at hk
    simp only [List.map_cons, repT]
    exact ⟨_, _, rfl, opOk_rep h hk.1, repT_args h hk.2⟩

theorem equalIn_bool {P : Program} {w : World} {t : TypeId} (hd : P.underlying t = some .bool) (d : Nat) (a b : Bool) : (Op.equalIn (d + 1) t (.bool a) (.bool b)).run P w = .ok (a == b) w := by
  rw [Op.equalIn]
  simp only [Sem.run_bind, run_underlying hd, Result.andThen_ok, Sem.run_pure]
theorem equal_bool {P : Program} {w : World} {t : TypeId} (hd : P.underlying t = some .bool) (a b : Bool) : (Op.equal t (.bool a) (.bool b)).run P w = .ok (a == b) w := equalIn_bool hd _ a b
theorem ents_length : ∀ {borns : List Nat} {kvs : List PV} {us : List Value}, kvs.length = 2 * borns.length → us.length = kvs.length → (ents borns us).length = borns.length
  | [], _, us, _, _ => by simp [ents]
  | b' :: bs, kvs, [], h1, h2 => by rw [h1] at h2; simp at h2
  | b' :: bs, kvs, [_], h1, h2 => by rw [h1] at h2; simp at h2; omega
  | b' :: bs, kvs, k :: v :: us, h1, h2 => by
    simp only [ents, List.length_cons]
    rw [ents_length (kvs := kvs.drop 2) (us := us) (borns := bs) (by simp at h1 ⊢; omega) (by simp at h1 h2 ⊢; omega)]
theorem repT_len' {w : World} {ν : Env} : ∀ {ps : List PV} {vs : List Value}, repT w ν ps vs → vs.length = ps.length
  | [], vs, h => by simp only [repT] at h; subst h; rfl
  | p :: ps, vs, h => by
    simp only [repT] at h
    obtain ⟨u, us', rfl, _, h2⟩ := h
    simp [repT_len' h2]
theorem run_getObj' {P : Program} {w : World} {r : Nat} {o : Obj} (hb : w.heap[r]? = some o) (hn : ∀ c e f, o ≠ .cells c e f := by simp) : (getObj r).run P w = .ok o w := by
  simp only [getObj, Sem.run, hb]

/-- Finding a key. -/
theorem mfind_sound {w : World} {ν : Env} {ks : Bool} {d : TypeDesc} (hd : (ks = false ∧ ∃ k, d = .int k) ∨ (ks = true ∧ d = .string)) {k : PV} {kv : Value} (hk : rep w ν k kv) : ∀ (borns : List Nat) (kvs : List PV) (us : List Value) (i : Nat) (r : Option PV), repT w ν kvs us → kvs.length = 2 * borns.length → mfind ks k kvs = some r →
    match r with
    | none => Instr.findNow d kv (ents borns us) i = some none
    | some v => ∃ j u, Instr.findNow d kv (ents borns us) i = some (some (j, u)) ∧ rep w ν v u
  | [], [], us, i, r, h, _, hm => by
    simp only [mfind] at hm; cases hm
    simp only [repT] at h; subst h
    simp [ents, Instr.findNow]
  | [], _ :: _, _, _, _, _, hl, _ => by simp at hl
  | b :: bs, [], _, _, _, _, hl, _ => by simp at hl
  | b :: bs, [_], _, _, _, _, hl, _ => by simp at hl; omega
  | b :: bs, k' :: v :: kvs, us, i, r, h, hl, hm => by
    simp only [repT] at h
    obtain ⟨u1, us1, rfl, h1, u2, us2, rfl, h2, h3⟩ := h
    simp only [mfind] at hm
    have hsame : ∀ bb, keyEq ks k k' = some bb → Instr.sameNow d kv u1 = some bb := by
      intro bb hb
      unfold keyEq at hb
      split at hb
      · split at hb
        · rename_i hcond
          obtain ⟨rfl, rfl⟩ := hcond
          simp only [rep] at hk h1
          subst hk; subst h1
          rcases hd with ⟨_, kk, rfl⟩ | ⟨e, _⟩
          · simpa [Instr.sameNow] using hb
          · cases e
        · cases hb
      · split at hb
        · rename_i hcond
          subst hcond
          simp only [rep] at hk h1
          obtain ⟨rfl, _⟩ := hk
          obtain ⟨rfl, _⟩ := h1
          rcases hd with ⟨e, _⟩ | ⟨_, rfl⟩
          · cases e
          · simp only [Instr.sameNow]
            rw [← hb]
            congr 1
            rename_i a c _
            rw [Bool.eq_iff_iff, MapKept.bytes_beq]
            simp
        · cases hb
      · cases hb
    simp only [ents, Instr.findNow]
    cases hq : keyEq ks k k' with
    | none => simp [hq] at hm
    | some bb =>
      rw [hsame bb hq]
      simp only [hq] at hm
      cases bb with
      | true =>
        simp only [Option.some.injEq] at hm
        subst hm
        exact ⟨i, u2, rfl, h2⟩
      | false =>
        simp only at hm ⊢
        exact mfind_sound hd hk bs kvs us2 (i + 1) r h3 (by simp at hl; omega) hm

theorem run_checkKey {P : Program} {w : World} {t : Nat} {d : TypeDesc} (hu : P.underlying t = some d) (hd : (∃ k, d = .int k) ∨ d = .string) (e : Bool) (v : Value) : (Instr.checkKey e 10000 t v).run P w = .ok () w := by
  unfold Instr.checkKey
  rcases hd with ⟨k, rfl⟩ | rfl <;> simp [run_underlying hu]

theorem mat_sound {w : World} {ν : Env} {n : Nat} : ∀ (borns : List Nat) (kvs : List PV) (us : List Value) (p : PV), repT w ν kvs us → mat n borns kvs = some p → ∃ e, (ents borns us).find? (·.born == n) = some e ∧ rep w ν p (.tuple #[e.key, e.val])
  | [], _, _, _, _, hm => by simp [mat] at hm
  | _ :: _, [], _, _, _, hm => by simp [mat] at hm
  | _ :: _, [_], _, _, _, hm => by simp [mat] at hm
  | b :: bs, k :: v :: kvs, us, p, h, hm => by
    simp only [repT] at h
    obtain ⟨u1, us1, rfl, h1, u2, us2, rfl, h2, h3⟩ := h
    simp only [mat] at hm
    simp only [ents]
    by_cases e : b = n
    · rw [if_pos e] at hm; cases hm
      refine ⟨⟨u1, u2, b⟩, by simp [List.find?, e], ?_⟩
      simp only [rep]
      exact ⟨#[u1, u2], rfl, by simp only [repT]; exact ⟨_, _, rfl, h1, _, _, rfl, h2, rfl⟩⟩
    · rw [if_neg e] at hm
      obtain ⟨x, g1, g2⟩ := mat_sound bs kvs us2 p h3 hm
      have hbe : (b == n) = false := by simpa using e
      exact ⟨x, by simp [List.find?, hbe, g1], g2⟩


set_option maxHeartbeats 1000000 in
theorem vI_sound {P : Program} {tys : List (Nat × TF)} (ht : tysOk P tys = true) {C : Ctx} {st : St} {a : Act} {w : World} {ν : Env} (hr : Rel C st a w ν) {i : VIns} {o : Oper} (ho : vOk tys i o.op = true)
    {c : Prop} {p : PV} (he : vI st i = some (c, p)) (hc : c) : ∃ v, (execOp a.eval o).run P w = .ok (.value v) w ∧ rep w ν p v := by
  obtain ⟨dst, op, type, pos, after, guard⟩ := o
  simp only at ho
  unfold vOk at ho
  split at ho
  · rename_i x o
    simp only [vI] at he; cases he
    exact ⟨_, rfl, opOk_rep hr ho⟩
  · rename_i x o
    simp only [vI] at he; cases he
    exact ⟨_, rfl, opOk_rep hr ho⟩
  · rename_i c' x y c'' x' y'
    simp only [Bool.and_eq_true] at ho
    have h1 := opOk_rep hr ho.1.1
    have h2 := opOk_rep hr ho.1.2
    have h3 := opOk_rep hr ho.2
    simp only [vI, pickV] at he
    split at he
    · rename_i b hb
      rw [hb] at h1; simp only [rep] at h1
      split at he
      · rename_i u v hu hv
        cases he
        rw [hu] at h2; rw [hv] at h3
        simp only [rep] at h2 h3
        refine ⟨.bool (cond b u v), ?_, by simp [rep]⟩
        simp only [execOp, h1, h2, h3, asBool, Sem.run_bind, Sem.run_pure, Result.andThen_ok]
        cases b <;> rfl
      · split at he
        · cases he
          exact ⟨_, by simp only [execOp, h1, asBool, Sem.run_bind, Sem.run_pure, Result.andThen_ok, if_true], h2⟩
        · cases he
          exact ⟨_, by simp only [execOp, h1, asBool, Sem.run_bind, Sem.run_pure, Result.andThen_ok, Bool.false_eq_true, if_false], h3⟩
    · cases he
  · rename_i agg sz x t o
    simp only [Bool.and_eq_true] at ho
    obtain ⟨h1, h2⟩ := ho
    split at h1
    · rename_i f hf
      simp only [Bool.and_eq_true, beq_iff_eq] at h1
      obtain ⟨rfl, rfl⟩ := h1
      obtain ⟨v, g1, g2⟩ := loadV_sound ht hr.good hf (opOk_rep hr h2) (by simpa only [vI] using he) hc
      exact ⟨v, val_ok g1, g2⟩
    · cases h1
  · rename_i off agg sz x s o i
    simp only [Bool.and_eq_true] at ho
    obtain ⟨h1, h2⟩ := ho
    split at h1
    · rename_i f hf
      split at h1
      · rename_i off' t hfi
        simp only [Bool.and_eq_true, beq_iff_eq] at h1
        obtain ⟨rfl, h1⟩ := h1
        split at h1
        · rename_i g hg
          simp only [Bool.and_eq_true, beq_iff_eq, bne_iff_ne, ne_eq] at h1
          obtain ⟨⟨rfl, rfl⟩, h0⟩ := h1
          obtain ⟨v, g1, g2⟩ := faddrV_sound ht hf rfl hfi hg h0 (opOk_rep hr h2) (by simpa only [vI] using he) hc
          exact ⟨v, val_ok g1, g2⟩
        · cases h1
      · cases h1
    · cases h1
  · rename_i off agg sz x s o i
    simp only [Bool.and_eq_true] at ho
    obtain ⟨h1, h2⟩ := ho
    split at h1
    · rename_i f hf
      split at h1
      · rename_i off' t hfi
        simp only [Bool.and_eq_true, beq_iff_eq] at h1
        obtain ⟨rfl, h1⟩ := h1
        split at h1
        · rename_i g hg
          simp only [Bool.and_eq_true, beq_iff_eq] at h1
          obtain ⟨rfl, rfl⟩ := h1
          obtain ⟨v, g1, g2⟩ := fldV_sound ht hf rfl hfi hg (opOk_rep hr h2) (by simpa only [vI] using he) hc
          exact ⟨v, val_ok g1, g2⟩
        · cases h1
      · cases h1
    · cases h1
  · rename_i sz x i t o j
    simp only [Bool.and_eq_true] at ho
    obtain ⟨⟨h1, h2⟩, h3⟩ := ho
    split at h1
    · rename_i e hf
      split at h1
      · rename_i g hg
        simp only [beq_iff_eq] at h1
        subst h1
        obtain ⟨v, g1, g2⟩ := iaddrV_sound ht hf rfl hg (opOk_rep hr h2) (opOk_rep hr h3) (by simpa only [vI] using he) hc
        exact ⟨v, val_ok g1, g2⟩
      · cases h1
    · cases h1
  · rename_i x i t o j
    simp only [Bool.and_eq_true] at ho
    obtain ⟨⟨h1, h2⟩, h3⟩ := ho
    split at h1
    · rename_i hf
      obtain ⟨d, hd, hdk⟩ := tf_und ht hf
      obtain rfl := dOk_str hdk
      have e1 := opOk_rep hr h2
      have e2 := opOk_rep hr h3
      simp only [vI, sidxV] at he
      split at he
      · rename_i s k n hs hn
        cases he
        rw [hs] at e1; rw [hn] at e2
        simp only [rep] at e1 e2
        obtain ⟨hc0, hc1⟩ := hc
        have hlt : n.toNat < s.length := by omega
        have hidx : (⟨s.toArray⟩ : ByteArray)[n.toNat]? = some (s.getD n.toNat 0) := by
          exact getElem?_mk s n.toNat hlt
        refine ⟨_, val_ok (v := .int .u8 (s.getD n.toNat 0).toNat) ?_, by simp [rep]⟩
        simp only [Instr.index, e2, asIntOf, e1.1, Sem.run_bind, Sem.run_pure, Result.andThen_ok, run_underlying hd, hc0, if_true, hidx]
      · cases he
    · cases h1
  · rename_i x lo hi t o l h
    simp only [Bool.and_eq_true] at ho
    obtain ⟨⟨⟨h1, h2⟩, h3⟩, h4⟩ := ho
    split at h1
    · rename_i hf
      obtain ⟨d, hd, hdk⟩ := tf_und ht hf
      obtain rfl := dOk_str hdk
      have e1 := opOk_rep hr h2
      simp only [vI, sslV] at he
      split at he
      · rename_i s hs
        rw [hs] at e1
        simp only [rep] at e1
        split at he
        · rename_i ll hh hl hhh
          cases he
          obtain ⟨c1, c2, c3⟩ := hc
          have k1 := optI_real hr h3 hl
          have k2 := optI_real hr h4 hhh
          refine ⟨_, val_ok (v := .string ⟨((s.take hh.toNat).drop ll.toNat).toArray⟩) ?_, ?_⟩
          · have hb := bounds_ok P w false s.length s.length (l.map a.eval) (h.map a.eval) ll hh
              k1 k2 c1 c2 c3 (Nat.le_refl _)
            simp only [Instr.sliceAt, Instr.slice, e1.1, Sem.run_bind, Sem.run_pure, Result.andThen_ok, run_underlying hd, Option.map_none, Option.isSome_none, Bool.false_eq_true, if_false, size_mk, hb, extract_mk]
          · simp only [rep]
            refine ⟨trivial, ?_⟩
            have := e1.2
            simp only [List.length_drop, List.length_take]
            omega
        · cases he
      · cases he
    · cases h1
  · rename_i sz x lo hi t o l h
    simp only [Bool.and_eq_true] at ho
    obtain ⟨⟨⟨h1, h2⟩, h3⟩, h4⟩ := ho
    split at h1
    · rename_i e hf
      split at h1
      · rename_i g hg
        simp only [beq_iff_eq] at h1
        subst h1
        obtain ⟨d, hd, hdk⟩ := tf_und ht hf
        obtain rfl := dOk_slice hdk
        obtain ⟨_, hsz⟩ := tf_load ht hg w
        have e1 := opOk_rep hr h2
        simp only [vI, lslV] at he
        split at he
        · rename_i sz' tag xs hs
          split at he
          · rename_i hss
            subst hss
            rw [hs] at e1
            simp only [rep] at e1
            obtain ⟨⟨ad, cap, hv, b1, b2, b3⟩, _⟩ := e1
            split at he
            · rename_i ll hh hl hhh
              cases he
              obtain ⟨c1, c2, c3⟩ := hc
              have k1 := optI_real hr h3 hl
              have k2 := optI_real hr h4 hhh
              have hb := bounds_ok P w true xs.length cap (l.map a.eval) (h.map a.eval) ll hh
                k1 k2 c1 c2 c3 b1
              refine ⟨_, val_ok (v := .slice (if cap = ll.toNat then ad else ad.map (·.add (ll.toNat * g.size))) (hh.toNat - ll.toNat) (cap - ll.toNat)) ?_, ?_⟩
              · simp only [Instr.sliceAt, Instr.slice, hv, Sem.run_bind, Sem.run_pure, Result.andThen_ok, run_underlying hd, Option.map_none, hb, hsz]
              · simp only [rep]
                have hlen : ((xs.take hh.toNat).drop ll.toNat).length = hh.toNat - ll.toNat := by simp; omega
                refine ⟨⟨_, _, by rw [hlen], by rw [hlen]; omega, ⟨by omega, by rw [hlen]; omega⟩, ?_⟩, (fun h => by cases h), (fun g h => by cases h)⟩
                rcases b3 with rfl | ⟨b, off, us, rfl, g1, g2⟩
                · left; simp
                · by_cases hcap : cap = ll.toNat
                  · left
                    apply List.eq_nil_of_length_eq_zero
                    rw [hlen]; omega
                  · right
                    rw [if_neg hcap]
                    refine ⟨b, off + ll.toNat * g.size, (us.take (hh.toNat * g.size)).drop (ll.toNat * g.size), by simp [add_mk], laid_drop _ (laid_take _ g1), repC_drop _ (repC_take _ g2)⟩
            · cases he
          · cases he
        · cases he
      · cases h1
    · cases h1
  · rename_i op wr x y op' ty o o' ty'
    simp only [Bool.and_eq_true, decide_eq_true_eq] at ho
    obtain ⟨⟨rfl, h1⟩, h2⟩ := ho
    obtain ⟨r, g1, g2⟩ := binV_sound P w ν (by simpa only [vI] using he) hc ty (opOk_rep hr h1) (opOk_rep hr h2) o o'
    exact ⟨r, val_ok g1, g2⟩
  · rename_i x op ty o
    simp only [Bool.and_eq_true, decide_eq_true_eq] at ho
    obtain ⟨rfl, h1⟩ := ho
    have e1 := opOk_rep hr h1
    simp only [vI] at he
    unfold notV at he
    split at he
    · rename_i b hb
      cases he
      rw [hb] at e1; simp only [rep] at e1
      exact ⟨_, val_ok (v := .bool (!b)) (by simp [Op.unary, e1]), by simp [rep]⟩
    · cases he
  · rename_i x op ty o
    simp only [Bool.and_eq_true, decide_eq_true_eq] at ho
    obtain ⟨rfl, h1⟩ := ho
    have e1 := opOk_rep hr h1
    simp only [vI] at he
    unfold negV at he
    split at he
    · rename_i k n hb
      cases he
      rw [hb] at e1; simp only [rep] at e1
      exact ⟨_, val_ok (v := .int k (k.wrap (0 - n))) (by simp [Op.unary, e1, Op.intArith]), by simp [rep]⟩
    · cases he
  · rename_i k x s d o
    simp only [Bool.and_eq_true] at ho
    obtain ⟨h1, h2⟩ := ho
    split at h1
    · rename_i k1 k2 hf1 hf2
      simp only [decide_eq_true_eq] at h1
      subst h1
      obtain ⟨d1, hd1, hdk1⟩ := tf_und ht hf1
      obtain rfl := dOk_int hdk1
      obtain ⟨d2, hd2, hdk2⟩ := tf_und ht hf2
      obtain rfl := dOk_int hdk2
      have e1 := opOk_rep hr h2
      simp only [vI] at he
      unfold convV at he
      split at he
      · rename_i k' n hb
        cases he
        rw [hb] at e1; simp only [rep] at e1
        exact ⟨_, val_ok (v := .int k (k.wrap n)) (by simp [convert, e1, run_underlying hd1, run_underlying hd2, Conv.intToInt]), by simp [rep]⟩
      · cases he
    · cases h1
  · rename_i i x o j
    simp only [Bool.and_eq_true, beq_iff_eq] at ho
    obtain ⟨rfl, h1⟩ := ho
    have e1 := opOk_rep hr h1
    simp only [vI] at he
    unfold extV at he
    split at he
    · rename_i vs hb
      simp only [Option.map_eq_some_iff] at he
      obtain ⟨q, hq, he⟩ := he
      cases he
      rw [hb] at e1; simp only [rep] at e1
      obtain ⟨us, hu, h2⟩ := e1
      obtain ⟨v, g1, g2⟩ := repT_get i h2 hq
      have g1' : us[i]? = some v := by simpa using g1
      exact ⟨v, val_ok (by simp [Instr.extract, hu, g1']), g2⟩
    · cases he
  · rename_i x o t
    simp only [Bool.and_eq_true] at ho
    obtain ⟨h1, h2⟩ := ho
    have e1 := opOk_rep hr h2
    simp only [vI] at he
    unfold lenV at he
    split at he
    · rename_i sz tag xs hb
      cases he
      rw [hb] at e1; simp only [rep] at e1
      obtain ⟨⟨ad, cap, hv, _⟩, _⟩ := e1
      refine ⟨.int .i64 xs.length, ?_, by simp [rep]⟩
      split at h1
      · rename_i hf
        obtain ⟨d, hd, hdk⟩ := tf_und ht hf
        obtain rfl := dOk_slice hdk
        simp [execOp, resolve, invoke, builtin, Builtin.len_, run_underlying hd, hv, goInt]
      · cases h1
    · rename_i sz k n hb
      cases he
      rw [hb] at e1; simp only [rep] at e1
      obtain ⟨⟨ad, cap, hv⟩, _⟩ := e1
      refine ⟨.int .i64 n, ?_, by simp [rep]⟩
      split at h1
      · rename_i hf
        obtain ⟨d, hd, hdk⟩ := tf_und ht hf
        obtain rfl := dOk_slice hdk
        simp [execOp, resolve, invoke, builtin, Builtin.len_, run_underlying hd, hv, goInt]
      · cases h1
    · cases he
  · rename_i x o t
    simp only [Bool.and_eq_true] at ho
    obtain ⟨h1, h2⟩ := ho
    have e1 := opOk_rep hr h2
    simp only [vI] at he
    unfold slenV at he
    split at he
    · rename_i s hb
      cases he
      rw [hb] at e1; simp only [rep] at e1
      refine ⟨.int .i64 s.length, ?_, by simp [rep]⟩
      split at h1
      · rename_i hf
        obtain ⟨d, hd, hdk⟩ := tf_und ht hf
        obtain rfl := dOk_str hdk
        simp [execOp, resolve, invoke, builtin, Builtin.len_, run_underlying hd, e1.1, goInt, size_mk]
      · cases h1
    · cases he
  · rename_i zero parts t ps
    split at ho
    · rename_i fs z hf
      simp only [Bool.and_eq_true] at ho
      obtain ⟨⟨h1, h2⟩, h3⟩ := ho
      have hz := zeroIs_eq h1
      obtain ⟨i, d, z', e1, e2, e3, e4, e5, e6, e7, e8⟩ := (tyIs ht hf).ex
      obtain ⟨gs, rfl, hgs⟩ := dOk_struct e5
      simp only at hz e7 e8
      subst hz
      have hall : (gs.toList.all fun f => (tf tys f.type).isSome) = true := by
        rw [← hgs] at h2
        simpa [List.all_map, Function.comp_def] using h2
      obtain ⟨places, p1, p2⟩ := places_ok ht gs.toList hall
      rw [hgs] at p2
      cases z' <;> simp only [zOk] at e7
      case agg us =>
        simp only [vI] at he
        cases hb : buildV st.t zero parts with
        | none => simp [hb] at he
        | some x =>
          obtain ⟨c', cs'⟩ := x
          simp only [hb, Option.map_some] at he
          cases he
          obtain ⟨us', g1, g2⟩ := run_fill hr p2 parts ps.toList zero us c cs' h3 (zOkL_rep w ν _ _ e7) hb hc
          refine ⟨.agg us', val_ok (run_build w t _ us' ?_), by simp only [rep]; exact ⟨us', rfl, g2⟩⟩
          simp only [Program.built, e1, e2, e6, p1, Value.cells]
          simpa using g1
      all_goals cases e7
    · cases ho
  · rename_i x o
    have e1 := opOk_rep hr ho
    simp only [vI] at he
    unfold nckV at he
    split at he
    · rename_i k off hb
      cases he
      rw [hb] at e1
      have e2 := e1
      simp only [rep] at e1
      obtain ⟨b, _, hv⟩ := e1
      exact ⟨a.eval o, by simp [execOp, hv], e2⟩
    · rename_i q hb
      cases he
      rw [hb] at e1
      have e2 := e1
      simp only [rep] at e1
      obtain ⟨b, off, u, hv, _⟩ := e1
      exact ⟨a.eval o, by simp [execOp, hv], e2⟩
    · rename_i f cs hb
      cases he
      rw [hb] at e1
      have e2 := e1
      simp only [rep] at e1
      obtain ⟨us, hv, _⟩ := e1
      exact ⟨a.eval o, by simp [execOp, hv], e2⟩
    · cases he
  · rename_i x y o o' t t'
    simp only [Bool.and_eq_true] at ho
    have e1 := opOk_rep hr ho.1
    have e2 := opOk_rep hr ho.2
    simp only [vI] at he
    unfold minV at he
    split at he
    · rename_i k m k' n hm hn
      split at he
      · rename_i hk
        subst hk
        cases he
        rw [hm] at e1; rw [hn] at e2
        simp only [rep] at e1 e2
        exact ⟨.int k (if n < m then n else m), by simp [execOp, resolve, invoke, builtin, Builtin.min_, Builtin.min2, e1, e2], by simp [rep]⟩
      · cases he
    · cases he
  · rename_i n xs m os
    simp only [Bool.and_eq_true, beq_iff_eq] at ho
    obtain ⟨rfl, ho⟩ := ho
    simp only [vI] at he; cases he
    have hargs := repT_args hr ho
    refine ⟨.func (.func n) #[] (os.map a.eval), by simp [execOp, Instr.makeFunc], ?_⟩
    simp only [rep]
    exact ⟨os.map a.eval, rfl, by simpa using hargs⟩
  · rename_i ks zero ok x k t o o' ok'
    simp only [Bool.and_eq_true, beq_iff_eq] at ho
    obtain ⟨⟨⟨rfl, h1⟩, h2⟩, h3⟩ := ho
    have e1 := opOk_rep hr h2
    have e2 := opOk_rep hr h3
    split at h1
    · rename_i sz by' kt et z hf
      simp only [Bool.and_eq_true] at h1
      obtain ⟨hkt, het⟩ := h1
      split at het
      · rename_i fe hfe
        have hz := zeroEq_eq het
        obtain ⟨dd, hu, hdk⟩ := tf_und ht hf
        have hdd : dd = .map kt et := by
          cases dd <;> simp [dOk] at hdk
          obtain ⟨rfl, rfl⟩ := hdk; rfl
        subst hdd
        obtain ⟨zv, z1, z2, _⟩ := tf_zero ht hfe w
        rw [← hz] at z2
        have zr := (zOk_rep w ν z2).1
        have hkd : ∃ dk, P.underlying kt = some dk ∧ ((ks = false ∧ ∃ k, dk = .int k) ∨ (ks = true ∧ dk = .string)) := by
          unfold keyTy at hkt
          split at hkt
          · rename_i f' hf'
            obtain ⟨dk, hu', hd'⟩ := tf_und ht hf'
            obtain rfl := dOk_int hd'
            exact ⟨_, hu', .inl ⟨by simpa using hkt, _, rfl⟩⟩
          · rename_i f' hf'
            obtain ⟨dk, hu', hd'⟩ := tf_und ht hf'
            obtain rfl := dOk_str hd'
            exact ⟨_, hu', .inr ⟨hkt, rfl⟩⟩
          · cases hkt
        obtain ⟨dk, hukt, hcase⟩ := hkd
        simp only [vI] at he
        unfold mgetV at he
        split at he
        · rename_i key hx
          rw [hx] at e1
          simp only [rep] at e1
          obtain ⟨bl, b1, b2⟩ := e1
          split at he
          · rename_i clock borns kvs hlk
            obtain ⟨bl', us, el, g1, g2, g3, g4, g5⟩ := hr.good.box key _ hlk
            rw [b1] at g1; cases g1
            simp only [objFrom] at g4
            simp only [repB] at g5
            have hget : (getObj bl).run P w = .ok (.map (ents borns us.toList).toArray clock) w := run_getObj' g4
            have hck := run_checkKey (P := P) (w := w) hukt (by rcases hcase with ⟨_, h⟩ | ⟨_, h⟩; exact .inl h; exact .inr h) ((ents borns us.toList).toArray.isEmpty) (a.eval o')
            split at he
            · rename_i v hm
              cases he
              obtain ⟨j, u, f1, f2⟩ := mfind_sound hcase e2 borns kvs us.toList 0 _ g5.1 g5.2.len hm
              refine ⟨if ok then .tuple #[u, .bool true] else u, ?_, ?_⟩
              · simp only [execOp]
                refine val_ok ?_
                simp only [Instr.lookup, Sem.run_bind, run_underlying hu, Result.andThen_ok, b2, hget, Sem.run_pure, hck, Instr.findKey, run_underlying hukt, f1]
              · cases ok
                · simpa using f2
                · simp only [if_true, rep]
                  exact ⟨_, rfl, by simp only [repT]; exact ⟨_, _, rfl, f2, _, _, rfl, by simp [rep], rfl⟩⟩
            · rename_i hm
              cases he
              have f1 := mfind_sound hcase e2 borns kvs us.toList 0 _ g5.1 g5.2.len hm
              simp only at f1
              refine ⟨if ok then .tuple #[zv, .bool false] else zv, ?_, ?_⟩
              · simp only [execOp]
                refine val_ok ?_
                simp only [Instr.lookup, Sem.run_bind, run_underlying hu, Result.andThen_ok, b2, hget, Sem.run_pure, hck, Instr.findKey, run_underlying hukt, f1, z1]
              · cases ok
                · simpa using zr
                · simp only [if_true, rep]
                  exact ⟨_, rfl, by simp only [repT]; exact ⟨_, _, rfl, zr, _, _, rfl, by simp [rep], rfl⟩⟩
            · cases he
          · cases he
        · cases he
      · cases het
    · cases h1
  · rename_i x o
    have e1 := opOk_rep hr ho
    simp only [vI] at he
    unfold mentV at he
    split at he
    · rename_i ik hx
      rw [hx] at e1
      simp only [rep] at e1
      obtain ⟨bl, b1, b2⟩ := e1
      split at he
      · rename_i since seen last mk hlk
        obtain ⟨bl', us, el, g1, g2, g3, g4, g5⟩ := hr.good.box ik _ hlk
        rw [b1] at g1; cases g1
        simp only [objFrom] at g4
        simp only [repB, repT, rep] at g5
        obtain ⟨u, us', hus, ⟨mb, m1, rfl⟩, rfl⟩ := g5
        rw [hus] at g4
        simp only at g4
        split at he
        · rename_i clock borns kvs hlm
          obtain ⟨bl2, us2, el2, k1, k2, k3, k4, k5⟩ := hr.good.box mk _ hlm
          rw [m1] at k1; cases k1
          simp only [objFrom] at k4
          simp only [repB] at k5
          split at he
          · rename_i n hn
            simp only [Option.map_eq_some_iff] at he
            obtain ⟨q, hq, he⟩ := he
            cases he
            obtain ⟨e, f1, f2⟩ := mat_sound borns kvs us2.toList p k5.1 hq
            refine ⟨.tuple #[e.key, e.val], ?_, f2⟩
            simp only [execOp]
            refine val_ok ?_
            have hget1 : (getObj bl).run P w = .ok (.mapIter (some mb) since seen.toArray last) w := run_getObj' g4
            have hget2 : (getObj mb).run P w = .ok (.map (ents borns us2.toList).toArray clock) w := run_getObj' k4
            have hback : seen.toArray.back? = some n := by simpa using hn
            have hcl : (clock != last) = false := by simp [hc]
            have hfind : (ents borns us2.toList).toArray.find? (·.born == n) = some e := by simpa using f1
            simp only [Instr.entry, b2, Sem.run_bind, hget1, Result.andThen_ok, hback, hget2, hcl, Bool.false_eq_true, if_false, hfind, Sem.run_pure]
          · cases he
        · cases he
      · cases he
    · cases he
  · rename_i x o t
    simp only [Bool.and_eq_true] at ho
    obtain ⟨h1, h2⟩ := ho
    have e1 := opOk_rep hr h2
    simp only [vI] at he
    unfold mlenV at he
    split at he
    · rename_i key hb
      rw [hb] at e1; simp only [rep] at e1
      obtain ⟨bl, b1, b2⟩ := e1
      split at he
      · rename_i clock borns kvs hlk
        cases he
        obtain ⟨bl', us, el, g1, g2, g3, g4, g5⟩ := hr.good.box key _ hlk
        rw [b1] at g1; cases g1
        simp only [objFrom] at g4
        simp only [repB] at g5
        have hget : (getObj bl).run P w = .ok (.map (ents borns us.toList).toArray clock) w := run_getObj' g4
        have hlen : (ents borns us.toList).length = borns.length := ents_length g5.2.len (repT_len' g5.1)
        refine ⟨.int .i64 borns.length, ?_, by simp [rep]⟩
        split at h1
        · rename_i hf
          obtain ⟨d, hd, hdk⟩ := tf_und ht hf
          obtain ⟨kt, et, rfl⟩ : ∃ kt et, d = .map kt et := by cases d <;> simp [dOk] at hdk; exact ⟨_, _, rfl⟩
          simp [execOp, resolve, invoke, builtin, Builtin.len_, run_underlying hd, b2, goInt, hget, hlen]
        · cases h1
      · cases he
    · cases he
  · rename_i neg x y op t o o' ty'
    simp only [Bool.and_eq_true, decide_eq_true_eq] at ho
    obtain ⟨⟨⟨rfl, h0⟩, h1⟩, h2⟩ := ho
    have e1 := opOk_rep hr h1
    have e2 := opOk_rep hr h2
    simp only [vI] at he
    unfold beqV at he
    split at he
    · rename_i a' b' ha hb
      cases he
      rw [ha] at e1; rw [hb] at e2
      simp only [rep] at e1 e2
      split at h0
      · rename_i hf
        obtain ⟨d, hd, hdk⟩ := tf_und ht hf
        obtain rfl : d = .bool := by cases d <;> simp [dOk] at hdk; rfl
        refine ⟨.bool (if neg then a' != b' else a' == b'), val_ok ?_, by simp [rep]⟩
        cases neg <;> simp [e1, e2, eqGuard, binOp, equal_bool hd, bne]
      · cases h0
    · cases he
  · rename_i x y o o' t t'
    simp only [Bool.and_eq_true] at ho
    have e1 := opOk_rep hr ho.1
    have e2 := opOk_rep hr ho.2
    simp only [vI] at he
    unfold maxV at he
    split at he
    · rename_i k m k' n hm hn
      split at he
      · rename_i hk
        subst hk
        cases he
        rw [hm] at e1; rw [hn] at e2
        simp only [rep] at e1 e2
        exact ⟨.int k (if m < n then n else m), by simp [execOp, resolve, invoke, builtin, Builtin.max_, Builtin.max2, e1, e2], by simp [rep]⟩
      · cases he
    · cases he
  · rename_i t x t' o
    simp only [Bool.and_eq_true, beq_iff_eq] at ho
    obtain ⟨⟨rfl, h1⟩, h2⟩ := ho
    have e1 := opOk_rep hr h2
    simp only [vI] at he; cases he
    split at h1
    · rename_i hf
      obtain ⟨d, hd, hdk⟩ := tf_und ht hf
      obtain rfl := dOk_slice hdk
      refine ⟨.iface t (a.eval o), val_ok (by simp [Instr.makeInterface, run_underlying hd]), ?_⟩
      simp only [rep]
      exact ⟨_, rfl, e1⟩
    · cases h1
  · rename_i agg sz x t o
    simp only [Bool.and_eq_true] at ho
    obtain ⟨h1, h2⟩ := ho
    split at h1
    · rename_i f hf
      simp only [Bool.and_eq_true, beq_iff_eq] at h1
      obtain ⟨rfl, rfl⟩ := h1
      obtain ⟨v, g1, g2⟩ := loadV_sound ht hr.good hf (opOk_rep hr h2) (loadV_noE (by simpa only [vI] using he)) hc
      exact ⟨v, val_ok g1, g2⟩
    · cases h1
  · cases ho

end Go.Pv
/- What a new box, a store into a box, a new row and an append do to the relation. -/
set_option linter.all false
namespace Go.Pv
open Go Go.RowKit

theorem cell_alloc {w : World} {o : Obj} {b i : Nat} (h : b < w.heap.size) : (w.alloc o).cell? ⟨b, i, none⟩ = w.cell? ⟨b, i, none⟩ := World.cell?_of_block (Below.heap_alloc w o b h)

def Env.withBox (ν : Env) (k : Key) (bl : Nat) : Env := { ν with bx := fun j => if j = k then some bl else ν.bx j }
def Env.withRow (ν : Env) (bl n : Nat) : Env := { ν with A := fun b o => ν.A b o ∨ (b = bl ∧ o < n) }
def Env.withOwn (ν : Env) (k : Key) (n : Nat) (v : Value) : Env := { ν with ow := fun j => if j = k then some (n, v) else ν.ow j }

theorem Rel.lookNone {C : Ctx} {st : St} {a : Act} {w : World} {ν : Env} (h : Rel C st a w ν) {k : Key} (hk : fresh st.n st.o k) : look k st.b = none ∧ look k st.e = none := by
  obtain ⟨h1, h2⟩ := h.new k hk
  constructor
  · cases hb : look k st.b with
    | none => rfl
    | some cs => obtain ⟨bl, us, el, g1, _⟩ := h.good.box _ _ hb; rw [h1] at g1; cases g1
  · cases hb : look k st.e with
    | none => rfl
    | some o => obtain ⟨v, us, g1, _⟩ := h.good.own _ _ hb; rw [h2] at g1; cases g1

theorem Good.ownLt {pr : Nat → Prop} {w : World} {ν : Env} {b : List (Key × List PV)} {e : List (Key × Own)} (h : Good pr w ν b e) {g : Key} {o : Own} (hg : look g e = some o) {n : Nat} {v : Value} (hv : ν.ow g = some (n, v)) {bl : Nat} (hb : v.ownBlock = some bl) : bl < w.heap.size := by
  obtain ⟨v', us, g1, g2, _⟩ := h.own g o hg
  rw [hv] at g1; cases g1
  exact (g2.lt bl hb).2
theorem Good.boxLt {pr : Nat → Prop} {w : World} {ν : Env} {b : List (Key × List PV)} {e : List (Key × Own)} (h : Good pr w ν b e) {k : Key} {cs : List PV} (hk : look k b = some cs) {bl : Nat} (hb : ν.bx k = some bl) : bl < w.heap.size := by
  obtain ⟨bl', us, el, g1, _, _, g4, _⟩ := h.box k cs hk
  rw [hb] at g1; cases g1
  exact (Array.getElem?_eq_some_iff.1 g4).1

/-- A new box. -/
theorem Rel.newBox {C : Ctx} {st : St} {a : Act} {w : World} {ν : Env} (h : Rel C st a w ν) {k0 : Key} (hk0 : ν.bx k0 = none ∧ ν.ow k0 = none) {n' : Nat} {o' : List Key} (hno : ∀ j, fresh n' o' j → fresh st.n st.o j ∧ j ≠ k0) {cs : List PV} {us : Array Value} (el : TypeId) (hc : repB w ν cs us.toList) :
    Rel C { st with b := upd k0 cs st.b, n := n', o := o' } a (w.alloc (objFrom cs us el)) (ν.withBox k0 w.heap.size) ∧
    rep (w.alloc (objFrom cs us el)) (ν.withBox k0 w.heap.size) (.ptr k0 0) (.pointer (some ⟨w.heap.size, 0, none⟩)) := by
  obtain ⟨hn1, hn2⟩ := hk0
  have ho : Over w ν (w.alloc (objFrom cs us el)) (ν.withBox k0 w.heap.size) := by
    refine ⟨fun b o hA => ⟨hA, cell_alloc (h.good.alt b o hA)⟩, fun k b _ hk => ?_, fun g n u _ hg => ⟨n, u, hg, .inl ⟨rfl, rfl⟩⟩⟩
    have : k ≠ k0 := fun e => by subst e; rw [hn1] at hk; cases hk
    simp [Env.withBox, this, hk]
  have hsz : (w.alloc (objFrom cs us el)).heap.size = w.heap.size + 1 := by simp
  have hbx : ∀ k, (look k (upd k0 cs st.b)).isSome → k = k0 ∨ (k ≠ k0 ∧ (look k st.b).isSome ∧ (ν.withBox k0 w.heap.size).bx k = ν.bx k) := by
    intro k hk
    by_cases e : k = k0
    · exact .inl e
    · rw [look_upd, if_neg (Ne.symm e)] at hk
      exact .inr ⟨e, hk, by simp [Env.withBox, e]⟩
  refine ⟨h.over ho rfl ⟨fun bl o hA => by rw [hsz]; have := h.good.alt bl o hA; omega, fun k ds hk => ?_, fun k k' bl hk hk' e1 e2 => ?_, fun g o hg => ?_, h.good.oinj, fun g k n v bl hg hk hv hb hx => ?_, fun k => ?_⟩
    ⟨h.fr.os, h.fr.tape, h.fr.output, by rw [hsz]; have := h.fr.size; omega, fun k hk hm => ?_, fun b o hA => ?_, h.fr.fresh, fun n b hb => ?_, h.fr.obn, h.fr.row, h.fr.obr⟩ (fun m hm => ?_), ?_⟩
  · simp only at hk
    rw [look_upd] at hk
    by_cases e : k0 = k
    · rw [if_pos e] at hk; cases hk
      subst e
      refine ⟨w.heap.size, us, el, by simp [Env.withBox], .inr h.fr.size, fun o hA => ?_, heap_alloc_new w _, repB_over ho hc⟩
      have := h.good.alt _ o hA; omega
    · rw [if_neg e] at hk
      obtain ⟨bl, us', el', g1, g2, g3, g4, g5⟩ := h.good.box k ds hk
      exact ⟨bl, us', el', ho.bx _ _ trivial g1, g2, g3, by rw [Below.heap_alloc w _ bl (Array.getElem?_eq_some_iff.1 g4).1]; exact g4, repB_over ho g5⟩
  · rcases hbx k hk with rfl | ⟨n1, n2, n3⟩ <;> rcases hbx k' hk' with rfl | ⟨m1, m2, m3⟩
    · rfl
    · exfalso
      simp only [Env.withBox, if_true, Option.some.injEq] at e1
      subst e1
      rw [m3] at e2
      obtain ⟨ds, hds⟩ := Option.isSome_iff_exists.1 m2
      have := h.good.boxLt hds e2; omega
    · exfalso
      simp only [Env.withBox, if_true, Option.some.injEq] at e2
      subst e2
      rw [n3] at e1
      obtain ⟨ds, hds⟩ := Option.isSome_iff_exists.1 n2
      have := h.good.boxLt hds e1; omega
    · rw [n3] at e1; rw [m3] at e2
      exact h.good.inj k k' bl n2 m2 e1 e2
  · obtain ⟨v, xs, g1, g2, g3, g4⟩ := h.good.own g o hg
    exact ⟨v, xs, g1, g2.alloc _, g3, rowC_over ho (fun _ _ _ h => h) g4⟩
  · rcases hbx k hk with rfl | ⟨n1, n2, n3⟩
    · simp only [Env.withBox, if_true, Option.some.injEq] at hx
      subst hx
      obtain ⟨o, ho'⟩ := Option.isSome_iff_exists.1 hg
      have := h.good.ownLt ho' hv hb; omega
    · rw [n3] at hx
      exact h.good.obx g k n v bl hg n2 hv hb hx
  · by_cases e : k = k0
    · subst e; exact .inr hn2
    · rcases h.good.one k with h1 | h1
      · exact .inl (by simp [Env.withBox, e, h1])
      · exact .inr h1
  · rw [Below.heap_alloc w _ k (by have := h.fr.size; omega)]; exact h.fr.block k hk hm
  · obtain ⟨k1, k2⟩ := h.fr.keep b o hA
    exact ⟨k1, (cell_alloc (h.good.alt b o k1)).trans k2⟩
  · exact ho.bx _ _ trivial (h.fr.obj n b hb)
  · obtain ⟨f1, f2⟩ := hno m hm
    obtain ⟨k1, k2⟩ := h.new m f1
    refine ⟨?_, k2⟩
    simp [Env.withBox, f2, k1]
  · simp [rep, Env.withBox]

/-- Something new in a box. -/
theorem Rel.setBox {C : Ctx} {st : St} {a : Act} {w w' : World} {ν : Env} (h : Rel C st a w ν) {k : Key} {cs cs' : List PV} (hk : look k st.b = some cs) {bl : Nat} (hb : ν.bx k = some bl) {us : Array Value} {el : TypeId}
    (hos : w'.os = w.os) (htape : w'.tape = w.tape) (hout : w'.output = w.output) (hoth : ∀ j, j ≠ bl → w'.heap[j]? = w.heap[j]?) (hsz : w'.heap.size = w.heap.size) (hnew : w'.heap[bl]? = some (objFrom cs' us el)) (hc : repB w ν cs' us.toList) :
    Rel C { st with b := upd k cs' st.b } a w' ν ∧ Over w ν w' ν := by
  obtain ⟨bl', us0, el0, g1, g2, g3, g4, g5⟩ := h.good.box k cs hk
  rw [hb] at g1; cases g1
  have ho : Over w ν w' ν := by
    refine ⟨fun b o hA => ⟨hA, World.cell?_of_block (hoth b fun e => ?_)⟩, fun _ _ _ h => h, fun g n u _ hg => ⟨n, u, hg, .inl ⟨rfl, rfl⟩⟩⟩
    subst e; exact g3 o hA
  have his : ∀ j, (look j (upd k cs' st.b)).isSome → (look j st.b).isSome := by
    intro j hj
    rw [look_upd] at hj
    by_cases e : k = j
    · subst e; simp [hk]
    · rwa [if_neg e] at hj
  refine ⟨h.over ho rfl ⟨fun b o hA => by rw [hsz]; exact h.good.alt b o hA, fun j ds hj => ?_, fun j j' b hj hj' => h.good.inj j j' b (his j hj) (his j' hj'), fun g o hg => ?_, h.good.oinj, fun g j n v b hg hj => h.good.obx g j n v b hg (his j hj), h.good.one⟩
    ⟨hos.trans h.fr.os, htape.trans h.fr.tape, hout.trans h.fr.output, by rw [hsz]; exact h.fr.size, fun j hj hm => ?_, fun b o hA => ?_, h.fr.fresh, h.fr.obj, h.fr.obn, h.fr.row, h.fr.obr⟩ h.new, ho⟩
  · simp only at hj
    rw [look_upd] at hj
    by_cases e : k = j
    · rw [if_pos e] at hj; cases hj
      subst e
      exact ⟨bl, us, el, hb, g2, g3, hnew, repB_over ho hc⟩
    · rw [if_neg e] at hj
      obtain ⟨b, us', el', e1, e2, e3, e4, e5⟩ := h.good.box j ds hj
      refine ⟨b, us', el', e1, e2, e3, ?_, repB_over ho e5⟩
      rw [hoth b fun e' => e (h.good.inj k j bl (by simp [hk]) (by simp [hj]) hb (by rw [← e']; exact e1))]
      exact e4
  · obtain ⟨v, xs, e1, e2, e3, e4⟩ := h.good.own g o hg
    refine ⟨v, xs, e1, ⟨e2.1, ?_⟩, e3, rowC_over ho (fun _ _ _ h => h) e4⟩
    rcases e2.2 with e2 | ⟨bb, cap, cur, f1, f2, f3, f4⟩
    · exact .inl e2
    · refine .inr ⟨bb, cap, cur, f1, f2, ?_, f4⟩
      rw [hoth bb fun e' => h.good.obx g k o.n v bl (by simp [hg]) (by simp [hk]) e1 (by rw [f1, ← e']; rfl) hb]
      exact f3
  · rw [hoth j fun e => by subst e; exact g2.elim hm (fun g2 => by omega)]
    exact h.fr.block j hj hm
  · obtain ⟨k1, k2⟩ := h.fr.keep b o hA
    exact ⟨k1, (ho.A b o k1).2.trans k2⟩

/-- A store into a box. -/
theorem Rel.storeBox {C : Ctx} {st : St} {a : Act} {w : World} {ν : Env} (h : Rel C st a w ν) {k : Key} {cs cs' : List PV} (hk : look k st.b = some cs) {bl : Nat} (hb : ν.bx k = some bl) (hp : plainB cs = true) {us : Array Value} (hc : repL w ν cs' us.toList) :
    Rel C { st with b := upd k cs' st.b } a (w.setRow bl us) ν := by
  obtain ⟨bl', us0, el, g1, g2, g3, g4, g5⟩ := h.good.box k cs hk
  rw [hb] at g1; cases g1
  rw [plain_obj hp] at g4
  have hp' := repL_plain hc
  exact (h.setBox (w' := w.setRow bl us) hk hb (us := us) (el := el) rfl rfl rfl (fun j hj => setRow_other w bl j us hj) (setRow_size w bl us) (by rw [plain_obj hp']; exact setRow_heap w bl us0 us el _ g4) (by rw [plain_repB hp']; exact hc)).1

end Go.Pv
/- Rows of the call's own: a new one, and one that is appended to in place. -/
set_option linter.all false
namespace Go.Pv
open Go Go.RowKit

def Env.withRowOf (ν : Env) (k : Key) (v : Value) (n cells : Nat) : Env :=
  { A := fun b o => ν.A b o ∨ (v.ownBlock = some b ∧ o < cells), bx := ν.bx, ow := fun j => if j = k then some (n, v) else ν.ow j }

theorem laid_of {w : World} {A : Nat → Nat → Prop} {b : Nat} : ∀ (us : List Value) (off : Nat), (∀ j u, us[j]? = some u → A b (off + j) ∧ w.cell? ⟨b, off + j, none⟩ = some u) → laid w A b off us
  | [], _, _ => trivial
  | u :: us, off, h => ⟨h 0 u rfl, laid_of us (off + 1) fun j x hj => by have := h (j + 1) x (by simpa using hj); rwa [show off + (j + 1) = off + 1 + j from by omega] at this⟩

theorem cell_grown {w w' : World} (hg : w.grownBy w' none) {b i : Nat} (h : b < w.heap.size) : w'.cell? ⟨b, i, none⟩ = w.cell? ⟨b, i, none⟩ := World.cell?_of_block (hg.block b h (by simp))

/-- A new row that no one else knows, for a name that is new or whose row was shorter. -/
theorem Rel.newRowM {C : Ctx} {st : St} {a : Act} {w w' : World} {ν : Env} (h : Rel C st a w ν) {k : Key} {xs : List PV} (hk : (ν.bx k = none ∧ ν.ow k = none) ∨ ∃ o, look k st.e = some o ∧ o.n < xs.length) {el sz : Nat} {v : Value} {us : List Value}
    (hg : w.grownBy w' none) (hown : w'.ownsRow w.heap.size el sz v xs.length us) (hc : repC w ν sz xs us) (hlim : xs.length ≤ lim) {n' : Nat} {o' : List Key} (hno : ∀ j, fresh n' o' j → fresh st.n st.o j ∧ j ≠ k) :
    Rel C { st with e := upd k ⟨xs.length, el, sz, some xs⟩ st.e, n := n', o := o' } a w' (ν.withOwn k xs.length v) ∧
    ((∃ b cap, v = .slice (some ⟨b, 0, none⟩) xs.length cap) → rep w' (ν.withOwn k xs.length v) (.row sz k xs.length) v) := by
  have hblk : ∀ bl, v.ownBlock = some bl → w.heap.size ≤ bl ∧ bl < w'.heap.size := fun bl hb => hown.lt bl hb
  have ho : Over w ν w' (ν.withOwn k xs.length v) := by
    refine ⟨fun b o hA => ⟨hA, cell_grown hg (h.good.alt b o hA)⟩, fun j b _ hj => hj, fun g n u _ hgu => ?_⟩
    by_cases e : g = k
    · subst e
      rcases hk with hk | ⟨o, ho, hlt⟩
      · rw [hk.2] at hgu; cases hgu
      · obtain ⟨v0, us0, e1, _⟩ := h.good.own g o ho
        rw [e1] at hgu; cases hgu
        exact ⟨xs.length, v, by simp [Env.withOwn], .inr hlt⟩
    · exact ⟨n, u, by simp [Env.withOwn, e, hgu], .inl ⟨rfl, rfl⟩⟩
  have hlook : ∀ g, (look g (upd k ⟨xs.length, el, sz, some xs⟩ st.e)).isSome → g = k ∨ (g ≠ k ∧ (look g st.e).isSome ∧ (ν.withOwn k xs.length v).ow g = ν.ow g) := by
    intro g hgs
    by_cases e : g = k
    · exact .inl e
    · rw [look_upd, if_neg (Ne.symm e)] at hgs
      exact .inr ⟨e, hgs, by simp [Env.withOwn, e]⟩
  have hnoA : ∀ bl, v.ownBlock = some bl → ∀ j, ¬ν.A bl j := fun bl hb j hA => by
    have h1 := h.good.alt bl j hA; have := (hblk bl hb).1; omega
  refine ⟨h.over ho rfl ⟨fun bl o hA => ?_, fun j ds hj => ?_, h.good.inj, fun g o hgo => ?_, fun g g' n n' u u' bl h1 h2 h3 h4 h5 h6 => ?_, fun g j n u bl h1 h2 h3 h4 h5 => ?_, fun j => ?_⟩
    ⟨hg.os.trans h.fr.os, hg.tape.trans h.fr.tape, hg.output.trans h.fr.output, Nat.le_trans h.fr.size hg.size, fun j hj hm => ?_, fun b o hA => ?_, h.fr.fresh, h.fr.obj, h.fr.obn, fun m n u hm => row_trans (h.fr.row m n u hm) (fun n u => ho.ow _ n u trivial), h.fr.obr⟩ (fun m hm => ?_), ?_⟩
  · have := h.good.alt bl o hA; have := hg.size; omega
  · obtain ⟨bl, us', el', g1, g2, g3, g4, g5⟩ := h.good.box j ds hj
    have hlt := (Array.getElem?_eq_some_iff.1 g4).1
    exact ⟨bl, us', el', g1, g2, g3, by rw [hg.block bl hlt (by simp)]; exact g4, repB_over ho g5⟩
  · simp only at hgo
    rw [look_upd] at hgo
    by_cases e : k = g
    · rw [if_pos e] at hgo; cases hgo
      subst e
      refine ⟨v, us, by simp [Env.withOwn], ⟨hown.1, ?_⟩, fun bl hb => ⟨.inr (Nat.le_trans h.fr.size (hblk bl hb).1), fun j hA => absurd hA (hnoA bl hb j)⟩, fun ys hy => ?_⟩
      · rcases hown.2 with e1 | ⟨bb, cap, cur, f1, f2, f3⟩
        · exact .inl e1
        · exact .inr ⟨bb, cap, cur, f1, by omega, f3⟩
      · simp only [Option.some.injEq] at hy; subst hy
        exact ⟨rfl, repC_over ho hc, hnoA⟩
    · rw [if_neg e] at hgo
      obtain ⟨v0, us0, e1, e2, e3, e4⟩ := h.good.own g o hgo
      exact ⟨v0, us0, by simp [Env.withOwn, Ne.symm e, e1], e2.kept hg (by cases v0.ownBlock <;> simp), e3, rowC_over ho (fun _ _ _ h => h) e4⟩
  · rcases hlook g h1 with rfl | ⟨n1, n2, n3⟩ <;> rcases hlook g' h2 with rfl | ⟨m1, m2, m3⟩
    · rfl
    · exfalso
      simp only [Env.withOwn, if_true, Option.some.injEq, Prod.mk.injEq] at h3
      rw [m3] at h4
      obtain ⟨o, ho'⟩ := Option.isSome_iff_exists.1 m2
      have hl := h.good.ownLt ho' h4 h6
      have := (hblk bl (by rw [h3.2]; exact h5)).1; omega
    · exfalso
      simp only [Env.withOwn, if_true, Option.some.injEq, Prod.mk.injEq] at h4
      rw [n3] at h3
      obtain ⟨o, ho'⟩ := Option.isSome_iff_exists.1 n2
      have hl := h.good.ownLt ho' h3 h5
      have := (hblk bl (by rw [h4.2]; exact h6)).1; omega
    · rw [n3] at h3; rw [m3] at h4
      exact h.good.oinj g g' n n' u u' bl n2 m2 h3 h4 h5 h6
  · rcases hlook g h1 with rfl | ⟨n1, n2, n3⟩
    · simp only [Env.withOwn, if_true, Option.some.injEq, Prod.mk.injEq] at h3
      obtain ⟨ds, hds⟩ := Option.isSome_iff_exists.1 h2
      have hl := h.good.boxLt hds h5
      have := (hblk bl (by rw [h3.2]; exact h4)).1; omega
    · rw [n3] at h3
      exact h.good.obx g j n u bl n2 h2 h3 h4 h5
  · by_cases e : j = k
    · subst e
      rcases hk with hk | ⟨o, ho', _⟩
      · exact .inl hk.1
      · obtain ⟨v0, us0, e1, _⟩ := h.good.own j o ho'
        rcases h.good.one j with h1 | h1
        · exact .inl h1
        · rw [h1] at e1; cases e1
    · rcases h.good.one j with h1 | h1
      · exact .inl h1
      · exact .inr (by simp [Env.withOwn, e, h1])
  · rw [hg.block j (by have := h.fr.size; omega) (by simp)]; exact h.fr.block j hj hm
  · obtain ⟨k1, k2⟩ := h.fr.keep b o hA
    exact ⟨k1, (ho.A b o k1).2.trans k2⟩
  · obtain ⟨f1, f2⟩ := hno m hm
    obtain ⟨k1, k2⟩ := h.new m f1
    refine ⟨k1, ?_⟩
    simp [Env.withOwn, f2, k2]
  · intro hform
    simp only [rep]
    exact ⟨hform, hlim, xs.length, v, by simp [Env.withOwn], Nat.le_refl _, fun _ => rfl⟩

/-- What lies in a row may be known from now on: it changes no more. -/
theorem Rel.publish {C : Ctx} {st : St} {a : Act} {w : World} {ν : Env} (h : Rel C st a w ν) {k : Key} {o : Own} {xs : List PV} (hk : look k st.e = some o) (hx : o.xs = some xs) {v : Value} (hv : ν.ow k = some (o.n, v)) (hlim : xs.length ≤ lim) :
    Rel C { st with e := upd k ⟨o.n, o.el, o.sz, none⟩ st.e } a w (ν.withRowOf k v o.n (o.n * o.sz)) ∧
    rep w (ν.withRowOf k v o.n (o.n * o.sz)) (.slice o.sz (.own k) xs) v := by
  obtain ⟨v0, us, q1, q2, q3, q4⟩ := h.good.own k o hk
  rw [hv] at q1; cases q1
  obtain ⟨q5, q6, q7⟩ := q4 xs hx
  have how : ∀ g, (ν.withRowOf k v o.n (o.n * o.sz)).ow g = ν.ow g := fun g => by
    simp only [Env.withRowOf]
    split
    · rename_i e; subst e; exact hv.symm
    · rfl
  have ho : Over w ν w (ν.withRowOf k v o.n (o.n * o.sz)) :=
    ⟨fun b o hA => ⟨.inl hA, rfl⟩, fun j b _ hj => hj, fun g n u _ hgu => ⟨n, u, by rw [how]; exact hgu, .inl ⟨rfl, rfl⟩⟩⟩
  have hlook : ∀ g, (look g (upd k ⟨o.n, o.el, o.sz, none⟩ st.e)).isSome → (look g st.e).isSome := by
    intro g hgs
    by_cases e : k = g
    · subst e; simp [hk]
    · rwa [look_upd, if_neg e] at hgs
  refine ⟨h.over ho rfl ⟨fun bl i hA => ?_, fun j ds hj => ?_, h.good.inj, fun g o' hgo => ?_, fun g g' n n' u u' bl h1 h2 h3 h4 => h.good.oinj g g' n n' u u' bl (hlook g h1) (hlook g' h2) (by rwa [how] at h3) (by rwa [how] at h4), fun g j n u bl h1 h2 h3 => h.good.obx g j n u bl (hlook g h1) h2 (by rwa [how] at h3), fun j => ?_⟩
    ⟨h.fr.os, h.fr.tape, h.fr.output, h.fr.size, h.fr.block, fun b i hA => ⟨.inl (h.fr.keep b i hA).1, (h.fr.keep b i hA).2⟩, fun b i hA => ?_, h.fr.obj, h.fr.obn, fun m n u hm => row_trans (h.fr.row m n u hm) (fun n u => ho.ow _ n u trivial), h.fr.obr⟩ (fun m hm => ?_), ?_⟩
  · rcases hA with hA | ⟨hA, _⟩
    · exact h.good.alt bl i hA
    · exact (q2.lt bl hA).2
  · obtain ⟨bl, us', el', g1, g2, g3, g4, g5⟩ := h.good.box j ds hj
    refine ⟨bl, us', el', g1, g2, fun i hA => ?_, g4, repB_over ho g5⟩
    rcases hA with hA | ⟨hA, _⟩
    · exact g3 i hA
    · exact h.good.obx k j o.n v bl (by simp [hk]) (by simp [hj]) hv hA g1
  · simp only at hgo
    rw [look_upd] at hgo
    by_cases e : k = g
    · rw [if_pos e] at hgo; cases hgo
      subst e
      refine ⟨v, us, by rw [how]; exact hv, q2, fun bl hb => ⟨(q3 bl hb).1, fun j hA => ?_⟩, fun ys hy => by cases hy⟩
      rcases hA with hA | ⟨_, hA⟩
      · exact (q3 bl hb).2 j hA
      · exact hA
    · rw [if_neg e] at hgo
      obtain ⟨v0, us0, e1, e2, e3, e4⟩ := h.good.own g o' hgo
      have hAA : ∀ bl, v0.ownBlock = some bl → ∀ j, (ν.withRowOf k v o.n (o.n * o.sz)).A bl j → ν.A bl j := fun bl hb j hA => by
        rcases hA with hA | ⟨hA, _⟩
        · exact hA
        · exact absurd (h.good.oinj k g o.n o'.n v v0 bl (by simp [hk]) (by simp [hgo]) hv e1 hA hb) e
      exact ⟨v0, us0, by rw [how]; exact e1, e2, fun bl hb => ⟨(e3 bl hb).1, fun j hA => (e3 bl hb).2 j (hAA bl hb j hA)⟩, rowC_over ho hAA e4⟩
  · rcases h.good.one j with h1 | h1
    · exact .inl h1
    · exact .inr (by rw [how]; exact h1)
  · rcases hA with hA | ⟨hA, _⟩
    · exact h.fr.fresh b i hA
    · exact .inr (q3 b hA).1
  · obtain ⟨k1, k2⟩ := h.new m hm
    exact ⟨k1, by rw [how]; exact k2⟩
  · simp only [rep]
    refine ⟨?_, fun e => (by cases e), fun g e => ?_⟩
    · rcases q2.2 with ⟨e1, e2⟩ | ⟨bb, cap, cur, f1, f2, f3, f4, f5, f6, f7⟩
      · refine ⟨none, 0, by rw [e1, q5, e2], by omega, ⟨by simp [maxLen], hlim⟩, .inl (List.eq_nil_of_length_eq_zero (by omega))⟩
      · refine ⟨some ⟨bb, 0, none⟩, cap, by rw [f1, q5], by omega, ⟨f5, hlim⟩, .inr ⟨bb, 0, us, rfl, laid_of us 0 fun j u hj => ?_, repC_over ho q6⟩⟩
        have hvb : v.ownBlock = some bb := by rw [f1]; rfl
        have hjl : j < us.length := (List.getElem?_eq_some_iff.1 hj).1
        refine ⟨.inr ⟨hvb, by rw [q2.1] at hjl; omega⟩, ?_⟩
        have := q2.cells hvb j u hj
        rwa [add_mk] at this
    · cases e
      exact ⟨o.n, v, by rw [how]; exact hv, by omega, fun _ => rfl⟩

theorem upd_upd {α : Type} (k : Key) (p q : α) : ∀ l, upd k q (upd k p l) = upd k q l
  | [] => by simp [upd]
  | (i, r) :: l => by
    by_cases e : i = k
    · simp [upd, e]
    · simp [upd, e, upd_upd k p q l]

/-- A new row, for a name that is new or whose row was shorter. -/
theorem Rel.newRow {C : Ctx} {st : St} {a : Act} {w w' : World} {ν : Env} (h : Rel C st a w ν) {k : Key} {xs : List PV} (hk : (ν.bx k = none ∧ ν.ow k = none) ∨ ∃ o, look k st.e = some o ∧ o.n < xs.length) {el sz : Nat} {v : Value} {us : List Value}
    (hg : w.grownBy w' none) (hown : w'.ownsRow w.heap.size el sz v xs.length us) (hc : repC w ν sz xs us) (hlim : xs.length ≤ lim) {n' : Nat} {o' : List Key} (hno : ∀ j, fresh n' o' j → fresh st.n st.o j ∧ j ≠ k) :
    Rel C { st with e := upd k ⟨xs.length, el, sz, none⟩ st.e, n := n', o := o' } a w' ((ν.withOwn k xs.length v).withRowOf k v xs.length (xs.length * sz)) ∧
    rep w' ((ν.withOwn k xs.length v).withRowOf k v xs.length (xs.length * sz)) (.slice sz (.own k) xs) v := by
  have h1 := (h.newRowM hk hg hown hc hlim hno).1
  have h2 := h1.publish (k := k) (o := ⟨xs.length, el, sz, some xs⟩) (xs := xs) (v := v) (by simp [look_upd]) rfl (by simp [Env.withOwn]) hlim
  simpa only [upd_upd] using h2

/-- Something new in a row that no one else knows. -/
theorem Rel.setRowM {C : Ctx} {st : St} {a : Act} {w w' : World} {ν : Env} (h : Rel C st a w ν) {k : Key} {o : Own} {xs xs' : List PV} (hk : look k st.e = some o) (hx : o.xs = some xs) {bl : Nat} {v v' : Value} (hv : ν.ow k = some (o.n, v)) (hvb : v.ownBlock = some bl) (hvb' : v'.ownBlock = some bl)
    (hn : (xs'.length = o.n ∧ v' = v) ∨ o.n < xs'.length) {us : List Value} (hos : w'.os = w.os) (htape : w'.tape = w.tape) (hout : w'.output = w.output) (hoth : ∀ j, j ≠ bl → w'.heap[j]? = w.heap[j]?) (hsz : w'.heap.size = w.heap.size)
    (hown : w'.ownsRow 0 o.el o.sz v' xs'.length us) (hc : repC w ν o.sz xs' us) :
    Rel C { st with e := upd k ⟨xs'.length, o.el, o.sz, some xs'⟩ st.e } a w' (ν.withOwn k xs'.length v') ∧ Over w ν w' (ν.withOwn k xs'.length v') ∧ (xs'.length ≤ lim → rep w' (ν.withOwn k xs'.length v') (.row o.sz k xs'.length) v') := by
  obtain ⟨v0, us0, q1, q2, q3, q4⟩ := h.good.own k o hk
  rw [hv] at q1; cases q1
  obtain ⟨q5, q6, q7⟩ := q4 xs hx
  have ho : Over w ν w' (ν.withOwn k xs'.length v') := by
    refine ⟨fun b i hA => ⟨hA, World.cell?_of_block (hoth b fun e => by subst e; exact q7 b hvb i hA)⟩, fun j b _ hj => hj, fun g n u _ hgu => ?_⟩
    by_cases e : g = k
    · subst e
      rw [hv] at hgu; cases hgu
      refine ⟨xs'.length, v', by simp [Env.withOwn], ?_⟩
      rcases hn with ⟨h1, h2⟩ | h1
      · exact .inl ⟨h1, h2⟩
      · exact .inr h1
    · exact ⟨n, u, by simp [Env.withOwn, e, hgu], .inl ⟨rfl, rfl⟩⟩
  have hlook : ∀ g n u, (look g (upd k ⟨xs'.length, o.el, o.sz, some xs'⟩ st.e)).isSome → (ν.withOwn k xs'.length v').ow g = some (n, u) → ∀ b, u.ownBlock = some b → (look g st.e).isSome ∧ ∃ n u, ν.ow g = some (n, u) ∧ u.ownBlock = some b := by
    intro g n u hgs hgu b hb
    by_cases e : g = k
    · subst e
      simp only [Env.withOwn, if_true, Option.some.injEq, Prod.mk.injEq] at hgu
      rw [← hgu.2, hvb'] at hb; cases hb
      exact ⟨by simp [hk], o.n, v, hv, hvb⟩
    · rw [look_upd, if_neg (Ne.symm e)] at hgs
      simp only [Env.withOwn, e, if_false] at hgu
      exact ⟨hgs, n, u, hgu, hb⟩
  refine ⟨h.over ho rfl ⟨fun b i hA => by rw [hsz]; exact h.good.alt b i hA, fun j ds hj => ?_, h.good.inj, fun g o' hgo => ?_, fun g g' n n' u u' b h1 h2 h3 h4 h5 h6 => ?_, fun g j n u b h1 h2 h3 h4 h5 => ?_, fun j => ?_⟩
    ⟨hos.trans h.fr.os, htape.trans h.fr.tape, hout.trans h.fr.output, by rw [hsz]; exact h.fr.size, fun j hj hm => ?_, fun b i hA => ?_, h.fr.fresh, h.fr.obj, h.fr.obn, fun m n u hm => row_trans (h.fr.row m n u hm) (fun n u => ho.ow _ n u trivial), h.fr.obr⟩ (fun m hm => ?_), ho, ?_⟩
  · obtain ⟨b, us', el', g1, g2, g3, g4, g5⟩ := h.good.box j ds hj
    have hne : b ≠ bl := fun e => h.good.obx k j o.n _ bl (by simp [hk]) (by simp [hj]) hv hvb (by rw [← e]; exact g1)
    exact ⟨b, us', el', g1, g2, g3, by rw [hoth b hne]; exact g4, repB_over ho g5⟩
  · simp only at hgo
    rw [look_upd] at hgo
    by_cases e : k = g
    · rw [if_pos e] at hgo; cases hgo
      subst e
      refine ⟨v', us, by simp [Env.withOwn], hown, fun b hb => ?_, fun ys hy => ?_⟩
      · rw [hvb'] at hb; cases hb
        exact ⟨(q3 bl hvb).1, fun j hA => absurd hA (q7 bl hvb j)⟩
      · simp only [Option.some.injEq] at hy; subst hy
        exact ⟨rfl, repC_over ho hc, fun b hb => by rw [hvb'] at hb; cases hb; exact q7 bl hvb⟩
    · rw [if_neg e] at hgo
      obtain ⟨v0, us0, e1, e2, e3, e4⟩ := h.good.own g o' hgo
      have hne : ∀ b, v0.ownBlock = some b → b ≠ bl := fun b hb eb => e (h.good.oinj k g o.n o'.n _ v0 bl (by simp [hk]) (by simp [hgo]) hv e1 hvb (by rw [← eb]; exact hb))
      refine ⟨v0, us0, by simp [Env.withOwn, Ne.symm e, e1], ⟨e2.1, ?_⟩, e3, rowC_over ho (fun _ _ _ h => h) e4⟩
      rcases e2.2 with e2 | ⟨bb, cap', cur', f1, f2, f3, f4⟩
      · exact .inl e2
      · exact .inr ⟨bb, cap', cur', f1, f2, by rw [hoth bb (hne bb (by rw [f1]; rfl))]; exact f3, f4⟩
  · obtain ⟨a1, n1, u1, a2, a3⟩ := hlook g n u h1 h3 b h5
    obtain ⟨b1, n2, u2, b2, b3⟩ := hlook g' n' u' h2 h4 b h6
    exact h.good.oinj g g' n1 n2 u1 u2 b a1 b1 a2 b2 a3 b3
  · obtain ⟨a1, n1, u1, a2, a3⟩ := hlook g n u h1 h3 b h4
    exact h.good.obx g j n1 u1 b a1 h2 a2 a3 h5
  · by_cases e : j = k
    · subst e
      rcases h.good.one j with h1 | h1
      · exact .inl h1
      · rw [h1] at hv; cases hv
    · rcases h.good.one j with h1 | h1
      · exact .inl h1
      · exact .inr (by simp [Env.withOwn, e, h1])
  · rw [hoth j fun e => by subst e; exact (q3 j hvb).1.elim hm (fun g2 => by omega)]; exact h.fr.block j hj hm
  · obtain ⟨k1, k2⟩ := h.fr.keep b i hA
    exact ⟨k1, (ho.A b i k1).2.trans k2⟩
  · obtain ⟨k1, k2⟩ := h.new m hm
    refine ⟨k1, ?_⟩
    have : m ≠ k := fun e => by subst e; rw [k2] at hv; cases hv
    simp [Env.withOwn, this, k2]
  · intro hlim
    simp only [rep]
    obtain ⟨cap, hform⟩ := own_form hown hvb'
    exact ⟨⟨bl, cap, hform⟩, hlim, xs'.length, v', by simp [Env.withOwn], Nat.le_refl _, fun _ => rfl⟩

end Go.Pv
/- append, in place or into a new row. -/
set_option linter.all false
namespace Go.Pv
open Go Go.RowKit

/-- A row of the call's own that is appended to in place. -/
theorem Rel.inPlace {C : Ctx} {st : St} {a : Act} {w : World} {ν : Env} (h : Rel C st a w ν) {k : Key} {o : Own} (hk : look k st.e = some o) {bl cap : Nat} {cur : Array Value} (hv : ν.ow k = some (o.n, .slice (some ⟨bl, 0, none⟩) o.n cap))
    (hcur : w.heap[bl]? = some (.cells cur o.el (0, 0))) (hcap : cap ≤ maxLen) (hsz : cur.size = cap * o.sz) {xs ys : List PV} {us ns : List Value} (hxl : xs.length = o.n) (hus : cur.toList.take (o.n * o.sz) = us) (hc : repC w ν o.sz xs us) (hcn : repC w ν o.sz ys ns)
    (hpos : 0 < ys.length) (hroom : o.n + ys.length ≤ cap) (hlim : xs.length + ys.length ≤ lim) :
    Rel C { st with e := upd k ⟨o.n + ys.length, o.el, o.sz, none⟩ st.e } a (w.setRow bl (us ++ ns ++ cur.toList.drop (o.n * o.sz + ns.length)).toArray)
      (ν.withRowOf k (.slice (some ⟨bl, 0, none⟩) (o.n + ys.length) cap) (o.n + ys.length) ((o.n + ys.length) * o.sz)) ∧
    rep (w.setRow bl (us ++ ns ++ cur.toList.drop (o.n * o.sz + ns.length)).toArray) (ν.withRowOf k (.slice (some ⟨bl, 0, none⟩) (o.n + ys.length) cap) (o.n + ys.length) ((o.n + ys.length) * o.sz))
      (.slice o.sz (.own k) (xs ++ ys)) (.slice (some ⟨bl, 0, none⟩) (o.n + ys.length) cap) := by
  have hnl := repC_length hcn
  have hul := repC_length hc
  rw [hxl] at hul
  have hmul : (o.n + ys.length) * o.sz ≤ cap * o.sz := Nat.mul_le_mul_right _ hroom
  rw [Nat.add_mul] at hmul
  obtain ⟨v0, us0, q1, q2, q3, _⟩ := h.good.own k o hk
  rw [hv] at q1; cases q1
  obtain ⟨q4, q5⟩ := q3 bl rfl
  generalize hw' : w.setRow bl (us ++ ns ++ cur.toList.drop (o.n * o.sz + ns.length)).toArray = w'
  have hoth : ∀ j, j ≠ bl → w'.heap[j]? = w.heap[j]? := fun j hj => by rw [← hw']; exact setRow_other w bl j _ hj
  have hnew : w'.heap[bl]? = some (.cells (us ++ ns ++ cur.toList.drop (o.n * o.sz + ns.length)).toArray o.el (0, 0)) := by rw [← hw']; exact setRow_heap w bl cur _ o.el _ hcur
  have hsize : w'.heap.size = w.heap.size := by rw [← hw']; exact setRow_size w bl _
  have hcell : ∀ j, j < o.n * o.sz → w'.cell? ⟨bl, j, none⟩ = w.cell? ⟨bl, j, none⟩ := by
    intro j hj
    simp only [World.cell?, hnew, hcur, Option.isSome_none, Bool.false_eq_true, if_false]
    rw [List.getElem?_toArray, List.append_assoc, List.getElem?_append_left (by omega), ← hus, List.getElem?_take, if_pos hj]
    simp
  have ho : Over w ν w' (ν.withRowOf k (.slice (some ⟨bl, 0, none⟩) (o.n + ys.length) cap) (o.n + ys.length) ((o.n + ys.length) * o.sz)) := by
    refine ⟨fun b j hA => ⟨.inl hA, ?_⟩, fun j b _ hj => hj, fun g n u _ hgu => ?_⟩
    · by_cases e : b = bl
      · subst e; exact hcell j (q5 j hA)
      · exact World.cell?_of_block (hoth b e)
    · by_cases e : g = k
      · subst e
        rw [hv] at hgu; cases hgu
        exact ⟨o.n + ys.length, .slice (some ⟨bl, 0, none⟩) (o.n + ys.length) cap, by simp [Env.withRowOf], .inr (by omega)⟩
      · exact ⟨n, u, by simp [Env.withRowOf, e, hgu], .inl ⟨rfl, rfl⟩⟩
  have hlook : ∀ g, (look g (upd k ⟨o.n + ys.length, o.el, o.sz, none⟩ st.e)).isSome → g = k ∨ (g ≠ k ∧ (look g st.e).isSome ∧ (ν.withRowOf k (.slice (some ⟨bl, 0, none⟩) (o.n + ys.length) cap) (o.n + ys.length) ((o.n + ys.length) * o.sz)).ow g = ν.ow g) := by
    intro g hgs
    by_cases e : g = k
    · exact .inl e
    · rw [look_upd, if_neg (Ne.symm e)] at hgs
      exact .inr ⟨e, hgs, by simp [Env.withRowOf, e]⟩
  have hblt : bl < w.heap.size := (Array.getElem?_eq_some_iff.1 hcur).1
  have hcells : ∀ j u, (us ++ ns)[j]? = some u → w'.cell? ⟨bl, j, none⟩ = some u := by
    intro j u hj
    have hjl := (List.getElem?_eq_some_iff.1 hj).1
    simp only [World.cell?, hnew, Option.isSome_none, Bool.false_eq_true, if_false]
    rw [List.getElem?_toArray, List.getElem?_append_left hjl]
    exact hj
  refine ⟨h.over ho rfl ⟨fun b j hA => ?_, fun j ds hj => ?_, h.good.inj, fun g o' hgo => ?_, fun g g' n n' u u' b h1 h2 h3 h4 h5 h6 => ?_, fun g j n u b h1 h2 h3 h4 h5 => ?_, fun j => ?_⟩
    ⟨by rw [← hw']; exact h.fr.os, by rw [← hw']; exact h.fr.tape, by rw [← hw']; exact h.fr.output, by rw [hsize]; exact h.fr.size, fun j hj hm => ?_, fun b j hA => ?_, fun b j hA => ?_, h.fr.obj, h.fr.obn, fun m n u hm => row_trans (h.fr.row m n u hm) (fun n u => ho.ow _ n u trivial), h.fr.obr⟩ (fun m hm => ?_), ?_⟩
  · rw [hsize]
    rcases hA with hA | ⟨hA, _⟩
    · exact h.good.alt b j hA
    · simp only [Value.ownBlock, Option.some.injEq] at hA; omega
  · obtain ⟨b, us', el', g1, g2, g3, g4, g5⟩ := h.good.box j ds hj
    have hne : b ≠ bl := fun e => h.good.obx k j o.n _ bl (by simp [hk]) (by simp [hj]) hv rfl (by rw [← e]; exact g1)
    refine ⟨b, us', el', g1, g2, fun i hA => ?_, by rw [hoth b hne]; exact g4, repB_over ho g5⟩
    rcases hA with hA | ⟨hA, _⟩
    · exact g3 i hA
    · simp only [Value.ownBlock, Option.some.injEq] at hA; exact hne hA.symm
  · simp only at hgo
    rw [look_upd] at hgo
    by_cases e : k = g
    · rw [if_pos e] at hgo; cases hgo
      subst e
      refine ⟨.slice (some ⟨bl, 0, none⟩) (o.n + ys.length) cap, us ++ ns, by simp [Env.withRowOf], ⟨by rw [List.length_append, hul, hnl, Nat.add_mul], .inr ⟨bl, cap, _, rfl, Nat.zero_le _, hnew, hroom, hcap, ?_, ?_⟩⟩, fun b hb => ⟨?_, fun j hA => ?_⟩, fun ys hy => by cases hy⟩
      · simp only [List.size_toArray, List.length_append, List.length_drop, Array.length_toList]
        omega
      · have hl : (us ++ ns).length = (o.n + ys.length) * o.sz := by rw [List.length_append, hul, hnl, Nat.add_mul]
        simp only [← hl]
        rw [List.take_append_of_le_length (Nat.le_refl _), List.take_length]
      · simp only [Value.ownBlock, Option.some.injEq] at hb; subst hb; exact q4
      · simp only [Value.ownBlock, Option.some.injEq] at hb
        subst hb
        rcases hA with hA | ⟨_, hA⟩
        · have := q5 j hA; simp only; rw [Nat.add_mul]; omega
        · exact hA
    · rw [if_neg e] at hgo
      obtain ⟨v0, us0, e1, e2, e3, e4⟩ := h.good.own g o' hgo
      have hne : ∀ b, v0.ownBlock = some b → b ≠ bl := fun b hb eb => e (h.good.oinj k g o.n o'.n _ v0 bl (by simp [hk]) (by simp [hgo]) hv e1 rfl (by rw [← eb]; exact hb))
      have hAA : ∀ b, v0.ownBlock = some b → ∀ j, (ν.withRowOf k (.slice (some ⟨bl, 0, none⟩) (o.n + ys.length) cap) (o.n + ys.length) ((o.n + ys.length) * o.sz)).A b j → ν.A b j := fun b hb j hA => by
        rcases hA with hA | ⟨hA, _⟩
        · exact hA
        · simp only [Value.ownBlock, Option.some.injEq] at hA; exact absurd hA.symm (hne b hb)
      refine ⟨v0, us0, by simp [Env.withRowOf, Ne.symm e, e1], ⟨e2.1, ?_⟩, fun b hb => ⟨(e3 b hb).1, fun j hA => (e3 b hb).2 j (hAA b hb j hA)⟩, rowC_over ho hAA e4⟩
      rcases e2.2 with e2 | ⟨bb, cap', cur', f1, f2, f3, f4⟩
      · exact .inl e2
      · exact .inr ⟨bb, cap', cur', f1, f2, by rw [hoth bb (hne bb (by rw [f1]; rfl))]; exact f3, f4⟩
  · rcases hlook g h1 with rfl | ⟨n1, n2, n3⟩ <;> rcases hlook g' h2 with rfl | ⟨m1, m2, m3⟩
    · rfl
    · exfalso
      simp only [Env.withRowOf, if_true, Option.some.injEq, Prod.mk.injEq] at h3
      rw [m3] at h4
      rw [← h3.2] at h5
      simp only [Value.ownBlock, Option.some.injEq] at h5
      subst h5
      exact m1 (h.good.oinj g' g n' o.n u' _ bl m2 (by simp [hk]) h4 hv h6 rfl)
    · exfalso
      simp only [Env.withRowOf, if_true, Option.some.injEq, Prod.mk.injEq] at h4
      rw [n3] at h3
      rw [← h4.2] at h6
      simp only [Value.ownBlock, Option.some.injEq] at h6
      subst h6
      exact n1 (h.good.oinj g g' n o.n u _ bl n2 (by simp [hk]) h3 hv h5 rfl)
    · rw [n3] at h3; rw [m3] at h4
      exact h.good.oinj g g' n n' u u' b n2 m2 h3 h4 h5 h6
  · rcases hlook g h1 with rfl | ⟨n1, n2, n3⟩
    · simp only [Env.withRowOf, if_true, Option.some.injEq, Prod.mk.injEq] at h3
      rw [← h3.2] at h4
      simp only [Value.ownBlock, Option.some.injEq] at h4
      subst h4
      exact h.good.obx g j o.n _ bl (by simp [hk]) h2 hv rfl h5
    · rw [n3] at h3
      exact h.good.obx g j n u b n2 h2 h3 h4 h5
  · by_cases e : j = k
    · subst e
      rcases h.good.one j with h1 | h1
      · exact .inl h1
      · rw [h1] at hv; cases hv
    · rcases h.good.one j with h1 | h1
      · exact .inl h1
      · exact .inr (by simp [Env.withRowOf, e, h1])
  · rw [hoth j fun e => by subst e; exact q4.elim hm (fun g2 => by omega)]; exact h.fr.block j hj hm
  · obtain ⟨k1, k2⟩ := h.fr.keep b j hA
    exact ⟨.inl k1, (ho.A b j k1).2.trans k2⟩
  · rcases hA with hA | ⟨hA, _⟩
    · exact h.fr.fresh b j hA
    · simp only [Value.ownBlock, Option.some.injEq] at hA
      subst hA; exact .inr q4
  · obtain ⟨k1, k2⟩ := h.new m hm
    refine ⟨k1, ?_⟩
    have : m ≠ k := fun e => by subst e; rw [k2] at hv; cases hv
    simp [Env.withRowOf, this, k2]
  · simp only [rep]
    refine ⟨⟨some ⟨bl, 0, none⟩, cap, by simp [hxl], by simp; omega, ⟨hcap, by simpa using hlim⟩, .inr ⟨bl, 0, us ++ ns, rfl, laid_of _ 0 fun j u hj => ?_, repC_append (repC_over ho hc) (repC_over ho hcn)⟩⟩, fun e => (by cases e), fun g e => ?_⟩
    · have hjl := (List.getElem?_eq_some_iff.1 hj).1
      rw [Nat.zero_add]
      refine ⟨.inr ⟨rfl, ?_⟩, hcells j u hj⟩
      rw [List.length_append, hul, hnl] at hjl
      rw [Nat.add_mul]; exact hjl
    · cases e
      exact ⟨o.n + ys.length, .slice (some ⟨bl, 0, none⟩) (o.n + ys.length) cap, by simp [Env.withRowOf], by simp [hxl], fun _ => rfl⟩

/-- append of nothing. -/
theorem run_append_empty {P : Program} {w : World} {t ty e : TypeId} {i : TypeInfo} (ht : P.underlying t = some (.slice e)) (hi : P.info? e = some i) (b : Option Addr) (n cap : Nat) (hn : n ≤ cap) (x : Option Addr) (c : Nat) :
    (Builtin.append_ #[t, t] ty #[.slice b n cap, .slice x 0 c]).run P w = .ok (.slice b n cap) w := by
  cases b <;> cases x <;> simp [Builtin.append_, run_underlying ht, sizeOf, typeInfo, hi, Builtin.lenOf, hn, Builtin.firstCells, loadCells, loadCellsFrom, storeCells]

end Go.Pv
/- The instructions of straight-line code but calls: abstract evaluation and soundness. -/
set_option linter.all false
namespace Go.Pv
open Go Go.RowKit

inductive Ins where
  | v (d : Nat) (i : VIns)
  | box (d : Nat) (key : Option Nat) (x : Opd)
  | alloc (d : Nat) (key : Option Nat) (zero : PV)
  | store (sz : Nat) (x y : Opd)
  | bsl (d : Nat) (sz el : Nat) (xs : List Opd)
  | app (d : Nat) (sz el : Nat) (x y : Opd)
  | bslm (d : Nat) (key : Option Nat) (sz el : Nat) (xs : List Opd)
  | appm (d : Nat) (key : Option Nat) (sz el : Nat) (x y : Opd)
  | mkmap (d : Nat) (key : Option Nat)
  | mput (ks : Bool) (x k v : Opd)
  | range (d : Nat) (key : Option Nat) (x : Opd)
  | storeE (sz : Nat) (x y : Opd)

/-- The name of a new box: the frame's next one, or an object's that the text has chosen. -/
def newKey (st : St) : Option Nat → Key
  | none => .loc st.n
  | some m => .obj m
def keyFree (st : St) : Option Nat → Prop
  | none => .loc st.n ∉ st.o
  | some m => .obj m ∉ st.o
def nextN (st : St) : Option Nat → Nat
  | none => st.n + 1
  | some _ => st.n
def nextO (st : St) : Option Nat → List Key
  | none => st.o
  | some m => .obj m :: st.o
theorem newKey_fresh {st : St} {key : Option Nat} (h : keyFree st key) : fresh st.n st.o (newKey st key) := by
  cases key <;> simp [newKey, fresh, keyFree] at h ⊢ <;> exact h
theorem next_fresh {st : St} {key : Option Nat} : ∀ j, fresh (nextN st key) (nextO st key) j → fresh st.n st.o j ∧ j ≠ newKey st key := by
  intro j hj
  cases key <;> cases j <;> simp [fresh, nextN, nextO, newKey] at hj ⊢
  · exact ⟨⟨by omega, hj.2⟩, by omega⟩
  · exact hj
  · exact hj
  · exact ⟨hj.2, hj.1⟩

def allSz (sz : Nat) : List PV → Prop
  | [] => True
  | p :: ps => (solid p = true ∧ (cells p).length = sz) ∧ allSz sz ps

def mputV (ks : Bool) (k v : PV) : List PV → Option (List PV)
  | .hdm clock borns :: kvs => match mset ks k v kvs with
    | some (some kvs') => some (.hdm clock borns :: kvs')
    | some none => some (.hdm (clock + 1) (borns ++ [clock]) :: (kvs ++ [k, v]))
    | none => none
  | _ => none
def rangeV (m : Key) : List PV → Option (List PV)
  | .hdm clock _ :: _ => some [.hdi clock [] clock, .gmap m]
  | _ => none
/-- append to a row that no one else knows (or to nothing). -/
def appmV (st : St) (sz el : Nat) (x y : PV) : Option ((Option (Key × List PV)) × List PV) :=
  match x, y with
  | .slice sz' .nil _, .slice sz'' _ ys => if sz' = sz ∧ sz'' = sz then some (none, ys) else none
  | .row sz' k n, .slice sz'' _ ys => if sz' = sz ∧ sz'' = sz then
      match look k st.e with
      | some ⟨n', el', sz3, some xs⟩ => if n' = n ∧ el' = el ∧ sz3 = sz then some (some (k, xs), ys) else none
      | _ => none
    else none
  | _, _ => none
/-- A part of an element that is set. -/
def rowPut : PV → Nat → List PV → PV
  | .agg ds, f, cs => .agg (splice ds f cs)
  | _, _, [q] => q
  | _, _, _ => .junk
/-- A store into a row that no one else knows. -/
def storeR (st : St) (sz : Nat) (p v : PV) : Option (Prop × St) :=
  match p with
  | .rptr sz' k n i f => match look k st.e with
    | some ⟨n', el, sz'', some xs⟩ => if n' = n ∧ sz'' = sz' then
        match xs[i]? with
        | some q => some (solid q = true ∧ solid v = true ∧ (cells v).length = sz ∧ f + sz ≤ (cells q).length ∧ 0 < sz, { st with e := upd k ⟨n', el, sz'', some (xs.set i (rowPut q f (cells v)))⟩ st.e })
        | none => none
      else none
    | _ => none
  | _ => none
def sI (st : St) : Ins → Option (Prop × St)
  | .bslm d key sz el xs => some (keyFree st key ∧ allSz sz (xs.map (evalO st.t)),
      { t := put d (.row sz (newKey st key) xs.length) st.t, b := st.b, e := upd (newKey st key) ⟨xs.length, el, sz, some (xs.map (evalO st.t))⟩ st.e, n := nextN st key, o := nextO st key })
  | .appm d key sz el x y => match appmV st sz el (evalO st.t x) (evalO st.t y) with
    | some (none, ys) => some (keyFree st key ∧ ys.length ≤ lim ∧ ys ≠ [],
        { t := put d (.row sz (newKey st key) ys.length) st.t, b := st.b, e := upd (newKey st key) ⟨ys.length, el, sz, some ys⟩ st.e, n := nextN st key, o := nextO st key })
    | some (some (k, xs), ys) => some (xs.length + ys.length ≤ lim, { st with t := put d (.row sz k (xs.length + ys.length)) st.t, e := upd k ⟨xs.length + ys.length, el, sz, some (xs ++ ys)⟩ st.e })
    | none => none
  | .mkmap d key => some (keyFree st key, { t := put d (.gmap (newKey st key)) st.t, b := upd (newKey st key) [.hdm 0 []] st.b, e := st.e, n := nextN st key, o := nextO st key })
  | .mput ks x k v => match evalO st.t x with
    | .gmap m => match look m st.b with
      | some cs => match mputV ks (evalO st.t k) (evalO st.t v) cs with
        | some cs' => some (True, { st with b := upd m cs' st.b })
        | none => none
      | none => none
    | _ => none
  | .range d key x => match evalO st.t x with
    | .gmap m => match look m st.b with
      | some cs => match rangeV m cs with
        | some cs' => some (keyFree st key, { t := put d (.ptr (newKey st key) 0) st.t, b := upd (newKey st key) cs' st.b, e := st.e, n := nextN st key, o := nextO st key })
        | none => none
      | none => none
    | _ => none
  | .v d i => match vI st i with
    | some (c, p) => some (c, { st with t := put d p st.t })
    | none => none
  | .storeE sz x y => storeR st sz (evalO st.t x) (evalO st.t y)
  | .box d key x => some (keyFree st key ∧ solid (evalO st.t x) = true,
      { t := put d (.ptr (newKey st key) 0) st.t, b := upd (newKey st key) (cells (evalO st.t x)) st.b, e := st.e, n := nextN st key, o := nextO st key })
  | .alloc d key z => some (keyFree st key, { t := put d (.ptr (newKey st key) 0) st.t, b := upd (newKey st key) (cells z) st.b, e := st.e, n := nextN st key, o := nextO st key })
  | .store sz x y => match evalO st.t x with
    | .ptr k off => match look k st.b with
      | some cs => some (plainB cs = true ∧ solid (evalO st.t y) = true ∧ (cells (evalO st.t y)).length = sz ∧ off + sz ≤ cs.length, { st with b := upd k (splice cs off (cells (evalO st.t y))) st.b })
      | none => none
    | p => storeR st sz p (evalO st.t y)
  | .bsl d sz el xs => some (keyFree st none ∧ allSz sz (xs.map (evalO st.t)),
      { st with t := put d (.slice sz (.own (.loc st.n)) (xs.map (evalO st.t))) st.t, e := upd (.loc st.n) ⟨xs.length, el, sz, none⟩ st.e, n := st.n + 1 })
  | .app d sz el x y => match evalO st.t x, evalO st.t y with
    | .slice sz' tag xs, .slice sz'' _ ys => if sz' = sz ∧ sz'' = sz then
        match tag with
        | .own k => match look k st.e with
          | some o => some (o.n = xs.length ∧ o.el = el ∧ o.sz = sz ∧ xs.length + ys.length ≤ lim,
              { st with t := put d (.slice sz (.own k) (xs ++ ys)) st.t, e := upd k ⟨xs.length + ys.length, el, sz, none⟩ st.e })
          | none => none
        | .nil => some (keyFree st none ∧ ys.length ≤ lim, { st with t := put d (.slice sz (.own (.loc st.n)) ys) st.t, e := upd (.loc st.n) ⟨ys.length, el, sz, none⟩ st.e, n := st.n + 1 })
        | .no => none
      else none
    | _, _ => none

/-- The same with a name κ for what is new, and what is free behind it. -/
def sIk (κ : Key) (n' : Nat) (o' : List Key) (st : St) : Ins → Option (Prop × St)
  | .bslm d _ sz el xs => some (allSz sz (xs.map (evalO st.t)),
      { t := put d (.row sz κ xs.length) st.t, b := st.b, e := upd κ ⟨xs.length, el, sz, some (xs.map (evalO st.t))⟩ st.e, n := n', o := o' })
  | .appm d _ sz el x y => match appmV st sz el (evalO st.t x) (evalO st.t y) with
    | some (none, ys) => some (ys.length ≤ lim ∧ ys ≠ [],
        { t := put d (.row sz κ ys.length) st.t, b := st.b, e := upd κ ⟨ys.length, el, sz, some ys⟩ st.e, n := n', o := o' })
    | some (some (k, xs), ys) => some (xs.length + ys.length ≤ lim, { st with t := put d (.row sz k (xs.length + ys.length)) st.t, e := upd k ⟨xs.length + ys.length, el, sz, some (xs ++ ys)⟩ st.e })
    | none => none
  | .mkmap d _ => some (True, { t := put d (.gmap κ) st.t, b := upd κ [.hdm 0 []] st.b, e := st.e, n := n', o := o' })
  | .mput ks x k v => match evalO st.t x with
    | .gmap m => match look m st.b with
      | some cs => match mputV ks (evalO st.t k) (evalO st.t v) cs with
        | some cs' => some (True, { st with b := upd m cs' st.b })
        | none => none
      | none => none
    | _ => none
  | .range d _ x => match evalO st.t x with
    | .gmap m => match look m st.b with
      | some cs => match rangeV m cs with
        | some cs' => some (True, { t := put d (.ptr κ 0) st.t, b := upd κ cs' st.b, e := st.e, n := n', o := o' })
        | none => none
      | none => none
    | _ => none
  | .v d i => match vI st i with
    | some (c, p) => some (c, { st with t := put d p st.t })
    | none => none
  | .storeE sz x y => storeR st sz (evalO st.t x) (evalO st.t y)
  | .box d _ x => some (solid (evalO st.t x) = true, { t := put d (.ptr κ 0) st.t, b := upd κ (cells (evalO st.t x)) st.b, e := st.e, n := n', o := o' })
  | .alloc d _ z => some (True, { t := put d (.ptr κ 0) st.t, b := upd κ (cells z) st.b, e := st.e, n := n', o := o' })
  | .store sz x y => match evalO st.t x with
    | .ptr k off => match look k st.b with
      | some cs => some (plainB cs = true ∧ solid (evalO st.t y) = true ∧ (cells (evalO st.t y)).length = sz ∧ off + sz ≤ cs.length, { st with b := upd k (splice cs off (cells (evalO st.t y))) st.b })
      | none => none
    | p => storeR st sz p (evalO st.t y)
  | .bsl d sz el xs => some (allSz sz (xs.map (evalO st.t)),
      { st with t := put d (.slice sz (.own κ) (xs.map (evalO st.t))) st.t, e := upd κ ⟨xs.length, el, sz, none⟩ st.e, n := n', o := o' })
  | .app d sz el x y => match evalO st.t x, evalO st.t y with
    | .slice sz' tag xs, .slice sz'' _ ys => if sz' = sz ∧ sz'' = sz then
        match tag with
        | .own k => match look k st.e with
          | some o => some (o.n = xs.length ∧ o.el = el ∧ o.sz = sz ∧ xs.length + ys.length ≤ lim,
              { st with t := put d (.slice sz (.own k) (xs ++ ys)) st.t, e := upd k ⟨xs.length + ys.length, el, sz, none⟩ st.e })
          | none => none
        | .nil => some (ys.length ≤ lim, { st with t := put d (.slice sz (.own κ) ys) st.t, e := upd κ ⟨ys.length, el, sz, none⟩ st.e, n := n', o := o' })
        | .no => none
      else none
    | _, _ => none

def opsOk : Nat → List Opd → List (Nat × Operand) → Bool
  | _, [], [] => true
  | i, x :: xs, (j, o) :: os => i == j && opOk x o && opsOk (i + 1) xs os
  | _, _, _ => false

def sOk (N : Nat) (tys : List (Nat × TF)) (i : Ins) (o : Oper) : Bool :=
  match i, o.op with
  | .mkmap d _, .makeMap _ none => o.dst == some d && decide (d < N)
  | .mput ks x k v, .mapUpdate t o1 o2 o3 => o.dst == none && (match tf tys t with | some ⟨_, _, .map kt _, _⟩ => keyTy tys ks kt | _ => false) && opOk x o1 && opOk k o2 && opOk v o3
  | .mput ks x k v, .insert t o1 o2 o3 => o.dst == none && (match tf tys t with | some ⟨_, _, .map kt _, _⟩ => keyTy tys ks kt | _ => false) && opOk x o1 && opOk k o2 && opOk v o3
  | .range d _ x, .range t o1 => o.dst == some d && decide (d < N) && (match tf tys t with | some ⟨_, _, .map _ _, _⟩ => true | _ => false) && opOk x o1
  | .v d i, op => o.dst == some d && decide (d < N) && vOk tys i op
  | .box d _ x, .box _ o' => o.dst == some d && decide (d < N) && opOk x o'
  | .alloc d _ z, .alloc el => o.dst == some d && decide (d < N) && (match tf tys el with | some f => zeroEq z f.zero | none => false)
  | .store sz x y, .store t o' o'' => o.dst == none && (match tf tys t with | some f => f.size == sz | none => false) && opOk x o' && opOk y o''
  | .bsl d sz el xs, .buildSlice t len parts => o.dst == some d && decide (d < N) && (match tf tys t with | some ⟨_, _, .slice el', _⟩ => el == el' | _ => false) && (match tf tys el with | some f => f.size == sz && decide (0 < sz) | none => false)
      && len == xs.length && decide (len * sz ≤ 16777216) && opsOk 0 xs parts.toList
  | .app d sz el x y, .call ⟨.builtin .append, ⟨[o', o'']⟩, ⟨[t, t']⟩⟩ => o.dst == some d && decide (d < N) && t == t' && (match tf tys t with | some ⟨_, _, .slice el', _⟩ => el == el' | _ => false)
      && (match tf tys el with | some f => f.size == sz && decide (0 < sz) && decide (f.bytes ≤ 2048) | none => false) && opOk x o' && opOk y o''
  | .bslm d _ sz el xs, .buildSlice t len parts => o.dst == some d && decide (d < N) && (match tf tys t with | some ⟨_, _, .slice el', _⟩ => el == el' | _ => false) && (match tf tys el with | some f => f.size == sz && decide (0 < sz) | none => false)
      && len == xs.length && decide (len * sz ≤ 16777216) && opsOk 0 xs parts.toList
  | .appm d _ sz el x y, .call ⟨.builtin .append, ⟨[o', o'']⟩, ⟨[t, t']⟩⟩ => o.dst == some d && decide (d < N) && t == t' && (match tf tys t with | some ⟨_, _, .slice el', _⟩ => el == el' | _ => false)
      && (match tf tys el with | some f => f.size == sz && decide (0 < sz) && decide (f.bytes ≤ 2048) | none => false) && opOk x o' && opOk y o''
  | .storeE sz x y, .store t o' o'' => o.dst == none && (match tf tys t with | some f => f.size == sz | none => false) && opOk x o' && opOk y o''
  | _, _ => false

theorem run_fillS {w : World} {ν : Env} {C : Ctx} {st : St} {a : Act} (hr : Rel C st a w ν) {sz : Nat} :
    ∀ (xs : List Opd) (i : Nat) (os : List (Nat × Operand)) (pre : List PV) (us : Array Value) (vs : List Value), opsOk i xs os = true → allSz sz (xs.map (evalO st.t)) → us.toList.take (i * sz) = vs → repC w ν sz pre vs → i = pre.length → us.size = (i + xs.length) * sz →
    ∃ us' : Array Value, Instr.fill (fun i => some (i * sz, sz)) us (os.map fun (x : Nat × Operand) => (x.1, a.eval x.2)) = some us' ∧ repC w ν sz (pre ++ xs.map (evalO st.t)) us'.toList ∧ us'.size = us.size
  | [], i, [], pre, us, vs, _, _, hv, h, hi, hs => by
    refine ⟨us, by simp [Instr.fill], ?_, rfl⟩
    have hl := repC_length h
    have : us.toList.take (i * sz) = us.toList := List.take_of_length_le (by simp at hs ⊢; omega)
    rw [this] at hv
    simpa [hv] using h
  | [], _, _ :: _, _, _, _, hok, _, _, _, _, _ => by simp [opsOk] at hok
  | _ :: _, _, [], _, _, _, hok, _, _, _, _, _ => by simp [opsOk] at hok
  | x :: xs, i, (j, o) :: os, pre, us, vs, hok, ha, hv, h, hi, hs => by
    simp only [opsOk, Bool.and_eq_true, beq_iff_eq] at hok
    obtain ⟨⟨rfl, h1⟩, h2⟩ := hok
    simp only [List.map_cons, allSz] at ha
    obtain ⟨⟨hsol, hlen⟩, ha⟩ := ha
    have hx := opOk_rep hr h1
    have hcx := rep_cells hx hsol
    have hcl := repL_length hcx
    have hcs : (a.eval o).cells.size = sz := by rw [hlen] at hcl; simpa using hcl
    have hmul : i * sz + sz ≤ us.size := by
      rw [hs, List.length_cons, show i + (xs.length + 1) = (i + 1) + xs.length from by omega, Nat.add_mul, Nat.succ_mul]; omega
    have hsp := fill_splice (w := w) (ν := ν) (a.eval o).cells.toList 0 (i * sz) us (by simp [hcs]; omega)
    have hstep : repC w ν sz (pre ++ [evalO st.t x]) (vs ++ (a.eval o).cells.toList) := by
      refine repC_append h ?_
      simp only [repC]
      exact ⟨a.eval o, [], by simp, ⟨hx, hcs, repL_one hcx⟩, rfl⟩
    have hvl : vs.length = i * sz := by rw [← hv]; simp; omega
    obtain ⟨us', g1, g2, g3⟩ := run_fillS hr xs (i + 1) os (pre ++ [evalO st.t x]) (((a.eval o).cells.toList.zipIdx 0).foldl (fun cs (x : Value × Nat) => cs.setIfInBounds (i * sz + x.2) x.1) us) (vs ++ (a.eval o).cells.toList) h2 ha
      (by
        rw [hsp]
        simp only [Nat.add_zero]
        rw [hv]
        have : (vs ++ (a.eval o).cells.toList).length = (i + 1) * sz := by rw [List.length_append, hvl, Nat.succ_mul]; simp [hcs]
        rw [← this, List.take_append_of_le_length (Nat.le_refl _), List.take_length]) hstep (by simp [hi])
      (by
        have h0 := congrArg List.length hsp
        simp only [Array.length_toList, List.length_append, List.length_take, List.length_drop, hcs] at h0
        rw [h0, hs, List.length_cons, show i + (xs.length + 1) = i + 1 + xs.length from by omega]
        rw [hs, List.length_cons, show i + (xs.length + 1) = i + 1 + xs.length from by omega] at hmul
        omega)
    refine ⟨us', ?_, by simpa using g2, ?_⟩
    · simp only [List.map_cons, Instr.fill]
      rw [if_neg (by simp [hcs]; omega), ← g1]
      congr 1
      rw [← Array.foldl_toList]
      simp
    · rw [g3]
      have h0 := congrArg List.length hsp
      simp only [Array.length_toList, List.length_append, List.length_take, List.length_drop, hcs] at h0
      rw [h0]; omega

end Go.Pv
/- Soundness of the straight-line instructions. -/
set_option linter.all false
namespace Go.Pv
open Go Go.RowKit

theorem wp_value {P : Program} {o : Oper} {a : Act} {w w' : World} {v : Value} {K : Act → World → Prop} {Q : Exit → Act → World → Prop} (h : (execOp a.eval o).run P w = .ok (.value v) w') (hk : K (a.put o.dst v) w') : o.wp P a w K Q := by
  unfold Oper.wp; rw [h]; exact hk
theorem wp_skip' {P : Program} {o : Oper} {a : Act} {w w' : World} {K : Act → World → Prop} {Q : Exit → Act → World → Prop} (h : (execOp a.eval o).run P w = .ok .skip w') (hk : K (a.put o.dst undef) w') : o.wp P a w K Q := by
  unfold Oper.wp; rw [h]; exact hk

theorem val_ok_w {P : Program} {w w' : World} {x : Sem Value} {v : Value} (h : x.run P w = .ok v w') : (do pure (Next.value (← x)) : Sem Next).run P w = .ok (.value v) w' := by
  simp [h]
theorem allSz_len {sz : Nat} : ∀ {ps : List PV}, allSz sz ps → ∀ p ∈ ps, solid p = true ∧ (cells p).length = sz
  | [], _, p, hp => by simp at hp
  | q :: ps, h, p, hp => by
    rcases List.mem_cons.1 hp with rfl | hp
    · exact h.1
    · exact allSz_len h.2 p hp

theorem run_buildSlice {P : Program} {tys : List (Nat × TF)} (ht : tysOk P tys = true) {C : Ctx} {st : St} {a : Act} {w : World} {ν : Env} (hr : Rel C st a w ν) {t el : Nat} {f g : TF} (hf : tf tys t = some f) (hk : f.kind = .slice el) (hg : tf tys el = some g)
    {xs : List Opd} {os : List (Nat × Operand)} (hok : opsOk 0 xs os = true) (hsz : allSz g.size (xs.map (evalO st.t))) (hlen : xs.length * g.size ≤ 16777216) :
    ∃ us : Array Value, (Instr.buildSlice t xs.length (os.map fun (x : Nat × Operand) => (x.1, a.eval x.2)).toArray).run P w = .ok (.slice (some ⟨w.heap.size, 0, none⟩) xs.length xs.length) (w.alloc (.cells us el)) ∧
      repC w ν g.size (xs.map (evalO st.t)) us.toList ∧ us.size = xs.length * g.size := by
  obtain ⟨d, hd, hdk⟩ := tf_und ht hf
  rw [hk] at hdk
  obtain rfl := dOk_slice hdk
  obtain ⟨_, hs⟩ := tf_load ht hg w
  obtain ⟨z, hz1, hz2, hz3⟩ := tf_zero ht hg w
  have hn : ¬ xs.length * g.size > 2 ^ 24 := by omega
  let init : Array Value := if xs.length * g.size = 0 then (Array.range (xs.length * g.size)).map ((#[] : Array Value)[· % (#[] : Array Value).size]!) else (Array.range (xs.length * g.size)).map (z.cells[· % z.cells.size]!)
  have hinit : init.size = xs.length * g.size := by
    simp only [init]; split <;> simp
  obtain ⟨us', g1, g2, g3⟩ := run_fillS (a := a) hr xs 0 os [] init [] hok hsz (by simp) (by simp [repC]) rfl (by rw [hinit]; simp)
  refine ⟨us', ?_, by simpa using g2, by rw [g3, hinit]⟩
  simp only [init] at g1
  by_cases h0 : xs.length * g.size = 0
  · rw [if_pos h0] at g1
    rw [h0] at g1
    have h00 : ¬ (0 : Nat) > 2 ^ 24 := by decide
    simp only [Instr.buildSlice, Sem.run_bind, run_underlying hd, Result.andThen_ok, hs, if_false, Sem.run_pure, h0, if_true, h00, g1, newRow, run_newObj]
    rfl
  · rw [if_neg h0] at g1
    simp only [Instr.buildSlice, Sem.run_bind, run_underlying hd, Result.andThen_ok, hs, hn, if_false, Sem.run_pure, h0, hz1, g1, newRow, run_newObj]
    rfl

theorem keyEq_same {w : World} {ν : Env} {ks : Bool} {d : TypeDesc} (hd : (ks = false ∧ ∃ k, d = .int k) ∨ (ks = true ∧ d = .string)) {k k' : PV} {kv u : Value} (hk : rep w ν k kv) (h1 : rep w ν k' u) {bb : Bool} (hb : keyEq ks k k' = some bb) :
    Instr.sameNow d kv u = some bb ∧ (bb = true → u = kv ∧ Instr.sameBits 10000 u kv = true) := by
  unfold keyEq at hb
  split at hb
  · split at hb
    · rename_i hcond
      obtain ⟨rfl, rfl⟩ := hcond
      simp only [rep] at hk h1
      subst hk; subst h1
      rcases hd with ⟨_, kk, rfl⟩ | ⟨e, _⟩
      · refine ⟨by simpa [Instr.sameNow] using hb, fun e => ?_⟩
        subst e
        simp only [Option.some.injEq, beq_iff_eq] at hb
        subst hb
        exact ⟨rfl, by simp [Instr.sameBits]⟩
      · cases e
    · cases hb
  · split at hb
    · rename_i a b hcond
      subst hcond
      simp only [rep] at hk h1
      obtain ⟨rfl, _⟩ := hk
      obtain ⟨rfl, _⟩ := h1
      rcases hd with ⟨e, _⟩ | ⟨_, rfl⟩
      · cases e
      · refine ⟨?_, fun e => ?_⟩
        · simp only [Instr.sameNow]
          rw [← hb]
          congr 1
          rw [Bool.eq_iff_iff, MapKept.bytes_beq]
          simp
        · subst e
          simp only [Option.some.injEq, beq_iff_eq] at hb
          subst hb
          exact ⟨rfl, by simp only [Instr.sameBits]; exact (MapKept.bytes_beq _ _).2 rfl⟩
    · cases hb
  · cases hb

/-- Setting a key. -/
theorem mset_sound {w : World} {ν : Env} {ks : Bool} {d : TypeDesc} (hd : (ks = false ∧ ∃ k, d = .int k) ∨ (ks = true ∧ d = .string)) {k v : PV} {kv vv : Value} (hk : rep w ν k kv) (hv : rep w ν v vv) :
    ∀ (borns : List Nat) (kvs : List PV) (us : List Value) (i : Nat) (r : Option (List PV)), repT w ν kvs us → kvs.length = 2 * borns.length → mset ks k v kvs = some r →
    match r with
    | none => Instr.findNow d kv (ents borns us) i = some none
    | some kvs' => ∃ j u us' e, Instr.findNow d kv (ents borns us) i = some (some (i + j, u)) ∧ repT w ν kvs' us' ∧ kvs'.length = kvs.length ∧ (ents borns us)[j]? = some e ∧ e.key = kv ∧ Instr.sameBits 10000 e.key kv = true ∧ ents borns us' = (ents borns us).modify j (fun e => { e with key := kv, val := vv })
  | [], [], us, i, r, h, _, hm => by
    simp only [mset] at hm; cases hm
    simp only [repT] at h; subst h
    simp [ents, Instr.findNow]
  | [], _ :: _, _, _, _, _, hl, _ => by simp at hl
  | b :: bs, [], _, _, _, _, hl, _ => by simp at hl
  | b :: bs, [_], _, _, _, _, hl, _ => by simp at hl; omega
  | b :: bs, k' :: v' :: kvs, us, i, r, h, hl, hm => by
    simp only [repT] at h
    obtain ⟨u1, us1, rfl, h1, u2, us2, rfl, h2, h3⟩ := h
    simp only [mset] at hm
    simp only [ents, Instr.findNow]
    cases hq : keyEq ks k k' with
    | none => simp [hq] at hm
    | some bb =>
      obtain ⟨s1, s2⟩ := keyEq_same hd hk h1 hq
      rw [s1]
      simp only [hq] at hm
      cases bb with
      | true =>
        simp only [Option.some.injEq] at hm
        subst hm
        obtain ⟨rfl, s3⟩ := s2 rfl
        refine ⟨0, u2, u1 :: vv :: us2, ⟨u1, u2, b⟩, rfl, ?_, by simp, by simp, rfl, s3, by simp [ents]⟩
        simp only [repT]
        exact ⟨_, _, rfl, hk, _, _, rfl, hv, h3⟩
      | false =>
        simp only at hm ⊢
        have ih := fun r' hr' => mset_sound hd hk hv bs kvs us2 (i + 1) r' h3 (by simp at hl; omega) hr'
        split at hm
        · rename_i r' hr'
          cases hm
          obtain ⟨j, u, us', e, g1, g2, g3, g4, g5, g6, g7⟩ := ih _ hr'
          refine ⟨j + 1, u, u1 :: u2 :: us', e, by rw [g1, show i + 1 + j = i + (j + 1) from by omega], ?_, by simp [g3], by simpa using g4, g5, g6, by simp [ents, g7]⟩
          simp only [repT]
          exact ⟨_, _, rfl, h1, _, _, rfl, h2, g2⟩
        · rename_i hr'
          cases hm
          exact ih _ hr'
        · cases hm

theorem ents_append : ∀ (borns : List Nat) (us : List Value) (b : Nat) (k v : Value), us.length = 2 * borns.length → ents (borns ++ [b]) (us ++ [k, v]) = ents borns us ++ [⟨k, v, b⟩]
  | [], us, b, k, v, h => by
    have : us = [] := List.eq_nil_of_length_eq_zero (by simpa using h)
    subst this; simp [ents]
  | b' :: bs, [], b, k, v, h => by simp at h
  | b' :: bs, [_], b, k, v, h => by simp at h; omega
  | b' :: bs, k' :: v' :: us, b, k, v, h => by
    simp only [List.cons_append, ents, ents_append bs us b k v (by simp at h; omega)]

theorem repT_append' {w : World} {ν : Env} : ∀ {ps qs : List PV} {vs us : List Value}, repT w ν ps vs → repT w ν qs us → repT w ν (ps ++ qs) (vs ++ us)
  | [], qs, vs, us, h, h' => by simp only [repT] at h; subst h; simpa using h'
  | p :: ps, qs, vs, us, h, h' => by
    simp only [repT] at h
    obtain ⟨u, us', rfl, h1, h2⟩ := h
    simp only [List.cons_append, repT]
    exact ⟨u, _, rfl, h1, repT_append' h2 h'⟩
theorem repT_len {w : World} {ν : Env} : ∀ {ps : List PV} {vs : List Value}, repT w ν ps vs → vs.length = ps.length
  | [], vs, h => by simp only [repT] at h; subst h; rfl
  | p :: ps, vs, h => by
    simp only [repT] at h
    obtain ⟨u, us', rfl, _, h2⟩ := h
    simp [repT_len h2]

theorem run_setObj' {P : Program} {w : World} {r : Nat} {o o' : Obj} (hb : w.heap[r]? = some o) (hn : ∀ c e f, o ≠ .cells c e f := by simp) : (setObj r o').run P w = .ok () { w with heap := w.heap.setIfInBounds r o' } := by
  simp only [setObj, Sem.run, hb]

/-- Whether an instruction makes something new. -/
def Ins.makes (st : St) : Ins → Bool
  | .box _ _ _ | .alloc _ _ _ | .bsl _ _ _ _ | .bslm _ _ _ _ _ | .mkmap _ _ | .range _ _ _ => true
  | .appm _ _ _ _ x _ => match evalO st.t x with
    | .slice _ .nil _ => true
    | _ => false
  | .app _ _ _ x _ => match evalO st.t x with
    | .slice _ .nil _ => true
    | _ => false
  | _ => false

theorem Rel.forgetRow {C : Ctx} {st : St} {a : Act} {w : World} {ν : Env} (hr : Rel C st a w ν) {k : Key} {ow : Own} (hk : look k st.e = some ow) : Rel C { st with e := upd k ⟨ow.n, ow.el, ow.sz, none⟩ st.e } a w ν := by
  have hlk : ∀ g, (look g (upd k ⟨ow.n, ow.el, ow.sz, none⟩ st.e)).isSome → (look g st.e).isSome := fun g hg => by
    rw [look_upd] at hg; split at hg
    · rename_i e; subst e; simp [hk]
    · exact hg
  refine ⟨⟨hr.good.alt, hr.good.box, hr.good.inj, fun g o hg => ?_, fun g g' n n' v v' bl a1 a2 => hr.good.oinj g g' n n' v v' bl (hlk g a1) (hlk g' a2), fun g j n v bl a1 => hr.good.obx g j n v bl (hlk g a1), hr.good.one⟩, hr.fr, hr.defers, hr.size, hr.slot, hr.new⟩
  simp only at hg
  rw [look_upd] at hg
  split at hg
  · rename_i e; subst e
    cases hg
    obtain ⟨v, us, q1, q2, q3, _⟩ := hr.good.own k ow hk
    exact ⟨v, us, q1, q2, q3, fun xs hx => by cases hx⟩
  · exact hr.good.own g o hg

theorem ownsRow_mono {w : World} {g0 el sz n : Nat} {v : Value} {us : List Value} (h : w.ownsRow g0 el sz v n us) : w.ownsRow 0 el sz v n us := by
  refine ⟨h.1, ?_⟩
  rcases h.2 with e1 | ⟨bb, cap, cur, f1, f2, f3⟩
  · exact .inl e1
  · exact .inr ⟨bb, cap, cur, f1, Nat.zero_le _, f3⟩

theorem owns_some {w : World} {base el sz n : Nat} {v : Value} {us : List Value} (h : w.ownsRow base el sz v n us) (hn : 0 < n) : ∃ b cap, v = .slice (some ⟨b, 0, none⟩) n cap := by
  rcases h.2 with ⟨e1, e2⟩ | ⟨bb, cap, cur, f1, _⟩
  · omega
  · exact ⟨_, _, f1⟩
theorem repC_set {w : World} {ν : Env} {sz : Nat} : ∀ {xs : List PV} {us : List Value} {i : Nat} {q q' : PV} {u' : Value}, repC w ν sz xs us → xs[i]? = some q → rep w ν q' u' → u'.cells.size = sz → (∀ c ∈ u'.cells.toList, c.oneCell' = true) → repC w ν sz (xs.set i q') (us.take (i * sz) ++ u'.cells.toList ++ us.drop (i * sz + sz))
  | [], _, _, _, _, _, _, hq, _, _, _ => by simp at hq
  | x :: xs, us, 0, q, q', u', h, hq, hr, hs, ho => by
    simp only [repC] at h
    obtain ⟨u, us', rfl, ⟨h1, h2, h3⟩, h5⟩ := h
    have hl : u.cells.toList.length = sz := by simpa using h2
    simp only [List.set_cons_zero, repC]
    refine ⟨u', us', ?_, ⟨hr, hs, ho⟩, h5⟩
    simp [← hl]
  | x :: xs, us, i + 1, q, q', u', h, hq, hr, hs, ho => by
    simp only [repC] at h
    obtain ⟨u, us', rfl, ⟨h1, h2, h3⟩, h5⟩ := h
    have hl : u.cells.toList.length = sz := by simpa using h2
    have ih := repC_set h5 (by simpa using hq) hr hs ho
    simp only [List.set_cons_succ, repC]
    refine ⟨u, _, ?_, ⟨h1, h2, h3⟩, ih⟩
    have e : (i + 1) * sz + sz = u.cells.toList.length + (i * sz + sz) := by rw [hl, Nat.succ_mul]; omega
    rw [take_app _ _ _ _ hl, e, ← List.drop_drop]
    simp
theorem rowPut_rep {w : World} {ν : Env} {q : PV} {v : Value} (hq : rep w ν q v) (hs : solid q = true) {cs : List PV} {us : List Value} (hc : repL w ν cs us) {f : Nat} (hf : f + us.length ≤ v.cells.size) (hne : us ≠ []) :
    ∃ v', rep w ν (rowPut q f cs) v' ∧ v'.cells.toList = v.cells.toList.take f ++ us ++ v.cells.toList.drop (f + us.length) ∧ v'.cells.size = v.cells.size ∧ ∀ c ∈ v'.cells.toList, c.oneCell' = true := by
  have hlen := repL_length hc
  have hall := rep_cells hq hs
  by_cases ha : ∃ ds, q = .agg ds
  · obtain ⟨ds, rfl⟩ := ha
    simp only [rep] at hq
    obtain ⟨vs, rfl, hvs⟩ := hq
    simp only [Value.cells] at hf ⊢
    have hnew : repL w ν (splice ds f cs) (vs.toList.take f ++ us ++ vs.toList.drop (f + us.length)) := by
      unfold splice; rw [hlen]
      exact repL_append (repL_append (repL_take f hvs) hc) (repL_drop _ hvs)
    refine ⟨.agg (vs.toList.take f ++ us ++ vs.toList.drop (f + us.length)).toArray, by simp only [rowPut, rep]; exact ⟨_, rfl, by simpa using hnew⟩, by simp [Value.cells], ?_, fun c hc' => ?_⟩
    · simp [Value.cells]; omega
    · exact repL_one hnew c (by simpa [Value.cells] using hc')
  · have ha' : ∀ cs, q ≠ .agg cs := fun cs e => ha ⟨cs, e⟩
    obtain ⟨h1, h2⟩ := rep_one hq hs ha'
    rw [h2] at hf ⊢
    match us, hne, hc with
    | u :: us', _, hc =>
      simp at hf
      obtain ⟨rfl, rfl⟩ : f = 0 ∧ us' = [] := ⟨by omega, List.length_eq_zero_iff.1 (by omega)⟩
      match cs, hc, hlen with
      | [c], hc, _ =>
        simp only [repL] at hc
        obtain ⟨u0, us0, e1, ⟨hcu, hco⟩, _⟩ := hc
        cases e1
        have hu : u.cells = #[u] := by cases u <;> first | rfl | cases hco
        have hrp : rowPut q 0 [c] = c := by cases q <;> first | rfl | exact absurd rfl (ha' _)
        rw [hrp]
        refine ⟨u, hcu, by simp [hu], by simp [hu], fun c hc' => ?_⟩
        rw [hu] at hc'; simp at hc'; subst hc'; exact hco
theorem splice_take {α : Type} (A us : List α) (a f sz N : Nat) (h1 : f + us.length ≤ sz) (h2 : a + sz ≤ N) (h3 : N ≤ A.length) :
    ((A.take (a + f) ++ us ++ A.drop (a + f + us.length)).toArray.toList).take N = (A.take N).take a ++ ((((A.take N).drop a).take sz).take f ++ us ++ (((A.take N).drop a).take sz).drop (f + us.length)) ++ (A.take N).drop (a + sz) := by
  have e1 : (A.take N).take a ++ (((A.take N).drop a).take sz).take f = A.take (a + f) := by
    rw [List.take_take (i := f), Nat.min_eq_left (show f ≤ sz by omega), ← List.take_add, List.take_take, Nat.min_eq_left (by omega)]
  have e2 : (((A.take N).drop a).take sz).drop (f + us.length) ++ (A.take N).drop (a + sz) = (A.take N).drop (a + f + us.length) := by
    have hl : f + us.length ≤ (((A.take N).drop a).take sz).length := by simp; omega
    have e0 : (A.take N).drop (a + sz) = ((A.take N).drop a).drop sz := by rw [List.drop_drop]
    rw [e0, ← List.drop_append_of_le_length hl, List.take_append_drop, List.drop_drop]
    congr 1; omega
  have e3 : (A.take N).drop (a + f + us.length) = (A.drop (a + f + us.length)).take (N - (a + f + us.length)) := by rw [List.drop_take]
  have hl : (A.take (a + f) ++ us).length = a + f + us.length := by simp; omega
  simp only [List.append_assoc] at *
  rw [e2, e3, ← List.append_assoc (List.take a _), e1]
  have hN : N = (A.take (a + f) ++ us).length + (N - (a + f + us.length)) := by rw [hl]; omega
  rw [← List.append_assoc, ← List.append_assoc]
  conv => lhs; rw [hN, List.take_length_add_append]
theorem Rel.storeRow {P : Program} {C : Ctx} {st : St} {a : Act} {w : World} {ν : Env} (h : Rel C st a w ν) {k : Key} {n el sz : Nat} {xs : List PV} (hk : look k st.e = some ⟨n, el, sz, some xs⟩) {i f : Nat} {u : Value} (hx : rep w ν (.rptr sz k n i f) u) {q : PV} (hq : xs[i]? = some q) (hs : solid q = true)
    {cs : List PV} {us : List Value} (hc : repL w ν cs us) (hf : f + us.length ≤ (cells q).length) (hne : us ≠ []) :
    ∃ bl off cur', u = .pointer (some ⟨bl, off, none⟩) ∧ (storeCells ⟨bl, off, none⟩ us).run P w = .ok () (w.setRow bl cur') ∧ ∃ ν', Rel C { st with e := upd k ⟨n, el, sz, some (xs.set i (rowPut q f cs))⟩ st.e } a (w.setRow bl cur') ν' := by
  simp only [rep] at hx
  obtain ⟨_, hi, n', u', h1, h2, h3⟩ := hx
  obtain ⟨v, us0, q1, q2, q3, q4⟩ := h.good.own k _ hk
  rw [h1] at q1
  simp only [Option.some.injEq, Prod.mk.injEq] at q1
  obtain ⟨rfl, rfl⟩ := q1
  obtain ⟨bl, hb, rfl⟩ := h3 rfl
  obtain ⟨q5, q6, q7⟩ := q4 xs rfl
  simp only at q5 q6
  obtain ⟨v, r1, r2, r3⟩ := repC_get i q6 hq
  have hcl := repL_length (rep_cells r1 hs)
  have hqs : (cells q).length = sz := by rw [← hcl]; simpa using r2
  have hfs : f + us.length ≤ sz := by rw [← hqs]; exact hf
  have hmul : i * sz + sz ≤ n' * sz := by
    have := Nat.mul_le_mul_right sz (show i + 1 ≤ n' from hi)
    rwa [Nat.succ_mul] at this
  rcases q2.2 with ⟨e1, e2⟩ | ⟨g, cap, cur, rfl, hb0, hheap, hnc, hcm, hcs, htake⟩
  · rw [e1] at hb; simp [Value.ownBlock] at hb
  simp only [Value.ownBlock, Option.some.injEq] at hb
  subst hb
  simp only at htake hcs hnc hheap
  have hcap : n' * sz ≤ cur.size := by rw [hcs]; exact Nat.mul_le_mul_right sz hnc
  have hst := run_storeCells_at P g (i * sz + f) el us 0 cur w hheap (by omega) (repL_one hc)
  simp only [Nat.add_zero] at hst
  refine ⟨g, i * sz + f, _, rfl, hst, ?_⟩
  generalize hcur : (cur.toList.take (i * sz + f) ++ us ++ cur.toList.drop (i * sz + f + us.length)).toArray = cur'
  obtain ⟨v', p1, p2, p3, p4⟩ := rowPut_rep r1 hs hc (f := f) (by rw [r2]; exact hfs) hne
  have hrep := repC_set q6 hq p1 (by rw [p3, r2]) p4
  have hlen : us0.length = n' * sz := q2.1
  have hnewT : cur'.toList.take (n' * sz) = us0.take (i * sz) ++ v'.cells.toList ++ us0.drop (i * sz + sz) := by
    rw [← hcur, p2, r3, ← htake]
    exact splice_take cur.toList us (i * sz) f sz (n' * sz) hfs hmul (by simpa using hcap)
  have hcs' : cur'.size = cap * sz := by
    rw [← hcur, ← hcs]; simp; omega
  have hlen2 : (xs.set i (rowPut q f cs)).length = n' := by simp [q5]
  obtain ⟨p5, _, _⟩ := h.setRowM (w' := w.setRow g cur') hk rfl h1 (bl := g) rfl (v' := .slice (some ⟨g, 0, none⟩) n' cap) rfl (xs' := xs.set i (rowPut q f cs)) (us := us0.take (i * sz) ++ v'.cells.toList ++ us0.drop (i * sz + sz)) (.inl ⟨by simp [q5], rfl⟩) rfl rfl rfl (fun j hj => setRow_other w g j cur' hj) (setRow_size w g cur')
    ⟨by rw [repC_length hrep], .inr ⟨g, cap, cur', by simp [q5], Nat.zero_le _, setRow_heap w g cur cur' el _ hheap, by simpa [q5] using hnc, hcm, hcs', by simpa [q5] using hnewT⟩⟩ hrep
  exact ⟨_, by simpa [q5] using p5⟩


set_option maxHeartbeats 1000000 in
theorem sIk_sound {P : Program} {tys : List (Nat × TF)} (ht : tysOk P tys = true) {C : Ctx} {st st' : St} {a : Act} {w : World} {ν : Env} (hr : Rel C st a w ν) {i : Ins} {o : Oper} (ho : sOk C.N tys i o = true)
    {κ : Key} {n' : Nat} {o₁ : List Key} (hfresh : i.makes st = true → fresh st.n st.o κ) (hno : i.makes st = true → ∀ j, fresh n' o₁ j → fresh st.n st.o j ∧ j ≠ κ) {c : Prop} (he : sIk κ n' o₁ st i = some (c, st')) (hc : c) {K : Act → World → Prop} {Q : Exit → Act → World → Prop} (hK : ∀ a' w' ν', Rel C st' a' w' ν' → K a' w') : o.wp P a w K Q := by
  obtain ⟨dst, op, type, pos, after, guard⟩ := o
  unfold sOk at ho
  dsimp only at ho
  split at ho
  · rename_i d key t
    simp only [Bool.and_eq_true, beq_iff_eq, decide_eq_true_eq] at ho
    obtain ⟨rfl, h2⟩ := ho
    simp only [sIk] at he
    cases he
    obtain ⟨g1, g2⟩ := hr.newBox (hr.new _ (hfresh rfl)) (hno rfl) (cs := [.hdm 0 []]) (us := #[]) 0 (by simp only [repB]; exact ⟨by simp [repT], ⟨rfl, by simp, by simp⟩⟩)
    refine wp_value (v := .map (some w.heap.size)) (w' := w.alloc (.map #[] 0)) ?_ (hK _ _ _ (g1.put (d := some d) (by simpa [dstOk] using h2) (p := .gmap κ) ?_))
    · simp only [execOp, Instr.makeMap, Option.map_none, Sem.run_bind, run_newObj, Result.andThen_ok, Sem.run_pure]; rfl
    · simp [rep, Env.withBox]
  · rename_i ks x k v t o1 o2 o3
    simp only [Bool.and_eq_true, beq_iff_eq] at ho
    obtain ⟨⟨⟨⟨rfl, h1⟩, h2⟩, h3⟩, h4⟩ := ho
    have rx := opOk_rep hr h2
    have rk := opOk_rep hr h3
    have rv := opOk_rep hr h4
    split at h1
    · rename_i sz by' kt et z hf
      obtain ⟨dd, hu, hdk⟩ := tf_und ht hf
      have hdd : dd = .map kt et := by
        cases dd <;> simp [dOk] at hdk
        obtain ⟨rfl, rfl⟩ := hdk; rfl
      subst hdd
      have hkd : ∃ dk, P.underlying kt = some dk ∧ ((ks = false ∧ ∃ k, dk = .int k) ∨ (ks = true ∧ dk = .string)) := by
        unfold keyTy at h1
        split at h1
        · rename_i f' hf'
          obtain ⟨dk, hu', hd'⟩ := tf_und ht hf'
          obtain rfl := dOk_int hd'
          exact ⟨_, hu', .inl ⟨by simpa using h1, _, rfl⟩⟩
        · rename_i f' hf'
          obtain ⟨dk, hu', hd'⟩ := tf_und ht hf'
          obtain rfl := dOk_str hd'
          exact ⟨_, hu', .inr ⟨h1, rfl⟩⟩
        · cases h1
      obtain ⟨dk, hukt, hcase⟩ := hkd
      simp only [sIk] at he
      split at he
      · rename_i m hx
        rw [hx] at rx
        simp only [rep] at rx
        obtain ⟨bl, b1, b2⟩ := rx
        split at he
        · rename_i cs hcs
          split at he
          · rename_i cs' hm
            cases he
            obtain ⟨bl', us, el, q1, q2, q3, q4, q5⟩ := hr.good.box m cs hcs
            rw [b1] at q1; cases q1
            unfold mputV at hm
            split at hm
            · rename_i clock borns kvs
              simp only [objFrom] at q4
              simp only [repB] at q5
              have hget := run_getObj' (P := P) q4
              have hck := run_checkKey (P := P) (w := w) hukt (by rcases hcase with ⟨_, h⟩ | ⟨_, h⟩; exact .inl h; exact .inr h) false (a.eval o2)
              have hlt : bl < w.heap.size := (Array.getElem?_eq_some_iff.1 q4).1
              have hfin : ∀ (o' : Obj) (us' : Array Value) (ds : List PV), (Instr.mapUpdate t (a.eval o1) (a.eval o2) (a.eval o3)).run P w = .ok () { w with heap := w.heap.setIfInBounds bl o' } → objFrom ds us' el = o' → repB w ν ds us'.toList → some ds = some cs' →
                  (⟨none, .mapUpdate t o1 o2 o3, type, pos, after, guard⟩ : Oper).wp P a w K Q := by
                intro o' us' ds hrun hobj hrep hds
                cases hds
                refine wp_skip' (w' := { w with heap := w.heap.setIfInBounds bl o' }) ?_ (hK _ _ _ (hr.setBox (w' := { w with heap := w.heap.setIfInBounds bl o' }) hcs b1 (us := us') (el := el) rfl rfl rfl (fun j hj => ?_) (by simp) ?_ hrep).1)
                · simp only [execOp, hrun, Sem.run_bind, Result.andThen_ok, Sem.run_pure]
                · exact Array.getElem?_setIfInBounds_ne (Ne.symm hj)
                · rw [hobj]; simp [hlt]
              split at hm
              · rename_i kvs' hms
                obtain ⟨j, u, us', e, f1, f2, f3, f4, f5, f6, f7⟩ := mset_sound hcase rk rv borns kvs us.toList 0 _ q5.1 q5.2.len hms
                refine hfin (.map (ents borns us').toArray clock) us'.toArray (.hdm clock borns :: kvs') ?_ (by simp [objFrom]) (by simp only [repB]; exact ⟨by simpa using f2, ⟨by rw [f3]; exact q5.2.len, q5.2.inc, q5.2.lt⟩⟩) hm
                have hstay : (Instr.keyThatStays (((ents borns us.toList).toArray[j]?.map (·.key)).getD (a.eval o2)) (a.eval o2)).run P w = .ok (a.eval o2) w := by
                  have : ((ents borns us.toList).toArray[j]?.map (·.key)).getD (a.eval o2) = e.key := by simp [f4]
                  rw [this]
                  simp [Instr.keyThatStays, f6]
                simp only [Nat.zero_add] at f1
                simp only [Instr.mapUpdate, Sem.run_bind, run_underlying hu, Result.andThen_ok, b2, hget, hck, Instr.findKey, run_underlying hukt, f1, Sem.run_pure, hstay, run_setObj' q4]
                rw [f7]
                simp
              · rename_i hms
                have f1 := mset_sound hcase rk rv borns kvs us.toList 0 _ q5.1 q5.2.len hms
                simp only at f1
                have hul : us.toList.length = 2 * borns.length := by rw [repT_len q5.1, q5.2.len]
                refine hfin (.map ((ents borns us.toList).toArray.push ⟨a.eval o2, a.eval o3, clock⟩) (clock + 1)) (us.toList ++ [a.eval o2, a.eval o3]).toArray (.hdm (clock + 1) (borns ++ [clock]) :: (kvs ++ [evalO st.t k, evalO st.t v])) ?_ (by simp only [objFrom, ents_append borns us.toList clock _ _ hul]; simp) ?_ hm
                · simp only [Instr.mapUpdate, Sem.run_bind, run_underlying hu, Result.andThen_ok, b2, hget, hck, Instr.findKey, run_underlying hukt, f1, Sem.run_pure, run_setObj' q4]
                · simp only [repB]
                  refine ⟨repT_append' q5.1 (by simp only [repT]; exact ⟨_, _, rfl, rk, _, _, rfl, rv, rfl⟩), ⟨by simp [q5.2.len]; omega, ?_, ?_⟩⟩
                  · rw [List.pairwise_append]
                    exact ⟨q5.2.inc, by simp, fun x hx y hy => by simp at hy; subst hy; exact q5.2.lt x hx⟩
                  · intro b hb
                    rcases List.mem_append.1 hb with hb | hb
                    · have := q5.2.lt b hb; omega
                    · simp at hb; omega
              · cases hm
            · cases hm
          · cases he
        · cases he
      · cases he
    · cases h1
  · rename_i ks x k v t o1 o2 o3
    simp only [Bool.and_eq_true, beq_iff_eq] at ho
    obtain ⟨⟨⟨⟨rfl, h1⟩, h2⟩, h3⟩, h4⟩ := ho
    have rx := opOk_rep hr h2
    have rk := opOk_rep hr h3
    have rv := opOk_rep hr h4
    split at h1
    · rename_i sz by' kt et z hf
      obtain ⟨dd, hu, hdk⟩ := tf_und ht hf
      have hdd : dd = .map kt et := by
        cases dd <;> simp [dOk] at hdk
        obtain ⟨rfl, rfl⟩ := hdk; rfl
      subst hdd
      have hkd : ∃ dk, P.underlying kt = some dk ∧ ((ks = false ∧ ∃ k, dk = .int k) ∨ (ks = true ∧ dk = .string)) := by
        unfold keyTy at h1
        split at h1
        · rename_i f' hf'
          obtain ⟨dk, hu', hd'⟩ := tf_und ht hf'
          obtain rfl := dOk_int hd'
          exact ⟨_, hu', .inl ⟨by simpa using h1, _, rfl⟩⟩
        · rename_i f' hf'
          obtain ⟨dk, hu', hd'⟩ := tf_und ht hf'
          obtain rfl := dOk_str hd'
          exact ⟨_, hu', .inr ⟨h1, rfl⟩⟩
        · cases h1
      obtain ⟨dk, hukt, hcase⟩ := hkd
      simp only [sIk] at he
      split at he
      · rename_i m hx
        rw [hx] at rx
        simp only [rep] at rx
        obtain ⟨bl, b1, b2⟩ := rx
        split at he
        · rename_i cs hcs
          split at he
          · rename_i cs' hm
            cases he
            obtain ⟨bl', us, el, q1, q2, q3, q4, q5⟩ := hr.good.box m cs hcs
            rw [b1] at q1; cases q1
            unfold mputV at hm
            split at hm
            · rename_i clock borns kvs
              simp only [objFrom] at q4
              simp only [repB] at q5
              have hget := run_getObj' (P := P) q4
              have hck := run_checkKey (P := P) (w := w) hukt (by rcases hcase with ⟨_, h⟩ | ⟨_, h⟩; exact .inl h; exact .inr h) false (a.eval o2)
              have hlt : bl < w.heap.size := (Array.getElem?_eq_some_iff.1 q4).1
              have hfin : ∀ (o' : Obj) (us' : Array Value) (ds : List PV), (Instr.mapUpdate t (a.eval o1) (a.eval o2) (a.eval o3)).run P w = .ok () { w with heap := w.heap.setIfInBounds bl o' } → objFrom ds us' el = o' → repB w ν ds us'.toList → some ds = some cs' →
                  (⟨none, .mapUpdate t o1 o2 o3, type, pos, after, guard⟩ : Oper).wp P a w K Q := by
                intro o' us' ds hrun hobj hrep hds
                cases hds
                refine wp_skip' (w' := { w with heap := w.heap.setIfInBounds bl o' }) ?_ (hK _ _ _ (hr.setBox (w' := { w with heap := w.heap.setIfInBounds bl o' }) hcs b1 (us := us') (el := el) rfl rfl rfl (fun j hj => ?_) (by simp) ?_ hrep).1)
                · simp only [execOp, hrun, Sem.run_bind, Result.andThen_ok, Sem.run_pure]
                · exact Array.getElem?_setIfInBounds_ne (Ne.symm hj)
                · rw [hobj]; simp [hlt]
              split at hm
              · rename_i kvs' hms
                obtain ⟨j, u, us', e, f1, f2, f3, f4, f5, f6, f7⟩ := mset_sound hcase rk rv borns kvs us.toList 0 _ q5.1 q5.2.len hms
                refine hfin (.map (ents borns us').toArray clock) us'.toArray (.hdm clock borns :: kvs') ?_ (by simp [objFrom]) (by simp only [repB]; exact ⟨by simpa using f2, ⟨by rw [f3]; exact q5.2.len, q5.2.inc, q5.2.lt⟩⟩) hm
                have hstay : (Instr.keyThatStays (((ents borns us.toList).toArray[j]?.map (·.key)).getD (a.eval o2)) (a.eval o2)).run P w = .ok (a.eval o2) w := by
                  have : ((ents borns us.toList).toArray[j]?.map (·.key)).getD (a.eval o2) = e.key := by simp [f4]
                  rw [this]
                  simp [Instr.keyThatStays, f6]
                simp only [Nat.zero_add] at f1
                simp only [Instr.mapUpdate, Sem.run_bind, run_underlying hu, Result.andThen_ok, b2, hget, hck, Instr.findKey, run_underlying hukt, f1, Sem.run_pure, hstay, run_setObj' q4]
                rw [f7]
                simp
              · rename_i hms
                have f1 := mset_sound hcase rk rv borns kvs us.toList 0 _ q5.1 q5.2.len hms
                simp only at f1
                have hul : us.toList.length = 2 * borns.length := by rw [repT_len q5.1, q5.2.len]
                refine hfin (.map ((ents borns us.toList).toArray.push ⟨a.eval o2, a.eval o3, clock⟩) (clock + 1)) (us.toList ++ [a.eval o2, a.eval o3]).toArray (.hdm (clock + 1) (borns ++ [clock]) :: (kvs ++ [evalO st.t k, evalO st.t v])) ?_ (by simp only [objFrom, ents_append borns us.toList clock _ _ hul]; simp) ?_ hm
                · simp only [Instr.mapUpdate, Sem.run_bind, run_underlying hu, Result.andThen_ok, b2, hget, hck, Instr.findKey, run_underlying hukt, f1, Sem.run_pure, run_setObj' q4]
                · simp only [repB]
                  refine ⟨repT_append' q5.1 (by simp only [repT]; exact ⟨_, _, rfl, rk, _, _, rfl, rv, rfl⟩), ⟨by simp [q5.2.len]; omega, ?_, ?_⟩⟩
                  · rw [List.pairwise_append]
                    exact ⟨q5.2.inc, by simp, fun x hx y hy => by simp at hy; subst hy; exact q5.2.lt x hx⟩
                  · intro b hb
                    rcases List.mem_append.1 hb with hb | hb
                    · have := q5.2.lt b hb; omega
                    · simp at hb; omega
              · cases hm
            · cases hm
          · cases he
        · cases he
      · cases he
    · cases h1
  · rename_i d key x t o1
    simp only [Bool.and_eq_true, beq_iff_eq, decide_eq_true_eq] at ho
    obtain ⟨⟨⟨rfl, h2⟩, h1⟩, h3⟩ := ho
    have rx := opOk_rep hr h3
    split at h1
    · rename_i sz by' kt et z hf
      obtain ⟨dd, hu, hdk⟩ := tf_und ht hf
      have hdd : dd = .map kt et := by
        cases dd <;> simp [dOk] at hdk
        obtain ⟨rfl, rfl⟩ := hdk; rfl
      subst hdd
      simp only [sIk] at he
      split at he
      · rename_i m hx
        rw [hx] at rx
        have rx' := rx
        simp only [rep] at rx
        obtain ⟨bl, b1, b2⟩ := rx
        split at he
        · rename_i cs hcs
          split at he
          · rename_i cs' hm
            cases he
            obtain ⟨bl', us, el, q1, q2, q3, q4, q5⟩ := hr.good.box m cs hcs
            rw [b1] at q1; cases q1
            unfold rangeV at hm
            split at hm
            · rename_i clock borns kvs
              cases hm
              simp only [objFrom] at q4
              have hget := run_getObj' (P := P) q4
              obtain ⟨g1, g2⟩ := hr.newBox (hr.new _ (hfresh rfl)) (hno rfl) (cs := [.hdi clock [] clock, .gmap m]) (us := #[a.eval o1]) 0 (by simp only [repB, repT]; exact ⟨_, _, rfl, rx', rfl⟩)
              have hobj : objFrom [.hdi clock [] clock, .gmap m] #[a.eval o1] 0 = .mapIter (some bl) clock #[] clock := by simp [objFrom, b2]
              rw [hobj] at g1 g2
              refine wp_value (v := .pointer (some ⟨w.heap.size, 0, none⟩)) (w' := w.alloc (.mapIter (some bl) clock #[] clock)) ?_ (hK _ _ _ (g1.put (d := some d) (by simpa [dstOk] using h2) (p := .ptr κ 0) g2))
              · simp only [execOp]
                refine val_ok_w ?_
                simp only [Instr.range, Sem.run_bind, run_underlying hu, Result.andThen_ok, b2, hget, Sem.run_pure, run_newObj]
                rfl
            · cases hm
          · cases he
        · cases he
      · cases he
    · cases h1
  · rename_i d vi
    simp only [Bool.and_eq_true, beq_iff_eq, decide_eq_true_eq] at ho
    obtain ⟨⟨h1, h2⟩, h3⟩ := ho
    subst h1
    simp only [sIk] at he
    split at he
    · rename_i c' p hv
      cases he
      obtain ⟨v, g1, g2⟩ := vI_sound (o := ⟨some d, op, type, pos, after, guard⟩) ht hr h3 hv hc
      refine wp_value g1 (hK _ _ ν ?_)
      exact hr.put (d := some d) (by simpa [dstOk] using h2) g2
    · cases he
  · rename_i d key x el o'
    simp only [Bool.and_eq_true, beq_iff_eq, decide_eq_true_eq] at ho
    obtain ⟨⟨h1, h2⟩, h3⟩ := ho
    subst h1
    simp only [sIk] at he
    cases he
    have hx := opOk_rep hr h3
    have hcx := rep_cells hx hc
    obtain ⟨g1, g2⟩ := hr.newBox (hr.new _ (hfresh rfl)) (hno rfl) el (by rw [plain_repB (repL_plain hcx)]; exact hcx)
    rw [plain_obj (repL_plain hcx)] at g1 g2
    refine wp_value (v := .pointer (some ⟨w.heap.size, 0, none⟩)) (w' := w.alloc (.cells (a.eval o').cells el)) ?_ (hK _ _ _ (g1.put (d := some d) (by simpa [dstOk] using h2) (p := .ptr κ 0) ?_))
    · simp only [execOp, Instr.box, newVar, newRow, Sem.run_bind, run_newObj, Result.andThen_ok, Sem.run_pure]; rfl
    · simpa only [rep] using g2
  · rename_i d key z el
    simp only [Bool.and_eq_true, beq_iff_eq, decide_eq_true_eq] at ho
    obtain ⟨⟨h1, h2⟩, h3⟩ := ho
    subst h1
    simp only [sIk] at he
    cases he
    split at h3
    · rename_i f hf
      have hz := zeroEq_eq h3
      obtain ⟨zv, z1, z2, z3⟩ := tf_zero ht hf w
      rw [← hz] at z2
      obtain ⟨_, hcx⟩ := zOk_rep w ν z2
      obtain ⟨g1, g2⟩ := hr.newBox (hr.new _ (hfresh rfl)) (hno rfl) el (by rw [plain_repB (repL_plain hcx)]; exact hcx)
      rw [plain_obj (repL_plain hcx)] at g1 g2
      refine wp_value (v := .pointer (some ⟨w.heap.size, 0, none⟩)) (w' := w.alloc (.cells zv.cells el)) ?_ (hK _ _ _ (g1.put (d := some d) (by simpa [dstOk] using h2) (p := .ptr κ 0) ?_))
      · simp only [execOp, Instr.alloc, newVar, newRow, Sem.run_bind, z1, run_newObj, Result.andThen_ok, Sem.run_pure]; rfl
      · simpa only [rep] using g2
    · cases h3
  · rename_i sz x y t o' o''
    simp only [Bool.and_eq_true, beq_iff_eq] at ho
    obtain ⟨⟨⟨h1, h2⟩, h3⟩, h4⟩ := ho
    subst h1
    split at h2
    · rename_i f hf
      simp only [beq_iff_eq] at h2
      simp only [sIk] at he
      split at he
      · rename_i k off hx
        split at he
        · rename_i cs hcs
          cases he
          obtain ⟨c0, c1, c2, c3⟩ := hc
          have rx := opOk_rep hr h3
          rw [hx] at rx
          simp only [rep] at rx
          obtain ⟨bl, b1, b2⟩ := rx
          have ry := opOk_rep hr h4
          have rcy := rep_cells ry c1
          have rl := repL_length rcy
          obtain ⟨bl', us, el, q1, q2, q3, q4, q5⟩ := hr.good.box k cs hcs
          rw [b1] at q1; cases q1
          rw [plain_obj c0] at q4
          rw [plain_repB c0] at q5
          have ql := repL_length q5
          obtain ⟨_, hsz⟩ := tf_load ht hf w
          have hyl : (a.eval o'').cells.size = sz := by
            rw [c2] at rl; simpa using rl
          have hst := run_storeCells_at (P := P) bl off el (a.eval o'').cells.toList 0 us w q4 (by simp at ql ⊢; omega) (repL_one rcy)
          simp only [Nat.add_zero] at hst
          refine wp_skip' (w' := w.setRow bl (us.toList.take off ++ (a.eval o'').cells.toList ++ us.toList.drop (off + (a.eval o'').cells.toList.length)).toArray) ?_ (hK _ _ _ (hr.storeBox hcs b1 c0 ?_))
          · simp only [execOp, Instr.storeAt, b2, Instr.sureAddr, storeVar, Sem.run_bind, Sem.run_pure, Result.andThen_ok, hsz, hyl, h2, ne_eq, not_true_eq_false, if_false, hst]
          · simp only [splice]
            rw [rl]
            exact repL_append (repL_append (repL_take off q5) rcy) (repL_drop _ q5)
        · cases he
      · rename_i hx
        generalize hpx : evalO st.t x = px at he
        unfold storeR at he
        split at he
        · rename_i sz' k n i fo
          split at he
          · rename_i n' el sz'' xs hk
            split at he
            · rename_i hnn
              obtain ⟨rfl, rfl⟩ := hnn
              split at he
              · rename_i q hq
                cases he
                obtain ⟨c0, c1, c2, c3, c4⟩ := hc
                have rx := opOk_rep hr h3
                rw [hpx] at rx
                have ry := opOk_rep hr h4
                have rcy := rep_cells ry c1
                have rl := repL_length rcy
                obtain ⟨_, hsz⟩ := tf_load ht hf w
                have hyl : (a.eval o'').cells.size = sz := by
                  rw [c2] at rl; simpa using rl
                obtain ⟨bl, off, cur', hptr, hst, ν', hrel⟩ := hr.storeRow (P := P) hk rx hq c0 rcy (by simpa [hyl] using c3) (fun e => by have := congrArg List.length e; simp [hyl] at this; omega)
                refine wp_skip' (w' := w.setRow bl cur') ?_ (hK _ _ _ hrel)
                simp only [execOp, Instr.storeAt, hptr, Instr.sureAddr, storeVar, Sem.run_bind, Sem.run_pure, Result.andThen_ok, hsz, hyl, h2, ne_eq, not_true_eq_false, if_false, hst]
              · cases he
            · cases he
          · cases he
        · cases he
    · cases h2
  · rename_i d sz el xs t len parts
    simp only [Bool.and_eq_true, beq_iff_eq, decide_eq_true_eq] at ho
    obtain ⟨⟨⟨⟨⟨⟨h1, h2⟩, h3⟩, h4⟩, h5⟩, h6⟩, h7⟩ := ho
    subst h1
    subst h5
    split at h3
    · rename_i el' hf
      simp only [beq_iff_eq] at h3
      subst h3
      split at h4
      · rename_i g hg
        simp only [Bool.and_eq_true, beq_iff_eq, decide_eq_true_eq] at h4
        obtain ⟨rfl, hpos⟩ := h4
        simp only [sIk] at he
        cases he
        obtain ⟨us, g1, g2, g3⟩ := run_buildSlice ht hr hf rfl hg h7 hc h6
        have hown : (w.alloc (.cells us el)).ownsRow w.heap.size el g.size (.slice (some ⟨w.heap.size, 0, none⟩) xs.length xs.length) (xs.map (evalO st.t)).length us.toList := by
          refine ⟨by simp [g3], .inr ⟨w.heap.size, xs.length, us, by simp, Nat.le_refl _, heap_alloc_new w _, by simp, ?_, g3, ?_⟩⟩
          · simp only [maxLen]
            have : xs.length ≤ xs.length * g.size := Nat.le_mul_of_pos_right _ hpos
            omega
          · rw [List.take_of_length_le]; simp [g3]
        obtain ⟨r1, r2⟩ := hr.newRow (k := κ) (xs := xs.map (evalO st.t)) (.inl (hr.new _ (hfresh rfl))) (World.grownBy_alloc w _ none) hown g2
          (by have : xs.length ≤ xs.length * g.size := Nat.le_mul_of_pos_right _ hpos; simp only [lim, List.length_map]; omega) (hno rfl)
        simp only [List.length_map] at r1 r2
        refine wp_value (v := .slice (some ⟨w.heap.size, 0, none⟩) xs.length xs.length) (w' := w.alloc (.cells us el)) ?_ (hK _ _ _ (r1.put (d := some d) (by simpa [dstOk] using h2) (p := .slice g.size (.own κ) (xs.map (evalO st.t))) r2))
        have hp : (parts.map fun (x : Nat × Operand) => (x.1, a.eval x.2)) = (parts.toList.map fun (x : Nat × Operand) => (x.1, a.eval x.2)).toArray := by
          apply Array.ext'; simp
        simp only [execOp]
        refine val_ok_w ?_
        rw [← g1]
        congr 2
      · cases h4
    · cases h3
  · rename_i d sz el x y o' o'' t t'
    simp only [Bool.and_eq_true, beq_iff_eq, decide_eq_true_eq] at ho
    obtain ⟨⟨⟨⟨⟨⟨h1, h2⟩, h3⟩, h4⟩, h5⟩, h6⟩, h7⟩ := ho
    subst h1
    subst h3
    split at h4
    · rename_i el' hf
      simp only [beq_iff_eq] at h4
      subst h4
      split at h5
      · rename_i g hg
        simp only [Bool.and_eq_true, beq_iff_eq, decide_eq_true_eq] at h5
        obtain ⟨⟨rfl, hpos⟩, hby⟩ := h5
        have rx := opOk_rep hr h6
        have ry := opOk_rep hr h7
        have hexec : ∀ v' w', (Builtin.append_ #[t, t] type #[a.eval o', a.eval o'']).run P w = .ok v' w' → (execOp a.eval ⟨some d, .call ⟨.builtin .append, ⟨[o', o'']⟩, ⟨[t, t]⟩⟩, type, pos, after, guard⟩).run P w = .ok (.value v') w' := by
          intro v' w' hrun
          simp only [execOp, resolve, invoke, builtin, Sem.run_bind, Sem.run_pure, Result.andThen_ok, List.map_toArray, List.map_cons, List.map_nil]
          rw [hrun]; rfl
        obtain ⟨ti, d', z, e1, e2, e3, e4, e5, e6, e7, e8⟩ := (tyIs ht hg).ex
        obtain ⟨ds, hds, hdk⟩ := tf_und ht hf
        obtain rfl := dOk_slice hdk
        simp only [sIk] at he
        split at he
        · rename_i sz' tag xs sz'' tag' ys hx hy
          split at he
          · rename_i hss
            obtain ⟨rfl, hss⟩ := hss
            subst hss
            rw [hx] at rx
            rw [hy] at ry
            simp only [rep] at rx ry
            obtain ⟨⟨ax, cx, vx, cx1, ⟨cx2, cx3⟩, cx4⟩, rxn, rxo⟩ := rx
            obtain ⟨⟨ay, cy, vy, cy1, ⟨cy2, cy3⟩, cy4⟩, _⟩ := ry
            split at he
            · rename_i k
              split at he
              · rename_i ow hk
                cases he
                obtain ⟨c1, c2, c3, c4⟩ := hc
                subst c2
                obtain ⟨n0, u0, r1, r2, r3⟩ := rxo k rfl
                obtain ⟨v0, us0, q1, q2, q3, _⟩ := hr.good.own k ow hk
                rw [r1] at q1
                simp only [Option.some.injEq, Prod.mk.injEq] at q1
                obtain ⟨rfl, rfl⟩ := q1
                have hval : a.eval o' = u0 := r3 c1.symm
                by_cases hys : ys = []
                · subst hys
                  rw [vy, vx] at hexec
                  have hrun := run_append_empty (P := P) (w := w) (ty := type) hds e1 ax xs.length cx cx1 ay cy
                  refine wp_value (hexec _ _ (by simpa using hrun)) (hK _ _ ν ?_)
                  have hst : { st with t := put d (.slice ow.sz (.own k) (xs ++ [])) st.t, e := upd k ⟨xs.length + ([] : List PV).length, ow.el, ow.sz, none⟩ st.e } = ({ st with e := upd k ⟨ow.n, ow.el, ow.sz, none⟩ st.e, t := put d (.slice ow.sz (.own k) xs) st.t } : St) := by simp [c1]
                  rw [← c3, hst]
                  have hr2 := hr.forgetRow hk
                  refine hr2.put (d := some d) (by simpa [dstOk] using h2) (p := .slice ow.sz (.own k) xs) ?_
                  simp only [rep]
                  rw [← c3] at cx4
                  exact ⟨⟨ax, cx, rfl, cx1, ⟨cx2, cx3⟩, cx4⟩, fun e => (by cases e), fun g e => by cases e; exact ⟨_, _, r1, r2, fun e => by rw [← vx]; exact r3 e⟩⟩
                · have hyp : 0 < ys.length := by cases ys <;> simp at hys ⊢
                  rcases cy4 with cy4 | ⟨by', offy, usy, rfl, ly, cy5⟩
                  · exact absurd cy4 hys
                  · have hnl := repC_length cy5
                    have hnews : ∀ j u, usy[j]? = some u → w.cell? ((⟨by', offy, none⟩ : Addr).add j) = some u := fun j u hj => by rw [add_mk]; exact (laid_get ly hj).2
                    have hbytes : (xs.length + ys.length) * ti.bytes ≤ 140737488355328 := by
                      have hb1 : ti.bytes ≤ 2048 := by rw [e4]; exact hby
                      have hb2 : (xs.length + ys.length) * ti.bytes ≤ (xs.length + ys.length) * 2048 := Nat.mul_le_mul_left _ hb1
                      simp only [lim] at c4; omega
                    have hml : xs.length + ys.length ≤ maxLen := by simp only [lim] at c4; simp only [maxLen]; omega
                    rw [vy] at hexec
                    have hus0 : us0.length = ow.n * ow.sz := q2.1
                    have hzs : z.cells.size = ti.size := by rw [e8, e3]
                    have hgrow : (∀ cur, False → cur = (0 : Nat)) → (∃ v' w', (Builtin.append_ #[t, t] type #[a.eval o', .slice (some ⟨by', offy, none⟩) ys.length cy]).run P w = .ok v' w' ∧ w'.ownsRow w.heap.size ow.el ti.size v' (xs.length + ys.length) (us0 ++ usy) ∧ w.grownBy w' none ∧ repC w ν ti.size xs us0) →
                        (⟨some d, .call ⟨.builtin .append, ⟨[o', o'']⟩, ⟨[t, t]⟩⟩, type, pos, after, guard⟩ : Oper).wp P a w K Q := by
                      intro _ hh
                      obtain ⟨v', w', f1, f2, f3, f4⟩ := hh
                      have hcc : repC w ν ti.size (xs ++ ys) (us0 ++ usy) := repC_append f4 (by rw [e3]; exact cy5)
                      obtain ⟨p1, p2⟩ := hr.newRow (k := k) (xs := xs ++ ys) (.inr ⟨ow, hk, by rw [c1]; simp; omega⟩) f3 (by simpa using f2) hcc (by simpa using c4) (n' := st.n) (o' := st.o)
                        (fun j hj => ⟨hj, fun e => by subst e; have := (hr.new _ hj).2; rw [r1] at this; cases this⟩)
                      refine wp_value (hexec _ _ f1) (hK _ _ ((ν.withOwn k (xs ++ ys).length v').withRowOf k v' (xs ++ ys).length ((xs ++ ys).length * ti.size)) ?_)
                      have := p1.put (d := some d) (by simpa [dstOk] using h2) p2
                      simpa [e3, putO] using this
                    rcases q2.2 with ⟨q2a, q2b⟩ | ⟨bl, cap, cur, q2a, q2b, q2c, q2d, q2e, q2f, q2g⟩
                    · -- nil
                      have hx0 : xs = [] := List.eq_nil_of_length_eq_zero (by omega)
                      have hu0 : us0 = [] := List.eq_nil_of_length_eq_zero (by rw [hus0, q2b]; simp)
                      subst hx0; subst hu0
                      refine hgrow (fun _ h => h.elim) ?_
                      obtain ⟨v', w', f1, f2, f3, _⟩ := run_append_own (P := P) w w.heap.size t type ow.el ti z ti.size ti.bytes hds e1 e6 rfl rfl hzs (by rw [e3]; exact hpos) (.slice none 0 0) 0 [] (World.ownsRow_nil w _ _ _)
                        ⟨by', offy, none⟩ ys.length cy usy (by rw [hnl, e3]) hnews (repC_one cy5) (by simpa using hml) (by simpa using hbytes) (Nat.le_refl _)
                      refine ⟨v', w', by rw [hval, q2a]; exact f1, by simpa using f2, by simpa [Value.ownBlock] using f3, by simp [repC]⟩
                    · have hlaid : laid w ν.A bl 0 us0 ∧ repC w ν ti.size xs us0 ∧ True := by
                        rw [hval, q2a] at vx
                        rcases cx4 with cx4 | ⟨bb, oo, uu, f1, f2, f3⟩
                        · subst cx4
                          have : us0 = [] := List.eq_nil_of_length_eq_zero (by rw [hus0, c1]; simp)
                          subst this
                          exact ⟨trivial, by simp [repC], trivial⟩
                        · subst f1
                          injection vx with vx1 vx2 vx3
                          injection vx1 with vx1
                          injection vx1 with vx1 vx4
                          subst vx1; subst vx4
                          have heq : uu = us0 := by
                            apply List.ext_getElem?
                            intro j
                            have hul : uu.length = us0.length := by rw [repC_length f3, hus0, c1, c3]
                            by_cases hj : j < uu.length
                            · have h1 := (laid_get f2 (List.getElem?_eq_getElem hj)).2
                              rw [Nat.zero_add] at h1
                              have h2 := q2.cells (g := bl) (by rw [q2a]; rfl) j us0[j] (List.getElem?_eq_getElem (by omega))
                              rw [add_mk, Nat.zero_add, h1] at h2
                              rw [List.getElem?_eq_getElem hj, List.getElem?_eq_getElem (by omega)]
                              exact h2
                            · rw [List.getElem?_eq_none (by omega), List.getElem?_eq_none (by omega)]
                          subst heq
                          exact ⟨f2, by rw [e3]; exact f3, trivial⟩
                      obtain ⟨hl1, hl2, _⟩ := hlaid
                      by_cases hroom : xs.length + ys.length ≤ cap
                      · have hcursz : cur.size = cap * ow.sz := q2f
                        have hmul : (xs.length + ys.length) * ow.sz ≤ cap * ow.sz := Nat.mul_le_mul_right _ hroom
                        rw [Nat.add_mul] at hmul
                        have f1 := run_append_room (P := P) w t type ow.el ti hds e1 bl xs.length cap cur q2c ⟨by', offy, none⟩ ys.length cy usy (by rw [hnl, e3]) hnews (repC_one cy5) hroom (by rw [hnl, e3, ← c3]; omega)
                        obtain ⟨p1, p2⟩ := hr.inPlace hk (bl := bl) (cap := cap) (cur := cur) (by rw [r1, ← q2a]) q2c q2e q2f (xs := xs) (ys := ys) (us := us0) (ns := usy) c1.symm q2g (by rw [c3, ← e3]; exact hl2) (by rw [c3]; exact cy5) hyp (by rw [c1]; exact hroom) c4
                        refine wp_value (v := .slice (some ⟨bl, 0, none⟩) (ow.n + ys.length) cap) (w' := w.setRow bl (us0 ++ usy ++ cur.toList.drop (ow.n * ow.sz + usy.length)).toArray) (hexec _ _ ?_)
                          (hK _ _ (ν.withRowOf k (.slice (some ⟨bl, 0, none⟩) (ow.n + ys.length) cap) (ow.n + ys.length) ((ow.n + ys.length) * ow.sz)) ?_)
                        · rw [hval, q2a, c1, f1, ← q2g, c1, c3, e3]
                        · have := p1.put (d := some d) (by simpa [dstOk] using h2) p2
                          simpa [c1, c3, putO] using this
                      · refine hgrow (fun _ h => h.elim) ?_
                        obtain ⟨v', w', f1, f2, f3⟩ := run_append_arg_grows (P := P) w t type ow.el ti z ti.size ti.bytes hds e1 e6 rfl rfl hzs (by rw [e3]; exact hpos) ⟨bl, 0, none⟩ xs.length cap us0 (by rw [hus0, c1, c3, e3])
                          (fun j u hj => by rw [add_mk]; exact (laid_get hl1 hj).2) ⟨by', offy, none⟩ ys.length cy usy (by rw [hnl, e3]) hnews (by omega) hml hbytes
                        exact ⟨v', w', by rw [hval, q2a, c1]; exact f1, f2, f3, hl2⟩
              · cases he
            · cases he
              have hnilv := rxn rfl
              have hx0 : xs = [] := by
                rw [hnilv] at vx
                injection vx with _ e2
                exact List.eq_nil_of_length_eq_zero e2.symm
              subst hx0
              have hmk : (Ins.app d g.size el x y).makes st = true := by simp only [Ins.makes, hx]
              have hzs : z.cells.size = ti.size := by rw [e8, e3]
              rw [vy, hnilv] at hexec
              have hfin : ∀ (v' : Value) (w' : World) (usy : List Value), (Builtin.append_ #[t, t] type #[.slice none 0 0, .slice ay ys.length cy]).run P w = .ok v' w' → w'.ownsRow w.heap.size el g.size v' ys.length usy → w.grownBy w' none → repC w ν g.size ys usy →
                  (⟨some d, .call ⟨.builtin .append, ⟨[o', o'']⟩, ⟨[t, t]⟩⟩, type, pos, after, guard⟩ : Oper).wp P a w K Q := by
                intro v' w' usy f1 f2 f3 f4
                obtain ⟨p1, p2⟩ := hr.newRow (k := κ) (xs := ys) (.inl (hr.new _ (hfresh hmk))) f3 f2 f4 hc (hno hmk)
                exact wp_value (hexec _ _ f1) (hK _ _ _ (p1.put (d := some d) (by simpa [dstOk] using h2) p2))
              by_cases hys : ys = []
              · subst hys
                exact hfin _ w [] (run_append_empty hds e1 none 0 0 (Nat.le_refl _) ay cy) (World.ownsRow_nil w _ _ _) (World.grownBy.refl w _) (by simp [repC])
              · rcases cy4 with cy4 | ⟨by', offy, usy, rfl, ly, cy5⟩
                · exact absurd cy4 hys
                · have hnl := repC_length cy5
                  have hnews : ∀ j u, usy[j]? = some u → w.cell? ((⟨by', offy, none⟩ : Addr).add j) = some u := fun j u hj => by rw [add_mk]; exact (laid_get ly hj).2
                  have hbytes : ys.length * ti.bytes ≤ 140737488355328 := by
                    have h1 : ti.bytes ≤ 2048 := by rw [e4]; exact hby
                    have h2 : ys.length * ti.bytes ≤ ys.length * 2048 := Nat.mul_le_mul_left _ h1
                    simp only [lim] at hc; omega
                  have hml : ys.length ≤ maxLen := by simp only [lim] at hc; simp only [maxLen]; omega
                  obtain ⟨v', w', f1, f2, f3, _⟩ := run_append_own (P := P) w w.heap.size t type el ti z ti.size ti.bytes hds e1 e6 rfl rfl hzs (by rw [e3]; exact hpos) (.slice none 0 0) 0 [] (World.ownsRow_nil w _ _ _)
                    ⟨by', offy, none⟩ ys.length cy usy (by rw [hnl, e3]) hnews (repC_one cy5) (by simpa using hml) (by simpa using hbytes) (Nat.le_refl _)
                  exact hfin v' w' usy f1 (by rw [← e3]; simpa using f2) (by simpa [Value.ownBlock] using f3) cy5
            · cases he
          · cases he
        · cases he
      · cases h5
    · cases h4
  · rename_i d key sz el xs t len parts
    simp only [Bool.and_eq_true, beq_iff_eq, decide_eq_true_eq] at ho
    obtain ⟨⟨⟨⟨⟨⟨h1, h2⟩, h3⟩, h4⟩, h5⟩, h6⟩, h7⟩ := ho
    subst h1
    subst h5
    split at h3
    · rename_i el' hf
      simp only [beq_iff_eq] at h3
      subst h3
      split at h4
      · rename_i g hg
        simp only [Bool.and_eq_true, beq_iff_eq, decide_eq_true_eq] at h4
        obtain ⟨rfl, hpos⟩ := h4
        simp only [sIk] at he
        cases he
        obtain ⟨us, g1, g2, g3⟩ := run_buildSlice ht hr hf rfl hg h7 hc h6
        have hown : (w.alloc (.cells us el)).ownsRow w.heap.size el g.size (.slice (some ⟨w.heap.size, 0, none⟩) xs.length xs.length) (xs.map (evalO st.t)).length us.toList := by
          refine ⟨by simp [g3], .inr ⟨w.heap.size, xs.length, us, by simp, Nat.le_refl _, heap_alloc_new w _, by simp, ?_, g3, ?_⟩⟩
          · simp only [maxLen]
            have : xs.length ≤ xs.length * g.size := Nat.le_mul_of_pos_right _ hpos
            omega
          · rw [List.take_of_length_le]; simp [g3]
        obtain ⟨r1, r2⟩ := hr.newRowM (k := κ) (xs := xs.map (evalO st.t)) (.inl (hr.new _ (hfresh rfl))) (World.grownBy_alloc w _ none) hown g2
          (by have : xs.length ≤ xs.length * g.size := Nat.le_mul_of_pos_right _ hpos; simp only [lim, List.length_map]; omega) (hno rfl)
        simp only [List.length_map] at r1 r2
        refine wp_value (v := .slice (some ⟨w.heap.size, 0, none⟩) xs.length xs.length) (w' := w.alloc (.cells us el)) ?_ (hK _ _ _ (r1.put (d := some d) (by simpa [dstOk] using h2) (p := .row g.size κ xs.length) (r2 ⟨_, _, rfl⟩)))
        have hp : (parts.map fun (x : Nat × Operand) => (x.1, a.eval x.2)) = (parts.toList.map fun (x : Nat × Operand) => (x.1, a.eval x.2)).toArray := by
          apply Array.ext'; simp
        simp only [execOp]
        refine val_ok_w ?_
        rw [← g1]
        congr 2
      · cases h4
    · cases h3
  · rename_i d key sz el x y o' o'' t t'
    simp only [Bool.and_eq_true, beq_iff_eq, decide_eq_true_eq] at ho
    obtain ⟨⟨⟨⟨⟨⟨h1, h2⟩, h3⟩, h4⟩, h5⟩, h6⟩, h7⟩ := ho
    subst h1
    subst h3
    split at h4
    · rename_i el' hf
      simp only [beq_iff_eq] at h4
      subst h4
      split at h5
      · rename_i g hg
        simp only [Bool.and_eq_true, beq_iff_eq, decide_eq_true_eq] at h5
        obtain ⟨⟨rfl, hpos⟩, hby⟩ := h5
        have rx := opOk_rep hr h6
        have ry := opOk_rep hr h7
        have hexec : ∀ v' w', (Builtin.append_ #[t, t] type #[a.eval o', a.eval o'']).run P w = .ok v' w' → (execOp a.eval ⟨some d, .call ⟨.builtin .append, ⟨[o', o'']⟩, ⟨[t, t]⟩⟩, type, pos, after, guard⟩).run P w = .ok (.value v') w' := by
          intro v' w' hrun
          simp only [execOp, resolve, invoke, builtin, Sem.run_bind, Sem.run_pure, Result.andThen_ok, List.map_toArray, List.map_cons, List.map_nil]
          rw [hrun]; rfl
        obtain ⟨ti, d', z, e1, e2, e3, e4, e5, e6, e7, e8⟩ := (tyIs ht hg).ex
        obtain ⟨ds, hds, hdk⟩ := tf_und ht hf
        obtain rfl := dOk_slice hdk
        have hzs : z.cells.size = ti.size := by rw [e8, e3]
        simp only [sIk] at he
        split at he
        · -- a new row
          rename_i ys hv
          cases he
          unfold appmV at hv
          split at hv
          · rename_i sz' xs sz'' tag' ys' hx hy
            split at hv
            · rename_i hss
              obtain ⟨rfl, hss⟩ := hss
              subst hss
              cases hv
              rw [hx] at rx
              rw [hy] at ry
              simp only [rep] at rx ry
              obtain ⟨⟨ax, cx, vx, cx1, ⟨cx2, cx3⟩, cx4⟩, rxn, rxo⟩ := rx
              obtain ⟨⟨ay, cy, vy, cy1, ⟨cy2, cy3⟩, cy4⟩, _⟩ := ry
              have hnilv := rxn trivial
              have hmk : (Ins.appm d key g.size el x y).makes st = true := by simp only [Ins.makes, hx]
              rw [vy, hnilv] at hexec
              have hfin : ∀ (v' : Value) (w' : World) (usy : List Value), (Builtin.append_ #[t, t] type #[.slice none 0 0, .slice ay ys.length cy]).run P w = .ok v' w' → w'.ownsRow w.heap.size el g.size v' ys.length usy → w.grownBy w' none → repC w ν g.size ys usy →
                  (⟨some d, .call ⟨.builtin .append, ⟨[o', o'']⟩, ⟨[t, t]⟩⟩, type, pos, after, guard⟩ : Oper).wp P a w K Q := by
                intro v' w' usy f1 f2 f3 f4
                obtain ⟨p1, p2⟩ := hr.newRowM (k := κ) (xs := ys) (.inl (hr.new _ (hfresh hmk))) f3 f2 f4 hc.1 (hno hmk)
                exact wp_value (hexec _ _ f1) (hK _ _ _ (p1.put (d := some d) (by simpa [dstOk] using h2) (p2 (owns_some f2 (by cases ys <;> simp at hc ⊢)))))
              by_cases hys : ys = []
              · subst hys
                exact hfin _ w [] (run_append_empty hds e1 none 0 0 (Nat.le_refl _) ay cy) (World.ownsRow_nil w _ _ _) (World.grownBy.refl w _) (by simp [repC])
              · rcases cy4 with cy4 | ⟨by', offy, usy, rfl, ly, cy5⟩
                · exact absurd cy4 hys
                · have hnl := repC_length cy5
                  have hnews : ∀ j u, usy[j]? = some u → w.cell? ((⟨by', offy, none⟩ : Addr).add j) = some u := fun j u hj => by rw [add_mk]; exact (laid_get ly hj).2
                  have hbytes : ys.length * ti.bytes ≤ 140737488355328 := by
                    have h1 : ti.bytes ≤ 2048 := by rw [e4]; exact hby
                    have h2 : ys.length * ti.bytes ≤ ys.length * 2048 := Nat.mul_le_mul_left _ h1
                    simp only [lim] at hc; omega
                  have hml : ys.length ≤ maxLen := by simp only [lim] at hc; simp only [maxLen]; omega
                  obtain ⟨v', w', f1, f2, f3, _⟩ := run_append_own (P := P) w w.heap.size t type el ti z ti.size ti.bytes hds e1 e6 rfl rfl hzs (by rw [e3]; exact hpos) (.slice none 0 0) 0 [] (World.ownsRow_nil w _ _ _)
                    ⟨by', offy, none⟩ ys.length cy usy (by rw [hnl, e3]) hnews (repC_one cy5) (by simpa using hml) (by simpa using hbytes) (Nat.le_refl _)
                  exact hfin v' w' usy f1 (by rw [← e3]; simpa using f2) (by simpa [Value.ownBlock] using f3) cy5
            · cases hv
          · split at hv
            · split at hv
              · split at hv <;> cases hv
              · cases hv
            · cases hv
          · cases hv
        · -- a row that is there
          rename_i k xs ys hv
          cases he
          unfold appmV at hv
          split at hv
          · split at hv <;> cases hv
          · rename_i sz' k' n sz'' tag' ys' hx hy
            split at hv
            · rename_i hss
              obtain ⟨rfl, hss⟩ := hss
              subst hss
              split at hv
              · rename_i n' el' sz3 xs' hk
                split at hv
                · rename_i hee
                  obtain ⟨rfl, rfl, rfl⟩ := hee
                  cases hv
                  rw [hx] at rx
                  rw [hy] at ry
                  simp only [rep] at rx ry
                  obtain ⟨⟨bx, cx, vx⟩, rxl, n0, u0, r1, r2, r3⟩ := rx
                  obtain ⟨⟨ay, cy, vy, cy1, ⟨cy2, cy3⟩, cy4⟩, _⟩ := ry
                  obtain ⟨v0, us0, q1, q2, q3, q4⟩ := hr.good.own k _ hk
                  rw [r1] at q1
                  simp only [Option.some.injEq, Prod.mk.injEq] at q1 q2
                  obtain ⟨rfl, rfl⟩ := q1
                  have hval : a.eval o' = u0 := r3 rfl
                  obtain ⟨q5, q6, q7⟩ := q4 xs rfl
                  simp only at q5 q6
                  have hus0 : us0.length = xs.length * g.size := by rw [q5]; exact q2.1
                  have hxl : xs.length = n0 := q5
                  by_cases hys : ys = []
                  · subst hys
                    rw [vy, vx] at hexec
                    have hcx : n0 ≤ cx := by
                      rcases q2.2 with ⟨q2a, q2b⟩ | ⟨bl, cap, cur, q2a, q2b, q2c, q2d, _⟩
                      · rw [q2b]; exact Nat.zero_le _
                      · rw [← hval, vx] at q2a; injection q2a with _ _ e; rw [e]; exact q2d
                    have hrun := run_append_empty (P := P) (w := w) (ty := type) hds e1 (some ⟨bx, 0, none⟩) n0 cx hcx ay cy
                    refine wp_value (hexec _ _ (by simpa using hrun)) (hK _ _ ν ?_)
                    have hlk : ∀ g', look g' (upd k ⟨n0, el', g.size, some xs⟩ st.e) = look g' st.e := fun g' => by
                      rw [look_upd]; split
                      · rename_i e; subst e; rw [hk]
                      · rfl
                    have hr2 : Rel C { st with e := upd k ⟨n0, el', g.size, some xs⟩ st.e } a w ν :=
                      ⟨⟨hr.good.alt, hr.good.box, hr.good.inj, fun g o hg => hr.good.own g o (by rw [← hlk g]; exact hg), fun g g' n n' v v' bl a1 a2 => hr.good.oinj g g' n n' v v' bl (by rw [← hlk g]; exact a1) (by rw [← hlk g']; exact a2),
                      fun g j n v bl a1 => hr.good.obx g j n v bl (by rw [← hlk g]; exact a1), hr.good.one⟩, hr.fr, hr.defers, hr.size, hr.slot, hr.new⟩
                    have h3 := hr2.put (d := some d) (by simpa [dstOk] using h2) (p := .row g.size k n0) (v := .slice (some ⟨bx, 0, none⟩) n0 cx) (by
                      simp only [rep]; exact ⟨⟨_, _, rfl⟩, rxl, _, _, r1, Nat.le_refl _, fun _ => by rw [← vx]; exact hval⟩)
                    simpa [hxl, putO] using h3
                  · have hyp : 0 < ys.length := by cases ys <;> simp at hys ⊢
                    rcases cy4 with cy4 | ⟨by', offy, usy, rfl, ly, cy5⟩
                    · exact absurd cy4 hys
                    · have hnl := repC_length cy5
                      have hnews : ∀ j u, usy[j]? = some u → w.cell? ((⟨by', offy, none⟩ : Addr).add j) = some u := fun j u hj => by rw [add_mk]; exact (laid_get ly hj).2
                      have hbytes : (xs.length + ys.length) * ti.bytes ≤ 140737488355328 := by
                        have hb1 : ti.bytes ≤ 2048 := by rw [e4]; exact hby
                        have hb2 : (xs.length + ys.length) * ti.bytes ≤ (xs.length + ys.length) * 2048 := Nat.mul_le_mul_left _ hb1
                        simp only [lim] at hc; omega
                      have hml : xs.length + ys.length ≤ maxLen := by simp only [lim] at hc; simp only [maxLen]; omega
                      have hcc : repC w ν g.size (xs ++ ys) (us0 ++ usy) := repC_append q6 cy5
                      rw [vy, hval] at hexec
                      have hgrow : (∃ v' w', (Builtin.append_ #[t, t] type #[u0, .slice (some ⟨by', offy, none⟩) ys.length cy]).run P w = .ok v' w' ∧ w'.ownsRow w.heap.size el' ti.size v' (xs.length + ys.length) (us0 ++ usy) ∧ w.grownBy w' none) →
                          (⟨some d, .call ⟨.builtin .append, ⟨[o', o'']⟩, ⟨[t, t]⟩⟩, type, pos, after, guard⟩ : Oper).wp P a w K Q := by
                        intro hh
                        obtain ⟨v', w', f1, f2, f3⟩ := hh
                        obtain ⟨p1, p2⟩ := hr.newRowM (k := k) (xs := xs ++ ys) (el := el') (sz := g.size) (.inr ⟨_, hk, by simp; omega⟩) f3 (by rw [← e3]; simpa using f2) hcc (by simpa using hc) (n' := st.n) (o' := st.o)
                          (fun j hj => ⟨hj, fun e => by subst e; have := (hr.new _ hj).2; rw [r1] at this; cases this⟩)
                        refine wp_value (hexec _ _ f1) (hK _ _ (ν.withOwn k (xs ++ ys).length v') ?_)
                        have := p1.put (d := some d) (by simpa [dstOk] using h2) (p2 (by simpa using owns_some f2 (by omega)))
                        simpa [putO] using this
                      rcases q2.2 with ⟨q2a, q2b⟩ | ⟨bl, cap, cur, q2a, q2b, q2c, q2d, q2e, q2f, q2g⟩
                      · -- nil
                        have hx0 : xs = [] := List.eq_nil_of_length_eq_zero (by omega)
                        have hu0 : us0 = [] := List.eq_nil_of_length_eq_zero (by rw [hus0, hx0]; simp)
                        subst hx0; subst hu0
                        refine hgrow ?_
                        obtain ⟨v', w', f1, f2, f3, _⟩ := run_append_own (P := P) w w.heap.size t type el' ti z ti.size ti.bytes hds e1 e6 rfl rfl hzs (by rw [e3]; exact hpos) (.slice none 0 0) 0 [] (World.ownsRow_nil w _ _ _)
                          ⟨by', offy, none⟩ ys.length cy usy (by rw [hnl, e3]) hnews (repC_one cy5) (by simpa using hml) (by simpa using hbytes) (Nat.le_refl _)
                        exact ⟨v', w', by rw [q2a]; exact f1, by simpa using f2, by simpa [Value.ownBlock] using f3⟩
                      · have hvb : u0.ownBlock = some bl := by rw [q2a]; rfl
                        by_cases hroom : xs.length + ys.length ≤ cap
                        · have hmul : (xs.length + ys.length) * g.size ≤ cap * g.size := Nat.mul_le_mul_right _ hroom
                          rw [Nat.add_mul] at hmul
                          have f1 := run_append_room (P := P) w t type el' ti hds e1 bl xs.length cap cur q2c ⟨by', offy, none⟩ ys.length cy usy (by rw [hnl, e3]) hnews (repC_one cy5) hroom (by rw [hnl, e3]; omega)
                          generalize hwe : (cur.toList.take (xs.length * ti.size) ++ usy ++ cur.toList.drop (xs.length * ti.size + usy.length)).toArray = nc at f1
                          have hnew : (w.setRow bl nc).heap[bl]? = some (.cells nc el' (0, 0)) := setRow_heap w bl cur nc el' _ q2c
                          have hl : (us0 ++ usy).length = (xs ++ ys).length * g.size := by rw [List.length_append, hus0, hnl, List.length_append, Nat.add_mul]
                          have h5 : cur.toList.take (xs.length * ti.size) = us0 := by rw [hxl, e3]; exact q2g
                          have hs1 : nc.size = cap * g.size := by
                            rw [← hwe]
                            simp only [List.size_toArray, List.length_append, List.length_take, List.length_drop, Array.length_toList]
                            rw [e3]; omega
                          have hs2 : nc.toList.take ((xs ++ ys).length * g.size) = us0 ++ usy := by
                            rw [← hwe, h5]
                            simp only [← hl]
                            rw [List.take_append_of_le_length (Nat.le_refl _), List.take_length]
                          obtain ⟨p1, _, p2⟩ := hr.setRowM (w' := w.setRow bl nc) hk rfl r1 hvb (v' := .slice (some ⟨bl, 0, none⟩) (xs.length + ys.length) cap) rfl (xs' := xs ++ ys) (us := us0 ++ usy) (.inr (by simp; omega)) rfl rfl rfl (fun j hj => setRow_other w bl j nc hj) (setRow_size w bl nc)
                            ⟨hl, .inr ⟨bl, cap, nc, by simp, Nat.zero_le _, hnew, by simpa using hroom, q2e, hs1, hs2⟩⟩ hcc
                          replace p2 := p2 (by simpa using hc)
                          refine wp_value (v := .slice (some ⟨bl, 0, none⟩) (xs.length + ys.length) cap) (w' := w.setRow bl nc) (hexec _ _ ?_) (hK _ _ (ν.withOwn k (xs ++ ys).length (.slice (some ⟨bl, 0, none⟩) (xs.length + ys.length) cap)) ?_)
                          · rw [q2a, ← hxl]; exact f1
                          · have := p1.put (d := some d) (by simpa [dstOk] using h2) p2
                            simpa [putO] using this
                        · refine hgrow ?_
                          obtain ⟨v', w', f1, f2, f3⟩ := run_append_arg_grows (P := P) w t type el' ti z ti.size ti.bytes hds e1 e6 rfl rfl hzs (by rw [e3]; exact hpos) ⟨bl, 0, none⟩ xs.length cap us0 (by rw [hus0, e3])
                            (fun j u hj => by have := q2.cells hvb j u hj; exact this) ⟨by', offy, none⟩ ys.length cy usy (by rw [hnl, e3]) hnews (by omega) hml hbytes
                          exact ⟨v', w', by rw [q2a, ← hxl]; exact f1, f2, f3⟩
                · cases hv
              · cases hv
            · cases hv
          · cases hv
        · cases he
      · cases h5
    · cases h4
  · rename_i sz x y t o' o''
    simp only [Bool.and_eq_true, beq_iff_eq] at ho
    obtain ⟨⟨⟨h1, h2⟩, h3⟩, h4⟩ := ho
    subst h1
    split at h2
    · rename_i f hf
      simp only [beq_iff_eq] at h2
      simp only [sIk] at he
      generalize hpx : evalO st.t x = px at he
      unfold storeR at he
      split at he
      · rename_i sz' k n i fo
        split at he
        · rename_i n' el sz'' xs hk
          split at he
          · rename_i hnn
            obtain ⟨rfl, rfl⟩ := hnn
            split at he
            · rename_i q hq
              cases he
              obtain ⟨c0, c1, c2, c3, c4⟩ := hc
              have rx := opOk_rep hr h3
              rw [hpx] at rx
              have ry := opOk_rep hr h4
              have rcy := rep_cells ry c1
              have rl := repL_length rcy
              obtain ⟨_, hsz⟩ := tf_load ht hf w
              have hyl : (a.eval o'').cells.size = sz := by
                rw [c2] at rl; simpa using rl
              obtain ⟨bl, off, cur', hptr, hst, ν', hrel⟩ := hr.storeRow (P := P) hk rx hq c0 rcy (by simpa [hyl] using c3) (fun e => by have := congrArg List.length e; simp [hyl] at this; omega)
              refine wp_skip' (w' := w.setRow bl cur') ?_ (hK _ _ _ hrel)
              simp only [execOp, Instr.storeAt, hptr, Instr.sureAddr, storeVar, Sem.run_bind, Sem.run_pure, Result.andThen_ok, hsz, hyl, h2, ne_eq, not_true_eq_false, if_false, hst]
            · cases he
          · cases he
        · cases he
      · cases he
    · cases h2
  · cases ho

theorem sI_sound {P : Program} {tys : List (Nat × TF)} (ht : tysOk P tys = true) {C : Ctx} {st st' : St} {a : Act} {w : World} {ν : Env} (hr : Rel C st a w ν) {i : Ins} {o : Oper} (ho : sOk C.N tys i o = true)
    {c : Prop} (he : sI st i = some (c, st')) (hc : c) {K : Act → World → Prop} {Q : Exit → Act → World → Prop} (hK : ∀ a' w' ν', Rel C st' a' w' ν' → K a' w') : o.wp P a w K Q := by
  have hnone : keyFree st none → fresh st.n st.o (.loc st.n) := fun h => newKey_fresh (key := none) h
  have hnext : ∀ j, fresh (st.n + 1) st.o j → fresh st.n st.o j ∧ j ≠ .loc st.n := next_fresh (key := none)
  cases i with
  | v d i => exact sIk_sound (κ := .loc 0) (n' := 0) (o₁ := []) ht hr ho (fun h => by simp [Ins.makes] at h) (fun h => by simp [Ins.makes] at h) (by simpa only [sI, sIk] using he) hc hK
  | box d key x =>
    simp only [sI] at he; cases he
    exact sIk_sound (κ := newKey st key) (n' := nextN st key) (o₁ := nextO st key) ht hr ho (fun _ => newKey_fresh hc.1) (fun _ => next_fresh) (by simp only [sIk]) hc.2 hK
  | alloc d key z =>
    simp only [sI] at he; cases he
    exact sIk_sound (κ := newKey st key) (n' := nextN st key) (o₁ := nextO st key) ht hr ho (fun _ => newKey_fresh hc) (fun _ => next_fresh) (by simp only [sIk]) trivial hK
  | storeE sz x y => exact sIk_sound (κ := .loc 0) (n' := 0) (o₁ := []) ht hr ho (fun h => by simp [Ins.makes] at h) (fun h => by simp [Ins.makes] at h) (by simpa only [sI, sIk] using he) hc hK
  | store sz x y => exact sIk_sound (κ := .loc 0) (n' := 0) (o₁ := []) ht hr ho (fun h => by simp [Ins.makes] at h) (fun h => by simp [Ins.makes] at h) (by simpa only [sI, sIk] using he) hc hK
  | bsl d sz el xs =>
    simp only [sI] at he; cases he
    exact sIk_sound (κ := .loc st.n) (n' := st.n + 1) (o₁ := st.o) ht hr ho (fun _ => hnone hc.1) (fun _ => hnext) (by simp only [sIk]) hc.2 hK
  | bslm d key sz el xs =>
    simp only [sI] at he; cases he
    exact sIk_sound (κ := newKey st key) (n' := nextN st key) (o₁ := nextO st key) ht hr ho (fun _ => newKey_fresh hc.1) (fun _ => next_fresh) (by simp only [sIk]) hc.2 hK
  | appm d key sz el x y =>
    simp only [sI] at he
    split at he
    · rename_i ys hv
      cases he
      exact sIk_sound (κ := newKey st key) (n' := nextN st key) (o₁ := nextO st key) ht hr ho (fun _ => newKey_fresh hc.1) (fun _ => next_fresh) (by simp only [sIk, hv]) hc.2 hK
    · rename_i k xs ys hv
      cases he
      refine sIk_sound (κ := .loc 0) (n' := 0) (o₁ := []) ht hr ho (fun h => ?_) (fun h => ?_) (by simp only [sIk, hv]) hc hK
      all_goals
        exfalso
        simp only [Ins.makes] at h
        split at h
        · rename_i hx
          unfold appmV at hv
          rw [hx] at hv
          split at hv
          · split at hv <;> cases hv
          · rename_i h1 _; cases h1
          · cases hv
        · cases h
    · cases he
  | mkmap d key =>
    simp only [sI] at he; cases he
    exact sIk_sound (κ := newKey st key) (n' := nextN st key) (o₁ := nextO st key) ht hr ho (fun _ => newKey_fresh hc) (fun _ => next_fresh) (by simp only [sIk]) trivial hK
  | mput ks x k v => exact sIk_sound (κ := .loc 0) (n' := 0) (o₁ := []) ht hr ho (fun h => by simp [Ins.makes] at h) (fun h => by simp [Ins.makes] at h) (by simpa only [sI, sIk] using he) hc hK
  | range d key x =>
    simp only [sI] at he
    split at he
    · rename_i m hx
      split at he
      · rename_i cs hcs
        split at he
        · rename_i cs' hm
          cases he
          exact sIk_sound (κ := newKey st key) (n' := nextN st key) (o₁ := nextO st key) ht hr ho (fun _ => newKey_fresh hc) (fun _ => next_fresh) (by simp only [sIk, hx, hcs, hm]) trivial hK
        · cases he
      · cases he
    · cases he
  | app d sz el x y =>
    simp only [sI] at he
    split at he
    · rename_i sz' tag xs sz'' tag' ys hx hy
      split at he
      · rename_i hss
        split at he
        · rename_i k
          split at he
          · rename_i ow hk
            cases he
            refine sIk_sound (κ := .loc 0) (n' := 0) (o₁ := []) ht hr ho (fun h => by simp [Ins.makes, hx] at h) (fun h => by simp [Ins.makes, hx] at h) ?_ hc hK
            simp only [sIk, hx, hy, hss, and_self, if_true, hk]
          · cases he
        · cases he
          refine sIk_sound (κ := .loc st.n) (n' := st.n + 1) (o₁ := st.o) ht hr ho (fun _ => hnone hc.1) (fun _ => hnext) ?_ hc.2 hK
          simp only [sIk, hx, hy, hss, and_self, if_true]
        · cases he
      · cases he
    · cases he

end Go.Pv
/- Contracts of functions; the end of names; code. -/
set_option linter.all false
namespace Go.Pv
open Go Go.RowKit

/-- Objects and rows that a call is handed and hands back. -/
structure Obs where
  b : List (Key × List PV)
  e : List (Key × Own)

def blocksOf (ν : Env) (s : Obs) (bl : Nat) : Prop :=
  (∃ k, (look k s.b).isSome ∧ ν.bx k = some bl) ∨ (∃ g n v, (look g s.e).isSome ∧ ν.ow g = some (n, v) ∧ v.ownBlock = some bl)
def exactE (ν : Env) (s : Obs) : Prop := ∀ k, (look k s.b = none → ν.bx k = none) ∧ (look k s.e = none → ν.ow k = none)
def obsIds (s : Obs) : List Key := s.b.map (·.1) ++ s.e.map (·.1)
def objOnly (s : Obs) : Prop := (∀ m, look (.loc m) s.b = none) ∧ (∀ m, look (.loc m) s.e = none)

/-- The contract of a function: handed args and objects s it returns, and what comes back meets Q. -/
def Does (P : Program) (f : FuncId) (vs : Array Value) (w : World) (R : Ending → World → Prop) : Prop :=
  ((∃ fn, P.funcs[f]? = some fn ∧ fn.body.isSome = true ∧ (fn.name == "runtime.NumGoroutine") = false) ∧ Calls P f vs w R) ∨ ∃ v w', (callFunc f vs).run P w = .ok (.value v) w' ∧ R (.returned v) w'
def FnG (P : Program) (f : FuncId) (args : List PV) (s : Obs) (Q : PV → Obs → Prop) : Prop :=
  ∀ (w : World) (ν : Env) (vs : Array Value), Good (blocksOf ν s) w ν s.b s.e → exactE ν s → repT w ν args vs.toList →
    Does P f vs w fun e w' => ∃ v r s' ν', e = .returned v ∧ Q r s' ∧ rep w' ν' r v ∧ Good (fun bl => blocksOf ν s bl ∨ w.heap.size ≤ bl) w' ν' s'.b s'.e ∧ exactE ν' s' ∧ objOnly s' ∧ Fr ⟨w, ν, blocksOf ν s, 0, obsIds s⟩ w' ν'
/-- The contract of a function of values alone. -/
def FnV (P : Program) (f : FuncId) (args : List PV) (r : PV) : Prop := FnG P f args ⟨[], []⟩ fun r' s' => r' = r ∧ s' = ⟨[], []⟩

theorem look_mem {α : Type} {k : Key} {x : α} : ∀ {l : List (Key × α)}, look k l = some x → (k, x) ∈ l
  | [], h => by simp [look] at h
  | (i, y) :: r, h => by
    simp only [look] at h
    split at h
    · rename_i e; subst e; cases h; simp
    · exact List.mem_cons_of_mem _ (look_mem h)
theorem obsIds_of {s : Obs} {k : Key} (h : (look k s.b).isSome ∨ (look k s.e).isSome) : k ∈ obsIds s := by
  unfold obsIds
  rcases h with h | h <;> obtain ⟨x, hx⟩ := Option.isSome_iff_exists.1 h <;> have := look_mem hx
  · exact List.mem_append_left _ (List.mem_map.2 ⟨_, this, rfl⟩)
  · exact List.mem_append_right _ (List.mem_map.2 ⟨_, this, rfl⟩)

section
open Classical
/-- The environment cut down to the names in S. -/
noncomputable def Env.cut (ν : Env) (S : Key → Prop) : Env := { A := ν.A, bx := fun k => if S k then ν.bx k else none, ow := fun k => if S k then ν.ow k else none }
theorem Env.cut_bx {ν : Env} {S : Key → Prop} {k : Key} (h : S k) : (ν.cut S).bx k = ν.bx k := by simp [Env.cut, h]
theorem Env.cut_ow {ν : Env} {S : Key → Prop} {k : Key} (h : S k) : (ν.cut S).ow k = ν.ow k := by simp [Env.cut, h]
theorem Env.cut_no {ν : Env} {S : Key → Prop} {k : Key} (h : ¬S k) : (ν.cut S).bx k = none ∧ (ν.cut S).ow k = none := by simp [Env.cut, h]
theorem Env.cut_some {ν : Env} {S : Key → Prop} {k : Key} {b : Nat} (h : (ν.cut S).bx k = some b) : S k ∧ ν.bx k = some b := by
  by_cases hs : S k
  · exact ⟨hs, by rw [Env.cut_bx hs] at h; exact h⟩
  · rw [(Env.cut_no hs).1] at h; cases h
theorem Env.cut_someO {ν : Env} {S : Key → Prop} {k : Key} {b : Nat × Value} (h : (ν.cut S).ow k = some b) : S k ∧ ν.ow k = some b := by
  by_cases hs : S k
  · exact ⟨hs, by rw [Env.cut_ow hs] at h; exact h⟩
  · rw [(Env.cut_no hs).2] at h; cases h
theorem OverS.cut (S : Key → Prop) (w : World) (ν : Env) : OverS S w ν w (ν.cut S) :=
  ⟨fun _ _ h => ⟨h, rfl⟩, fun k b hk h => by rw [Env.cut_bx hk]; exact h, fun g n u hg h => ⟨n, u, by rw [Env.cut_ow hg]; exact h, .inl ⟨rfl, rfl⟩⟩⟩
end

def subB (S : Key → Prop) (b' b : List (Key × List PV)) : Prop := ∀ k cs, look k b' = some cs → look k b = some cs ∧ S k ∧ kinL S cs
def subE (S : Key → Prop) (e' e : List (Key × Own)) : Prop := ∀ k o, look k e' = some o → look k e = some o ∧ S k ∧ kinO S o

theorem Good.cut {pr pr' : Nat → Prop} {w : World} {ν : Env} {b b' : List (Key × List PV)} {e e' : List (Key × Own)} (h : Good pr w ν b e) {S : Key → Prop} (hb : subB S b' b) (he : subE S e' e)
    (hpr : ∀ bl, pr bl → (∃ k, (look k b').isSome ∧ (ν.cut S).bx k = some bl) ∨ (∃ g n v, (look g e').isSome ∧ (ν.cut S).ow g = some (n, v) ∧ v.ownBlock = some bl) → pr' bl) : Good pr' w (ν.cut S) b' e' := by
  have hbs : ∀ k, (look k b').isSome → (look k b).isSome ∧ S k := fun k hk => by
    obtain ⟨cs, hcs⟩ := Option.isSome_iff_exists.1 hk
    have := hb k cs hcs
    exact ⟨by simp [this.1], this.2.1⟩
  have hes : ∀ k, (look k e').isSome → (look k e).isSome ∧ S k := fun k hk => by
    obtain ⟨cs, hcs⟩ := Option.isSome_iff_exists.1 hk
    have := he k cs hcs
    exact ⟨by simp [this.1], this.2.1⟩
  refine ⟨h.alt, fun k cs hk => ?_, fun k k' bl h1 h2 h3 h4 => ?_, fun g o hg => ?_, fun g g' n n' v v' bl h1 h2 h3 h4 h5 h6 => ?_, fun g k n v bl h1 h2 h3 h4 h5 => ?_, fun k => ?_⟩
  · obtain ⟨g1, g2, g3⟩ := hb k cs hk
    obtain ⟨bl, us, el, f1, f2, f3, f4, f5⟩ := h.box k cs g1
    have hbx : (ν.cut S).bx k = some bl := by rw [Env.cut_bx g2]; exact f1
    exact ⟨bl, us, el, hbx, hpr bl f2 (.inl ⟨k, by simp [hk], hbx⟩), f3, f4, repB_overS (OverS.cut S w ν) g3 f5⟩
  · obtain ⟨a1, a2⟩ := hbs k h1
    obtain ⟨b1, b2⟩ := hbs k' h2
    exact h.inj k k' bl a1 b1 (Env.cut_some h3).2 (Env.cut_some h4).2
  · obtain ⟨g1, g2, g3⟩ := he g o hg
    obtain ⟨v, us, f1, f2, f3, f4⟩ := h.own g o g1
    have hox : (ν.cut S).ow g = some (o.n, v) := by rw [Env.cut_ow g2]; exact f1
    exact ⟨v, us, hox, f2, fun bl hbl => ⟨hpr bl (f3 bl hbl).1 (.inr ⟨g, o.n, v, by simp [hg], hox, hbl⟩), (f3 bl hbl).2⟩,
      fun xs hx => ⟨(f4 xs hx).1, repC_overS (OverS.cut S w ν) _ _ _ (g3 xs hx) (f4 xs hx).2.1, (f4 xs hx).2.2⟩⟩
  · obtain ⟨a1, a2⟩ := hes g h1
    obtain ⟨b1, b2⟩ := hes g' h2
    exact h.oinj g g' n n' v v' bl a1 b1 (Env.cut_someO h3).2 (Env.cut_someO h4).2 h5 h6
  · obtain ⟨a1, a2⟩ := hes g h1
    obtain ⟨b1, b2⟩ := hbs k h2
    exact h.obx g k n v bl a1 b1 (Env.cut_someO h3).2 h4 (Env.cut_some h5).2
  · by_cases hs : S k
    · rw [Env.cut_bx hs, Env.cut_ow hs]; exact h.one k
    · exact .inl (Env.cut_no hs).1

/-- What is known may be forgotten. -/
structure Weaker (ob : List Key) (st st' : St) : Prop where
  t : ∀ x ∈ st'.t, get x.1 st.t = x.2 ∧ kin (fun k => ¬fresh st'.n st'.o k) x.2
  b : subB (fun k => ¬fresh st'.n st'.o k) st'.b st.b
  e : subE (fun k => ¬fresh st'.n st'.o k) st'.e st.e
  o : ∀ m ∈ ob, m ∈ st'.o

theorem get_mem : ∀ (i : Nat) (l : List (Nat × PV)), get i l = .junk ∨ (i, get i l) ∈ l
  | _, [] => .inl rfl
  | i, (j, p) :: r => by
    by_cases h : j = i
    · subst h; right; simp [get]
    · rcases get_mem i r with h1 | h1
      · left; simp [get, h, h1]
      · right; simp [get, h]; right; exact h1

theorem Rel.weaker {C : Ctx} {st st' : St} {a : Act} {w : World} {ν : Env} (h : Rel C st a w ν) (hw : Weaker C.ob st st') : Rel C st' a w (ν.cut fun k => ¬fresh st'.n st'.o k) := by
  refine ⟨h.good.cut hw.b hw.e (fun bl hp _ => hp), ⟨h.fr.os, h.fr.tape, h.fr.output, h.fr.size, h.fr.block, h.fr.keep, h.fr.fresh, fun n b hb => ?_, h.fr.obn, fun m n u hm => ?_, h.fr.obr⟩, h.defers, h.size, fun i => ?_, fun k hk => Env.cut_no (fun hn => hn hk)⟩
  · rw [Env.cut_bx (fun hh => hh.2 (hw.o _ (h.fr.obn n b hb)))]
    exact h.fr.obj n b hb
  · rw [Env.cut_ow (fun hh => hh.2 (hw.o _ (h.fr.obr m n u hm)))]
    exact h.fr.row m n u hm
  · rcases get_mem i st'.t with hj | hm
    · rw [hj]; simp [rep]
    · obtain ⟨h1, h2⟩ := hw.t _ hm
      simp only at h1
      have := h.slot i
      rw [h1] at this
      exact rep_overS (OverS.cut _ w ν) _ _ h2 this

mutual
def strip : PV → PV
  | .slice sz _ xs => .slice sz .no (stripL xs)
  | .agg cs => .agg (stripL cs)
  | .tuple vs => .tuple (stripL vs)
  | .eptr x => .eptr (strip x)
  | .iface t x => .iface t (strip x)
  | .func f caps => .func f (stripL caps)
  | p => p
def stripL : List PV → List PV
  | [] => []
  | x :: xs => strip x :: stripL xs
end
theorem stripL_length : ∀ xs, (stripL xs).length = xs.length
  | [] => rfl
  | x :: xs => by simp [stripL, stripL_length xs]
theorem stripL_map : ∀ xs, stripL xs = xs.map strip
  | [] => rfl
  | x :: xs => by simp [stripL, stripL_map xs]

mutual
theorem rep_strip {w : World} {ν : Env} : ∀ (p : PV) (v : Value), rep w ν p v → rep w ν (strip p) v
  | .junk, _, h => by simpa only [strip] using h
  | .int k n, _, h => by simpa only [strip] using h
  | .bool b, _, h => by simpa only [strip] using h
  | .str s, _, h => by simpa only [strip] using h
  | .slice sz tag xs, v, h => by
    simp only [rep, strip] at h ⊢
    obtain ⟨⟨a, cap, h1, h2, h3, h4⟩, h5, h6⟩ := h
    refine ⟨⟨a, cap, by rw [stripL_length]; exact h1, by rw [stripL_length]; exact h2, by rw [stripL_length]; exact h3, ?_⟩, fun e => (by cases e), fun g e => (by cases e)⟩
    rcases h4 with rfl | ⟨b, off, us, h4, h6, h7⟩
    · exact .inl rfl
    · exact .inr ⟨b, off, us, h4, h6, repC_strip sz xs us h7⟩
  | .agg cs, v, h => by
    simp only [rep, strip] at h ⊢
    obtain ⟨us, h1, h2⟩ := h
    exact ⟨us, h1, repL_strip cs _ h2⟩
  | .ptr key off, v, h => by simpa only [strip] using h
  | .iface t x, v, h => by
    simp only [rep, strip] at h ⊢
    obtain ⟨u, h1, h2⟩ := h
    exact ⟨u, h1, rep_strip x u h2⟩
  | .eptr x, v, h => by
    simp only [rep, strip] at h ⊢
    obtain ⟨b, off, u, h1, h2, h3⟩ := h
    exact ⟨b, off, u, h1, rep_strip x u h2, h3⟩
  | .nilp, _, h => by simpa only [strip] using h
  | .tuple vs, v, h => by
    simp only [rep, strip] at h ⊢
    obtain ⟨us, h1, h2⟩ := h
    exact ⟨us, h1, repT_strip vs _ h2⟩
  | .func f caps, v, h => by
    simp only [rep, strip] at h ⊢
    obtain ⟨us, h1, h2⟩ := h
    exact ⟨us, h1, repT_strip caps _ h2⟩
  | .gmap key, v, h => by simpa only [strip] using h
  | .row _ _ _, v, h => by simpa only [strip] using h
  | .rptr _ _ _ _ _, v, h => by simpa only [strip] using h
  | .cst _, v, h => by simpa only [strip] using h
theorem repL_strip {w : World} {ν : Env} : ∀ (cs : List PV) (us : List Value), repL w ν cs us → repL w ν (stripL cs) us
  | [], _, h => by simpa only [stripL] using h
  | c :: cs, us, h => by
    simp only [repL, stripL] at h ⊢
    obtain ⟨u, us', h1, h2, h3⟩ := h
    exact ⟨u, us', h1, ⟨rep_strip c u h2.1, h2.2⟩, repL_strip cs us' h3⟩
theorem repT_strip {w : World} {ν : Env} : ∀ (cs : List PV) (us : List Value), repT w ν cs us → repT w ν (stripL cs) us
  | [], _, h => by simpa only [stripL] using h
  | c :: cs, us, h => by
    simp only [repT, stripL] at h ⊢
    obtain ⟨u, us', h1, h2, h3⟩ := h
    exact ⟨u, us', h1, rep_strip c u h2, repT_strip cs us' h3⟩
theorem repC_strip {w : World} {ν : Env} (sz : Nat) : ∀ (xs : List PV) (us : List Value), repC w ν sz xs us → repC w ν sz (stripL xs) us
  | [], _, h => by simpa only [stripL] using h
  | x :: xs, us, h => by
    simp only [repC, stripL] at h ⊢
    obtain ⟨u, us', h1, ⟨h2, h3, h4⟩, h5⟩ := h
    exact ⟨u, us', h1, ⟨rep_strip x u h2, h3, h4⟩, repC_strip sz xs us' h5⟩
end

end Go.Pv
