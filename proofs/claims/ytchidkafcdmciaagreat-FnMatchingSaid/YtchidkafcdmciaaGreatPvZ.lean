/- Maps from integers: as lists of entries in the order of their birth; ranging over one. -/
import Derived.Test.YtchidkafcdmciaaGreatPvT
set_option linter.all false
namespace Go.Pv
open Go Go.RowKit

def flat : List (Int × PV) → List PV
  | [] => []
  | (k, v) :: r => .int .i64 k :: v :: flat r
/-- The content of a map's box. -/
def mapE (l : List (Int × PV)) : List PV := .hdm l.length (List.range l.length) :: flat l
def alook (k : Int) : List (Int × PV) → Option PV
  | [] => none
  | (i, v) :: r => if k = i then some v else alook k r
def aset (k : Int) (v : PV) : List (Int × PV) → Option (List (Int × PV))
  | [] => none
  | (i, w) :: r => if k = i then some ((k, v) :: r) else match aset k v r with | some r' => some ((i, w) :: r') | none => none
def aput (k : Int) (v : PV) (l : List (Int × PV)) : List (Int × PV) := match aset k v l with | some l' => l' | none => l ++ [(k, v)]

@[simp] theorem mapE_nil : [PV.hdm 0 []] = mapE [] := rfl
theorem flat_append : ∀ a b, flat (a ++ b) = flat a ++ flat b
  | [], _ => rfl
  | (k, v) :: r, b => by simp [flat, flat_append r b]
theorem mfind_flat (k : Int) : ∀ l, mfind false (.int .i64 k) (flat l) = some (alook k l)
  | [] => rfl
  | (i, v) :: r => by
    simp only [flat, mfind, keyEq, alook]
    by_cases h : k = i
    · simp [h]
    · have : (k == i) = false := by simp [h]
      simp [h, mfind_flat k r, this]
theorem aset_length {k : Int} {v : PV} : ∀ {l l'}, aset k v l = some l' → l'.length = l.length
  | [], _, h => by simp [aset] at h
  | (i, w) :: r, l', h => by
    simp only [aset] at h
    split at h
    · cases h; rfl
    · split at h
      · rename_i r' hr; cases h; simp [aset_length hr]
      · cases h
theorem mset_flat (k : Int) (v : PV) : ∀ l, mset false (.int .i64 k) v (flat l) = some ((aset k v l).map flat)
  | [] => rfl
  | (i, w) :: r => by
    simp only [flat, mset, keyEq, aset]
    by_cases h : k = i
    · subst h; simp [flat]
    · simp only [and_self, if_true, h, if_false, beq_iff_eq, mset_flat k v r]
      have : (k == i) = false := by simp [h]
      rw [this]
      cases aset k v r <;> simp [flat]
@[simp] theorem mputV_mapE (k : Int) (v : PV) (l : List (Int × PV)) : mputV false (.int .i64 k) v (mapE l) = some (mapE (aput k v l)) := by
  simp only [mapE, mputV, mset_flat, aput]
  cases h : aset k v l with
  | some l' => simp [aset_length h]
  | none => simp [flat_append, flat, List.range_succ]
@[simp] theorem mgetV_mapE (f : Key → Option (List PV)) (m : Key) (l : List (Int × PV)) (z : PV) (ok : Bool) (k : Int) (hm : f m = some (mapE l)) : mgetV f false z ok (.gmap m) (.int .i64 k) = (match alook k l with
    | some v => some (True, if ok then .tuple [v, .bool true] else v)
    | none => some (True, if ok then .tuple [z, .bool false] else z)) := by
  simp only [mgetV_map, hm, mapE, mfind_flat]
  cases alook k l <;> rfl
@[simp] theorem mlenV_mapE (f : Key → Option (List PV)) (m : Key) (l : List (Int × PV)) (hm : f m = some (mapE l)) : mlenV f (.gmap m) = some (True, .int .i64 l.length) := by
  simp [mlenV_map, hm, mapE]
/-- The content of an iterator's box. -/
def iterE (n : Nat) (seen : List Nat) (m : Key) : List PV := [.hdi n seen n, .gmap m]
@[simp] theorem rangeV_mapE (m : Key) (l : List (Int × PV)) : rangeV m (mapE l) = some (iterE l.length [] m) := rfl
@[simp] theorem plainB_mapE (l : List (Int × PV)) : plainB (mapE l) = false := rfl
theorem mat_flat (b : Nat) : ∀ (n : Nat) (l : List (Int × PV)), mat b (List.range' n l.length) (flat l) = (if n ≤ b then (l[b - n]?).map fun x => .tuple [.int .i64 x.1, x.2] else none)
  | n, [] => by simp [mat, flat]
  | n, (k, v) :: r => by
    simp only [List.length_cons, List.range'_succ, flat, mat]
    by_cases h : n = b
    · subst h; simp
    · rw [if_neg h, mat_flat b (n + 1) r]
      by_cases h2 : n ≤ b
      · rw [if_pos h2, if_pos (by omega)]
        have : b - n = (b - (n + 1)) + 1 := by omega
        rw [this]; simp
      · rw [if_neg h2, if_neg (by omega)]
@[simp] theorem mentV_iter (f : Key → Option (List PV)) (ik mk : Key) (n : Nat) (seen : List Nat) (b : Nat) (l : List (Int × PV)) (hi : f ik = some (iterE n (seen ++ [b]) mk)) (hm : f mk = some (mapE l)) (hn : n = l.length) : mentV f (.ptr ik 0) = (l[b]?).map fun x => (True, .tuple [.int .i64 x.1, x.2]) := by
  subst hn
  simp only [mentV_ptr, hi, hm, iterE, mapE, List.getLast?_append, List.getLast?_singleton, Option.some_or, List.range_eq_range', mat_flat, Nat.zero_le, if_true, Nat.sub_zero, Option.map_map]
  cases l[b]? <;> simp
/-- A step of an iterator over a map. -/
theorem ev1n_iter {st : St} {d : Nat} {K : St → Prop} {ik mk : Key} {n : Nat} {seen : List Nat} {l : List (Int × PV)} (hi : look ik st.b = some (iterE n seen mk)) (hm : look mk st.b = some (mapE l)) (hn : n = l.length)
    (h1 : (∀ b, b < n → b ∈ seen) → K { st with t := put d (.tuple [.bool false]) st.t }) (h2 : ∀ b k v, l[b]? = some (k, v) → b ∉ seen → K { st with t := put d (.tuple [.bool true, .int .i64 k, v]) st.t, b := upd ik (iterE n (seen ++ [b]) mk) st.b }) :
    ev1n st d (.ptr ik 0) K := by
  subst hn
  simp only [ev1n, hi, iterE, hm, mapE, nextDo, and_self, true_and]
  refine ⟨fun h => h1 fun b hb => h b (by simpa using hb), fun b k v hmat hb => ?_⟩
  rw [List.range_eq_range', mat_flat] at hmat
  simp only [Nat.zero_le, if_true, Nat.sub_zero, Option.map_eq_some_iff, PV.tuple.injEq, List.cons.injEq, and_true] at hmat
  obtain ⟨⟨k', v'⟩, e1, e2, e3⟩ := hmat
  simp only at e2 e3
  subst e2 e3
  exact h2 b k' v' e1 hb
/-- What was met in the end. -/
theorem perm_seen {n : Nat} {seen : List Nat} (hd : seen.Nodup) (hlt : ∀ b ∈ seen, b < n) (hall : ∀ b, b < n → b ∈ seen) : seen.Perm (List.range n) :=
  (List.perm_ext_iff_of_nodup hd List.nodup_range).2 fun b => ⟨fun h => by simpa using hlt b h, fun h => hall b (by simpa using h)⟩

theorem seen_le {n : Nat} {seen : List Nat} (hd : seen.Nodup) (hlt : ∀ b ∈ seen, b < n) : seen.length ≤ n := by
  have := List.Nodup.length_le_of_subset hd (l₂ := List.range n) (fun b hb => by simpa using hlt b hb)
  simpa using this
theorem seen_lt {n b : Nat} {seen : List Nat} (hd : seen.Nodup) (hlt : ∀ b ∈ seen, b < n) (hb : b < n) (hn : b ∉ seen) : seen.length < n := by
  have h1 : (b :: seen).Nodup := List.nodup_cons.2 ⟨hn, hd⟩
  have := seen_le h1 (n := n) (by simp; exact ⟨hb, hlt⟩)
  simp at this; omega
theorem range_get {α : Type} : ∀ (l pre : List α), (List.range' pre.length l.length).filterMap (fun b => (pre ++ l)[b]?) = l
  | [], _ => rfl
  | x :: r, pre => by
    have ih := range_get r (pre ++ [x])
    simp only [List.length_append, List.length_singleton, List.append_assoc, List.singleton_append] at ih
    simp [List.range'_succ, ih]
theorem seen_all {α : Type} {l : List α} {seen : List Nat} (hd : seen.Nodup) (hlt : ∀ b ∈ seen, b < l.length) (hall : ∀ b, b < l.length → b ∈ seen) : (seen.filterMap fun b => l[b]?).Perm l := by
  have h1 := (perm_seen hd hlt hall).filterMap fun b => l[b]?
  have h2 := range_get l []
  simp only [List.length_nil, List.nil_append, ← List.range_eq_range'] at h2
  rwa [h2] at h1
theorem nodup_snoc {b : Nat} {seen : List Nat} (hd : seen.Nodup) (hn : b ∉ seen) : (seen ++ [b]).Nodup := by
  rw [List.nodup_append]
  exact ⟨hd, by simp, by simp; intro a ha e; subst e; exact hn ha⟩

end Go.Pv
