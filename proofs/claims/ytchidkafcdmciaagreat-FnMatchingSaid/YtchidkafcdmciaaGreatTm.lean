/- Terms: as values and as trees; names; sizes. -/
import Derived.Test.YtchidkafcdmciaaGreatPvR
set_option linter.all false
namespace Go.Pv
open Go

/-- A term as it may be handed in. -/
inductive Tm where
  | mk (kind n : Int) (name : List UInt8) (args : List Tm)
def Tm.kind : Tm → Int | .mk k _ _ _ => k
def Tm.num : Tm → Int | .mk _ n _ _ => n
def Tm.name : Tm → List UInt8 | .mk _ _ s _ => s
def Tm.args : Tm → List Tm | .mk _ _ _ a => a
mutual
def enc : Tm → PV
  | .mk k n s a => .agg [.int .i64 k, .int .i64 n, .str s, .slice 4 .no (encL a)]
def encL : List Tm → List PV
  | [] => []
  | x :: xs => enc x :: encL xs
end
theorem encL_map : ∀ l, encL l = l.map enc
  | [] => rfl
  | x :: xs => by simp [encL, encL_map xs]
theorem enc_eq (t : Tm) : enc t = .agg [.int .i64 t.kind, .int .i64 t.num, .str t.name, .slice 4 .no (t.args.map enc)] := by
  cases t; simp [enc, encL_map, Tm.kind, Tm.num, Tm.name, Tm.args]
mutual
theorem kin_enc (S : Key → Prop) : ∀ t : Tm, kin S (enc t)
  | .mk k n s a => by simp [enc, kin, kinL, kinL_enc S a]
theorem kinL_enc (S : Key → Prop) : ∀ l : List Tm, kinL S (encL l)
  | [] => by simp [encL, kinL]
  | x :: xs => by simp [encL, kinL, kin_enc S x, kinL_enc S xs]
end
mutual
theorem strip_enc : ∀ t : Tm, strip (enc t) = enc t
  | .mk k n s a => by simp [enc, strip, stripL, stripL_enc a]
theorem stripL_enc : ∀ l : List Tm, stripL (encL l) = encL l
  | [] => by simp [encL, stripL]
  | x :: xs => by simp [encL, stripL, strip_enc x, stripL_enc xs]
end
@[simp] theorem kin_enc' (S : Key → Prop) (t : Tm) : kin S (enc t) = True := eq_true (kin_enc S t)
@[simp] theorem kinL_mapEnc (S : Key → Prop) (l : List Tm) : kinL S (l.map enc) = True := by rw [← encL_map]; exact eq_true (kinL_enc S l)
theorem stripL_mapEnc (l : List Tm) : stripL (l.map enc) = l.map enc := by rw [← encL_map]; exact stripL_enc l
attribute [simp] strip_enc stripL_mapEnc
@[simp] theorem solid_enc (t : Tm) : solid (enc t) = true := by rw [enc_eq]; rfl
@[simp] theorem cells_enc (t : Tm) : cells (enc t) = [.int .i64 t.kind, .int .i64 t.num, .str t.name, .slice 4 .no (t.args.map enc)] := by rw [enc_eq]; rfl
@[simp] theorem agg_enc (t : Tm) : PV.agg [.int .i64 t.kind, .int .i64 t.num, .str t.name, .slice 4 .no (t.args.map enc)] = enc t := (enc_eq t).symm
@[simp] theorem fldV_enc (off : Nat) (ag : Bool) (sz : Nat) (t : Tm) : fldV off ag sz (enc t) = if ag then some (off + sz ≤ 4, .agg (([.int .i64 t.kind, .int .i64 t.num, .str t.name, .slice 4 .no (t.args.map enc)].drop off).take sz)) else (([.int .i64 t.kind, .int .i64 t.num, .str t.name, .slice 4 .no (t.args.map enc)] : List PV)[off]?).map fun p => (True, p) := by rw [enc_eq]; rfl
@[simp] theorem faddrV_enc (off : Nat) (ag : Bool) (sz : Nat) (t : Tm) : faddrV off ag sz (.eptr (enc t)) = if ag then some (off + sz ≤ 4, .eptr (.agg (([.int .i64 t.kind, .int .i64 t.num, .str t.name, .slice 4 .no (t.args.map enc)].drop off).take sz))) else (([.int .i64 t.kind, .int .i64 t.num, .str t.name, .slice 4 .no (t.args.map enc)] : List PV)[off]?).map fun p => (solid p = true ∧ cells p = [p], .eptr p) := by rw [enc_eq]; rfl
@[simp] theorem isAgg_enc (t : Tm) : Pv.isAgg 4 (enc t) := by rw [enc_eq]; exact ⟨_, rfl, rfl⟩

/-- A well-formed term (its atoms are not looked at). -/
inductive T where
  | nil
  | var (n : Int)
  | sym (s : List UInt8)
  | num (n : Int)
  | pair (a b : T)
  deriving DecidableEq, Inhabited
def T.tm : T → Tm
  | .nil => .mk 0 0 [] []
  | .var n => .mk 1 n [] []
  | .sym s => .mk 2 0 s []
  | .num n => .mk 3 n [] []
  | .pair a b => .mk 4 0 [] [a.tm, b.tm]
def T.e : T → PV
  | .nil => .agg [.int .i64 0, .int .i64 0, .str [], .slice 4 .no []]
  | .var n => .agg [.int .i64 1, .int .i64 n, .str [], .slice 4 .no []]
  | .sym s => .agg [.int .i64 2, .int .i64 0, .str s, .slice 4 .no []]
  | .num n => .agg [.int .i64 3, .int .i64 n, .str [], .slice 4 .no []]
  | .pair a b => .agg [.int .i64 4, .int .i64 0, .str [], .slice 4 .no [a.e, b.e]]
theorem enc_tm : ∀ t : T, enc t.tm = t.e
  | .nil | .var _ | .sym _ | .num _ => rfl
  | .pair a b => by simp [T.tm, enc, encL, T.e, enc_tm a, enc_tm b]
def T.kind : T → Int
  | .nil => 0 | .var _ => 1 | .sym _ => 2 | .num _ => 3 | .pair _ _ => 4
def T.int : T → Int
  | .var n => n | .num n => n | _ => 0
def T.name : T → List UInt8
  | .sym s => s | _ => []
def T.args : T → List T
  | .pair a b => [a, b] | _ => []
theorem T.e_eq (t : T) : t.e = .agg [.int .i64 t.kind, .int .i64 t.int, .str t.name, .slice 4 .no (t.args.map T.e)] := by cases t <;> rfl
@[simp] theorem agg_e (t : T) : PV.agg [.int .i64 t.kind, .int .i64 t.int, .str t.name, .slice 4 .no (t.args.map T.e)] = t.e := (T.e_eq t).symm
@[simp] theorem agg_nil : PV.agg [.int .i64 0, .int .i64 0, .str [], .slice 4 .no []] = T.nil.e := rfl
@[simp] theorem agg_var (n : Int) : PV.agg [.int .i64 1, .int .i64 n, .str [], .slice 4 .no []] = (T.var n).e := rfl
@[simp] theorem agg_sym (s : List UInt8) : PV.agg [.int .i64 2, .int .i64 0, .str s, .slice 4 .no []] = (T.sym s).e := rfl
@[simp] theorem agg_num (n : Int) : PV.agg [.int .i64 3, .int .i64 n, .str [], .slice 4 .no []] = (T.num n).e := rfl
@[simp] theorem agg_pair (a b : T) : PV.agg [.int .i64 4, .int .i64 0, .str [], .slice 4 .no [a.e, b.e]] = (T.pair a b).e := rfl
@[simp] theorem fldV_e (off : Nat) (ag : Bool) (sz : Nat) (t : T) : fldV off ag sz t.e = if ag then some (off + sz ≤ 4, .agg (([.int .i64 t.kind, .int .i64 t.int, .str t.name, .slice 4 .no (t.args.map T.e)].drop off).take sz)) else (([.int .i64 t.kind, .int .i64 t.int, .str t.name, .slice 4 .no (t.args.map T.e)] : List PV)[off]?).map fun p => (True, p) := by rw [T.e_eq]; rfl
@[simp] theorem faddrV_e (off : Nat) (ag : Bool) (sz : Nat) (t : T) : faddrV off ag sz (.eptr t.e) = if ag then some (off + sz ≤ 4, .eptr (.agg (([.int .i64 t.kind, .int .i64 t.int, .str t.name, .slice 4 .no (t.args.map T.e)].drop off).take sz))) else (([.int .i64 t.kind, .int .i64 t.int, .str t.name, .slice 4 .no (t.args.map T.e)] : List PV)[off]?).map fun p => (solid p = true ∧ cells p = [p], .eptr p) := by rw [T.e_eq]; rfl
@[simp] theorem kind_nil : (T.nil).kind = 0 := rfl
@[simp] theorem int_nil : (T.nil).int = 0 := rfl
@[simp] theorem name_nil : (T.nil).name = [] := rfl
@[simp] theorem args_nil : (T.nil).args = [] := rfl
@[simp] theorem kind_var (n : Int) : (T.var n).kind = 1 := rfl
@[simp] theorem int_var (n : Int) : (T.var n).int = n := rfl
@[simp] theorem name_var (n : Int) : (T.var n).name = [] := rfl
@[simp] theorem args_var (n : Int) : (T.var n).args = [] := rfl
@[simp] theorem kind_sym (s : List UInt8) : (T.sym s).kind = 2 := rfl
@[simp] theorem int_sym (s : List UInt8) : (T.sym s).int = 0 := rfl
@[simp] theorem name_sym (s : List UInt8) : (T.sym s).name = s := rfl
@[simp] theorem args_sym (s : List UInt8) : (T.sym s).args = [] := rfl
@[simp] theorem kind_num (n : Int) : (T.num n).kind = 3 := rfl
@[simp] theorem int_num (n : Int) : (T.num n).int = n := rfl
@[simp] theorem name_num (n : Int) : (T.num n).name = [] := rfl
@[simp] theorem args_num (n : Int) : (T.num n).args = [] := rfl
@[simp] theorem kind_pair (a b : T) : (T.pair a b).kind = 4 := rfl
@[simp] theorem int_pair (a b : T) : (T.pair a b).int = 0 := rfl
@[simp] theorem name_pair (a b : T) : (T.pair a b).name = [] := rfl
@[simp] theorem args_pair (a b : T) : (T.pair a b).args = [a, b] := rfl
@[simp] theorem kin_e (S : Key → Prop) (t : T) : kin S t.e = True := by rw [← enc_tm]; simp
@[simp] theorem strip_e (t : T) : strip t.e = t.e := by rw [← enc_tm]; simp
theorem kinL_mapE' (S : Key → Prop) : ∀ l : List T, kinL S (l.map T.e)
  | [] => by simp [kinL]
  | x :: xs => by simp [kinL, kinL_mapE' S xs]
@[simp] theorem kinL_mapE (S : Key → Prop) (l : List T) : kinL S (l.map T.e) = True := eq_true (kinL_mapE' S l)
@[simp] theorem stripL_mapE : ∀ l : List T, stripL (l.map T.e) = l.map T.e
  | [] => rfl
  | x :: xs => by simp [stripL, stripL_mapE xs]
@[simp] theorem solid_e (t : T) : solid t.e = true := by rw [T.e_eq]; rfl
@[simp] theorem cells_e (t : T) : cells t.e = [.int .i64 t.kind, .int .i64 t.int, .str t.name, .slice 4 .no (t.args.map T.e)] := by rw [T.e_eq]; rfl
@[simp] theorem isAgg_e (t : T) : Pv.isAgg 4 t.e := by rw [T.e_eq]; exact ⟨_, rfl, rfl⟩

def T.size : T → Nat
  | .pair a b => 1 + a.size + b.size
  | _ => 1
theorem T.size_pos (t : T) : 1 ≤ t.size := by cases t <;> simp [T.size] <;> omega

/-- Names. -/
def low (b : UInt8) : Bool := decide (97 ≤ b.toNat ∧ b.toNat ≤ 122)
def inName (b : UInt8) : Bool := low b || decide (48 ≤ b.toNat ∧ b.toNat ≤ 57) || b.toNat == 45
def isName (s : List UInt8) : Bool := decide (1 ≤ s.length ∧ s.length ≤ 12) && low (s.getD 0 0) && (s.drop 1).all inName
def T.ok : T → Bool
  | .nil => true
  | .var n => decide (0 ≤ n ∧ n ≤ 100000)
  | .sym s => isName s
  | .num n => decide (-1000000000 ≤ n ∧ n ≤ 1000000000)
  | .pair a b => a.ok && b.ok

/-- What nodesOf computes. -/
def leafOk (k n : Int) (s : List UInt8) : Bool :=
  if k = 0 then n == 0 && s == [] else if k = 1 then decide (0 ≤ n ∧ n ≤ 100000) && s == [] else if k = 2 then n == 0 && isName s else if k = 3 then decide (-1000000000 ≤ n ∧ n ≤ 1000000000) && s == [] else false
def nodes : Tm → Int → Int
  | .mk k n s [a, b], room => if room < 1 ∨ k ≠ 4 ∨ n ≠ 0 ∨ s ≠ [] then -1 else if nodes a (room - 1) < 0 then -1 else if nodes b (room - 1 - nodes a (room - 1)) < 0 then -1 else 1 + nodes a (room - 1) + nodes b (room - 1 - nodes a (room - 1))
  | .mk k n s args, room => if room < 1 ∨ k = 4 ∨ args ≠ [] ∨ leafOk k n s = false then -1 else 1

theorem nodes_eq (k n : Int) (s : List UInt8) (args : List Tm) (room : Int) : nodes (.mk k n s args) room = if room < 1 then -1 else if k ≠ 4 then (if args ≠ [] then -1 else if leafOk k n s then 1 else -1) else if n ≠ 0 ∨ s ≠ [] then -1 else match args with
    | [a, b] => if nodes a (room - 1) < 0 then -1 else if nodes b (room - 1 - nodes a (room - 1)) < 0 then -1 else 1 + nodes a (room - 1) + nodes b (room - 1 - nodes a (room - 1))
    | _ => -1 := by
  match args with
  | [] =>
    simp only [nodes]
    by_cases h1 : room < 1 <;> by_cases h2 : k = 4 <;> by_cases h3 : leafOk k n s = true <;> simp [h1, h2, h3]
  | [a] => simp [nodes]
  | [a, b] =>
    simp only [nodes]
    by_cases h1 : room < 1 <;> by_cases h2 : k = 4 <;> simp [h1, h2]
  | a :: b :: c :: r => simp [nodes]
theorem nodes_T : ∀ (t : T) (room : Int), nodes t.tm room = if t.ok = true ∧ (t.size : Int) ≤ room then (t.size : Int) else -1
  | .nil, room => by simp [T.tm, nodes, T.ok, T.size, leafOk]; split <;> rename_i h <;> simp_all <;> omega
  | .var n, room => by simp [T.tm, nodes, T.ok, T.size, leafOk]; split <;> split <;> simp_all <;> omega
  | .sym s, room => by
    simp [T.tm, nodes, T.ok, T.size, leafOk]
    by_cases h1 : room < 1 <;> by_cases h2 : isName s = true <;> simp [h1, h2] <;> omega
  | .num n, room => by simp [T.tm, nodes, T.ok, T.size, leafOk]; split <;> split <;> simp_all <;> omega
  | .pair a b, room => by
    have ha := a.size_pos; have hb := b.size_pos
    simp only [T.tm, nodes, nodes_T a, nodes_T b, T.ok, T.size, Bool.and_eq_true]
    by_cases h1 : room < 1
    · simp [h1]; omega
    · by_cases h2 : a.ok = true ∧ (a.size : Int) ≤ room - 1
      · rw [if_pos h2]
        by_cases h3 : b.ok = true ∧ (b.size : Int) ≤ room - 1 - a.size
        · rw [if_pos h3]; simp [h1, h2.1, h3.1]; split <;> omega
        · rw [if_neg h3]; simp [h1, h2.1]
          intro hb1; have := h3; simp [hb1] at this; omega
      · rw [if_neg h2]; simp [h1]
        intro ha1; have := h2; simp [ha1] at this; omega
theorem nodes_cases : ∀ (t : Tm) (room : Int), nodes t room = -1 ∨ 1 ≤ nodes t room
  | .mk k n s [a, b], room => by
    simp only [nodes]
    split
    · exact .inl rfl
    · split
      · exact .inl rfl
      · split
        · exact .inl rfl
        · right; omega
  | .mk k n s [], room => by simp only [nodes]; split <;> simp
  | .mk k n s [a], room => by simp [nodes]
  | .mk k n s (a :: b :: c :: r), room => by simp [nodes]
theorem nodes_pos : ∀ (t : Tm) (room : Int), 0 < nodes t room → ∃ x : T, x.tm = t
  | .mk k n s [a, b], room, h => by
    simp only [nodes] at h
    split at h
    · omega
    · rename_i h1
      simp only [not_or, Int.not_lt, ne_eq, Decidable.not_not] at h1
      obtain ⟨h1, rfl, rfl, rfl⟩ := h1
      split at h
      · omega
      · split at h
        · omega
        · obtain ⟨x, rfl⟩ := nodes_pos a (room - 1) (by rcases nodes_cases a (room - 1) with h | h <;> omega)
          obtain ⟨y, rfl⟩ := nodes_pos b (room - 1 - nodes x.tm (room - 1)) (by rcases nodes_cases b (room - 1 - nodes x.tm (room - 1)) with h | h <;> omega)
          exact ⟨.pair x y, rfl⟩
  | .mk k n s [], room, h => by
    simp only [nodes] at h
    split at h
    · omega
    · rename_i h1
      simp only [not_or, ne_eq, not_true_eq_false, not_false_eq_true, true_and, Bool.not_eq_false] at h1
      obtain ⟨_, _, h1⟩ := h1
      unfold leafOk at h1
      split at h1
      · rename_i e; subst e; simp at h1; obtain ⟨rfl, rfl⟩ := h1; exact ⟨.nil, rfl⟩
      · split at h1
        · rename_i e; subst e; simp at h1; obtain ⟨_, rfl⟩ := h1; exact ⟨.var n, rfl⟩
        · split at h1
          · rename_i e; subst e; simp at h1; obtain ⟨rfl, _⟩ := h1; exact ⟨.sym s, rfl⟩
          · split at h1
            · rename_i e; subst e; simp at h1; obtain ⟨_, rfl⟩ := h1; exact ⟨.num n, rfl⟩
            · cases h1
  | .mk k n s [a], room, h => by simp [nodes] at h
  | .mk k n s (a :: b :: c :: r), room, h => by simp [nodes] at h
theorem nodes_le : ∀ (t : Tm) (room : Int), nodes t room ≤ room ∨ nodes t room = -1
  | .mk k n s [a, b], room => by
    simp only [nodes]
    split
    · exact .inr rfl
    · split
      · exact .inr rfl
      · split
        · exact .inr rfl
        · rcases nodes_le b (room - 1 - nodes a (room - 1)) with h | h <;> omega
  | .mk k n s [], room => by simp only [nodes]; split <;> simp; rename_i h; omega
  | .mk k n s [a], room => by simp [nodes]
  | .mk k n s (a :: b :: c :: r), room => by simp [nodes]
mutual
def Tm.sz : Tm → Nat
  | .mk _ _ _ a => 1 + Tm.szL a
def Tm.szL : List Tm → Nat
  | [] => 0
  | x :: xs => x.sz + Tm.szL xs
end
theorem szL_mem : ∀ {l : List Tm} {x : Tm}, x ∈ l → x.sz ≤ Tm.szL l
  | y :: l, x, h => by
    rcases List.mem_cons.1 h with rfl | h
    · simp [Tm.szL]
    · have := szL_mem h; simp [Tm.szL]; omega
theorem sz_arg {t x : Tm} (h : x ∈ t.args) : x.sz < t.sz := by
  cases t; simp [Tm.args] at h; have := szL_mem h; simp [Tm.sz]; omega
/-- A term is valid. -/
def T.fit (t : T) : Bool := t.ok && decide (t.size ≤ 5000)
def Tm.fits (t : Tm) : Bool := decide (0 < nodes t 5000)
theorem Tm.fits_T (t : T) : t.tm.fits = t.fit := by
  unfold Tm.fits T.fit
  rw [nodes_T]
  have := t.size_pos
  by_cases h1 : t.ok = true <;> by_cases h2 : t.size ≤ 5000
  · rw [if_pos ⟨h1, by omega⟩]; simp [h1, h2]; omega
  · rw [if_neg (by omega)]; simp [h2]
  · rw [if_neg (by simp [h1])]; simp [h1]
  · rw [if_neg (by simp [h1])]; simp [h1]
theorem Tm.fits_ex {t : Tm} (h : t.fits = true) : ∃ x : T, x.tm = t ∧ x.fit = true := by
  obtain ⟨x, rfl⟩ := nodes_pos t 5000 (by simpa [Tm.fits] using h)
  exact ⟨x, rfl, by rw [← Tm.fits_T]; exact h⟩


/-- Bindings. -/
structure Bd where
  v : Int
  t : T
  deriving DecidableEq, Inhabited
def Bd.e (b : Bd) : PV := .agg [.int .i64 b.v, .int .i64 b.t.kind, .int .i64 b.t.int, .str b.t.name, .slice 4 .no (b.t.args.map T.e)]
@[simp] theorem Bd.eta (b : Bd) : Bd.mk b.v b.t = b := rfl
@[simp] theorem agg_bd (v : Int) (t : T) : PV.agg [.int .i64 v, .int .i64 t.kind, .int .i64 t.int, .str t.name, .slice 4 .no (t.args.map T.e)] = (Bd.mk v t).e := rfl
@[simp] theorem agg_bd_nil (v : Int) : PV.agg [.int .i64 v, .int .i64 0, .int .i64 0, .str [], .slice 4 .no []] = (Bd.mk v .nil).e := rfl
@[simp] theorem agg_bd_var (v n : Int) : PV.agg [.int .i64 v, .int .i64 1, .int .i64 n, .str [], .slice 4 .no []] = (Bd.mk v (.var n)).e := rfl
@[simp] theorem agg_bd_sym (v : Int) (s : List UInt8) : PV.agg [.int .i64 v, .int .i64 2, .int .i64 0, .str s, .slice 4 .no []] = (Bd.mk v (.sym s)).e := rfl
@[simp] theorem agg_bd_num (v n : Int) : PV.agg [.int .i64 v, .int .i64 3, .int .i64 n, .str [], .slice 4 .no []] = (Bd.mk v (.num n)).e := rfl
@[simp] theorem agg_bd_pair (v : Int) (a b : T) : PV.agg [.int .i64 v, .int .i64 4, .int .i64 0, .str [], .slice 4 .no [a.e, b.e]] = (Bd.mk v (.pair a b)).e := rfl
@[simp] theorem kin_bd (S : Key → Prop) (b : Bd) : kin S b.e = True := by simp [Bd.e, -agg_bd]
@[simp] theorem strip_bd (b : Bd) : strip b.e = b.e := by simp [Bd.e, -agg_bd]
theorem kinL_mapBd' (S : Key → Prop) : ∀ l : List Bd, kinL S (l.map Bd.e)
  | [] => by simp [kinL]
  | x :: xs => by simp [kinL, kinL_mapBd' S xs]
@[simp] theorem kinL_mapBd (S : Key → Prop) (l : List Bd) : kinL S (l.map Bd.e) = True := eq_true (kinL_mapBd' S l)
@[simp] theorem stripL_mapBd : ∀ l : List Bd, stripL (l.map Bd.e) = l.map Bd.e
  | [] => rfl
  | x :: xs => by simp [stripL, stripL_mapBd xs]
@[simp] theorem solid_bd (b : Bd) : solid b.e = true := rfl
@[simp] theorem cells_bd (b : Bd) : cells b.e = [.int .i64 b.v, .int .i64 b.t.kind, .int .i64 b.t.int, .str b.t.name, .slice 4 .no (b.t.args.map T.e)] := rfl
@[simp] theorem isAgg_bd (b : Bd) : Pv.isAgg 5 b.e := ⟨_, rfl, rfl⟩
@[simp] theorem fldV_bd (off : Nat) (ag : Bool) (sz : Nat) (b : Bd) : fldV off ag sz b.e = if ag then some (off + sz ≤ 5, .agg (([.int .i64 b.v, .int .i64 b.t.kind, .int .i64 b.t.int, .str b.t.name, .slice 4 .no (b.t.args.map T.e)].drop off).take sz)) else (([.int .i64 b.v, .int .i64 b.t.kind, .int .i64 b.t.int, .str b.t.name, .slice 4 .no (b.t.args.map T.e)] : List PV)[off]?).map fun p => (True, p) := rfl
@[simp] theorem faddrV_bd (off : Nat) (ag : Bool) (sz : Nat) (b : Bd) : faddrV off ag sz (.eptr b.e) = if ag then some (off + sz ≤ 5, .eptr (.agg (([.int .i64 b.v, .int .i64 b.t.kind, .int .i64 b.t.int, .str b.t.name, .slice 4 .no (b.t.args.map T.e)].drop off).take sz))) else (([.int .i64 b.v, .int .i64 b.t.kind, .int .i64 b.t.int, .str b.t.name, .slice 4 .no (b.t.args.map T.e)] : List PV)[off]?).map fun p => (solid p = true ∧ cells p = [p], .eptr p) := rfl

/-- What the small functions compute. -/
def T.occ (v : Int) : T → Bool
  | .var n => n == v
  | .pair a b => a.occ v || b.occ v
  | _ => false
def ordI (a b : Int) : Int := if a < b then -1 else if b < a then 1 else 0
def ordS (a b : List UInt8) : Int := if a = b then 0 else if Op.bytesLess a b then -1 else 1
def ordT : T → T → Int
  | .pair a b, .pair c d => if ordT a c = 0 then ordT b d else ordT a c
  | x, y => if x.kind ≠ y.kind then ordI x.kind y.kind else if x.int ≠ y.int then ordI x.int y.int else ordS x.name y.name


/-- Bindings as they may be handed in. -/
structure Bt where
  v : Int
  t : Tm
def Bt.e (b : Bt) : PV := .agg [.int .i64 b.v, .int .i64 b.t.kind, .int .i64 b.t.num, .str b.t.name, .slice 4 .no (b.t.args.map enc)]
def Bd.b (b : Bd) : Bt := ⟨b.v, b.t.tm⟩
theorem Bd.b_e (b : Bd) : b.b.e = b.e := by
  obtain ⟨v, t⟩ := b
  cases t <;> simp only [Bd.b, Bt.e, Bd.e, T.tm, Tm.kind, Tm.num, Tm.name, Tm.args, enc_tm, kind_nil, kind_var, kind_sym, kind_num, kind_pair, int_nil, int_var, int_sym, int_num, int_pair, name_nil, name_var, name_sym, name_num, name_pair, args_nil, args_var, args_sym, args_num, args_pair, List.map_cons, List.map_nil]
@[simp] theorem Bt.eta (b : Bt) : Bt.mk b.v b.t = b := rfl
@[simp] theorem agg_bt (v : Int) (t : Tm) : PV.agg [.int .i64 v, .int .i64 t.kind, .int .i64 t.num, .str t.name, .slice 4 .no (t.args.map enc)] = (Bt.mk v t).e := rfl
@[simp] theorem kin_bt (S : Key → Prop) (b : Bt) : kin S b.e = True := by simp [Bt.e, -agg_bt]
@[simp] theorem strip_bt (b : Bt) : strip b.e = b.e := by simp [Bt.e, -agg_bt]
theorem kinL_mapBt' (S : Key → Prop) : ∀ l : List Bt, kinL S (l.map Bt.e)
  | [] => by simp [kinL]
  | x :: xs => by simp [kinL, kinL_mapBt' S xs]
@[simp] theorem kinL_mapBt (S : Key → Prop) (l : List Bt) : kinL S (l.map Bt.e) = True := eq_true (kinL_mapBt' S l)
@[simp] theorem stripL_mapBt : ∀ l : List Bt, stripL (l.map Bt.e) = l.map Bt.e
  | [] => rfl
  | x :: xs => by simp [stripL, stripL_mapBt xs]
@[simp] theorem solid_bt (b : Bt) : solid b.e = true := rfl
@[simp] theorem cells_bt (b : Bt) : cells b.e = [.int .i64 b.v, .int .i64 b.t.kind, .int .i64 b.t.num, .str b.t.name, .slice 4 .no (b.t.args.map enc)] := rfl
@[simp] theorem isAgg_bt (b : Bt) : Pv.isAgg 5 b.e := ⟨_, rfl, rfl⟩
@[simp] theorem fldV_bt (off : Nat) (ag : Bool) (sz : Nat) (b : Bt) : fldV off ag sz b.e = if ag then some (off + sz ≤ 5, .agg (([.int .i64 b.v, .int .i64 b.t.kind, .int .i64 b.t.num, .str b.t.name, .slice 4 .no (b.t.args.map enc)].drop off).take sz)) else (([.int .i64 b.v, .int .i64 b.t.kind, .int .i64 b.t.num, .str b.t.name, .slice 4 .no (b.t.args.map enc)] : List PV)[off]?).map fun p => (True, p) := rfl
@[simp] theorem faddrV_bt (off : Nat) (ag : Bool) (sz : Nat) (b : Bt) : faddrV off ag sz (.eptr b.e) = if ag then some (off + sz ≤ 5, .eptr (.agg (([.int .i64 b.v, .int .i64 b.t.kind, .int .i64 b.t.num, .str b.t.name, .slice 4 .no (b.t.args.map enc)].drop off).take sz))) else (([.int .i64 b.v, .int .i64 b.t.kind, .int .i64 b.t.num, .str b.t.name, .slice 4 .no (b.t.args.map enc)] : List PV)[off]?).map fun p => (solid p = true ∧ cells p = [p], .eptr p) := rfl
def okAt (l : List Bt) (i : Nat) : Prop := ∀ b, l[i]? = some b → (0 ≤ b.v ∧ b.v ≤ 100000) ∧ (∀ c, 0 < i → l[i - 1]? = some c → c.v < b.v) ∧ b.t.fits = true
def ValsOk (l : List Bt) : Prop := l.length ≤ 400 ∧ ∀ i, i < l.length → okAt l i
theorem ordT_zero : ∀ a b : T, ordT a b = 0 ↔ a = b
  | .pair a b, .pair c d => by
    simp only [ordT, T.pair.injEq]
    split
    · rename_i h; rw [ordT_zero b d, ← ordT_zero a c]; simp [h]
    · rename_i h; simp [h, ← ordT_zero a c]
  | .nil, y => by cases y <;> simp [ordT, ordI, ordS]
  | .var n, y => by cases y <;> simp [ordT, ordI, ordS] <;> omega
  | .sym s, y => by
    cases y <;> simp [ordT, ordI, ordS]
    rename_i s'
    by_cases h : s = s' <;> simp [h]
    by_cases h2 : Op.bytesLess s s' = true <;> simp [h2]
  | .num n, y => by cases y <;> simp [ordT, ordI, ordS] <;> omega
  | .pair a b, .nil | .pair a b, .var _ | .pair a b, .sym _ | .pair a b, .num _ => by simp [ordT, ordI]

/-- Variables replaced. -/
def T.sub (f : Int → Option T) : T → T
  | .var n => match f n with | some x => x | none => .var n
  | .pair a b => .pair (a.sub f) (b.sub f)
  | t => t
def sizeW (f : Int → Int) : T → Int
  | .var n => if 5001 < f n then 5001 else f n
  | .pair a b => if 5000 < sizeW f a then sizeW f a else if 5001 < 1 + sizeW f a + sizeW f b then 5001 else 1 + sizeW f a + sizeW f b
  | _ => 1
theorem sizeW_le (f : Int → Int) (hf : ∀ v, -1 ≤ f v) : ∀ t, -1 ≤ sizeW f t ∧ sizeW f t ≤ 5001
  | .var n => by have := hf n; simp only [sizeW]; split <;> omega
  | .pair a b => by
    have := sizeW_le f hf a; have := sizeW_le f hf b
    simp only [sizeW]; split <;> (try split) <;> omega
  | .nil | .sym _ | .num _ => by simp [sizeW]
/-- A binding's term. -/
def bget (l : List Bd) (v : Int) : Option T := (l.find? fun b => b.v == v).map (·.t)

end Go.Pv
