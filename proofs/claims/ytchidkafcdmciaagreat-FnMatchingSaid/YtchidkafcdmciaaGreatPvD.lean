/- The instructions that compute a value: their abstract evaluation and its soundness. -/
import Derived.Test.YtchidkafcdmciaaGreatPvC
set_option linter.all false
namespace Go.Pv
open Go Go.RowKit

def isAgg (sz : Nat) (p : PV) : Prop := ∃ cs, p = .agg cs ∧ cs.length = sz

/-- A part of an element of a row that no one else knows. -/
def rowGet (agg : Bool) (sz sz' n i f : Nat) : Option Own → Option (Prop × PV)
  | some ⟨n', _, sz'', some xs⟩ => if n' = n ∧ sz'' = sz' then
      (match xs[i]? with
       | some p => if agg then some (solid p = true ∧ f + sz ≤ (cells p).length, .agg (((cells p).drop f).take sz)) else ((cells p)[f]?).map fun q => (solid p = true, q)
       | none => none) else none
  | _ => none
def loadV (b : List (Key × List PV)) (e : List (Key × Own)) (agg : Bool) (sz : Nat) : PV → Option (Prop × PV)
  | .rptr sz' k n i f => rowGet agg sz sz' n i f (look k e)
  | .ptr k off =>
    match look k b with
    | some cs => if agg then some (plainB cs = true ∧ off + sz ≤ cs.length, .agg ((cs.drop off).take sz)) else (cs[off]?).map fun p => (plainB cs = true, p)
    | none => none
  | .eptr p => if agg then some (isAgg sz p, p) else some (solid p = true ∧ cells p = [p], p)
  | _ => none

def faddrV (off : Nat) (agg : Bool) (sz : Nat) : PV → Option (Prop × PV)
  | .ptr k o => some (True, .ptr k (o + off))
  | .rptr sz' k n i f => some (True, .rptr sz' k n i (f + off))
  | .eptr (.agg cs) => if agg then some (off + sz ≤ cs.length, .eptr (.agg ((cs.drop off).take sz))) else (cs[off]?).map fun p => (solid p = true ∧ cells p = [p], .eptr p)
  | _ => none

def fldV (off : Nat) (agg : Bool) (sz : Nat) : PV → Option (Prop × PV)
  | .agg cs => if agg then some (off + sz ≤ cs.length, .agg ((cs.drop off).take sz)) else (cs[off]?).map fun p => (True, p)
  | _ => none

def iaddrV (sz : Nat) : PV → PV → Option (Prop × PV)
  | .slice sz' _ xs, .int _ i => if sz' = sz then some (0 ≤ i ∧ i < xs.length, .eptr (xs.getD i.toNat .junk)) else none
  | .row sz' k n, .int _ i => if sz' = sz then some (0 ≤ i ∧ i < n, .rptr sz' k n i.toNat 0) else none
  | _, _ => none

def sidxV : PV → PV → Option (Prop × PV)
  | .str s, .int _ i => some (0 ≤ i ∧ i < s.length, .int .u8 (s.getD i.toNat 0).toNat)
  | _, _ => none

def optI (dflt : Int) : Option PV → Option Int
  | none => some dflt
  | some (.int _ i) => some i
  | _ => none

def sslV (x : PV) (lo hi : Option PV) : Option (Prop × PV) :=
  match x with
  | .str s => match optI 0 lo, optI s.length hi with
    | some l, some h => some (0 ≤ l ∧ l ≤ h ∧ h ≤ s.length, .str ((s.take h.toNat).drop l.toNat))
    | _, _ => none
  | _ => none

def lslV (sz : Nat) (x : PV) (lo hi : Option PV) : Option (Prop × PV) :=
  match x with
  | .slice sz' _ xs => if sz' = sz then match optI 0 lo, optI xs.length hi with
    | some l, some h => some (0 ≤ l ∧ l ≤ h ∧ h ≤ xs.length, .slice sz .no ((xs.take h.toNat).drop l.toNat))
    | _, _ => none else none
  | _ => none

def in64 (n : Int) : Prop := -9223372036854775808 ≤ n ∧ n ≤ 9223372036854775807

def intV (op : BinOp) (wr : Bool) (k : IntKind) (a b : Int) : Option (Prop × PV) :=
  match op with
  | .add => if wr then some (True, .int k (k.wrap (a + b))) else some (k = .i64 ∧ in64 (a + b), .int .i64 (a + b))
  | .sub => if wr then some (True, .int k (k.wrap (a - b))) else some (k = .i64 ∧ in64 (a - b), .int .i64 (a - b))
  | .mul => if wr then some (True, .int k (k.wrap (a * b))) else some (k = .i64 ∧ in64 (a * b), .int .i64 (a * b))
  | .quo => some (b ≠ 0, .int k (k.wrap (a.tdiv b)))
  | .rem => some (b ≠ 0, .int k (a.tmod b))
  | .eql => some (True, .bool (a == b))
  | .neq => some (True, .bool (a != b))
  | .lss => some (True, .bool (decide (a < b)))
  | .leq => some (True, .bool (decide (a ≤ b)))
  | .gtr => some (True, .bool (decide (b < a)))
  | .geq => some (True, .bool (decide (b ≤ a)))
  | .and => some (True, .int k (k.wrap (BitVec.ofInt k.bits a &&& BitVec.ofInt k.bits b).toNat))
  | .or => some (True, .int k (k.wrap (BitVec.ofInt k.bits a ||| BitVec.ofInt k.bits b).toNat))
  | .xor => some (True, .int k (k.wrap (BitVec.ofInt k.bits a ^^^ BitVec.ofInt k.bits b).toNat))
  | _ => none

def strV (op : BinOp) (a b : List UInt8) : Option (Prop × PV) :=
  match op with
  | .add => some (a.length + b.length ≤ lim, .str (a ++ b))
  | .eql => some (True, .bool (a == b))
  | .neq => some (True, .bool (!(a == b)))
  | .lss => some (True, .bool (Op.bytesLess a b))
  | .leq => some (True, .bool (Op.bytesLess a b || a == b))
  | .gtr => some (True, .bool (!(Op.bytesLess a b || a == b)))
  | .geq => some (True, .bool (!Op.bytesLess a b))
  | _ => none

def binV (op : BinOp) (wr : Bool) : PV → PV → Option (Prop × PV)
  | .int k a, .int k' b => match op with
    | .shl => some (0 ≤ b, .int k (k.wrap (a * 2 ^ (min b.toNat k.bits))))
    | .shr => some (0 ≤ b, .int k (a.fdiv (2 ^ (min b.toNat k.bits))))
    | _ => if k = k' then intV op wr k a b else none
  | .str a, .str b => strV op a b
  | _, _ => none

def splice (cs : List PV) (off : Nat) (ps : List PV) : List PV := cs.take off ++ ps ++ cs.drop (off + ps.length)

def buildV (t : List (Nat × PV)) : List PV → List (Nat × Nat × Opd) → Option (Prop × List PV)
  | cs, [] => some (True, cs)
  | cs, (off, sz, x) :: r =>
    let p := evalO t x
    match buildV t (splice cs off (cells p)) r with
    | some (c, cs') => some ((solid p = true ∧ (cells p).length = sz ∧ off + sz ≤ cs.length) ∧ c, cs')
    | none => none

def pickV (c x y : PV) : Option (Prop × PV) :=
  match c with
  | .bool b => match x, y with
    | .bool u, .bool v => some (True, .bool (cond b u v))
    | p, q => match b with
      | true => some (True, p)
      | false => some (True, q)
  | _ => none

def notV : PV → Option (Prop × PV)
  | .bool b => some (True, .bool (!b))
  | _ => none
def negV : PV → Option (Prop × PV)
  | .int k n => some (True, .int k (k.wrap (0 - n)))
  | _ => none
def extV (i : Nat) : PV → Option (Prop × PV)
  | .tuple vs => (vs[i]?).map fun p => (True, p)
  | _ => none
def lenV : PV → Option (Prop × PV)
  | .slice _ _ xs => some (True, .int .i64 xs.length)
  | .row _ _ n => some (True, .int .i64 n)
  | _ => none
def slenV : PV → Option (Prop × PV)
  | .str s => some (True, .int .i64 s.length)
  | _ => none
def convV (k : IntKind) : PV → Option (Prop × PV)
  | .int _ n => some (True, .int k (k.wrap n))
  | _ => none
def nckV : PV → Option (Prop × PV)
  | .ptr k o => some (True, .ptr k o)
  | .eptr p => some (True, .eptr p)
  | .func f cs => some (True, .func f cs)
  | _ => none
def minV : PV → PV → Option (Prop × PV)
  | .int k a, .int k' b => if k = k' then some (True, .int k (if b < a then b else a)) else none
  | _, _ => none

/-- Equality of keys; 'ks': the keys are strings. -/
def keyEq (ks : Bool) : PV → PV → Option Bool
  | .int k a, .int k' b => if ks = false ∧ k = k' then some (a == b) else none
  | .str a, .str b => if ks then some (a == b) else none
  | _, _ => none
def mfind (ks : Bool) (k : PV) : List PV → Option (Option PV)
  | k' :: v :: r => match keyEq ks k k' with
    | some true => some (some v)
    | some false => mfind ks k r
    | none => none
  | _ => some none
def mgetV (b : Key → Option (List PV)) (ks : Bool) (zero : PV) (ok : Bool) (x k : PV) : Option (Prop × PV) :=
  match x with
  | .gmap key => match b key with
    | some (.hdm _ _ :: kvs) => match mfind ks k kvs with
      | some (some v) => some (True, if ok then .tuple [v, .bool true] else v)
      | some none => some (True, if ok then .tuple [zero, .bool false] else zero)
      | none => none
    | _ => none
  | _ => none
def mlenV (b : Key → Option (List PV)) (x : PV) : Option (Prop × PV) :=
  match x with
  | .gmap key => match b key with
    | some (.hdm _ borns :: _) => some (True, .int .i64 borns.length)
    | _ => none
  | _ => none
def beqV (neg : Bool) : PV → PV → Option (Prop × PV)
  | .bool a, .bool b => some (True, .bool (if neg then a != b else a == b))
  | _, _ => none
def maxV : PV → PV → Option (Prop × PV)
  | .int k a, .int k' b => if k = k' then some (True, .int k (if a < b then b else a)) else none
  | _, _ => none
/-- Setting a key: none if it is new. -/
def mset (ks : Bool) (k v : PV) : List PV → Option (Option (List PV))
  | k' :: v' :: r => match keyEq ks k k' with
    | some true => some (some (k :: v :: r))
    | some false => match mset ks k v r with
      | some (some r') => some (some (k' :: v' :: r'))
      | some none => some none
      | none => none
    | none => none
  | _ => some none
/-- The entry with a stamp. -/
def mat (n : Nat) : List Nat → List PV → Option PV
  | b :: bs, k :: v :: r => if b = n then some (.tuple [k, v]) else mat n bs r
  | _, _ => none
def mentV (b : Key → Option (List PV)) (x : PV) : Option (Prop × PV) :=
  match x with
  | .ptr ik 0 => match b ik with
    | some [.hdi _ seen last, .gmap mk] => match b mk with
      | some (.hdm clock borns :: kvs) => match seen.getLast? with
        | some n => (mat n borns kvs).map fun p => (clock = last, p)
        | none => none
      | _ => none
    | _ => none
  | _ => none

theorem mgetV_congr {f g : Key → Option (List PV)} (h : ∀ k, f k ≠ none → g k = f k) {ks : Bool} {zero : PV} {ok : Bool} {x k : PV} {r : Prop × PV} (he : mgetV f ks zero ok x k = some r) : mgetV g ks zero ok x k = some r := by
  unfold mgetV at he ⊢
  split at he
  · rename_i key
    cases hf : f key with
    | none => simp [hf] at he
    | some cs => rw [h key (by rw [hf]; simp), hf]; rw [hf] at he; exact he
  · cases he
theorem mlenV_congr {f g : Key → Option (List PV)} (h : ∀ k, f k ≠ none → g k = f k) {x : PV} {r : Prop × PV} (he : mlenV f x = some r) : mlenV g x = some r := by
  unfold mlenV at he ⊢
  split at he
  · rename_i key
    cases hf : f key with
    | none => simp [hf] at he
    | some cs => rw [h key (by rw [hf]; simp), hf]; rw [hf] at he; exact he
  · cases he
theorem mentV_congr {f g : Key → Option (List PV)} (h : ∀ k, f k ≠ none → g k = f k) {x : PV} {r : Prop × PV} (he : mentV f x = some r) : mentV g x = some r := by
  unfold mentV at he ⊢
  split at he
  · rename_i ik
    cases hf : f ik with
    | none => simp [hf] at he
    | some cs =>
      simp only [h ik (by rw [hf]; simp), hf] at he ⊢
      split at he
      · rename_i since seen last mk hcs
        cases hf2 : f mk with
        | none => simp [hf2] at he
        | some ds => simp only [h mk (by rw [hf2]; simp), hf2] at he ⊢; exact he
      · cases he
  · cases he

inductive VIns where
  | mov (x : Opd)
  | pick (c x y : Opd)
  | load (agg : Bool) (sz : Nat) (x : Opd)
  | faddr (off : Nat) (agg : Bool) (sz : Nat) (x : Opd)
  | fld (off : Nat) (agg : Bool) (sz : Nat) (x : Opd)
  | iaddr (sz : Nat) (x i : Opd)
  | sidx (x i : Opd)
  | ssl (x : Opd) (lo hi : Option Opd)
  | lsl (sz : Nat) (x : Opd) (lo hi : Option Opd)
  | bin (op : BinOp) (wr : Bool) (x y : Opd)
  | notB (x : Opd)
  | neg (x : Opd)
  | conv (k : IntKind) (x : Opd)
  | ext (i : Nat) (x : Opd)
  | len (x : Opd)
  | slen (x : Opd)
  | build (zero : List PV) (parts : List (Nat × Nat × Opd))
  | nck (x : Opd)
  | min2 (x y : Opd)
  | mkf (n : Nat) (xs : List Opd)
  | mget (ks : Bool) (zero : PV) (ok : Bool) (x k : Opd)
  | ment (x : Opd)
  | mlen (x : Opd)
  | beq (neg : Bool) (x y : Opd)
  | max2 (x y : Opd)
  | mkif (t : Nat) (x : Opd)

def vI (st : St) : VIns → Option (Prop × PV)
  | .mov x => some (True, evalO st.t x)
  | .pick c x y => pickV (evalO st.t c) (evalO st.t x) (evalO st.t y)
  | .load agg sz x => loadV st.b st.e agg sz (evalO st.t x)
  | .faddr off agg sz x => faddrV off agg sz (evalO st.t x)
  | .fld off agg sz x => fldV off agg sz (evalO st.t x)
  | .iaddr sz x i => iaddrV sz (evalO st.t x) (evalO st.t i)
  | .sidx x i => sidxV (evalO st.t x) (evalO st.t i)
  | .ssl x lo hi => sslV (evalO st.t x) (lo.map (evalO st.t)) (hi.map (evalO st.t))
  | .lsl sz x lo hi => lslV sz (evalO st.t x) (lo.map (evalO st.t)) (hi.map (evalO st.t))
  | .bin op wr x y => binV op wr (evalO st.t x) (evalO st.t y)
  | .notB x => notV (evalO st.t x)
  | .neg x => negV (evalO st.t x)
  | .conv k x => convV k (evalO st.t x)
  | .ext i x => extV i (evalO st.t x)
  | .len x => lenV (evalO st.t x)
  | .slen x => slenV (evalO st.t x)
  | .build zero parts => (buildV st.t zero parts).map fun (c, cs) => (c, .agg cs)
  | .nck x => nckV (evalO st.t x)
  | .min2 x y => minV (evalO st.t x) (evalO st.t y)
  | .mkf n xs => some (True, .func n (xs.map (evalO st.t)))
  | .mget ks zero ok x k => mgetV (fun k => look k st.b) ks zero ok (evalO st.t x) (evalO st.t k)
  | .ment x => mentV (fun k => look k st.b) (evalO st.t x)
  | .mlen x => mlenV (fun k => look k st.b) (evalO st.t x)
  | .beq neg x y => beqV neg (evalO st.t x) (evalO st.t y)
  | .max2 x y => maxV (evalO st.t x) (evalO st.t y)
  | .mkif t x => some (True, .iface t (evalO st.t x))

/-- The parts of a literal against the struct's fields. -/
def partsOk (tys : List (Nat × TF)) (fs : List (Nat × Nat)) : List (Nat × Nat × Opd) → List (Nat × Operand) → Bool
  | [], [] => true
  | (off, sz, x) :: r, (i, o) :: s => (match fs[i]? with | some (off', t) => off == off' && ((tf tys t).map (·.size)) == some sz | none => false) && opOk x o && partsOk tys fs r s
  | _, _ => false
def zEq : PV → PV → Bool
  | .int k n, .int k' n' => decide (k = k' ∧ n = n')
  | .bool b, .bool b' => b == b'
  | .str [], .str [] => true
  | .slice a .nil [], .slice b .nil [] => a == b
  | .nilp, .nilp => true
  | .junk, .junk => true
  | _, _ => false
def zEqL : List PV → List PV → Bool
  | [], [] => true
  | c :: cs, d :: ds => zEq c d && zEqL cs ds
  | _, _ => false
def zeroEq : PV → PV → Bool
  | .agg cs, .agg ds => zEqL cs ds
  | .agg _, _ => false
  | p, q => zEq p q
def opsOk' : List Opd → List Operand → Bool
  | [], [] => true
  | x :: xs, o :: os => opOk x o && opsOk' xs os
  | _, _ => false
def keyTy (tys : List (Nat × TF)) (ks : Bool) (t : Nat) : Bool := match tf tys t with
  | some ⟨_, _, .int _, _⟩ => !ks
  | some ⟨_, _, .str, _⟩ => ks
  | _ => false
def zeroIs : List PV → PV → Bool
  | cs, .agg ds => zEqL cs ds
  | _, _ => false
def optOk : Option Opd → Option Operand → Bool
  | none, none => true
  | some x, some o => opOk x o
  | _, _ => false

def vOk (tys : List (Nat × TF)) : VIns → Op → Bool
  | .mov x, .move o => opOk x o
  | .mov x, .assign o => opOk x o
  | .pick c x y, .pick c' x' y' => opOk c c' && opOk x x' && opOk y y'
  | .load agg sz x, .load t o => (match tf tys t with | some f => f.size == sz && f.kind.isAgg == agg | none => false) && opOk x o
  | .faddr off agg sz x, .fieldAddr s o i =>
    (match tf tys s with
     | some ⟨_, _, .struct fs, _⟩ => (match fs[i]? with | some (off', t) => off == off' && (match tf tys t with | some f => f.size == sz && f.kind.isAgg == agg && sz != 0 | none => false) | none => false)
     | _ => false) && opOk x o
  | .fld off agg sz x, .field s o i =>
    (match tf tys s with
     | some ⟨_, _, .struct fs, _⟩ => (match fs[i]? with | some (off', t) => off == off' && (match tf tys t with | some f => f.size == sz && f.kind.isAgg == agg | none => false) | none => false)
     | _ => false) && opOk x o
  | .iaddr sz x i, .indexAddr t o j => (match tf tys t with | some ⟨_, _, .slice e, _⟩ => (match tf tys e with | some f => f.size == sz | none => false) | _ => false) && opOk x o && opOk i j
  | .sidx x i, .index t o j => (match tf tys t with | some ⟨_, _, .str, _⟩ => true | _ => false) && opOk x o && opOk i j
  | .ssl x lo hi, .slice t o l h none => (match tf tys t with | some ⟨_, _, .str, _⟩ => true | _ => false) && opOk x o && optOk lo l && optOk hi h
  | .lsl sz x lo hi, .slice t o l h none => (match tf tys t with | some ⟨_, _, .slice e, _⟩ => (match tf tys e with | some f => f.size == sz | none => false) | _ => false) && opOk x o && optOk lo l && optOk hi h
  | .bin op _ x y, .binOp op' _ o o' _ => decide (op = op') && opOk x o && opOk y o'
  | .notB x, .unOp op _ o => decide (op = .not) && opOk x o
  | .neg x, .unOp op _ o => decide (op = .neg) && opOk x o
  | .conv k x, .convert s d o => (match tf tys s, tf tys d with | some ⟨_, _, .int _, _⟩, some ⟨_, _, .int k', _⟩ => decide (k = k') | _, _ => false) && opOk x o
  | .ext i x, .extract o j => i == j && opOk x o
  | .len x, .call ⟨.builtin .len, ⟨[o]⟩, ⟨[t]⟩⟩ => (match tf tys t with | some ⟨_, _, .slice _, _⟩ => true | _ => false) && opOk x o
  | .slen x, .call ⟨.builtin .len, ⟨[o]⟩, ⟨[t]⟩⟩ => (match tf tys t with | some ⟨_, _, .str, _⟩ => true | _ => false) && opOk x o
  | .build zero parts, .build t ps => (match tf tys t with | some ⟨_, _, .struct fs, z⟩ => zeroIs zero z && (fs.all fun x => (tf tys x.2).isSome) && partsOk tys fs parts ps.toList | _ => false)
  | .nck x, .nilCheck o => opOk x o
  | .min2 x y, .call ⟨.builtin .min, ⟨[o, o']⟩, ⟨[_, _]⟩⟩ => opOk x o && opOk y o'
  | .mkf n xs, .makeFunc (.func m) ⟨[]⟩ os => n == m && opsOk' xs os.toList
  | .mget ks zero ok x k, .lookup t o o' ok' => ok == ok' && (match tf tys t with | some ⟨_, _, .map kt et, _⟩ => keyTy tys ks kt && (match tf tys et with | some f => zeroEq zero f.zero | none => false) | _ => false) && opOk x o && opOk k o'
  | .ment x, .entry o => opOk x o
  | .mlen x, .call ⟨.builtin .len, ⟨[o]⟩, ⟨[t]⟩⟩ => (match tf tys t with | some ⟨_, _, .map _ _, _⟩ => true | _ => false) && opOk x o
  | .beq neg x y, .binOp op t o o' _ => decide (op = if neg then .neq else .eql) && (match tf tys t with | some ⟨_, _, .bool, _⟩ => true | _ => false) && opOk x o && opOk y o'
  | .max2 x y, .call ⟨.builtin .max, ⟨[o, o']⟩, ⟨[_, _]⟩⟩ => opOk x o && opOk y o'
  | .mkif t x, .makeInterface t' o => t == t' && (match tf tys t with | some ⟨_, _, .slice _, _⟩ => true | _ => false) && opOk x o
  | _, _ => false

end Go.Pv
