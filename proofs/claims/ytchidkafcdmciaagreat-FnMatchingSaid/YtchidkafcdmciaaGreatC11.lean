/- Contracts: drawing bytes. -/
import Derived.Test.YtchidkafcdmciaaGreatC10
set_option linter.all false
namespace Go.Proofs.YtchidkafcdmciaaGreat
open Go Go.Pv

/-- What a cursor holds. -/
structure Cur where
  d : List Int
  i : Nat
  h : Int
def bytesE (d : List Int) : List PV := d.map (PV.int .u8)
def Cur.e (c : Cur) : List PV := [.slice 1 .no (bytesE c.d), .int .i64 c.i, .int .i64 c.h]
def SC (c : Cur) : Obs := ⟨[(.obj 401, c.e)], []⟩
@[simp] theorem kinL_bytes (S : Key → Prop) (d : List Int) : kinL S (bytesE d) = True := by
  apply eq_true
  induction d with
  | nil => simp [-intV, -binV, bytesE, kinL]
  | cons x r ih => simp only [bytesE, List.map_cons, kinL, kin] at ih ⊢; exact ⟨trivial, ih⟩
@[simp] theorem strip_bytes (d : List Int) : stripL (bytesE d) = bytesE d := by
  induction d with
  | nil => rfl
  | cons x r ih => simp only [bytesE, List.map_cons, stripL, strip] at ih ⊢; rw [ih]
@[simp] theorem bytesE_length (d : List Int) : (bytesE d).length = d.length := by simp [-intV, -binV, bytesE]
theorem bytesE_get {d : List Int} {i : Nat} {x : Int} (h : d[i]? = some x) : (bytesE d)[i]? = some (.int .u8 x) := by simp [-intV, -binV, bytesE, h]
theorem SC_ok (c : Cur) : ObOk (SC c) := by
  unfold SC
  exact ObOk.of ⟨by intro m; simp [-intV, -binV, Pv.look], by intro m; simp [-intV, -binV, Pv.look]⟩ (by simp [-intV, -binV, Cur.e, kinL, kin]) (by simp [-intV, -binV])
theorem SC_same (c c' : Cur) : Same (SC c) (SC c') := by
  refine ⟨fun k => ?_, fun k => rfl⟩
  simp only [SC, Pv.look]
  split <;> rfl
/-- The next byte. -/
def byteOk (d : List Int) : Prop := ∀ x ∈ d, 0 ≤ x ∧ x < 256
def nextH (h : Int) : Int := IntKind.i64.wrap (IntKind.i64.wrap (h * 6364136223846793005) + 1442695040888963407)
def andK (k : IntKind) (a b : Int) : Int := k.wrap (BitVec.ofInt k.bits a &&& BitVec.ofInt k.bits b).toNat
def xorK (k : IntKind) (a b : Int) : Int := k.wrap (BitVec.ofInt k.bits a ^^^ BitVec.ofInt k.bits b).toNat
def shrK (k : IntKind) (a b : Int) : Int := a.fdiv (2 ^ (min b.toNat k.bits))
section
variable (a b : Int)
@[simp] theorem bin_add : binV .add false (.int .i64 a) (.int .i64 b) = some (in64 (a + b), .int .i64 (a + b)) := by unfold binV intV; simp [-intV, -binV]
@[simp] theorem bin_addw : binV .add true (.int .i64 a) (.int .i64 b) = some (True, .int .i64 (IntKind.i64.wrap (a + b))) := rfl
@[simp] theorem bin_sub : binV .sub false (.int .i64 a) (.int .i64 b) = some (in64 (a - b), .int .i64 (a - b)) := by unfold binV intV; simp [-intV, -binV]
@[simp] theorem bin_mul : binV .mul false (.int .i64 a) (.int .i64 b) = some (in64 (a * b), .int .i64 (a * b)) := by unfold binV intV; simp [-intV, -binV]
@[simp] theorem bin_mulw : binV .mul true (.int .i64 a) (.int .i64 b) = some (True, .int .i64 (IntKind.i64.wrap (a * b))) := rfl
@[simp] theorem bin_quo : binV .quo false (.int .i64 a) (.int .i64 b) = some (b ≠ 0, .int .i64 (IntKind.i64.wrap (a.tdiv b))) := rfl
@[simp] theorem bin_rem : binV .rem false (.int .i64 a) (.int .i64 b) = some (b ≠ 0, .int .i64 (a.tmod b)) := rfl
@[simp] theorem bin_eql : binV .eql false (.int .i64 a) (.int .i64 b) = some (True, .bool (a == b)) := rfl
@[simp] theorem bin_neq : binV .neq false (.int .i64 a) (.int .i64 b) = some (True, .bool (a != b)) := rfl
@[simp] theorem bin_lss : binV .lss false (.int .i64 a) (.int .i64 b) = some (True, .bool (decide (a < b))) := rfl
@[simp] theorem bin_leq : binV .leq false (.int .i64 a) (.int .i64 b) = some (True, .bool (decide (a ≤ b))) := rfl
@[simp] theorem bin_gtr : binV .gtr false (.int .i64 a) (.int .i64 b) = some (True, .bool (decide (b < a))) := rfl
@[simp] theorem bin_geq : binV .geq false (.int .i64 a) (.int .i64 b) = some (True, .bool (decide (b ≤ a))) := rfl
@[simp] theorem bin_and : binV .and false (.int .i64 a) (.int .i64 b) = some (True, .int .i64 (andK .i64 a b)) := rfl
@[simp] theorem bin_xor : binV .xor false (.int .i64 a) (.int .i64 b) = some (True, .int .i64 (xorK .i64 a b)) := rfl
@[simp] theorem bin_shr (k : IntKind) : binV .shr false (.int .i64 a) (.int k b) = some (0 ≤ b, .int .i64 (shrK .i64 a b)) := rfl
end
theorem and_le (x m : Int) (h0 : 0 ≤ m) (h1 : m < 9223372036854775807) : 0 ≤ andK .i64 x m ∧ andK .i64 x m ≤ m := by
  have hm : (BitVec.ofInt 64 m).toNat = m.toNat := by
    rw [BitVec.toNat_ofInt]; omega
  have h : (BitVec.ofInt 64 x &&& BitVec.ofInt 64 m).toNat ≤ m.toNat := by
    rw [BitVec.toNat_and, hm]
    exact Nat.and_le_right
  unfold andK
  rw [show IntKind.i64.bits = 64 from rfl, IntWalk.i64_in _ (by omega)]
  omega
def mixB (h : Int) : Int := andK .i64 (xorK .i64 (shrK .i64 h 33) (shrK .i64 h 45)) 255
theorem mixB_le (h : Int) : 0 ≤ mixB h ∧ mixB h ≤ 255 := and_le _ _ (by omega) (by omega)
def Cur.byte (c : Cur) : Int := match c.d[c.i]? with | some x => andK .i64 (mixB (nextH c.h) + x) 255 | none => mixB (nextH c.h)
def Cur.next (c : Cur) : Cur := ⟨c.d, if c.i < c.d.length then c.i + 1 else c.i, nextH c.h⟩
theorem Cur.byte_le (c : Cur) : 0 ≤ c.byte ∧ c.byte ≤ 255 := by
  unfold Cur.byte
  split
  · exact and_le _ _ (by omega) (by omega)
  · exact mixB_le _
/-- A cursor that may be drawn from. -/
structure Cur.ok (c : Cur) : Prop where
  d : byteOk c.d
  l : c.d.length ≤ 10000000
  i : c.i ≤ c.d.length
theorem Cur.ok.next {c : Cur} (h : c.ok) : c.next.ok := ⟨h.d, h.l, by have := h.i; simp only [Cur.next]; split <;> omega⟩
set_option maxHeartbeats 1000000 in
set_option maxRecDepth 4000 in
theorem g_l01Byte (c : Cur) (hc : c.ok) : FnG Tryz.prog 103 [.ptr (.obj 401) 0] (SC c) fun r s' => r = .int .i64 c.byte ∧ s' = SC c.next := by
  have hs := SC_ok c
  have hs' := SC_ok c.next
  have hsm := SC_same c c.next
  obtain ⟨d, i, h⟩ := c
  obtain ⟨hd, hl, hi⟩ := hc
  simp only at hd hl hi
  have hmb := mixB_le (nextH h)
  simp only [mixB] at hmb
  by_cases hlt : i < d.length
  · obtain ⟨x, hx⟩ : ∃ x, d[i]? = some x := ⟨_, List.getElem?_eq_getElem hlt⟩
    have hbx : ∀ h, (bytesE d)[i]'h = .int .u8 x := fun h => by have := bytesE_get hx; rw [List.getElem?_eq_getElem h] at this; simpa using this
    have hx2 := hd x (List.mem_of_getElem? hx)
    have hw : IntKind.i64.wrap x = x := IntWalk.i64_in _ (by omega)
    simp only [SC, Cur.e, Cur.next, hlt, if_true] at hs hs' hsm ⊢
    refine FnG.mk mixed tysok f_spec_l01Byte ok_spec_l01Byte (by simp [-intV, -binV]) hs.obj fun hbnd hbb => ?_; unfold c_spec_l01Byte
    simp [-intV, -binV, hlt, hbx, hw, ← nextH.eq_1]
    (repeat' first | (with_reducible refine evCd_split (fun h => ?_) (fun h => ?_) <;> (try simp [-intV, -binV] at h)) | (with_reducible refine evGd_split (fun h => ?_) (fun h => ?_) <;> (try simp [-intV, -binV] at h)) | (with_reducible refine evDd_split (fun h => ?_) (fun h => ?_) <;> (try simp [-intV, -binV] at h)) | with_reducible refine And.intro (by (first | omega | (unfold in64; omega))) ?_ | simp [-intV, -binV])
    refine RetQ.at _ (.inl rfl) hs' hsm (by intro k x hx; first | exact hx | (simp [-intV, -binV, hx, without_self]; done) | (simp [-intV, -binV, look_app, without_self, hx]; done) | (cases k <;> simp_all [look_app]; done) | (have hm := look_mem hx; clear hx; simp [-intV, -binV] at hm; first | (obtain ⟨rfl, rfl⟩ := hm; simp [-intV, -binV]; done) | (rcases hm with ⟨rfl, rfl⟩ | ⟨rfl, rfl⟩ <;> simp [-intV, -binV]; done) | (rcases hm with ⟨rfl, rfl⟩ | ⟨rfl, rfl⟩ | ⟨rfl, rfl⟩ <;> simp [-intV, -binV]; done) | (rcases hm with ⟨rfl, rfl⟩ | ⟨rfl, rfl⟩ | ⟨rfl, rfl⟩ | ⟨rfl, rfl⟩ <;> simp [-intV, -binV]; done) | (rcases hm with ⟨rfl, rfl⟩ | ⟨rfl, rfl⟩ | ⟨rfl, rfl⟩ | ⟨rfl, rfl⟩ | ⟨rfl, rfl⟩ <;> simp [-intV, -binV]; done) | (rcases hm with ⟨rfl, rfl⟩ | ⟨rfl, rfl⟩ | ⟨rfl, rfl⟩ | ⟨rfl, rfl⟩ | ⟨rfl, rfl⟩ | ⟨rfl, rfl⟩ <;> simp [-intV, -binV]; done))) (by intro k x hx; first | exact hx | (simp [-intV, -binV, hx, without_self]; done) | (simp [-intV, -binV, look_app, without_self, hx]; done) | (cases k <;> simp_all [look_app]; done) | (have hm := look_mem hx; clear hx; simp [-intV, -binV] at hm; first | (obtain ⟨rfl, rfl⟩ := hm; simp [-intV, -binV]; done) | (rcases hm with ⟨rfl, rfl⟩ | ⟨rfl, rfl⟩ <;> simp [-intV, -binV]; done) | (rcases hm with ⟨rfl, rfl⟩ | ⟨rfl, rfl⟩ | ⟨rfl, rfl⟩ <;> simp [-intV, -binV]; done) | (rcases hm with ⟨rfl, rfl⟩ | ⟨rfl, rfl⟩ | ⟨rfl, rfl⟩ | ⟨rfl, rfl⟩ <;> simp [-intV, -binV]; done) | (rcases hm with ⟨rfl, rfl⟩ | ⟨rfl, rfl⟩ | ⟨rfl, rfl⟩ | ⟨rfl, rfl⟩ | ⟨rfl, rfl⟩ <;> simp [-intV, -binV]; done) | (rcases hm with ⟨rfl, rfl⟩ | ⟨rfl, rfl⟩ | ⟨rfl, rfl⟩ | ⟨rfl, rfl⟩ | ⟨rfl, rfl⟩ | ⟨rfl, rfl⟩ <;> simp [-intV, -binV]; done))) ?_
    simp [-intV, -binV, ResIs, r_spec_l01Byte, resL, resV, tup]
    simp [-intV, -binV, Cur.byte, hx, mixB]
  · have hx : d[i]? = none := by simp [-intV, -binV]; omega
    simp only [SC, Cur.e, Cur.next, hlt, if_false] at hs hs' hsm ⊢
    refine FnG.mk mixed tysok f_spec_l01Byte ok_spec_l01Byte (by simp [-intV, -binV]) hs.obj fun hbnd hbb => ?_; unfold c_spec_l01Byte
    simp [-intV, -binV, hlt, ← nextH.eq_1]
    (repeat' first | (with_reducible refine evCd_split (fun h => ?_) (fun h => ?_) <;> (try simp [-intV, -binV] at h)) | (with_reducible refine evGd_split (fun h => ?_) (fun h => ?_) <;> (try simp [-intV, -binV] at h)) | (with_reducible refine evDd_split (fun h => ?_) (fun h => ?_) <;> (try simp [-intV, -binV] at h)) | with_reducible refine And.intro (by (first | omega | (unfold in64; omega))) ?_ | simp [-intV, -binV])
    refine RetQ.at _ (.inl rfl) hs' hsm (by intro k x hx; first | exact hx | (simp [-intV, -binV, hx, without_self]; done) | (simp [-intV, -binV, look_app, without_self, hx]; done) | (cases k <;> simp_all [look_app]; done) | (have hm := look_mem hx; clear hx; simp [-intV, -binV] at hm; first | (obtain ⟨rfl, rfl⟩ := hm; simp [-intV, -binV]; done) | (rcases hm with ⟨rfl, rfl⟩ | ⟨rfl, rfl⟩ <;> simp [-intV, -binV]; done) | (rcases hm with ⟨rfl, rfl⟩ | ⟨rfl, rfl⟩ | ⟨rfl, rfl⟩ <;> simp [-intV, -binV]; done) | (rcases hm with ⟨rfl, rfl⟩ | ⟨rfl, rfl⟩ | ⟨rfl, rfl⟩ | ⟨rfl, rfl⟩ <;> simp [-intV, -binV]; done) | (rcases hm with ⟨rfl, rfl⟩ | ⟨rfl, rfl⟩ | ⟨rfl, rfl⟩ | ⟨rfl, rfl⟩ | ⟨rfl, rfl⟩ <;> simp [-intV, -binV]; done) | (rcases hm with ⟨rfl, rfl⟩ | ⟨rfl, rfl⟩ | ⟨rfl, rfl⟩ | ⟨rfl, rfl⟩ | ⟨rfl, rfl⟩ | ⟨rfl, rfl⟩ <;> simp [-intV, -binV]; done))) (by intro k x hx; first | exact hx | (simp [-intV, -binV, hx, without_self]; done) | (simp [-intV, -binV, look_app, without_self, hx]; done) | (cases k <;> simp_all [look_app]; done) | (have hm := look_mem hx; clear hx; simp [-intV, -binV] at hm; first | (obtain ⟨rfl, rfl⟩ := hm; simp [-intV, -binV]; done) | (rcases hm with ⟨rfl, rfl⟩ | ⟨rfl, rfl⟩ <;> simp [-intV, -binV]; done) | (rcases hm with ⟨rfl, rfl⟩ | ⟨rfl, rfl⟩ | ⟨rfl, rfl⟩ <;> simp [-intV, -binV]; done) | (rcases hm with ⟨rfl, rfl⟩ | ⟨rfl, rfl⟩ | ⟨rfl, rfl⟩ | ⟨rfl, rfl⟩ <;> simp [-intV, -binV]; done) | (rcases hm with ⟨rfl, rfl⟩ | ⟨rfl, rfl⟩ | ⟨rfl, rfl⟩ | ⟨rfl, rfl⟩ | ⟨rfl, rfl⟩ <;> simp [-intV, -binV]; done) | (rcases hm with ⟨rfl, rfl⟩ | ⟨rfl, rfl⟩ | ⟨rfl, rfl⟩ | ⟨rfl, rfl⟩ | ⟨rfl, rfl⟩ | ⟨rfl, rfl⟩ <;> simp [-intV, -binV]; done))) ?_
    simp [-intV, -binV, ResIs, r_spec_l01Byte, resL, resV, tup]
    simp [-intV, -binV, Cur.byte, hx, mixB]
end Go.Proofs.YtchidkafcdmciaaGreat
