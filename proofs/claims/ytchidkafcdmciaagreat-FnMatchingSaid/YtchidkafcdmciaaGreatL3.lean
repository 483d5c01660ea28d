/- Plain laws: what FnMatching asks. -/
import Derived.Test.YtchidkafcdmciaaGreatL2
set_option linter.all false
namespace Go.Proofs.YtchidkafcdmciaaGreat
open Go Go.Pv

theorem ok_occ {t : T} (ht : t.ok = true) {v : Int} (hv : t.occ v = true) : 0 ≤ v ∧ v ≤ 100000 := by
  induction t with
  | var n => simp [T.ok, T.occ] at ht hv; omega
  | pair a b iha ihb =>
    simp only [T.ok, Bool.and_eq_true] at ht
    simp only [T.occ, Bool.or_eq_true] at hv
    rcases hv with hv | hv
    · exact iha ht.1 hv
    · exact ihb ht.2 hv
  | _ => simp [T.occ] at hv
structure MF (t u : T) : Prop where
  ok : mOk t u = true
  asc : Asc (mBs t u)
  vals : valsOk (mBs t u) = true
  inst : instOk t (mBs t u) = true
  put : putT (mBs t u) t = u
  len : (mBs t u).length = (tvars t).length
theorem match_facts {t u : T} (ht : t.fit = true) (hz : t.size ≤ 400) (hu : u.fit = true) (hm : (mtch t u []).1 = true) : MF t u := by
  have hlen := mtch_len t u []
  simp only [List.length_nil, Nat.zero_add] at hlen
  have hnd := mtch_nodup t u [] (by simp)
  have hok : mOk t u = true := by simp [mOk, ht, hu, hm]; omega
  have hbs : mBs t u = sortB ((mtch t u []).2.map toB) := by simp [mBs, hok]
  have hnd' : (((mtch t u []).2.map toB).map (·.v)).Nodup := by simpa [toB, Function.comp_def] using hnd
  have hasc : Asc (mBs t u) := by rw [hbs]; exact sortB_asc hnd'
  have hu' : u.ok = true ∧ u.size ≤ 5000 := by simpa [T.fit] using hu
  have ht' : t.ok = true ∧ t.size ≤ 5000 := by simpa [T.fit] using ht
  have hmem : ∀ b ∈ mBs t u, (b.v, b.t) ∈ (mtch t u []).2 := by
    intro b hb
    rw [hbs] at hb
    have := (sortB_perm' _).mem_iff.1 hb
    obtain ⟨y, h1, rfl⟩ := List.mem_map.1 this
    exact h1
  have hfit : ∀ b ∈ mBs t u, b.t.fit = true := by
    intro b hb
    rcases mtch_vals t u [] _ (hmem b hb) with h | ⟨h1, h2⟩
    · cases h
    · simp only [T.fit, Bool.and_eq_true, decide_eq_true_eq]
      exact ⟨h2 hu'.1, by simp only at h1; omega⟩
  have hv : ∀ b ∈ mBs t u, 0 ≤ b.v ∧ b.v ≤ 100000 := by
    intro b hb
    have h1 : b.v ∈ (mtch t u []).2.map (·.1) := List.mem_map.2 ⟨_, hmem b hb, rfl⟩
    rw [mtch_keys t u [] hm] at h1
    rcases h1 with h1 | h1
    · simp at h1
    · exact ok_occ ht'.1 h1
  have hll : (mBs t u).length = (mtch t u []).2.length := by rw [hbs, sortB_length]; simp
  have hvals := valsOk_of hasc (by omega) fun b hb => ⟨hv b hb, hfit b hb⟩
  have hsub : t.sub (bget (mBs t u)) = u := mtch_sound t u [] hm _ fun v x hx => by rw [hbs]; exact bget_sort hnd hx
  refine ⟨hok, hasc, hvals, ?_, by rw [putT_eq hasc, hsub], by rw [hll, tvars_len ht hm]⟩
  simp [instOk, ht, hvals, putOk_of hasc t hfit (by rw [hsub]; exact hu'.2)]
/-- What IsInstance says. -/
def isI (t u : T) : Bool := t.fit && u.fit && (mtch t u []).1 && decide (((mtch t u []).2.filter says).length ≤ 400)
theorem isI_eq {t u : T} (hz : t.size ≤ 400) : isI t u = mOk t u := by
  have hlen := mtch_len t u []
  simp only [List.length_nil, Nat.zero_add] at hlen
  have h1 := List.length_filter_le says (mtch t u []).2
  unfold isI mOk
  have e1 : decide (((mtch t u []).2.filter says).length ≤ 400) = true := by simp; omega
  have e2 : decide ((mtch t u []).2.length ≤ 400) = true := by simp; omega
  rw [e1, e2]
theorem groundB_get : ∀ (n i : Nat) (c : Cur) (k : Nat) (b : Bd), (groundB n i c)[k]? = some b → b.v = (i + k : Nat) ∧ b.t.ok = true ∧ b.t.size ≤ 5
  | 0, _, _, _, _, h => by simp [groundB] at h
  | n + 1, i, c, 0, b, h => by
    simp [groundB] at h
    subst h
    obtain ⟨d1, _, d3⟩ := drawT_fit 0 (by omega) 3 c
    exact ⟨by simp, d1, by simpa using d3⟩
  | n + 1, i, c, k + 1, b, h => by
    simp only [groundB, List.getElem?_cons_succ] at h
    have := groundB_get n (i + 1) _ k b h
    exact ⟨by rw [this.1]; congr 1; omega, this.2⟩
theorem groundB_asc (n : Nat) (c : Cur) : Asc (groundB n 0 c) := by
  unfold Asc
  rw [List.pairwise_iff_getElem]
  intro i j hi hj hij
  have h1 := groundB_get n 0 c i _ (List.getElem?_eq_getElem hi)
  have h2 := groundB_get n 0 c j _ (List.getElem?_eq_getElem hj)
  rw [h1.1, h2.1]
  omega
/-- All that FnMatching asks of its first part. -/
structure LM (t : T) (g : List Bd) : Prop where
  tfit : t.fit = true
  tsz : t.size ≤ 15
  occ : ∀ v, t.occ v = true → 0 ≤ v ∧ v < 4
  inst : instOk t g = true
  put : putT g t = t.sub (bget g)
  ifit : (t.sub (bget g)).ok = true ∧ (t.sub (bget g)).size ≤ 75
  mf : MF t (t.sub (bget g))
  elem : ∀ b ∈ mBs t (t.sub (bget g)), (0 ≤ b.v ∧ b.v < 4) ∧ t.occ b.v = true ∧ ∃ x, g[b.v.toNat]? = some x ∧ b.t = x.t
theorem law_facts (c c' : Cur) : LM (drawT 8 4 c).1 (groundB 4 0 c') := by
  obtain ⟨d1, d2, d3⟩ := drawT_fit 4 (by omega) 8 c
  generalize (drawT 8 4 c).1 = t at *
  have hg := groundB_get 4 0 c'
  have hga := groundB_asc 4 c'
  have hgl := groundB_len 4 0 c'
  generalize groundB 4 0 c' = g at *
  have hts : t.size ≤ 15 := by simpa using d3
  have htf : t.fit = true := by simp only [T.fit, Bool.and_eq_true, decide_eq_true_eq]; exact ⟨d1, by omega⟩
  have hgm : ∀ b ∈ g, (0 ≤ b.v ∧ b.v ≤ 100000) ∧ b.t.ok = true ∧ b.t.size ≤ 5 := by
    intro b hb
    obtain ⟨k, hk, rfl⟩ := List.mem_iff_getElem.1 hb
    have := hg k _ (List.getElem?_eq_getElem hk)
    exact ⟨by rw [this.1]; omega, this.2⟩
  have hgf : ∀ b ∈ g, b.t.fit = true := fun b hb => by
    have := hgm b hb
    simp only [T.fit, Bool.and_eq_true, decide_eq_true_eq]
    exact ⟨this.2.1, by omega⟩
  have hbg : ∀ v x, bget g v = some x → x.ok = true ∧ x.size ≤ 5 := by
    intro v x hx
    unfold bget at hx
    simp only [Option.map_eq_some_iff] at hx
    obtain ⟨b, h1, rfl⟩ := hx
    exact (hgm b (List.mem_of_find?_eq_some h1)).2
  have hio : (t.sub (bget g)).ok = true := sub_ok t d1 fun v x _ hx => (hbg v x hx).1
  have his : (t.sub (bget g)).size ≤ 75 := by
    have := sub_size (f := bget g) (B := 5) (by omega) t fun v x _ hx => (hbg v x hx).2
    omega
  have hif : (t.sub (bget g)).fit = true := by simp only [T.fit, Bool.and_eq_true, decide_eq_true_eq]; exact ⟨hio, by omega⟩
  have hms := mtch_sub (bget g) t [] (by simp [tlook])
  have hmf := match_facts htf (by omega) hif hms.1
  refine ⟨htf, hts, d2, ?_, putT_eq hga t, ⟨hio, his⟩, hmf, fun b hb => ?_⟩
  · have h1 := valsOk_of hga (by omega) fun b hb => ⟨(hgm b hb).1, hgf b hb⟩
    simp [instOk, htf, h1, putOk_of hga t hgf (by omega)]
  · have hbs : mBs t (t.sub (bget g)) = sortB ((mtch t (t.sub (bget g)) []).2.map toB) := by simp [mBs, hmf.ok]
    rw [hbs] at hb
    have := (sortB_perm' _).mem_iff.1 hb
    obtain ⟨y, h1, rfl⟩ := List.mem_map.1 this
    have hnd := mtch_nodup t (t.sub (bget g)) [] (by simp)
    have hk : y.1 ∈ (mtch t (t.sub (bget g)) []).2.map (·.1) := List.mem_map.2 ⟨_, h1, rfl⟩
    rw [mtch_keys t _ [] hms.1] at hk
    have hocc : t.occ y.1 = true := by rcases hk with h | h; simp at h; exact h
    have hb4 := d2 _ hocc
    have hy := hms.2 y.1 y.2 (mem_tlook hnd h1)
    have hgi : g[y.1.toNat]? = some g[y.1.toNat] := List.getElem?_eq_getElem (by omega)
    have hgv := (hg _ _ hgi).1
    have hbget : bget g y.1 = some g[y.1.toNat].t := by
      have := bget_mem hga (b := g[y.1.toNat]) (by simp)
      rw [hgv] at this
      rw [← this]
      congr 1
      omega
    exact ⟨hb4, hocc, _, hgi, by simp only [toB]; rw [hy, hbget]; rfl⟩
end Go.Proofs.YtchidkafcdmciaaGreat
