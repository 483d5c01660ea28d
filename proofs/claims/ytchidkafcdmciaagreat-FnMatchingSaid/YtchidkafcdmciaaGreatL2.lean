/- Plain laws: matching and replacing. -/
import Derived.Test.YtchidkafcdmciaaGreatL1
set_option linter.all false
namespace Go.Proofs.YtchidkafcdmciaaGreat
open Go Go.Pv

theorem tlook_app (v : Int) : ∀ (m r : List (Int × T)), tlook v (m ++ r) = match tlook v m with | some x => some x | none => tlook v r
  | [], r => rfl
  | (i, x) :: m, r => by
    simp only [List.cons_append, tlook]
    split
    · rfl
    · exact tlook_app v m r
theorem tlook_mem {v : Int} {x : T} : ∀ {m : List (Int × T)}, tlook v m = some x → (v, x) ∈ m
  | (i, y) :: m, h => by
    simp only [tlook] at h
    split at h
    · rename_i e; cases h; subst e; simp
    · exact List.mem_cons_of_mem _ (tlook_mem h)
theorem tlook_isSome {v : Int} : ∀ {m : List (Int × T)}, (tlook v m).isSome ↔ v ∈ m.map (·.1)
  | [] => by simp [tlook]
  | (i, y) :: m => by
    simp only [tlook, List.map_cons, List.mem_cons]
    split
    · rename_i e; simp [e]
    · rename_i e; rw [tlook_isSome]; simp [e]
theorem mem_tlook {v : Int} {x : T} : ∀ {m : List (Int × T)}, (m.map (·.1)).Nodup → (v, x) ∈ m → tlook v m = some x
  | (i, y) :: m, hd, h => by
    simp only [List.map_cons, List.nodup_cons] at hd
    simp only [tlook]
    rcases List.mem_cons.1 h with h2 | h2
    · cases h2; simp
    · split
      · rename_i e
        have hm : v ∈ m.map (·.1) := List.mem_map.2 ⟨(v, x), h2, rfl⟩
        rw [e] at hm
        exact absurd hm hd.1
      · exact mem_tlook hd.2 h2
theorem sub_congr {f g : Int → Option T} (t : T) (h : ∀ v, t.occ v = true → f v = g v) : t.sub f = t.sub g := by
  induction t with
  | var n => simp only [T.sub]; rw [h n (by simp [T.occ])]
  | pair a b iha ihb => simp only [T.sub]; rw [iha fun v hv => h v (by simp [T.occ, hv]), ihb fun v hv => h v (by simp [T.occ, hv])]
  | _ => rfl
/-- Matching finds what was put in. -/
theorem mtch_sub (f : Int → Option T) (t : T) : ∀ m : List (Int × T), (∀ v x, tlook v m = some x → x = (f v).getD (.var v)) →
    (mtch t (t.sub f) m).1 = true ∧ (∀ v x, tlook v (mtch t (t.sub f) m).2 = some x → x = (f v).getD (.var v)) := by
  induction t with
  | var n =>
    intro m hm
    have hF : (T.var n).sub f = (f n).getD (.var n) := by simp only [T.sub]; cases f n <;> rfl
    rw [hF]
    simp only [mtch]
    split
    · rename_i x hx
      exact ⟨by simp [hm n x hx], hm⟩
    · refine ⟨rfl, fun v x hx => ?_⟩
      rw [tlook_app] at hx
      split at hx
      · rename_i y hy; cases hx; exact hm v _ hy
      · simp only [tlook] at hx
        split at hx
        · rename_i e; cases hx; subst e; rfl
        · cases hx
  | pair a b iha ihb =>
    intro m hm
    obtain ⟨a1, a2⟩ := iha m hm
    obtain ⟨b1, b2⟩ := ihb _ a2
    simp only [T.sub, mtch, a1, if_true]
    exact ⟨b1, b2⟩
  | _ => intro m hm; simp only [T.sub, mtch]; exact ⟨by simp, hm⟩
/-- What matching finds. -/
theorem mtch_keys (t : T) : ∀ (u : T) (m : List (Int × T)), (mtch t u m).1 = true → ∀ v, (v ∈ (mtch t u m).2.map (·.1) ↔ v ∈ m.map (·.1) ∨ t.occ v = true) := by
  induction t with
  | var n =>
    intro u m h v
    simp only [mtch] at h ⊢
    split
    · rename_i x hx
      have : n ∈ m.map (·.1) := tlook_isSome.1 (by simp [hx])
      simp only [T.occ, beq_iff_eq]
      constructor
      · exact .inl
      · rintro (h | rfl)
        · exact h
        · exact this
    · simp only [List.map_append, List.map_cons, List.map_nil, List.mem_append, List.mem_singleton, T.occ, beq_iff_eq]
      exact or_congr Iff.rfl eq_comm
  | pair a b iha ihb =>
    intro u m h v
    cases u with
    | pair c d =>
      simp only [mtch] at h ⊢
      split at h
      · rename_i ha
        rw [if_pos ha, ihb d _ h v, iha c m ha v]
        simp [T.occ, or_assoc]
      · cases h
    | _ => simp [mtch] at h
  | _ => intro u m h v; cases u <;> simp_all [mtch, T.occ]
theorem mtch_mono (t : T) : ∀ (u : T) (m : List (Int × T)) (v : Int) (x : T), tlook v m = some x → tlook v (mtch t u m).2 = some x := by
  induction t with
  | var n =>
    intro u m v x h
    simp only [mtch]
    split
    · exact h
    · rw [tlook_app, h]
  | pair a b iha ihb =>
    intro u m v x h
    cases u with
    | pair c d =>
      simp only [mtch]
      split
      · exact ihb d _ v x (iha c m v x h)
      · exact iha c m v x h
    | _ => simpa [mtch] using h
  | _ => intro u m v x h; cases u <;> simpa [mtch] using h
theorem mtch_sound (t : T) : ∀ (u : T) (m : List (Int × T)), (mtch t u m).1 = true → ∀ f : Int → Option T, (∀ v x, tlook v (mtch t u m).2 = some x → f v = some x) → t.sub f = u := by
  induction t with
  | var n =>
    intro u m h f hf
    simp only [mtch] at h hf
    split at h
    · rename_i x hx
      simp only [hx] at hf
      have := hf n x hx
      simp only [T.sub, this]
      simpa using h
    · rename_i hx
      simp only [hx] at hf
      have := hf n u (by rw [tlook_app, hx]; simp [tlook])
      simp only [T.sub, this]
  | pair a b iha ihb =>
    intro u m h f hf
    cases u with
    | pair c d =>
      simp only [mtch] at h hf
      split at h
      · rename_i ha
        rw [if_pos ha] at hf
        simp only [T.sub]
        rw [ihb d _ h f hf, iha c m ha f fun v x hx => hf v x (mtch_mono b d _ v x hx)]
      · cases h
    | _ => simp [mtch] at h
  | _ => intro u m h f hf; cases u <;> simp_all [mtch, T.sub]
theorem mtch_vals (t : T) : ∀ (u : T) (m : List (Int × T)) (y : Int × T), y ∈ (mtch t u m).2 → y ∈ m ∨ (y.2.size ≤ u.size ∧ (u.ok = true → y.2.ok = true)) := by
  induction t with
  | var n =>
    intro u m y hy
    simp only [mtch] at hy
    split at hy
    · exact .inl hy
    · simp at hy
      rcases hy with hy | rfl
      · exact .inl hy
      · exact .inr ⟨Nat.le_refl _, id⟩
  | pair a b iha ihb =>
    intro u m y hy
    cases u with
    | pair c d =>
      simp only [mtch] at hy
      have h1 : y ∈ (mtch a c m).2 → y ∈ m ∨ (y.2.size ≤ (T.pair c d).size ∧ ((T.pair c d).ok = true → y.2.ok = true)) := fun h => by
        rcases iha c m y h with h | ⟨h1, h2⟩
        · exact .inl h
        · exact .inr ⟨by simp only [T.size]; omega, fun h => h2 (by simp [T.ok] at h; exact h.1)⟩
      split at hy
      · rcases ihb d _ y hy with h | ⟨h3, h4⟩
        · exact h1 h
        · exact .inr ⟨by simp only [T.size]; omega, fun h => h4 (by simp [T.ok] at h; exact h.2)⟩
      · exact h1 hy
    | _ => simp [mtch] at hy; exact .inl hy
  | _ => intro u m y hy; cases u <;> (simp [mtch] at hy; exact .inl hy)
/- The bindings in order. -/
theorem sortB_perm' (l : List Bd) : (sortB l).Perm l := List.mergeSort_perm l _
theorem sortB_asc {l : List Bd} (hd : (l.map (·.v)).Nodup) : Asc (sortB l) := by
  have ht : ∀ a b c : Bd, (decide (a.v ≤ b.v)) = true → (decide (b.v ≤ c.v)) = true → (decide (a.v ≤ c.v)) = true := by intro a b c; simp; omega
  have hto : ∀ a b : Bd, (decide (a.v ≤ b.v) || decide (b.v ≤ a.v)) = true := by intro a b; simp; omega
  have h1 : (sortB l).Pairwise fun x y => x.v ≤ y.v := (List.pairwise_mergeSort ht hto l).imp (by simp)
  have h2 : ((sortB l).map (·.v)).Nodup := (((sortB_perm' l).map _).nodup_iff).2 hd
  have h3 : (sortB l).Pairwise fun x y => x.v ≠ y.v := by
    rw [List.nodup_iff_pairwise_ne, List.pairwise_map] at h2
    exact h2
  exact (h1.and h3).imp fun ⟨a, b⟩ => by omega
theorem bget_mem {l : List Bd} (hs : Asc l) {b : Bd} (hb : b ∈ l) : bget l b.v = some b.t := by
  induction l with
  | nil => cases hb
  | cons a r ih =>
    simp only [Asc, List.pairwise_cons] at hs
    simp only [bget, List.find?_cons]
    rcases List.mem_cons.1 hb with rfl | hb
    · simp
    · have := hs.1 b hb
      have hne : (a.v == b.v) = false := by simp; omega
      rw [hne]
      exact ih hs.2 hb
theorem bget_sort {m : List (Int × T)} (hd : (m.map (·.1)).Nodup) {v : Int} {x : T} (hx : tlook v m = some x) : bget (sortB (m.map toB)) v = some x := by
  have hd' : ((m.map toB).map (·.v)).Nodup := by simpa [toB, Function.comp_def] using hd
  have : (⟨v, x⟩ : Bd) ∈ sortB (m.map toB) := (sortB_perm' _).mem_iff.2 (List.mem_map.2 ⟨(v, x), tlook_mem hx, rfl⟩)
  exact bget_mem (sortB_asc hd') this
theorem valsOk_of {l : List Bd} (hs : Asc l) (hl : l.length ≤ 400) (h : ∀ b ∈ l, (0 ≤ b.v ∧ b.v ≤ 100000) ∧ b.t.fit = true) : valsOk l = true := by
  unfold valsOk
  simp only [decide_eq_true_eq]
  refine ⟨by simpa using hl, fun i hi b hb => ?_⟩
  simp only [List.getElem?_map, Option.map_eq_some_iff] at hb
  obtain ⟨b', hb', rfl⟩ := hb
  have hm := h b' (List.mem_of_getElem? hb')
  refine ⟨hm.1, fun c h0 hc => ?_, by rw [show b'.b.t = b'.t.tm from rfl, Tm.fits_T]; exact hm.2⟩
  simp only [List.getElem?_map, Option.map_eq_some_iff] at hc
  obtain ⟨c', hc', rfl⟩ := hc
  obtain ⟨h1, rfl⟩ := List.getElem?_eq_some_iff.1 hb'
  obtain ⟨h2, rfl⟩ := List.getElem?_eq_some_iff.1 hc'
  exact List.pairwise_iff_getElem.1 hs (i - 1) i h2 h1 (by omega)
/- Sizes. -/
theorem sub_size {f : Int → Option T} {B : Nat} (hB : 1 ≤ B) (t : T) (h : ∀ v x, t.occ v = true → f v = some x → x.size ≤ B) : (t.sub f).size ≤ t.size * B := by
  induction t with
  | var n =>
    simp only [T.sub]
    split
    · rename_i x hx; have := h n x (by simp [T.occ]) hx; simp [T.size]; exact this
    · simp [T.size]; exact hB
  | pair a b iha ihb =>
    have h1 := iha fun v x hv => h v x (by simp [T.occ, hv])
    have h2 := ihb fun v x hv => h v x (by simp [T.occ, hv])
    simp only [T.sub, T.size, Nat.add_mul]
    omega
  | _ => simp [T.sub, T.size]; exact hB
theorem sub_ok {f : Int → Option T} (t : T) (ht : t.ok = true) (h : ∀ v x, t.occ v = true → f v = some x → x.ok = true) : (t.sub f).ok = true := by
  induction t with
  | var n =>
    simp only [T.sub]
    split
    · rename_i x hx; exact h n x (by simp [T.occ]) hx
    · exact ht
  | pair a b iha ihb =>
    simp only [T.ok, Bool.and_eq_true] at ht
    simp only [T.sub, T.ok, Bool.and_eq_true]
    exact ⟨iha ht.1 fun v x hv => h v x (by simp [T.occ, hv]), ihb ht.2 fun v x hv => h v x (by simp [T.occ, hv])⟩
  | _ => exact ht
/-- The size that is foreseen is the size. -/
theorem sizeW_eq {l : List Bd} (hs : Asc l) (t : T) (h : ∀ b ∈ l, b.t.fit = true) (hz : (t.sub (bget l)).size ≤ 5000) : sizeW (fsz l) t = (t.sub (bget l)).size := by
  have hfs : ∀ v, fsz l v = match bget l v with | some x => (x.size : Int) | none => 1 := by
    intro v
    unfold fsz
    rw [pget_eq hs]
    cases hb : bget l v with
    | none => rfl
    | some x =>
      simp only
      have : ∃ b ∈ l, b.t = x := by
        unfold bget at hb
        simp only [Option.map_eq_some_iff] at hb
        obtain ⟨b, h1, h2⟩ := hb
        exact ⟨b, List.mem_of_find?_eq_some h1, h2⟩
      obtain ⟨b, h1, rfl⟩ := this
      have := h b h1
      simp only [T.fit, Bool.and_eq_true, decide_eq_true_eq] at this
      rw [nodes_T, if_pos ⟨this.1, by omega⟩]
  induction t with
  | var n =>
    simp only [T.sub] at hz ⊢
    simp only [sizeW, hfs]
    cases hb : bget l n with
    | none => simp [T.size]
    | some x => simp only [hb] at hz ⊢; rw [if_neg (by omega)]
  | pair a b iha ihb =>
    simp only [T.sub, T.size] at hz ⊢
    simp only [sizeW]
    rw [iha (by omega), ihb (by omega), if_neg (by omega), if_neg (by omega)]
    omega
  | _ => simp [sizeW, T.sub, T.size]
theorem putOk_of {l : List Bd} (hs : Asc l) (t : T) (h : ∀ b ∈ l, b.t.fit = true) (hz : (t.sub (bget l)).size ≤ 5000) : putOk l t = true := by
  unfold putOk
  rw [sizeW_eq hs t h hz]
  simp only [decide_eq_true_eq]
  omega
theorem putT_eq {l : List Bd} (hs : Asc l) (t : T) : putT l t = t.sub (bget l) := sub_congr t fun v _ => pget_eq hs v
/- The variables of a term. -/
theorem fold_mem (t : T) : ∀ (l : List Int) (v : Int), v ∈ t.fold addV l ↔ v ∈ l ∨ t.occ v = true := by
  induction t with
  | var n =>
    intro l v
    simp only [T.fold, addV, T.occ, beq_iff_eq]
    split
    · rename_i h
      constructor
      · exact .inl
      · rintro (h' | rfl)
        · exact h'
        · exact h
    · simp only [List.mem_append, List.mem_singleton]
      exact or_congr Iff.rfl eq_comm
  | pair a b iha ihb => intro l v; simp only [T.fold, ihb, iha, T.occ, Bool.or_eq_true, or_assoc]
  | _ => intro l v; simp [T.fold, T.occ]
theorem fold_nodup (t : T) : ∀ (l : List Int), l.Nodup → (t.fold addV l).Nodup := by
  induction t with
  | var n =>
    intro l h
    simp only [T.fold, addV]
    split
    · exact h
    · rename_i hn
      rw [List.nodup_append]
      refine ⟨h, by simp, ?_⟩
      intro a ha b hb e
      simp at hb
      subst hb e
      exact hn ha
  | pair a b iha ihb => intro l h; exact ihb _ (iha _ h)
  | _ => intro l h; exact h
theorem tvars_len {t u : T} (ht : t.fit = true) (h : (mtch t u []).1 = true) : (tvars t).length = (mtch t u []).2.length := by
  unfold tvars
  rw [if_pos ht, sortI_length]
  have h1 := fold_nodup t [] (by simp)
  have h2 := mtch_nodup t u [] (by simp)
  have : (t.fold addV []).Perm ((mtch t u []).2.map (·.1)) := (List.perm_ext_iff_of_nodup h1 h2).2 fun v => by rw [fold_mem, mtch_keys t u [] h]; simp
  simpa using this.length_eq
end Go.Proofs.YtchidkafcdmciaaGreat
