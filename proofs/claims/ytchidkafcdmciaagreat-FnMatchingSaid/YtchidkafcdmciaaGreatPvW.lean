/- Regions that draw their order, IV: soundness of effects; every order comes to the same. -/
import Derived.Test.YtchidkafcdmciaaGreatPvV
set_option linter.all false
namespace Go.Pv
open Go Go.RowKit

def RelA (C : Ctx) (A : AS) (a : Act) (w : World) : Prop := ∃ st ν, Like st A ∧ (∀ k, A.F k → fresh st.n st.o k) ∧ Rel C st a w ν

theorem like_v {st : St} {A : AS} (h : Like st A) (d : Nat) (p : PV) : Like { st with t := put d p st.t } (A.do ⟨some d, p, [], [], none⟩) := by
  refine ⟨fun i => ?_, fun k => ?_, fun k => ?_⟩
  · simp only [AS.do, get_put, Option.some.injEq, h.t]
  · simpa [AS.do, fsets, look] using h.b k
  · simpa [AS.do, fsets, look] using h.e k
theorem like_box {st : St} {A : AS} (h : Like st A) (d : Nat) (p : PV) (κ : Key) (cs : List PV) (n' : Nat) (o' : List Key) (rm : Option Key) : Like ⟨put d p st.t, upd κ cs st.b, st.e, n', o'⟩ (A.do ⟨some d, p, [(κ, cs)], [], rm⟩) := by
  refine ⟨fun i => ?_, fun k => ?_, fun k => ?_⟩
  · simp only [AS.do, get_put, Option.some.injEq, h.t]
  · simp only [AS.do, fsets, look, look_upd, h.b]
    by_cases e : κ = k <;> simp [e]
  · simpa [AS.do, fsets, look] using h.e k
theorem like_store {st : St} {A : AS} (h : Like st A) (κ : Key) (cs : List PV) (p : PV) : Like { st with b := upd κ cs st.b } (A.do ⟨none, p, [(κ, cs)], [], none⟩) := by
  refine ⟨fun i => ?_, fun k => ?_, fun k => ?_⟩
  · simpa [AS.do] using h.t i
  · simp only [AS.do, fsets, look, look_upd, h.b]
    by_cases e : κ = k <;> simp [e]
  · simpa [AS.do, fsets, look] using h.e k
theorem like_row {st : St} {A : AS} (h : Like st A) (d : Nat) (p : PV) (κ : Key) (o : Own) (n' : Nat) (o' : List Key) (rm : Option Key) : Like ⟨put d p st.t, st.b, upd κ o st.e, n', o'⟩ (A.do ⟨some d, p, [], [(κ, o)], rm⟩) := by
  refine ⟨fun i => ?_, fun k => ?_, fun k => ?_⟩
  · simp only [AS.do, get_put, Option.some.injEq, h.t]
  · simpa [AS.do, fsets, look] using h.b k
  · simp only [AS.do, fsets, look, look_upd, h.e]
    by_cases e : κ = k <;> simp [e]

theorem mem_look {α : Type} {k : Key} : ∀ {l : List (Key × α)}, k ∈ l.map (·.1) → (look k l).isSome
  | [], h => by simp at h
  | (i, x) :: r, h => by
    simp only [look]
    split
    · rfl
    · rename_i e
      simp only [List.map_cons, List.mem_cons] at h
      rcases h with h | h
      · exact absurd h.symm e
      · exact mem_look h

theorem fresh_cons {n : Nat} {o : List Key} {κ : Key} : ∀ j, fresh n (κ :: o) j → fresh n o j ∧ j ≠ κ := by
  intro j hj
  simp only [fresh, List.mem_cons, not_or] at hj ⊢
  exact ⟨⟨hj.1, hj.2.2⟩, hj.2.1⟩
theorem fresh_cons' {n : Nat} {o : List Key} {κ j : Key} (h : fresh n o j) (hj : some κ ≠ some j) : fresh n (κ :: o) j := by
  simp only [fresh, List.mem_cons, not_or] at h ⊢
  exact ⟨h.1, fun e => hj (by rw [e]), h.2⟩

theorem G1_sound {P : Program} {tys : List (Nat × TF)} (ht : tysOk P tys = true) {C : Ctx} {q : Bool} {n0 : Nat} {i : RIns} {o : Oper} (ho : rOk C.N tys i o = true) {A : AS} {x : Ef} (hx : G1 P q n0 i A x) {a : Act} {w : World} (hr : RelA C A a w)
    {K : Act → World → Prop} {Q : Exit → Act → World → Prop} (hK : ∀ a' w', RelA C (A.do x) a' w' → K a' w') : o.wp P a w K Q := by
  obtain ⟨st, ν, hl, hF, hr⟩ := hr
  have hF0 : ∀ (t : List (Nat × PV)) (b : List (Key × List PV)) (e : List (Key × Own)) (d : Option Nat) (p : PV) (bw : List (Key × List PV)) (ew : List (Key × Own)), ∀ k, (A.do ⟨d, p, bw, ew, none⟩).F k → fresh st.n st.o k := fun t b e d p bw ew k hk => hF k hk.1
  have hF1 : ∀ (d : Option Nat) (p : PV) (bw : List (Key × List PV)) (ew : List (Key × Own)) (κ : Key), ∀ k, (A.do ⟨d, p, bw, ew, some κ⟩).F k → fresh st.n (κ :: st.o) k := fun d p bw ew κ k hk => fresh_cons' (hF k hk.1) hk.2
  cases i with
  | s i =>
    have ho' : sOk C.N tys i o = true := by simpa only [rOk] using ho
    cases i with
    | v d i =>
      simp only [G1] at hx
      obtain ⟨c, p, h1, h2, _, rfl⟩ := hx
      rw [← vIF_eq hl] at h1
      refine sIk_sound (κ := .loc 0) (n' := 0) (o₁ := []) ht hr ho' (fun h => by simp [Ins.makes] at h) (fun h => by simp [Ins.makes] at h) (st' := { st with t := put d p st.t }) (by simp only [sIk, h1]) h2 fun a' w' ν' h' => hK _ _ ⟨_, ν', like_v hl d p, fun k hk => hF k hk.1, h'⟩
    | box d key v =>
      cases key with
      | some m => simp only [G1] at hx
      | none =>
        simp only [G1] at hx
        obtain ⟨⟨h1, _⟩, h2, rfl⟩ := hx
        rw [← evalF_eq hl] at h2
        refine sIk_sound (κ := .loc (n0 + d)) (n' := st.n) (o₁ := .loc (n0 + d) :: st.o) ht hr ho' (fun _ => hF _ h1) (fun _ => fresh_cons) (st' := ⟨put d (.ptr (.loc (n0 + d)) 0) st.t, upd (.loc (n0 + d)) (cells (evalO st.t v)) st.b, st.e, st.n, .loc (n0 + d) :: st.o⟩) (by simp only [sIk]) h2 fun a' w' ν' h' => hK _ _ ⟨_, ν', ?_, hF1 _ _ _ _ _, h'⟩
        rw [evalF_eq hl]
        exact like_box hl d _ _ _ _ _ _
    | alloc d key z =>
      cases key with
      | some m => simp only [G1] at hx
      | none =>
        simp only [G1] at hx
        obtain ⟨⟨h1, _⟩, rfl⟩ := hx
        refine sIk_sound (κ := .loc (n0 + d)) (n' := st.n) (o₁ := .loc (n0 + d) :: st.o) ht hr ho' (fun _ => hF _ h1) (fun _ => fresh_cons) (st' := ⟨put d (.ptr (.loc (n0 + d)) 0) st.t, upd (.loc (n0 + d)) (cells z) st.b, st.e, st.n, .loc (n0 + d) :: st.o⟩) (by simp only [sIk]) trivial fun a' w' ν' h' => hK _ _ ⟨_, ν', like_box hl d _ _ _ _ _ _, hF1 _ _ _ _ _, h'⟩
    | store sz u v =>
      simp only [G1] at hx
      obtain ⟨k, off, cs, h1, h2, h3, rfl⟩ := hx
      rw [← evalF_eq hl] at h1 h3
      rw [← hl.b] at h2
      refine sIk_sound (κ := .loc 0) (n' := 0) (o₁ := []) ht hr ho' (fun h => by simp [Ins.makes] at h) (fun h => by simp [Ins.makes] at h) (st' := { st with b := upd k (splice cs off (cells (evalO st.t v))) st.b }) (by simp only [sIk, h1, h2]) h3 fun a' w' ν' h' => hK _ _ ⟨{ st with b := upd k (splice cs off (cells (evalO st.t v))) st.b }, ν', by rw [evalF_eq hl]; exact like_store hl k _ _, fun k hk => hF k hk.1, h'⟩
    | bsl d sz el xs =>
      simp only [G1] at hx
      obtain ⟨⟨h1, _⟩, h2, rfl⟩ := hx
      rw [← evalF_fun hl] at h2
      refine sIk_sound (κ := .loc (n0 + d)) (n' := st.n) (o₁ := .loc (n0 + d) :: st.o) ht hr ho' (fun _ => hF _ h1) (fun _ => fresh_cons) (st' := ⟨put d (.slice sz (.own (.loc (n0 + d))) (xs.map (evalO st.t))) st.t, st.b, upd (.loc (n0 + d)) ⟨xs.length, el, sz, none⟩ st.e, st.n, .loc (n0 + d) :: st.o⟩) (by simp only [sIk]) h2 fun a' w' ν' h' => hK _ _ ⟨_, ν', ?_, hF1 _ _ _ _ _, h'⟩
      rw [evalF_fun hl]
      exact like_row hl d _ _ _ _ _ _
    | app d sz el u v =>
      simp only [G1] at hx
      obtain ⟨tag, xs, tag', ys, h1, h2, hx⟩ := hx
      rw [← evalF_eq hl] at h1 h2
      rcases hx with ⟨k, ow, rfl, h3, h4, rfl⟩ | ⟨rfl, h3, ⟨h4, _⟩, rfl⟩
      · rw [← hl.e] at h3
        refine sIk_sound (κ := .loc 0) (n' := 0) (o₁ := []) ht hr ho' (fun h => by simp [Ins.makes, h1] at h) (fun h => by simp [Ins.makes, h1] at h) (st' := ⟨put d (.slice sz (.own k) (xs ++ ys)) st.t, st.b, upd k ⟨xs.length + ys.length, el, sz, none⟩ st.e, st.n, st.o⟩) (by simp only [sIk, h1, h2, h3, and_self, if_true]) h4.2 fun a' w' ν' h' => hK _ _ ⟨_, ν', like_row hl d _ _ _ _ _ _, fun k hk => hF k hk.1, h'⟩
      · refine sIk_sound (κ := .loc (n0 + d)) (n' := st.n) (o₁ := .loc (n0 + d) :: st.o) ht hr ho' (fun _ => hF _ h4) (fun _ => fresh_cons) (st' := ⟨put d (.slice sz (.own (.loc (n0 + d))) ys) st.t, st.b, upd (.loc (n0 + d)) ⟨ys.length, el, sz, none⟩ st.e, st.n, .loc (n0 + d) :: st.o⟩) (by simp only [sIk, h1, h2, and_self, if_true]) h3 fun a' w' ν' h' => hK _ _ ⟨_, ν', like_row hl d _ _ _ _ _ _, hF1 _ _ _ _ _, h'⟩
    | bslm d key sz el xs => simp only [G1] at hx
    | appm d key sz el u v => simp only [G1] at hx
    | mkmap d key => simp only [G1] at hx
    | mput ks x k v => simp only [G1] at hx
    | range d key x => simp only [G1] at hx
  | next d x => simp only [G1] at hx
  | call d f xs =>
    simp only [G1] at hx
    obtain ⟨n, caps, h1, ⟨s, s', r, rm, c1, c2, c3, c4, c5, c6, c7, rfl⟩, _⟩ := hx
    rw [← evalF_eq hl] at h1
    rw [← evalF_fun hl] at c6 c7
    simp only [rOk] at ho
    split at ho
    · rename_i f' args ts hop
      simp only [Bool.and_eq_true, beq_iff_eq] at ho
      obtain ⟨⟨⟨e1, e2⟩, e3⟩, e4⟩ := ho
      have hfr := opOk_rep hr e3
      rw [h1] at hfr
      obtain ⟨k1, k2, k3, k4, k5⟩ := c5
      refine call_sound hr hop e1 e2 hfr (repT_args hr e4) (K := fun st' => st' = after st s s' d r) ⟨s, _, fun k cs hk => ⟨by rw [hl.b]; exact (c1 k cs hk).1, .inl (by simp [hk]), (c1 k cs hk).2⟩, fun k o' hk => ⟨by rw [hl.e]; exact (c2 k o' hk).1, .inr (by simp [hk]), (c2 k o' hk).2⟩, c3, c6, c7, ?_⟩ ?_
      · rintro r' s'' ⟨rfl, rfl⟩
        refine ⟨⟨fun m hm => ?_, fun m hm => ?_⟩, rfl⟩
        · rcases k1 _ hm with h | h
          · exact .inl h
          · exact .inr (hF _ (k5 _ h).2.1).2
        · rcases k2 _ hm with h | h
          · exact .inl h
          · exact .inr (hF _ (k5 _ h).2.1).2
      · rintro st' a' w' ν' rfl h'
        refine hK _ _ ⟨_, ν', ⟨fun i => ?_, fun k => ?_, fun k => ?_⟩, fun k hk => ?_, h'⟩
        · simp only [after, AS.do]
          cases d with
          | none => simpa [putO] using hl.t i
          | some d => simp only [putO, get_put, Option.some.injEq, hl.t]
        · simp only [after, AS.do, fsets, look_append, look_without]
          by_cases hs : (look k s.b).isSome
          · have := k3 k hs
            obtain ⟨y, hy⟩ := Option.isSome_iff_exists.1 this
            simp [hs, hy]
          · cases hn : look k s'.b with
            | none => simp only [hs, hl.b]; cases A.b k <;> simp
            | some y =>
              rcases k1 k (by simp [hn]) with h | h
              · exact absurd h hs
              · have := k5 k h
                simp [hs, hl.b, this]
        · simp only [after, AS.do, fsets, look_append, look_without]
          by_cases hs : (look k s.e).isSome
          · have := k4 k hs
            obtain ⟨y, hy⟩ := Option.isSome_iff_exists.1 this
            simp [hs, hy]
          · cases hn : look k s'.e with
            | none => simp only [hs, hl.e]; cases A.e k <;> simp
            | some y =>
              rcases k2 k (by simp [hn]) with h | h
              · exact absurd h hs
              · have := k5 k h
                simp [hs, hl.e, this]
        · have hfk := hF k hk.1
          have hnone := hr.lookNone hfk
          simp only [after]
          refine ⟨hfk.1, fun hmem => ?_⟩
          rcases List.mem_append.1 hmem with hmem | hmem
          · exact hfk.2 hmem
          · rcases List.mem_append.1 hmem with hmem | hmem
            · rcases k1 k (mem_look hmem) with h | h
              · obtain ⟨y, hy⟩ := Option.isSome_iff_exists.1 h
                have := (c1 k y hy).1
                rw [← hl.b, hnone.1] at this; cases this
              · exact hk.2 h
            · rcases k2 k (mem_look hmem) with h | h
              · obtain ⟨y, hy⟩ := Option.isSome_iff_exists.1 h
                have := (c2 k y hy).1
                rw [← hl.e, hnone.2] at this; cases this
              · exact hk.2 h
    · cases ho

theorem GG_sound {P : Program} {tys : List (Nat × TF)} (ht : tysOk P tys = true) {C : Ctx} {q : Bool} {n0 : Nat} {ops : Array Oper} {g : GI} {o : Oper} {j : Nat} (hj : ops[j]? = some o) (ho : gOk C.N tys ops.toList g o = true) {A : AS} {x : Ef} (hx : GG P q n0 g A x) {a : Act} {w : World} (hr : RelA C A a w)
    {K : Act → World → Prop} {Q : Exit → Act → World → Prop} (hK : ∀ a' w', RelA C (A.do x) a' w' → K a' w') : wpOp P ops Q j K a w := by
  unfold wpOp
  rw [hj]
  simp only
  simp only [gOk, Bool.and_eq_true] at ho
  obtain ⟨hg1, hg2⟩ := ho
  unfold GG at hx
  cases hgg : g.g with
  | none =>
    cases hgo : o.guard with
    | some x => simp [hgo, hgg] at hg1
    | none =>
      have hw : Region.wanted o (yielded ops a.tmps) = true := by simp [Region.wanted, hgo]
      rw [if_pos hw]
      simp only [hgg] at hx
      exact .inl (G1_sound ht hg2 hx hr hK)
  | some sw =>
    obtain ⟨s, want⟩ := sw
    cases hgo : o.guard with
    | none => simp [hgo, hgg] at hg1
    | some xx =>
      obtain ⟨jj, b'⟩ := xx
      simp only [hgo, hgg, Bool.and_eq_true, beq_iff_eq, decide_eq_true_eq] at hg1
      obtain ⟨⟨⟨⟨rfl, h2⟩, h3⟩, h4⟩, h5⟩ := hg1
      obtain ⟨st, ν, hl, hF, hr'⟩ := id hr
      obtain ⟨y1, y2⟩ := yielded_of hr' h2 h3
      simp only [hgg] at hx
      have hskip : ∀ (h : x = skipEf g.i.dst), K (a.put o.dst undef) w := by
        rintro rfl
        rw [h4]
        refine hK _ _ ⟨_, ν, ?_, fun k hk => ?_, hr'.put h5 (p := .tuple []) (by simp [rep, repT, undef])⟩
        · refine ⟨fun i => ?_, fun k => ?_, fun k => ?_⟩
          · simp only [AS.do, skipEf]
            cases g.i.dst with
            | none => simpa [putO] using hl.t i
            | some d => simp only [putO, get_put, Option.some.injEq, hl.t]
          · simpa [AS.do, fsets, look, skipEf] using hl.b k
          · simpa [AS.do, fsets, look, skipEf] using hl.e k
        · exact hF k hk.1
      split at hx
      · rename_i b hb
        have hy := y1 b (by rw [hl.t]; exact hb)
        rcases hx with ⟨rfl, hx⟩ | ⟨rfl, hx⟩
        · have hw : Region.wanted o (yielded ops a.tmps) = true := by simp [Region.wanted, hgo, hy]
          rw [if_pos hw]
          exact .inl (G1_sound ht hg2 hx hr hK)
        · have hw : ¬(Region.wanted o (yielded ops a.tmps) = true) := by simp [Region.wanted, hgo, hy]
          rw [if_neg hw]
          exact hskip hx
      · rename_i hb
        have hy := y2 (by rw [hl.t]; exact hb)
        have hw : ¬(Region.wanted o (yielded ops a.tmps) = true) := by simp [Region.wanted, hgo, hy]
        rw [if_neg hw]
        exact hskip hx
      · exact hx.elim

/-- What is done in the order of a list. -/
def ch (P : Program) (q : Bool) (n0 : Nat) (K : AS → Prop) : List (Nat × GI) → AS → Prop
  | [], A => K A
  | (_, g) :: r, A => ∃ x, GG P q n0 g A x ∧ ch P q n0 K r (A.do x)

theorem bubble {P : Program} {q : Bool} {n0 : Nat} {K : AS → Prop} {i : Nat} {g : GI} : ∀ (L1 L2 : List (Nat × GI)) (A : AS), (∀ x ∈ L1, gComm x.2 g = true) → ch P q n0 K (L1 ++ (i, g) :: L2) A → ∃ x, GG P q n0 g A x ∧ ch P q n0 K (L1 ++ L2) (A.do x)
  | [], L2, A, _, h => h
  | (j, gj) :: L1, L2, A, hc, h => by
    simp only [List.cons_append, ch] at h
    obtain ⟨y, hy, h⟩ := h
    obtain ⟨x, hx, h⟩ := bubble L1 L2 (A.do y) (fun z hz => hc z (List.mem_cons_of_mem _ hz)) h
    obtain ⟨s1, s2, s3⟩ := swap (hc _ (List.mem_cons_self ..)) hy hx
    refine ⟨x, s1, y, s2, ?_⟩
    rw [← AS.do_comm A s3]
    exact h

/-- What is still to be done. -/
def rem (listed : Array Bool) : Nat → List GI → List (Nat × GI)
  | _, [] => []
  | k, g :: r => if listed.getD k false then rem listed (k + 1) r else (k, g) :: rem listed (k + 1) r

theorem rem_congr {l l' : Array Bool} : ∀ (gs : List GI) (k : Nat), (∀ j, k ≤ j → l.getD j false = l'.getD j false) → rem l k gs = rem l' k gs
  | [], _, _ => rfl
  | g :: r, k, h => by
    simp only [rem, h k (Nat.le_refl _), rem_congr r (k + 1) fun j hj => h j (by omega)]
theorem getD_set {l : Array Bool} {i j : Nat} (h : i < l.size) : (l.setIfInBounds i true).getD j false = if i = j then true else l.getD j false := by
  simp only [Array.getD_eq_getD_getElem?]
  by_cases e : i = j
  · subst e; simp [h]
  · simp [e]
theorem rem_split {l : Array Bool} {i : Nat} (hi : i < l.size) (hn : l.getD i false = false) : ∀ (gs : List GI) (k : Nat), k ≤ i → i < k + gs.length → ∃ L1 L2 g, gs[i - k]? = some g ∧ rem l k gs = L1 ++ (i, g) :: L2 ∧ rem (l.setIfInBounds i true) k gs = L1 ++ L2 ∧
    ∀ x ∈ L1, gs[x.1 - k]? = some x.2 ∧ k ≤ x.1 ∧ x.1 < i ∧ l.getD x.1 false = false
  | [], k, h1, h2 => by simp at h2; omega
  | g :: r, k, h1, h2 => by
    by_cases e : k = i
    · subst e
      refine ⟨[], rem l (k + 1) r, g, by simp, by simp [rem, hn], ?_, fun x hx => by simp at hx⟩
      simp only [rem, getD_set hi, if_true, List.nil_append]
      exact rem_congr r (k + 1) fun j hj => by rw [getD_set hi, if_neg (by omega)]
    · obtain ⟨L1, L2, g', e1, e2, e3, e4⟩ := rem_split hi hn r (k + 1) (by omega) (by simp at h2; omega)
      have hik : i - k = (i - (k + 1)) + 1 := by omega
      have hget : (l.setIfInBounds i true).getD k false = l.getD k false := by rw [getD_set hi, if_neg (by omega)]
      by_cases hk : l.getD k false = true
      · refine ⟨L1, L2, g', by rw [hik]; simpa using e1, by simp only [rem, hk, if_true, e2], by simp only [rem, hget, hk, if_true, e3], fun x hx => ?_⟩
        obtain ⟨f1, f2, f3, f4⟩ := e4 x hx
        refine ⟨?_, by omega, f3, f4⟩
        have : x.1 - k = (x.1 - (k + 1)) + 1 := by omega
        rw [this]; simpa using f1
      · have hk : l.getD k false = false := by simpa using hk
        refine ⟨(k, g) :: L1, L2, g', by rw [hik]; simpa using e1, by simp [rem, hk, e2], by simp [rem, hget, hk, e3], fun x hx => ?_⟩
        rcases List.mem_cons.1 hx with rfl | hx
        · exact ⟨by simp, Nat.le_refl _, by simp; omega, hk⟩
        · obtain ⟨f1, f2, f3, f4⟩ := e4 x hx
          refine ⟨?_, by omega, f3, f4⟩
          have : x.1 - k = (x.1 - (k + 1)) + 1 := by omega
          rw [this]; simpa using f1

end Go.Pv
