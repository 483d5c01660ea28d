/- Contracts: sorting bindings. -/
import Derived.Test.YtchidkafcdmciaaGreatC8
import Derived.Test.YtchidkafcdmciaaGreatLay2
set_option linter.all false
namespace Go.Proofs.YtchidkafcdmciaaGreat
open Go Go.Pv Go.Sort Go.RowKit

theorem holdsU {w : World} {base : Nat} {e : TypeId} {sz : Nat} {v : Value} {n : Nat} {us : List Value} (h : w.ownsRow base e sz v n us) (hv : v ≠ .slice none 0 0) :
    ∃ g cap, v = .slice (some ⟨g, 0, none⟩) n cap ∧ g < w.heap.size ∧ cap ≤ maxLen ∧ n ≤ cap ∧ us.length = n * sz ∧ Holds id w g 0 us.toArray := by
  rcases h.2 with ⟨e0, _⟩ | ⟨g, cap, cur, rfl, hb, hg, hn, hm, hs, ht⟩
  · exact absurd e0 hv
  · have hlt : g < w.heap.size := by
      rcases Nat.lt_or_ge g w.heap.size with h' | h'
      · exact h'
      · rw [Array.getElem?_eq_none h'] at hg; cases hg
    refine ⟨g, cap, rfl, hlt, hm, hn, h.1, fun j hj => ?_⟩
    have hj' : j < us.length := by simpa using hj
    have hl := h.1
    refine ⟨?_, by simp [World.frozen?, hg]⟩
    have e1 : (cur.toList.take (n * sz))[j]? = us[j]? := by rw [ht]
    rw [List.getElem?_take, if_pos (by omega), Array.getElem?_toList, List.getElem?_eq_getElem hj'] at e1
    simp only [World.cell?, hg, Nat.zero_add]
    simp only [Option.isSome_none, Bool.false_eq_true, if_false]
    rw [e1]
    simp [getElem!_pos, hj']
theorem ownsU {w : World} {base : Nat} {e : TypeId} {sz g n cap q : Nat} {us : List Value} {F : Array Value} (h : w.ownsRow base e sz (.slice (some ⟨g, 0, none⟩) n cap) n us) (hF : F.size = n * sz) :
    (putRow id (Sort.ahead w q) g 0 F).ownsRow base e sz (.slice (some ⟨g, 0, none⟩) n cap) n F.toList := by
  rcases h.2 with ⟨e0, _⟩ | ⟨g', cap', cur, e0, hb, hg, hn, hm, hs, ht⟩
  · cases e0
  · injection e0 with e1 _ e3
    injection e1 with e1
    injection e1 with e1
    subst e1; subst e3
    refine ⟨by simpa using hF, .inr ⟨g, cap, putCells id 0 F cur, rfl, hb, ?_, hn, hm, by simpa [putCells] using hs, ?_⟩⟩
    · simp [putRow, mapBlock, Sort.ahead, Array.getElem?_modify, hg, onCells]
    · have hle : n * sz ≤ cur.size := by rw [hs]; exact Nat.mul_le_mul_right _ hn
      apply List.ext_getElem?
      intro j
      rw [List.getElem?_take, Array.getElem?_toList, Array.getElem?_toList]
      by_cases hj : j < n * sz
      · have hjc : j < cur.size := by omega
        simp only [if_pos hj, putCells, Array.getElem?_mapIdx, Array.getElem?_eq_getElem hjc, Option.map_some]
        rw [if_pos (by omega)]
        simp [getElem!_pos, show j < F.size by omega]
      · simp [hj]; omega
theorem flat_get {k : Nat} (hk : 0 < k) : ∀ (ds : List Q5), (∀ x ∈ ds, x.enc.length = k) → ∀ t, t < ds.length * k → (ds.flatMap Q5.enc)[t]! = ((ds[t / k]!).enc)[t % k]!
  | [], _, t, h => by simp at h
  | x :: r, hl, t, h => by
    have hx := hl x (by simp)
    by_cases ht : t < k
    · have h1 : t / k = 0 := Nat.div_eq_of_lt ht
      have h2 : t % k = t := Nat.mod_eq_of_lt ht
      simp only [List.flatMap_cons, h1, h2, List.getElem!_cons_zero]
      rw [List.getElem!_eq_getElem?_getD, List.getElem!_eq_getElem?_getD, List.getElem?_append_left (by omega)]
    · have h1 : t / k = (t - k) / k + 1 := by rw [← Nat.add_div_right _ hk]; congr 1; omega
      have h2 : t % k = (t - k) % k := by rw [← Nat.add_mod_right (t - k) k]; congr 1; omega
      have ih := flat_get hk r (fun y hy => hl y (by simp [hy])) (t - k) (by simp [Nat.add_mul] at h; omega)
      rw [h1, h2]
      simp only [List.flatMap_cons, List.getElem!_cons_succ]
      rw [← ih, List.getElem!_eq_getElem?_getD, List.getElem!_eq_getElem?_getD, List.getElem?_append_right (by omega), hx]
theorem enc_len (x : Q5) : x.enc.length = 5 := by simp [Q5.enc, x.2.2.1]
theorem flat_len : ∀ ds : List Q5, (ds.flatMap Q5.enc).length = ds.length * 5
  | [] => rfl
  | x :: r => by rw [List.flatMap_cons, List.length_append, flat_len r, enc_len]; simp; omega
theorem flatK_list (ds : List Q5) : flatK Q5.enc 5 ds.toArray = (ds.flatMap Q5.enc).toArray := by
  refine ext_get! (by rw [size_flatK, List.size_toArray, List.size_toArray, flat_len]) fun t ht => ?_
  rw [get_flatK _ _ _ _ (by simpa using ht)]
  have := flat_get (k := 5) (by omega) ds (fun x _ => enc_len x) t (by simpa using ht)
  simp only [List.getElem!_toArray]
  rw [this]
/-- A binding's cells. -/
def repE (w : World) (ν : Env) (b : Bd) (x : Q5) : Prop := (∃ u : Value, u.cells.toList = x.enc ∧ rep w ν b.e u) ∧ x.1 = b.v
theorem repC_bds {w : World} {ν : Env} : ∀ {l : List Bd} {us : List Value}, repC w ν 5 (l.map Bd.e) us → ∃ ps : List (Bd × Q5), ps.map (·.1) = l ∧ us = (ps.map (·.2)).flatMap Q5.enc ∧ ∀ p ∈ ps, repE w ν p.1 p.2
  | [], us, h => ⟨[], rfl, by simpa [repC] using h, by simp⟩
  | b :: l, us, h => by
    simp only [List.map_cons, repC] at h
    obtain ⟨u, us', rfl, ⟨h1, h2, h3⟩, h4⟩ := h
    obtain ⟨ps, q1, rfl, q3⟩ := repC_bds h4
    have h1' := h1
    simp only [Bd.e, rep, repL] at h1'
    obtain ⟨vs, rfl, x1, r1, e1, ⟨rfl, _⟩, _⟩ := h1'
    have hc : (Value.agg vs).cells.toList = .int .i64 b.v :: r1 := by simp [Value.cells, e1]
    have hlen : r1.length = 4 := by
      have : (Value.agg vs).cells.toList.length = 5 := by simpa using h2
      rw [hc] at this
      simpa using this
    refine ⟨(b, (b.v, ⟨r1, hlen, fun v hv => h3 v (by rw [hc]; simp [hv])⟩)) :: ps, by simp [q1], by rw [List.map_cons, List.flatMap_cons]; exact congrArg (· ++ _) hc, ?_⟩
    intro p hp
    rcases List.mem_cons.1 hp with rfl | hp
    · exact ⟨⟨_, hc, h1⟩, rfl⟩
    · exact q3 p hp
theorem bds_repC {w : World} {ν : Env} : ∀ {ps : List (Bd × Q5)}, (∀ p ∈ ps, repE w ν p.1 p.2) → repC w ν 5 ((ps.map (·.1)).map Bd.e) ((ps.map (·.2)).flatMap Q5.enc)
  | [], _ => by simp [repC]
  | p :: ps, h => by
    obtain ⟨⟨u, h1, h2⟩, _⟩ := h p (by simp)
    simp only [List.map_cons, repC, List.flatMap_cons]
    refine ⟨u, _, by rw [h1], ⟨h2, ?_, ?_⟩, bds_repC fun p hp => h p (by simp [hp])⟩
    · have : u.cells.toList.length = 5 := by rw [h1]; exact enc_len _
      simpa using this
    · rw [h1]
      intro c hc
      simp only [Q5.enc, List.mem_cons] at hc
      rcases hc with rfl | hc
      · rfl
      · exact p.2.2.2.2 c hc
theorem perm_lift {α β : Type} (f : α → β) {d d' : List β} (h : d'.Perm d) : ∀ ps : List α, ps.map f = d → ∃ ps' : List α, ps'.Perm ps ∧ ps'.map f = d' := by
  induction h with
  | nil => intro ps h; exact ⟨ps, .refl _, h⟩
  | cons x _ ih =>
    intro ps h
    cases ps with
    | nil => cases h
    | cons p ps =>
      simp only [List.map_cons, List.cons.injEq] at h
      obtain ⟨ps', h1, h2⟩ := ih ps h.2
      exact ⟨p :: ps', h1.cons p, by simp [h.1, h2]⟩
  | swap x y l =>
    intro ps h
    match ps, h with
    | p :: q :: ps, h =>
      simp only [List.map_cons, List.cons.injEq] at h
      exact ⟨q :: p :: ps, .swap _ _ _, by simp [h]⟩
  | trans _ _ ih1 ih2 =>
    intro ps h
    obtain ⟨ps2, h1, h2⟩ := ih2 ps h
    obtain ⟨ps1, h3, h4⟩ := ih1 ps2 h2
    exact ⟨ps1, h3.trans h1, h4⟩
def sortB (l : List Bd) : List Bd := l.mergeSort fun x y => decide (x.v ≤ y.v)
theorem sortB_length (l : List Bd) : (sortB l).length = l.length := List.length_mergeSort l
theorem sortB_uniq {l l' : List Bd} (hp : l'.Perm l) (hd : (l.map (·.v)).Nodup) (hs : l'.Pairwise fun x y => x.v ≤ y.v) : l' = sortB l := by
  have ht : ∀ a b c : Bd, (decide (a.v ≤ b.v)) = true → (decide (b.v ≤ c.v)) = true → (decide (a.v ≤ c.v)) = true := by intro a b c; simp; omega
  have hto : ∀ a b : Bd, (decide (a.v ≤ b.v) || decide (b.v ≤ a.v)) = true := by intro a b; simp; omega
  have h2 := List.pairwise_mergeSort ht hto l
  refine List.Perm.eq_of_pairwise (le := fun x y : Bd => x.v ≤ y.v) (fun x y hx hy h1 h2 => ?_) hs (h2.imp (by simp)) (hp.trans (List.mergeSort_perm l _).symm)
  have hx' : x ∈ l := hp.mem_iff.1 hx
  have hy' : y ∈ l := (List.mergeSort_perm l _).mem_iff.1 hy
  have hinj : ∀ (l : List Bd), (l.map (·.v)).Nodup → ∀ x y, x ∈ l → y ∈ l → x.v = y.v → x = y := by
    intro l
    induction l with
    | nil => intro _ x y hx; cases hx
    | cons a r ih =>
      intro hd x y hx hy he
      simp only [List.map_cons, List.nodup_cons, List.mem_map, not_exists, not_and] at hd
      rcases List.mem_cons.1 hx with hx2 | hx2 <;> rcases List.mem_cons.1 hy with hy2 | hy2
      · rw [hx2, hy2]
      · subst hx2; exact absurd he.symm (hd.1 y hy2)
      · subst hy2; exact absurd he (hd.1 x hx2)
      · exact ih hd.2 x y hx2 hy2 he
  exact hinj l hd x y hx' hy' (by omega)
/-- The objects of a sort of bindings: the row and the variable that holds it. -/
def SS (K B : Nat) (l : List Bd) : Obs := ⟨[(.obj B, [.row 5 (.obj K) l.length])], [(.obj K, ⟨l.length, 30, 5, some (l.map Bd.e)⟩)]⟩
theorem SS_ok (K B : Nat) (l : List Bd) : ObOk (SS K B l) := by
  unfold SS
  refine ObOk.of ⟨by intro m; simp [Pv.look], by intro m; simp [Pv.look]⟩ (by simp [kinL, kin, inObs, Pv.look]) ?_
  intro x hx ys hy
  simp at hx
  subst hx
  simp at hy
  subst hy
  simp
theorem SS_same (K B : Nat) (l l' : List Bd) : Same (SS K B l) (SS K B l') := by
  refine ⟨fun k => ?_, fun k => ?_⟩
  · simp only [SS, Pv.look]; split <;> rfl
  · simp only [SS, Pv.look]; split <;> rfl
set_option maxHeartbeats 1000000 in
theorem g_sortSlice (K B : Nat) (l : List Bd) (hl : l.length ≤ 1000000) (hd : (l.map (·.v)).Nodup) : FnG Tryz.prog 117 [.iface 31 (.row 5 (.obj K) l.length), .func 118 [.ptr (.obj B) 0]] (SS K B l) fun r s' => r = .tuple [] ∧ s' = SS K B (sortB l) := by
  refine FnG.sem (SS_ok K B l).obj fun w ν vs hvs hr => ?_
  refine .inl ⟨⟨Tryz.f117, Tryz.func117, by kernel_rfl, by kernel_rfl⟩, ?_⟩
  have hslot := hr.slot 0
  have hslot1 := hr.slot 1
  simp [slots, Pv.get] at hslot hslot1
  have hlook : Pv.look (.obj K) (SS K B l).e = some ⟨l.length, 30, 5, some (l.map Bd.e)⟩ := by simp [SS, Pv.look]
  have hlookb : Pv.look (.obj B) (SS K B l).b = some [.row 5 (.obj K) l.length] := by simp [SS, Pv.look]
  obtain ⟨v, us, q1, q2, q3, q4⟩ := hr.good.own (.obj K) _ hlook
  obtain ⟨q5, q6, q7⟩ := q4 _ rfl
  obtain ⟨bl, bus, bel, b1, b2, b3, b4, b5⟩ := hr.good.box (.obj B) _ hlookb
  simp only [rep, repT] at hslot hslot1
  obtain ⟨u, hu, ⟨g0, cap0, hb0⟩, _, n', u', e1, e2, e3⟩ := hslot
  rw [q1] at e1
  simp only [Option.some.injEq, Prod.mk.injEq] at e1
  obtain ⟨rfl, rfl⟩ := e1
  have hv := e3 rfl
  subst hv
  obtain ⟨fs, hf, f1, f2, f3, ⟨bl', f4, f5⟩, f6⟩ := hslot1
  rw [b1] at f4
  simp only [Option.some.injEq] at f4
  subst f4
  simp only [repB, repL] at b5
  obtain ⟨c1, c2, c3, ⟨⟨_, _, n'', u'', c4, _, c5⟩, _⟩, c6⟩ := b5
  rw [q1] at c4
  simp only [Option.some.injEq, Prod.mk.injEq] at c4
  obtain ⟨rfl, rfl⟩ := c4
  have hc1 := c5 rfl
  have hne : u ≠ .slice none 0 0 := by rw [hb0]; simp
  obtain ⟨g, cap, rfl, hg1, hg2, hg3, hg4, hH⟩ := holdsU q2 hne
  have hvs2 : vs = #[.iface 31 (.slice (some ⟨g, 0, none⟩) l.length cap), .func (.func 118) #[] #[.pointer (some ⟨bl, 0, none⟩)]] := by
    have h1 : vs.size = 2 := by simpa using hvs
    have hfs : fs = #[.pointer (some ⟨bl, 0, none⟩)] := by
      apply Array.ext'
      simp [f3, f5, f6]
    apply Array.ext (by simpa using h1)
    intro i h2 h3
    simp at h3
    rcases (by omega : i = 0 ∨ i = 1) with rfl | rfl
    · simpa [Array.getD, h1] using hu
    · rw [← hfs]; simpa [Array.getD, h1] using hf
  have hgb : bl ≠ g := fun e => hr.good.obx (.obj K) (.obj B) _ _ g (by simp [hlook]) (by simp [hlookb]) q1 rfl (by rw [b1, e])
  have hcell : w.cell? ⟨bl, 0, none⟩ = some (.slice (some ⟨g, 0, none⟩) l.length cap) := by
    simp only [objFrom] at b4
    simp only [World.cell?, b4]
    have : bus[0]? = some c1 := by
      have h1 : bus.toList[0]? = some c1 := by rw [c3]; rfl
      simpa using h1
    simp [this, hc1]
  have hblt : bl < w.heap.size := (Array.getElem?_eq_some_iff.1 b4).1
  subst hvs2
  by_cases h2 : 2 ≤ l.length
  · obtain ⟨ps, p1, rfl, p3⟩ := repC_bds q6
    have hpl : (ps.map (·.2)).length = l.length := by rw [← p1]; simp
    have hHK : HoldsK Q5.enc 5 w g 0 (ps.map (·.2)).toArray := by unfold HoldsK; rw [flatK_list]; exact hH
    have hc := Tryz.sort_Slice_bindings g 0 cap bl (ps.map (·.2)).toArray (by simp only [List.size_toArray, hpl]; exact h2) (by simp only [List.size_toArray, hpl]; omega) w hHK hg1 (by simp only [List.size_toArray, hpl]; exact hcell) hblt hgb
    simp only [List.size_toArray, hpl] at hc
    refine hc.mono ?_
    rintro e w' ⟨rfl, d', n, os, hperm, hsort, rfl⟩
    obtain ⟨z1, _, z3⟩ := hperm
    have zp : d'.toList.Perm (ps.map (·.2)) := by
      have e1 : d'.extract 0 l.length = d' := by
        have : l.length = d'.size := by rw [z1]; simpa using hpl.symm
        rw [this]; simp
      have e2 : (ps.map (·.2)).toArray.extract 0 l.length = (ps.map (·.2)).toArray := by
        have : l.length = (ps.map (·.2)).toArray.size := by simpa using hpl.symm
        rw [this]; exact Array.extract_size
      rw [e1, e2] at z3
      simpa using z3
    obtain ⟨ps', y1, y2⟩ := perm_lift (·.2) zp ps rfl
    have hrep' : ∀ p ∈ ps', repE w ν p.1 p.2 := fun p hp => p3 p (y1.mem_iff.1 hp)
    have hl' : (ps'.map (·.1)).Perm l := by rw [← p1]; exact y1.map _
    have hsorted : (ps'.map (·.1)).Pairwise fun x y => x.v ≤ y.v := by
      rw [List.pairwise_iff_getElem]
      intro i j hi hj hij
      have hi' : i < ps'.length := by simpa using hi
      have hj' : j < ps'.length := by simpa using hj
      have hdl : d'.size = ps'.length := by rw [← Array.length_toList, ← y2]; simp
      have hll : ps'.length = l.length := by have := hl'.length_eq; simpa using this
      have hs := hsort i j (by omega) hij (by omega)
      have hget : ∀ t (ht : t < ps'.length), d'[t]! = ps'[t].2 := by
        intro t ht
        rw [getElem!_pos d' t (by omega)]
        have h1 : d'.toList[t]? = some ps'[t].2 := by rw [← y2]; simp [ht]
        have h2 : d'.toList[t]? = some d'[t] := by simp
        rw [h2] at h1
        simpa using h1
      rw [hget i hi', hget j hj'] at hs
      have r1 := (hrep' ps'[i] (by simp)).2
      have r2 := (hrep' ps'[j] (by simp)).2
      simp only [Q5.lt, decide_eq_false_iff_not] at hs
      simp only [List.getElem_map]
      omega
    have hfin : ps'.map (·.1) = sortB l := sortB_uniq hl' hd hsorted
    have hsl := sortB_length l
    have hFl : (flatK Q5.enc 5 d') = ((ps'.map (·.2)).flatMap Q5.enc).toArray := by rw [y2, ← flatK_list]
    have hrc := bds_repC hrep'
    rw [hfin] at hrc
    have hlen5 : ((ps'.map (·.2)).flatMap Q5.enc).length = l.length * 5 := by
      rw [flat_len]; have := hl'.length_eq; simp at this; simp [this]
    have hown := ownsU (q := n) (F := flatK Q5.enc 5 d') q2 (by rw [hFl]; simpa using hlen5)
    rw [hFl] at hown
    obtain ⟨x1, x2, _⟩ := hr.setRowM (w' := Sort.putRowK Q5.enc 5 (Sort.ahead w n) g 0 d') hlook rfl q1 (bl := g) rfl (v' := .slice (some ⟨g, 0, none⟩) l.length cap) rfl (xs' := (sortB l).map Bd.e) (us := (ps'.map (·.2)).flatMap Q5.enc) (.inl ⟨by simp [hsl], rfl⟩) rfl rfl rfl
      (fun j hj => by simp [Sort.putRowK, Sort.putRow, Sort.mapBlock, Sort.ahead, Array.getElem?_modify, Ne.symm hj]) (by simp [Sort.putRowK, Sort.putRow, Sort.mapBlock, Sort.ahead]) (by unfold Sort.putRowK; rw [hFl]; simpa [hsl] using hown) hrc
    have x3 := x1.grown (w' := Sort.grow (Sort.putRowK Q5.enc 5 (Sort.ahead w n) g 0 d') os) ⟨rfl, rfl, rfl, by simp, fun k hk _ => Sort.heap_grow_old _ _ hk⟩
    refine ⟨_, _, _, _, .tuple [], SS K B (sortB l), rfl, x3, by simp [rep, repT], by simp [SS, keeps, inObs, Pv.look], ?_, ?_, ?_, (SS_ok K B _).obj, by simp [kin, kinL], rfl, rfl⟩
    · simp [SS, keeps, inObs, Pv.look]
    · intro k cs hk
      have hm := look_mem hk
      simp [SS] at hm
      obtain ⟨rfl, rfl⟩ := hm
      exact ⟨by simp [SS, Pv.look, hsl], .inl (by simp [hk]), by simp [kinL, kin, inObs, SS, Pv.look]⟩
    · intro k o hk
      have hm := look_mem hk
      simp [SS] at hm
      obtain ⟨rfl, rfl⟩ := hm
      refine ⟨by simp [SS, Pv.look, upd, hsl], .inr (by simp [hk]), fun ys hy => ?_⟩
      simp at hy
      subst hy
      simp
  · have hsm : sortB l = l := by
      match l, h2 with
      | [], _ => simp [sortB]
      | [x], _ => simp [sortB]
      | x :: y :: r, h => simp at h
    have hc := Tryz.sort_Slice_few (some ⟨g, 0, none⟩) l.length cap (by omega) (.func 118) #[] #[.pointer (some ⟨bl, 0, none⟩)] w
    refine hc.mono ?_
    rintro e w' ⟨rfl, os, rfl⟩
    have x3 := hr.grown (w' := Sort.grow w os) ⟨rfl, rfl, rfl, by simp, fun k hk _ => Sort.heap_grow_old _ _ hk⟩
    rw [hsm]
    refine ⟨_, _, _, _, .tuple [], SS K B l, rfl, x3, by simp [rep, repT], by simp [SS, keeps, inObs, Pv.look], ?_, ?_, ?_, (SS_ok K B _).obj, by simp [kin, kinL], rfl, rfl⟩
    · simp [SS, keeps, inObs, Pv.look]
    · exact fun k cs hk => ⟨hk, .inl (by simp [hk]), (SS_ok K B l).kb k cs hk⟩
    · exact fun k o hk => ⟨hk, .inr (by simp [hk]), (SS_ok K B l).ke k o hk⟩
def SR (K : Nat) (l : List Bd) : Obs := ⟨[], [(.obj K, ⟨l.length, 30, 5, some (l.map Bd.e)⟩)]⟩
theorem SR_ok (K : Nat) (l : List Bd) : ObOk (SR K l) := by
  unfold SR
  refine ObOk.of ⟨by intro m; simp [Pv.look], by intro m; simp [Pv.look]⟩ (by simp) ?_
  intro x hx ys hy
  simp at hx
  subst hx
  simp at hy
  subst hy
  simp
theorem SR_same (K : Nat) (l l' : List Bd) : Same (SR K l) (SR K l') := by
  refine ⟨fun k => rfl, fun k => ?_⟩
  simp only [SR, Pv.look]; split <;> rfl
theorem g_sortBindings (K : Nat) (hK : K ≠ 307) (l : List Bd) (hl : l.length ≤ 1000000) (hd : (l.map (·.v)).Nodup) : FnG Tryz.prog 67 [.row 5 (.obj K) l.length] (SR K l) fun r s' => r = .tuple [] ∧ s' = SR K (sortB l) := by
  have hs := SR_ok K l
  have hs' := SR_ok K (sortB l)
  have hsm := SR_same K l (sortB l)
  have hK' : (307 = K) = False := by simp; omega
  unfold SR at hs hs' hsm ⊢
  refine FnG.mk mixed tysok f_impl_sortBindings ok_impl_sortBindings (by simp) hs.obj fun hbnd hbb => ?_; unfold c_impl_sortBindings
  simp [hK, hK']
  refine CallDo.ob (g_sortSlice K 307 l hl hd) (SS_ok K 307 l) (by unfold SS; exact (by intro k x hx; first | exact hx | (simp [hx, without_self]; done) | (simp [look_app, without_self, hx]; done) | (cases k <;> simp_all [look_app]; done) | (have hm := look_mem hx; clear hx; simp at hm; first | (obtain ⟨rfl, rfl⟩ := hm; simp; done) | (rcases hm with ⟨rfl, rfl⟩ | ⟨rfl, rfl⟩ <;> simp; done) | (rcases hm with ⟨rfl, rfl⟩ | ⟨rfl, rfl⟩ | ⟨rfl, rfl⟩ <;> simp; done) | (rcases hm with ⟨rfl, rfl⟩ | ⟨rfl, rfl⟩ | ⟨rfl, rfl⟩ | ⟨rfl, rfl⟩ <;> simp; done) | (rcases hm with ⟨rfl, rfl⟩ | ⟨rfl, rfl⟩ | ⟨rfl, rfl⟩ | ⟨rfl, rfl⟩ | ⟨rfl, rfl⟩ <;> simp; done) | (rcases hm with ⟨rfl, rfl⟩ | ⟨rfl, rfl⟩ | ⟨rfl, rfl⟩ | ⟨rfl, rfl⟩ | ⟨rfl, rfl⟩ | ⟨rfl, rfl⟩ <;> simp; done)))) (by unfold SS; exact (by intro k x hx; first | exact hx | (simp [hx, without_self]; done) | (simp [look_app, without_self, hx]; done) | (cases k <;> simp_all [look_app]; done) | (have hm := look_mem hx; clear hx; simp at hm; first | (obtain ⟨rfl, rfl⟩ := hm; simp; done) | (rcases hm with ⟨rfl, rfl⟩ | ⟨rfl, rfl⟩ <;> simp; done) | (rcases hm with ⟨rfl, rfl⟩ | ⟨rfl, rfl⟩ | ⟨rfl, rfl⟩ <;> simp; done) | (rcases hm with ⟨rfl, rfl⟩ | ⟨rfl, rfl⟩ | ⟨rfl, rfl⟩ | ⟨rfl, rfl⟩ <;> simp; done) | (rcases hm with ⟨rfl, rfl⟩ | ⟨rfl, rfl⟩ | ⟨rfl, rfl⟩ | ⟨rfl, rfl⟩ | ⟨rfl, rfl⟩ <;> simp; done) | (rcases hm with ⟨rfl, rfl⟩ | ⟨rfl, rfl⟩ | ⟨rfl, rfl⟩ | ⟨rfl, rfl⟩ | ⟨rfl, rfl⟩ | ⟨rfl, rfl⟩ <;> simp; done)))) (by simp [inObs, SS, Pv.look]) ?_
  rintro r s' ⟨rfl, rfl⟩
  refine ⟨SS_same K 307 _ _, ?_⟩
  unfold SS
  simp [without]
  refine RetQ.at _ (.inr rfl) hs' hsm (by intro k x hx; first | exact hx | (simp [hx, without_self]; done) | (simp [look_app, without_self, hx]; done) | (cases k <;> simp_all [look_app]; done) | (have hm := look_mem hx; clear hx; simp at hm; first | (obtain ⟨rfl, rfl⟩ := hm; simp; done) | (rcases hm with ⟨rfl, rfl⟩ | ⟨rfl, rfl⟩ <;> simp; done) | (rcases hm with ⟨rfl, rfl⟩ | ⟨rfl, rfl⟩ | ⟨rfl, rfl⟩ <;> simp; done) | (rcases hm with ⟨rfl, rfl⟩ | ⟨rfl, rfl⟩ | ⟨rfl, rfl⟩ | ⟨rfl, rfl⟩ <;> simp; done) | (rcases hm with ⟨rfl, rfl⟩ | ⟨rfl, rfl⟩ | ⟨rfl, rfl⟩ | ⟨rfl, rfl⟩ | ⟨rfl, rfl⟩ <;> simp; done) | (rcases hm with ⟨rfl, rfl⟩ | ⟨rfl, rfl⟩ | ⟨rfl, rfl⟩ | ⟨rfl, rfl⟩ | ⟨rfl, rfl⟩ | ⟨rfl, rfl⟩ <;> simp; done))) (by intro k x hx; first | exact hx | (simp [hx, without_self]; done) | (simp [look_app, without_self, hx]; done) | (cases k <;> simp_all [look_app]; done) | (have hm := look_mem hx; clear hx; simp at hm; first | (obtain ⟨rfl, rfl⟩ := hm; simp; done) | (rcases hm with ⟨rfl, rfl⟩ | ⟨rfl, rfl⟩ <;> simp; done) | (rcases hm with ⟨rfl, rfl⟩ | ⟨rfl, rfl⟩ | ⟨rfl, rfl⟩ <;> simp; done) | (rcases hm with ⟨rfl, rfl⟩ | ⟨rfl, rfl⟩ | ⟨rfl, rfl⟩ | ⟨rfl, rfl⟩ <;> simp; done) | (rcases hm with ⟨rfl, rfl⟩ | ⟨rfl, rfl⟩ | ⟨rfl, rfl⟩ | ⟨rfl, rfl⟩ | ⟨rfl, rfl⟩ <;> simp; done) | (rcases hm with ⟨rfl, rfl⟩ | ⟨rfl, rfl⟩ | ⟨rfl, rfl⟩ | ⟨rfl, rfl⟩ | ⟨rfl, rfl⟩ | ⟨rfl, rfl⟩ <;> simp; done))) ?_
  simp [ResIs, r_impl_sortBindings, resL, resV, tup]
end Go.Proofs.YtchidkafcdmciaaGreat
