/- Regions that draw their order, VI: evaluation in the order of the text, with names by slots. -/
import Derived.Test.YtchidkafcdmciaaGreatPvX
set_option linter.all false
namespace Go.Pv
open Go Go.RowKit

def freeAt (n0 d : Nat) (st : St) : Prop := .loc (n0 + d) ∉ st.o ∧ look (.loc (n0 + d)) st.b = none ∧ look (.loc (n0 + d)) st.e = none
def VIns.loadO (q : Bool) (t : List (Nat × PV)) : VIns → Prop
  | .load _ _ x => q = true ∨ isLocP (evalO t x) = true
  | .mget _ _ _ _ _ => q = true
  | .ment _ => q = true
  | .mlen _ => q = true
  | _ => True
def dCond (q : Bool) (n0 : Nat) (st : St) : Ins → Prop
  | .v _ i => i.loadO q st.t
  | .box d none _ => freeAt n0 d st
  | .alloc d none _ => freeAt n0 d st
  | .box _ (some _) _ => False
  | .alloc _ (some _) _ => False
  | .store _ x _ => match evalO st.t x with | .ptr _ _ => True | _ => False
  | .bslm _ _ _ _ _ => False
  | .appm _ _ _ _ _ _ => False
  | .mkmap _ _ => False
  | .mput _ _ _ _ => False
  | .range _ _ _ => False
  | .bsl d _ _ _ => freeAt n0 d st
  | .app d _ _ x _ => match evalO st.t x with
    | .slice _ .nil _ => freeAt n0 d st
    | .slice _ (.own k) _ => (look k st.e).bind (·.xs) = none
    | _ => True
def dKey (n0 : Nat) : Ins → Key
  | .v d _ | .box d _ _ | .alloc d _ _ | .bsl d _ _ _ | .app d _ _ _ _ | .bslm d _ _ _ _ | .appm d _ _ _ _ _ | .mkmap d _ | .range d _ _ => .loc (n0 + d)
  | .store _ _ _ | .mput _ _ _ _ => .loc n0

/-- The names behind a call in a region: those ahead of it, and at most one that was put by for it. -/
def keysD (nw : List Nat) (st : St) (s s' : Obs) (rm : Option Key) : Prop := (∀ k, (look k s'.b).isSome → (look k s.b).isSome ∨ rm = some k) ∧ (∀ k, (look k s'.e).isSome → (look k s.e).isSome ∨ rm = some k) ∧ (∀ k, (look k s.b).isSome → (look k s'.b).isSome) ∧ (∀ k, (look k s.e).isSome → (look k s'.e).isSome) ∧
  (∀ k, rm = some k → (∃ j, j ∈ nw ∧ k = .obj j) ∧ look k st.b = none ∧ look k st.e = none ∧ ((look k s'.b).isSome ∨ (look k s'.e).isSome))
def CallD (P : Program) (q : Bool) (nw : List Nat) (n : Nat) (args : List PV) (st : St) (d : Option Nat) (K : St → Prop) : Prop :=
  ∃ s s' r rm, subB (inObs s) s.b st.b ∧ subE (inObs s) s.e st.e ∧ objOnly s ∧ objOnly s' ∧ keysD nw st s s' rm ∧ kinL (inObs s) args ∧ FnG P n args s (fun r' t' => r' = r ∧ t' = s') ∧ (q = true → s'.b = [] ∧ s'.e = []) ∧ K { after st s s' d r with o := st.o }

def ev1d (P : Program) (q : Bool) (nw : List Nat) (n0 : Nat) (st : St) (K : St → Prop) : RIns → Prop
  | .s i => match sIk (dKey n0 i) st.n (dKey n0 i :: st.o) st i with
    | some (c, st') => dCond q n0 st i ∧ c ∧ K st'
    | none => False
  | .call d f xs => match evalO st.t f with
    | .func n caps => CallD P q nw n (stripL (xs.map (evalO st.t) ++ caps)) st d K
    | _ => False
  | .next _ _ => False

def evD (P : Program) (q : Bool) (nw : List Nat) (n0 : Nat) : List GI → St → (St → Prop) → Prop
  | [], st, K => K st
  | ⟨none, i⟩ :: r, st, K => ev1d P q nw n0 st (fun st' => evD P q nw n0 r st' K) i
  | ⟨some (s, want), i⟩ :: r, st, K => match get s st.t with
    | .bool b => (b = want → ev1d P q nw n0 { st with t := put s (.bool want) st.t } (fun st' => evD P q nw n0 r st' K) i) ∧ (b = !want → evD P q nw n0 r { st with t := putO i.dst (.tuple []) (put s (.bool !want) st.t) } K)
    | .tuple [] => evD P q nw n0 r { st with t := putO i.dst (.tuple []) st.t } K
    | _ => False

/-- What is kept along the evaluation. -/
structure Along (nw : List Nat) (n0 N : Nat) (o0 : List Key) (st : St) (A : AS) : Prop where
  like : Like st A
  n : st.n = n0
  F : ∀ k, fresh n0 st.o k → (∀ j ∈ nw, k ≠ .obj j) → A.F k
  o : ∀ k ∈ st.o, k ∈ o0 ∨ ∃ d, d < N ∧ k = .loc (n0 + d)

/-- What was put by is free as long as nothing lies there. -/
def NwF (nw : List Nat) (A : AS) : Prop := ∀ j ∈ nw, A.b (.obj j) = none → A.e (.obj j) = none → A.F (.obj j)
theorem NwF.do {P : Program} {q : Bool} {n0 : Nat} {nw : List Nat} {A : AS} (h : NwF nw A) {g : GI} {x : Ef} (hx : GG P q n0 g A x) : NwF nw (A.do x) := by
  intro j hj hb he
  refine ⟨h j hj (do_b_none hb) (do_e_none he), fun er => ?_⟩
  rcases (touch_GG hx).r _ er with ⟨d, _, e⟩ | ⟨_, _, hs⟩
  · cases e
  · rcases hs with hs | hs
    · obtain ⟨y, hy⟩ := Option.isSome_iff_exists.1 hs
      simp [AS.do, fsets, hy] at hb
    · obtain ⟨y, hy⟩ := Option.isSome_iff_exists.1 hs
      simp [AS.do, fsets, hy] at he
theorem ev1d_ch {P : Program} {q : Bool} {nw : List Nat} {n0 N : Nat} {o0 : List Key} {i : RIns} (hd : ∀ d, i.dst = some d → d < N) {st : St} {A : AS} (h : Along nw n0 N o0 st A) (hN : NwF nw A) {K : St → Prop} (he : ev1d P q nw n0 st K i) : ∃ x st', G1 P q n0 i A x ∧ K st' ∧ Along nw n0 N o0 st' (A.do x) := by
  have hl := h.like
  have hfree : ∀ d, freeAt n0 d st → (A.F (.loc (n0 + d)) ∧ A.b (.loc (n0 + d)) = none ∧ A.e (.loc (n0 + d)) = none) := fun d hf => ⟨h.F _ ⟨by simp, hf.1⟩ (fun _ _ e => by cases e), by rw [← hl.b]; exact hf.2.1, by rw [← hl.e]; exact hf.2.2⟩
  have hF1 : ∀ (d : Option Nat) (p : PV) (bw : List (Key × List PV)) (ew : List (Key × Own)) (κ : Key), ∀ k, fresh n0 (κ :: st.o) k → (∀ j ∈ nw, k ≠ .obj j) → (A.do ⟨d, p, bw, ew, some κ⟩).F k := fun d p bw ew κ k hk hj => ⟨h.F k (fresh_cons k hk).1 hj, fun e => (fresh_cons k hk).2 (Option.some.inj e).symm⟩
  have hF0 : ∀ (d : Option Nat) (p : PV) (bw : List (Key × List PV)) (ew : List (Key × Own)), ∀ k, fresh n0 st.o k → (∀ j ∈ nw, k ≠ .obj j) → (A.do ⟨d, p, bw, ew, none⟩).F k := fun d p bw ew k hk hj => ⟨h.F k hk hj, by simp⟩
  have ho1 : ∀ d, d < N → ∀ k ∈ Key.loc (n0 + d) :: st.o, k ∈ o0 ∨ ∃ d, d < N ∧ k = .loc (n0 + d) := fun d hd k hk => by
    rcases List.mem_cons.1 hk with rfl | hk
    · exact .inr ⟨d, hd, rfl⟩
    · exact h.o k hk
  cases i with
  | s i =>
    cases i with
    | v d i =>
      simp only [ev1d, sIk] at he
      cases hv : vI st i with
      | none => simp [hv] at he
      | some cp =>
        obtain ⟨c, p⟩ := cp
        simp only [hv] at he
        obtain ⟨h1, h2, h3⟩ := he
        refine ⟨⟨some d, p, [], [], none⟩, _, ⟨c, p, by rw [← vIF_eq hl]; exact hv, h2, fun hld => ?_, rfl⟩, h3, like_v hl d p, h.n, hF0 _ _ _ _, h.o⟩
        cases i <;> simp only [VIns.isLoad] at hld <;> try (cases hld; done)
        case mget => exact .inl h1
        case ment => exact .inl h1
        case mlen => exact .inl h1
        simp only [dCond, VIns.loadO, evalF_eq hl] at h1
        simpa only [VIns.ptrOf] using h1
    | box d key v =>
      cases key with
      | some m => simp only [ev1d, sIk, dCond, false_and] at he
      | none =>
        simp only [ev1d, sIk, dCond, dKey] at he
        obtain ⟨h1, h2, h3⟩ := he
        rw [evalF_eq hl] at h2
        refine ⟨_, _, ⟨hfree d h1, h2, rfl⟩, h3, ?_, h.n, hF1 _ _ _ _ _, ho1 d (hd d rfl)⟩
        rw [evalF_eq hl]
        exact like_box hl d _ _ _ _ _ _
    | alloc d key z =>
      cases key with
      | some m => simp only [ev1d, sIk, dCond, false_and] at he
      | none =>
        simp only [ev1d, sIk, dCond, dKey] at he
        obtain ⟨h1, h2, h3⟩ := he
        exact ⟨_, _, ⟨hfree d h1, rfl⟩, h3, like_box hl d _ _ _ _ _ _, h.n, hF1 _ _ _ _ _, ho1 d (hd d rfl)⟩
    | store sz u v =>
      simp only [ev1d, sIk] at he
      cases hu : evalO st.t u with
      | ptr k off =>
        cases hb : look k st.b with
        | none => simp [hu, hb] at he
        | some cs =>
          simp only [hu, hb] at he
          obtain ⟨h1, h2, h3⟩ := he
          rw [evalF_eq hl] at h2 hu
          refine ⟨⟨none, .junk, [(k, splice cs off (cells (evalF A.t v)))], [], none⟩, _, ⟨k, off, cs, hu, by rw [← hl.b]; exact hb, h2, rfl⟩, h3, ?_, h.n, hF0 _ _ _ _, h.o⟩
          rw [evalF_eq hl]
          exact like_store hl k _ _
      | _ =>
        exfalso
        simp only [hu] at he
        split at he
        · have := he.1; simp [dCond, hu] at this
        · exact he
    | bsl d sz el xs =>
      simp only [ev1d, sIk, dCond, dKey] at he
      obtain ⟨h1, h2, h3⟩ := he
      rw [evalF_fun hl] at h2
      refine ⟨_, _, ⟨hfree d h1, h2, rfl⟩, h3, ?_, h.n, hF1 _ _ _ _ _, ho1 d (hd d rfl)⟩
      rw [evalF_fun hl]
      exact like_row hl d _ _ _ _ _ _
    | app d sz el u v =>
      simp only [ev1d, sIk] at he
      cases hu : evalO st.t u with
      | slice sz' tag xs =>
        cases hv : evalO st.t v with
        | slice sz'' tag' ys =>
          simp only [hu, hv] at he
          by_cases hss : sz' = sz ∧ sz'' = sz
          · obtain ⟨rfl, rfl⟩ := hss
            rw [evalF_eq hl] at hu hv
            cases tag with
            | no => simp at he
            | nil =>
              simp only [and_self, if_true, dCond, evalF_eq hl, hu, dKey] at he
              obtain ⟨h1, h2, h3⟩ := he
              exact ⟨_, _, ⟨.nil, xs, tag', ys, hu, hv, .inr ⟨rfl, h2, hfree d h1, rfl⟩⟩, h3, like_row hl d _ _ _ _ _ _, h.n, hF1 _ _ _ _ _, ho1 d (hd d rfl)⟩
            | own k =>
              cases hk : look k st.e with
              | none => simp [hk] at he
              | some o =>
                simp only [and_self, if_true, hk] at he
                obtain ⟨h1, h2, h3⟩ := he
                exact ⟨_, _, ⟨.own k, xs, tag', ys, hu, hv, .inl ⟨k, o, rfl, by rw [← hl.e]; exact hk, ⟨by simpa [dCond, evalF_eq hl, hu, hk] using h1, h2⟩, rfl⟩⟩, h3, like_row hl d _ _ _ _ _ _, h.n, hF0 _ _ _ _, h.o⟩
          · simp [hss] at he
        | _ => simp [hu, hv] at he
      | _ => simp [hu] at he
    | bslm d key sz el xs => simp only [ev1d, sIk, dCond, false_and] at he
    | appm d key sz el u v =>
      simp only [ev1d, sIk, dCond, false_and] at he
      split at he <;> exact he.elim
    | mkmap d key => simp only [ev1d, sIk, dCond, false_and] at he
    | mput ks x k v =>
      simp only [ev1d, dCond, false_and] at he
      split at he <;> exact he.elim
    | range d key x =>
      simp only [ev1d, dCond, false_and] at he
      split at he <;> exact he.elim
  | next d x => simp only [ev1d] at he
  | call d f xs =>
    simp only [ev1d] at he
    cases hf : evalO st.t f with
    | func n caps =>
      simp only [hf] at he
      obtain ⟨s, s', r, rm, c1, c2, c3, c4, c5, c6, c7, c8, c9⟩ := he
      rw [evalF_eq hl] at hf
      rw [evalF_fun hl] at c6 c7
      obtain ⟨k1, k2, k3, k4, k5⟩ := c5
      refine ⟨⟨d, r, s'.b, s'.e, rm⟩, _, ⟨n, caps, hf, ⟨s, s', r, rm, fun k cs hk => ⟨by rw [← hl.b]; exact (c1 k cs hk).1, (c1 k cs hk).2.2⟩, fun k o hk => ⟨by rw [← hl.e]; exact (c2 k o hk).1, (c2 k o hk).2.2⟩, c3, c4, ⟨k1, k2, k3, k4, fun k hk => ?_⟩, c6, c7, rfl⟩, c8⟩, c9, ⟨fun i => ?_, fun k => ?_, fun k => ?_⟩, h.n, fun k hk hj => ⟨h.F k hk hj, fun er => ?_⟩, h.o⟩
      · obtain ⟨⟨j, hj, rfl⟩, e2, e3, e4⟩ := k5 k hk
        rw [hl.b] at e2
        rw [hl.e] at e3
        exact ⟨⟨j, rfl⟩, hN j hj e2 e3, e2, e3, e4⟩
      · simp only [after, AS.do]
        cases d with
        | none => simpa [putO] using hl.t i
        | some d => simp only [putO, get_put, Option.some.injEq, hl.t]
      · simp only [after, AS.do, fsets, look_append, look_without]
        by_cases hs : (look k s.b).isSome
        · have := k3 k hs
          obtain ⟨y, hy⟩ := Option.isSome_iff_exists.1 this
          simp [hs, hy]
        · cases hn : look k s'.b with
          | none => simp only [hs, hl.b]; cases A.b k <;> simp
          | some y =>
            rcases k1 k (by simp [hn]) with h | h
            · exact absurd h hs
            · have := k5 k h
              simp [hs, this]
      · simp only [after, AS.do, fsets, look_append, look_without]
        by_cases hs : (look k s.e).isSome
        · have := k4 k hs
          obtain ⟨y, hy⟩ := Option.isSome_iff_exists.1 this
          simp [hs, hy]
        · cases hn : look k s'.e with
          | none => simp only [hs, hl.e]; cases A.e k <;> simp
          | some y =>
            rcases k2 k (by simp [hn]) with h | h
            · exact absurd h hs
            · have := k5 k h
              simp [hs, this]
      · obtain ⟨⟨j, hj', rfl⟩, _⟩ := k5 k er
        exact hj j hj' rfl
    | _ => simp [hf] at he

def dstsOk (N : Nat) : List GI → Bool
  | [] => true
  | g :: r => dstOk N g.i.dst && dstsOk N r
def zipI : Nat → List GI → List (Nat × GI)
  | _, [] => []
  | k, g :: r => (k, g) :: zipI (k + 1) r

theorem along_refine {nw : List Nat} {n0 N : Nat} {o0 : List Key} {st : St} {A : AS} (h : Along nw n0 N o0 st A) {s : Nat} {p : PV} (hs : get s st.t = p) : Along nw n0 N o0 { st with t := put s p st.t } A := by
  refine ⟨⟨fun i => ?_, h.like.b, h.like.e⟩, h.n, h.F, h.o⟩
  simp only [get_put]
  split
  · rename_i e; subst e; rw [← hs]; exact h.like.t _
  · exact h.like.t i
theorem along_skip {nw : List Nat} {n0 N : Nat} {o0 : List Key} {st : St} {A : AS} (h : Along nw n0 N o0 st A) (d : Option Nat) : Along nw n0 N o0 { st with t := putO d (.tuple []) st.t } (A.do (skipEf d)) := by
  refine ⟨⟨fun i => ?_, fun k => ?_, fun k => ?_⟩, h.n, fun k hk hj => ⟨h.F k hk hj, by simp [skipEf]⟩, h.o⟩
  · simp only [AS.do, skipEf]
    cases d with
    | none => simpa [putO] using h.like.t i
    | some d => simp only [putO, get_put, Option.some.injEq, h.like.t]
  · simpa [AS.do, fsets, look, skipEf] using h.like.b k
  · simpa [AS.do, fsets, look, skipEf] using h.like.e k

theorem evD_ch {P : Program} {q : Bool} {nw : List Nat} {n0 N : Nat} {o0 : List Key} {K : St → Prop} : ∀ (gs : List GI) (k : Nat), dstsOk N gs = true → ∀ (st : St) (A : AS), Along nw n0 N o0 st A → NwF nw A → evD P q nw n0 gs st K → ch P q n0 (fun A' => ∃ st', K st' ∧ Along nw n0 N o0 st' A') (zipI k gs) A
  | [], k, _, st, A, h, _, he => ⟨st, he, h⟩
  | ⟨gg, i⟩ :: r, k, hd, st, A, h, hN, he => by
    simp only [dstsOk, Bool.and_eq_true] at hd
    have hdd : ∀ d, i.dst = some d → d < N := fun d e => by have := hd.1; rw [e] at this; simpa [dstOk] using this
    simp only [zipI, ch]
    cases gg with
    | none =>
      simp only [evD] at he
      obtain ⟨x, st', h1, h2, h3⟩ := ev1d_ch hdd h hN he
      have hg : GG P q n0 ⟨none, i⟩ A x := h1
      exact ⟨x, hg, evD_ch r (k + 1) hd.2 st' _ h3 (hN.do hg) h2⟩
    | some sw =>
      obtain ⟨s, want⟩ := sw
      simp only [evD] at he
      split at he
      · rename_i b hb
        by_cases e : b = want
        · subst e
          obtain ⟨x, st', h1, h2, h3⟩ := ev1d_ch hdd (along_refine h hb) hN (he.1 rfl)
          have hg : GG P q n0 ⟨some (s, b), i⟩ A x := by
            unfold GG
            simp only [← h.like.t, hb]
            exact .inl ⟨trivial, h1⟩
          exact ⟨x, hg, evD_ch r (k + 1) hd.2 st' _ h3 (hN.do hg) h2⟩
        · have hb' : b = !want := by cases b <;> cases want <;> simp at e ⊢
          subst hb'
          have hg : GG P q n0 ⟨some (s, want), i⟩ A (skipEf i.dst) := by
            unfold GG
            simp only [← h.like.t, hb]
            exact .inr ⟨trivial, trivial⟩
          exact ⟨skipEf i.dst, hg, evD_ch r (k + 1) hd.2 _ _ (along_skip (along_refine h hb) i.dst) (hN.do hg) (he.2 rfl)⟩
      · rename_i hb
        have hg : GG P q n0 ⟨some (s, want), i⟩ A (skipEf i.dst) := by
          unfold GG
          simp only [← h.like.t, hb]
        exact ⟨skipEf i.dst, hg, evD_ch r (k + 1) hd.2 _ _ (along_skip h i.dst) (hN.do hg) he⟩
      · exact he.elim

theorem rem_none : ∀ (gs : List GI) (l : Array Bool) (k : Nat), (∀ j, l.getD j false = false) → rem l k gs = zipI k gs
  | [], _, _, _ => rfl
  | g :: r, l, k, h => by simp only [rem, h k, zipI, rem_none r l (k + 1) h]; simp

/-- The state behind a drawn region. -/
def DEnd (n : Nat) (o : List Key) (K : St → Prop) (st : St) : Prop := K { st with n := n, o := o }

theorem Good.like {pr : Nat → Prop} {w : World} {ν : Env} {b b' : List (Key × List PV)} {e e' : List (Key × Own)} (h : Good pr w ν b e) (hb : ∀ k, look k b' = look k b) (he : ∀ k, look k e' = look k e) : Good pr w ν b' e' :=
  ⟨h.alt, fun k cs hk => h.box k cs (by rw [← hb]; exact hk), fun k k' bl h1 h2 => h.inj k k' bl (by rw [← hb]; exact h1) (by rw [← hb]; exact h2), fun g o hg => h.own g o (by rw [← he]; exact hg),
   fun g g' n n' v v' bl h1 h2 => h.oinj g g' n n' v v' bl (by rw [← he]; exact h1) (by rw [← he]; exact h2), fun g k n v bl h1 h2 => h.obx g k n v bl (by rw [← he]; exact h1) (by rw [← hb]; exact h2), h.one⟩

theorem evD_sound {P : Program} (hm : P.follows .mixedOrders = true) {tys : List (Nat × TF)} (ht : tysOk P tys = true) {C : Ctx} {q : Bool} {nw : List Nat} {id : Nat} {ops : Array Oper} {gs : List GI} (hgs : gsOk C.N tys ops.toList gs ops.toList = true) (hany : anyOk gs ops.toList = true) (hds : dstsOk C.N gs = true)
    {K : St → Prop} {Q : Exit → Act → World → Prop} (hQ : ∀ st' a' w' ν', K st' → Rel C st' a' w' ν' → Q .normal a' w') {st : St} {a : Act} {w : World} {ν : Env} (hnw : ∀ j ∈ nw, .obj j ∉ st.o) (he : evD P q nw st.n gs st (DEnd (st.n + C.N) (nw.map Key.obj ++ st.o) K)) (hr : Rel C st a w ν) : (Code.region id ops true).wp P Q a w := by
  refine wp_region_any hm ?_
  have hr' : Rel C st a { w with drawn := w.drawn + 1 } ν := hr.drawn _
  let A : AS := ⟨fun i => get i st.t, fun k => look k st.b, fun k => look k st.e, fresh st.n st.o⟩
  have hal : Along nw st.n C.N st.o st A := ⟨⟨fun _ => rfl, fun _ => rfl, fun _ => rfl⟩, rfl, fun k hk _ => hk, fun k hk => .inl hk⟩
  have hch := evD_ch gs 0 hds st A hal (fun j hj _ _ => ⟨trivial, hnw j hj⟩) he
  have hnone : ∀ j, (Array.replicate ops.size false).getD j false = false := fun j => by simp [Array.getD_eq_getD_getElem?, Array.getElem?_replicate]; split <;> rfl
  refine any_sound ht hgs hany (q := q) (n0 := st.n) (K := fun A' => ∃ st', DEnd (st.n + C.N) (nw.map Key.obj ++ st.o) K st' ∧ Along nw st.n C.N st.o st' A') ?_ ops.size _ A a _ (by simp) ?_ ?_ (by rw [rem_none gs _ 0 hnone]; exact hch) ⟨st, ν, hal.like, fun k hk => hk, hr'⟩
  · rintro A' a' w' ⟨st', hk, ha⟩ ⟨st2, ν', hl2, hF2, hr2⟩
    refine hQ _ a' w' ν' hk ⟨hr2.good.like (fun k => by rw [hl2.b, ← ha.like.b]) (fun k => by rw [hl2.e, ← ha.like.e]), hr2.fr, hr2.defers, hr2.size, fun i => ?_, fun k hkf => ?_⟩
    · have := hr2.slot i
      rw [hl2.t, ← ha.like.t] at this
      exact this
    · refine hr2.new k (hF2 k (ha.F k ?_ fun j hj e => hkf.2 (by subst e; exact List.mem_append_left _ (List.mem_map_of_mem hj))))
      simp only at hkf
      refine ⟨(fresh_mono (Nat.le_add_right st.n C.N) (fun _ h => h) hkf).1, fun hmem => ?_⟩
      rcases ha.o k hmem with h | ⟨d, hd, rfl⟩
      · exact hkf.2 (List.mem_append_right _ h)
      · have := hkf.1
        simp at this
        omega
  · intro k o hk hl
    rw [hnone] at hl; cases hl
  · rw [rem_none gs _ 0 hnone]
    have : ∀ (gs : List GI) k, (zipI k gs).length = gs.length := by
      intro gs
      induction gs with
      | nil => intro k; rfl
      | cons g r ih => intro k; simp [zipI, ih]
    rw [this]
    have := gsOk_len hgs
    simp at this
    omega

end Go.Pv
