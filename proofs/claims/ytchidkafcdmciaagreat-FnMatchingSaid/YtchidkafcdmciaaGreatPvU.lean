/- Regions that draw their order, II: what an instruction does, as an effect; which pairs may change places. -/
import Derived.Test.YtchidkafcdmciaaGreatPvS
set_option linter.all false
namespace Go.Pv
open Go Go.RowKit

def sameKeys (s s' : Obs) : Prop := (∀ k, (look k s'.b).isSome → (look k s.b).isSome) ∧ (∀ k, (look k s'.e).isSome → (look k s.e).isSome) ∧ (∀ k, (look k s.b).isSome → (look k s'.b).isSome) ∧ (∀ k, (look k s.e).isSome → (look k s'.e).isSome)
/-- The names behind a call: those ahead of it, and at most one that is new. -/
def newKeys (A : AS) (s s' : Obs) (rm : Option Key) : Prop := (∀ k, (look k s'.b).isSome → (look k s.b).isSome ∨ rm = some k) ∧ (∀ k, (look k s'.e).isSome → (look k s.e).isSome ∨ rm = some k) ∧ (∀ k, (look k s.b).isSome → (look k s'.b).isSome) ∧ (∀ k, (look k s.e).isSome → (look k s'.e).isSome) ∧
  (∀ k, rm = some k → (∃ j, k = .obj j) ∧ A.F k ∧ A.b k = none ∧ A.e k = none ∧ ((look k s'.b).isSome ∨ (look k s'.e).isSome))
/-- A call of a function whose answer is known. -/
def CallF (P : Program) (n : Nat) (args : List PV) (A : AS) (d : Option Nat) (x : Ef) : Prop :=
  ∃ s s' r rm, (∀ k cs, look k s.b = some cs → A.b k = some cs ∧ kinL (inObs s) cs) ∧ (∀ k o, look k s.e = some o → A.e k = some o ∧ kinO (inObs s) o) ∧ objOnly s ∧ objOnly s' ∧ newKeys A s s' rm ∧ kinL (inObs s) args ∧
    FnG P n args s (fun r' t' => r' = r ∧ t' = s') ∧ x = ⟨d, r, s'.b, s'.e, rm⟩

def isLocP : PV → Bool
  | .ptr (.loc _) _ => true
  | .eptr _ => true
  | _ => false
def VIns.ptrOf (t : Nat → PV) : VIns → PV
  | .load _ _ x => evalF t x
  | _ => .junk

/-- What an instruction may do at a state. 'q': no call is handed an object (then a load may be of one). -/
def G1 (P : Program) (q : Bool) (n0 : Nat) : RIns → AS → Ef → Prop
  | .s (.v d i), A, x => ∃ c p, vIF A.t A.b A.e i = some (c, p) ∧ c ∧ (i.isLoad = true → q = true ∨ isLocP (i.ptrOf A.t) = true) ∧ x = ⟨some d, p, [], [], none⟩
  | .s (.box d none v), A, x => (A.F (.loc (n0 + d)) ∧ A.b (.loc (n0 + d)) = none ∧ A.e (.loc (n0 + d)) = none) ∧ solid (evalF A.t v) = true ∧ x = ⟨some d, .ptr (.loc (n0 + d)) 0, [(.loc (n0 + d), cells (evalF A.t v))], [], some (.loc (n0 + d))⟩
  | .s (.alloc d none z), A, x => (A.F (.loc (n0 + d)) ∧ A.b (.loc (n0 + d)) = none ∧ A.e (.loc (n0 + d)) = none) ∧ x = ⟨some d, .ptr (.loc (n0 + d)) 0, [(.loc (n0 + d), cells z)], [], some (.loc (n0 + d))⟩
  | .s (.store sz u v), A, x => ∃ k off cs, evalF A.t u = .ptr k off ∧ A.b k = some cs ∧ (plainB cs = true ∧ solid (evalF A.t v) = true ∧ (cells (evalF A.t v)).length = sz ∧ off + sz ≤ cs.length) ∧ x = ⟨none, .junk, [(k, splice cs off (cells (evalF A.t v)))], [], none⟩
  | .s (.bsl d sz el xs), A, x => (A.F (.loc (n0 + d)) ∧ A.b (.loc (n0 + d)) = none ∧ A.e (.loc (n0 + d)) = none) ∧ allSz sz (xs.map (evalF A.t)) ∧ x = ⟨some d, .slice sz (.own (.loc (n0 + d))) (xs.map (evalF A.t)), [], [(.loc (n0 + d), ⟨xs.length, el, sz, none⟩)], some (.loc (n0 + d))⟩
  | .s (.app d sz el u v), A, x => ∃ tag xs tag' ys, evalF A.t u = .slice sz tag xs ∧ evalF A.t v = .slice sz tag' ys ∧
      ((∃ k o, tag = .own k ∧ A.e k = some o ∧ (o.xs = none ∧ o.n = xs.length ∧ o.el = el ∧ o.sz = sz ∧ xs.length + ys.length ≤ lim) ∧ x = ⟨some d, .slice sz (.own k) (xs ++ ys), [], [(k, ⟨xs.length + ys.length, el, sz, none⟩)], none⟩) ∨
       (tag = .nil ∧ ys.length ≤ lim ∧ (A.F (.loc (n0 + d)) ∧ A.b (.loc (n0 + d)) = none ∧ A.e (.loc (n0 + d)) = none) ∧ x = ⟨some d, .slice sz (.own (.loc (n0 + d))) ys, [], [(.loc (n0 + d), ⟨ys.length, el, sz, none⟩)], some (.loc (n0 + d))⟩))
  | .call d f xs, A, x => ∃ n caps, evalF A.t f = .func n caps ∧ CallF P n (stripL (xs.map (evalF A.t) ++ caps)) A d x ∧ (q = true → x.bw = [] ∧ x.ew = [])
  | _, _, _ => False

inductive Mode where
  | v | l | n | s | w | a | c
  deriving DecidableEq
def RIns.mode : RIns → Mode
  | .s (.v _ i) => if i.isLoad then .l else .v
  | .s (.box _ _ _) => .n
  | .s (.alloc _ _ _) => .n
  | .s (.store _ _ _) => .w
  | .s (.bsl _ _ _ _) => .s
  | .s (.app _ _ _ _ _) => .a
  | .s (.bslm _ _ _ _ _) => .w
  | .s (.appm _ _ _ _ _ _) => .w
  | .s (.mkmap _ _) => .w
  | .s (.mput _ _ _ _) => .w
  | .s (.range _ _ _) => .w
  | .call _ _ _ => .c
  | .next _ _ => .w

/-- What the effect of an instruction touches, by its kind. -/
structure Touch (q : Bool) (n0 : Nat) (m : Mode) (dst : Option Nat) (A : AS) (x : Ef) : Prop where
  d : x.d = dst
  b : ∀ k, (look k x.bw).isSome → (m = .n ∧ ∃ d, dst = some d ∧ k = .loc (n0 + d) ∧ A.b k = none ∧ A.e k = none) ∨ m = .w ∨ (m = .c ∧ (∃ j, k = .obj j) ∧ q = false)
  e : ∀ k, (look k x.ew).isSome → (m = .s ∧ ∃ d, dst = some d ∧ k = .loc (n0 + d) ∧ A.b k = none ∧ A.e k = none) ∨ (m = .a ∧ (A.e k ≠ none ∨ ∃ d, dst = some d ∧ k = .loc (n0 + d) ∧ A.b k = none ∧ A.e k = none)) ∨ (m = .c ∧ (∃ j, k = .obj j) ∧ q = false)
  r : ∀ k, x.rm = some k → (∃ d, dst = some d ∧ k = .loc (n0 + d)) ∨ (m = .c ∧ (∃ j, k = .obj j) ∧ ((look k x.bw).isSome ∨ (look k x.ew).isSome))
  ex : m = .a → ∀ k o, (look k x.ew).isSome → A.e k = some o → o.xs = none
  xn : m = .a ∨ m = .s → ∀ k o, look k x.ew = some o → o.xs = none

theorem look_one {α : Type} {k k' : Key} {x : α} (h : (look k [(k', x)]).isSome) : k = k' := by
  simp only [look] at h
  split at h
  · rename_i e; exact e.symm
  · cases h

theorem look_xs {k k' : Key} {n el sz : Nat} {o : Own} (h : look k [(k', (⟨n, el, sz, none⟩ : Own))] = some o) : o.xs = none := by
  simp only [look] at h
  split at h
  · cases h; rfl
  · cases h
theorem touch_of {P : Program} {q : Bool} {n0 : Nat} {i : RIns} {A : AS} {x : Ef} (h : G1 P q n0 i A x) : Touch q n0 i.mode i.dst A x := by
  cases i with
  | s i =>
    cases i with
    | v d i =>
      simp only [G1] at h
      obtain ⟨c, p, _, _, _, rfl⟩ := h
      exact ⟨rfl, fun k hk => by simp [look] at hk, fun k hk => by simp [look] at hk, fun k hk => by simp at hk, fun _ k o hk => by simp [look] at hk, fun _ k o hk => by simp [look] at hk⟩
    | box d key v =>
      cases key with
      | some m => simp only [G1] at h
      | none =>
        simp only [G1] at h
        obtain ⟨⟨_, h2, h3⟩, _, rfl⟩ := h
        exact ⟨rfl, fun k hk => by obtain rfl := look_one hk; exact .inl ⟨rfl, d, rfl, rfl, h2, h3⟩, fun k hk => by simp [look] at hk, fun k hk => by simp at hk; exact .inl ⟨d, rfl, hk.symm⟩, fun _ k o hk => by simp [look] at hk, fun _ k o hk => by simp [look] at hk⟩
    | alloc d key z =>
      cases key with
      | some m => simp only [G1] at h
      | none =>
        simp only [G1] at h
        obtain ⟨⟨_, h2, h3⟩, rfl⟩ := h
        exact ⟨rfl, fun k hk => by obtain rfl := look_one hk; exact .inl ⟨rfl, d, rfl, rfl, h2, h3⟩, fun k hk => by simp [look] at hk, fun k hk => by simp at hk; exact .inl ⟨d, rfl, hk.symm⟩, fun _ k o hk => by simp [look] at hk, fun _ k o hk => by simp [look] at hk⟩
    | store sz u v =>
      simp only [G1] at h
      obtain ⟨k, off, cs, _, _, _, rfl⟩ := h
      exact ⟨rfl, fun k hk => .inr (.inl rfl), fun k hk => by simp [look] at hk, fun k hk => by simp at hk, fun _ k o hk => by simp [look] at hk, fun _ k o hk => by simp [look] at hk⟩
    | bsl d sz el xs =>
      simp only [G1] at h
      obtain ⟨⟨_, h2, h3⟩, _, rfl⟩ := h
      exact ⟨rfl, fun k hk => by simp [look] at hk, fun k hk => by obtain rfl := look_one hk; exact .inl ⟨rfl, d, rfl, rfl, h2, h3⟩, fun k hk => by simp at hk; exact .inl ⟨d, rfl, hk.symm⟩, fun e => by simp [RIns.mode] at e, fun _ k o hk => look_xs hk⟩
    | app d sz el u v =>
      simp only [G1] at h
      obtain ⟨tag, xs, tag', ys, _, _, h⟩ := h
      rcases h with ⟨k, o, _, h1, ⟨hxs, _⟩, rfl⟩ | ⟨_, _, ⟨_, h2, h3⟩, rfl⟩
      · exact ⟨rfl, fun k hk => by simp [look] at hk, fun k hk => by obtain rfl := look_one hk; exact .inr (.inl ⟨rfl, .inl (by rw [h1]; simp)⟩), fun k hk => by simp at hk, fun _ k' o' hk ho => by obtain rfl := look_one hk; rw [h1] at ho; cases ho; exact hxs, fun _ k o hk => look_xs hk⟩
      · exact ⟨rfl, fun k hk => by simp [look] at hk, fun k hk => by obtain rfl := look_one hk; exact .inr (.inl ⟨rfl, .inr ⟨d, rfl, rfl, h2, h3⟩⟩), fun k hk => by simp at hk; exact .inl ⟨d, rfl, hk.symm⟩, fun _ k' o' hk ho => (by obtain rfl := look_one hk; rw [h3] at ho; cases ho), fun _ k o hk => look_xs hk⟩
    | bslm d key sz el xs => simp only [G1] at h
    | appm d key sz el u v => simp only [G1] at h
    | mkmap d key => simp only [G1] at h
    | mput ks x k v => simp only [G1] at h
    | range d key x => simp only [G1] at h
  | next d x => simp only [G1] at h
  | call d f xs =>
    simp only [G1] at h
    obtain ⟨n, caps, _, ⟨s, s', r, rm, _, _, _, ho, hnk, _, _, rfl⟩, hq⟩ := h
    refine ⟨rfl, fun k hk => .inr (.inr ⟨rfl, ?_, ?_⟩), fun k hk => .inr (.inr ⟨rfl, ?_, ?_⟩), fun k hk => .inr ⟨rfl, (hnk.2.2.2.2 k hk).1, (hnk.2.2.2.2 k hk).2.2.2.2⟩, fun e => by simp [RIns.mode] at e, fun e => by simp [RIns.mode] at e⟩
    · cases k with
      | loc m => rw [ho.1 m] at hk; cases hk
      | obj m => exact ⟨m, rfl⟩
    · cases q with
      | false => rfl
      | true => rw [(hq rfl).1] at hk; simp [look] at hk
    · cases k with
      | loc m => rw [ho.2 m] at hk; cases hk
      | obj m => exact ⟨m, rfl⟩
    · cases q with
      | false => rfl
      | true => rw [(hq rfl).2] at hk; simp [look] at hk

/-- An instruction does the same at a state that is alike where it looks. -/
theorem G1_move {P : Program} {q : Bool} {n0 : Nat} {i : RIns} {A A' : AS} {x : Ef} (h : G1 P q n0 i A x) (ht : agree i.looks A.t A'.t)
    (hl : i.mode = .l → ∀ k, (q = true ∨ ∃ m, k = .loc m) → A.b k ≠ none → A'.b k = A.b k)
    (hrw : i.mode = .l → q = true → ∀ k o, A.e k = some o → o.xs ≠ none → A'.e k = some o)
    (hn : ∀ d, i.dst = some d → (i.mode = .n ∨ i.mode = .s ∨ i.mode = .a) → (A.F (.loc (n0 + d)) ∧ A.b (.loc (n0 + d)) = none ∧ A.e (.loc (n0 + d)) = none) → (A'.F (.loc (n0 + d)) ∧ A'.b (.loc (n0 + d)) = none ∧ A'.e (.loc (n0 + d)) = none))
    (ha : i.mode = .a → ∀ k o, A.e k = some o → A'.e k = some o) (hw : i.mode = .w → ∀ k, A'.b k = A.b k)
    (hc : i.mode = .c → ∀ m, A'.b (.obj m) = A.b (.obj m) ∧ A'.e (.obj m) = A.e (.obj m) ∧ (A.F (.obj m) → A'.F (.obj m))) : G1 P q n0 i A' x := by
  cases i with
  | s i =>
    cases i with
    | v d i =>
      simp only [G1] at h ⊢
      obtain ⟨c, p, h1, h2, h3, h4⟩ := h
      by_cases hld : i.isLoad = true
      · have hq : ∀ (hp : isLocP (i.ptrOf A.t) = false), ∀ k, A.b k ≠ none → A'.b k = A.b k := fun hp k hk => hl (by simp [RIns.mode, hld]) k (.inl ((h3 hld).resolve_right (by rw [hp]; simp))) hk
        cases i <;> simp only [VIns.isLoad] at hld <;> try (cases hld; done)
        case mget ks zero ok y z =>
          simp only [RIns.looks, Ins.looks, VIns.looks] at ht
          obtain ⟨t1, t2⟩ := agree_app ht
          refine ⟨c, p, ?_, h2, fun _ => h3 rfl, h4⟩
          simp only [vIF] at h1 ⊢
          rw [← evalF_agree t1, ← evalF_agree t2]
          exact mgetV_congr (hq rfl) h1
        case ment y =>
          simp only [RIns.looks, Ins.looks, VIns.looks] at ht
          refine ⟨c, p, ?_, h2, fun _ => h3 rfl, h4⟩
          simp only [vIF] at h1 ⊢
          rw [← evalF_agree ht]
          exact mentV_congr (hq rfl) h1
        case mlen y =>
          simp only [RIns.looks, Ins.looks, VIns.looks] at ht
          refine ⟨c, p, ?_, h2, fun _ => h3 rfl, h4⟩
          simp only [vIF] at h1 ⊢
          rw [← evalF_agree ht]
          exact mlenV_congr (hq rfl) h1
        rename_i agg sz y
        simp only [RIns.looks, Ins.looks, VIns.looks] at ht
        have hev := evalF_agree ht
        refine ⟨c, p, ?_, h2, fun _ => by have := h3 rfl; simpa only [VIns.ptrOf, ← hev] using this, h4⟩
        rw [← h1]
        simp only [vIF, ← hev]
        have hm := hl (by simp [RIns.mode, VIns.isLoad])
        simp only [vIF] at h1
        have h3' := h3 rfl
        simp only [VIns.ptrOf] at h3'
        cases hp : evalF A.t y <;> simp only [loadF]
        · rename_i key off
          rw [hp] at h1 h3'
          simp only [loadF] at h1
          cases hb : A.b key with
          | none => simp [hb] at h1
          | some cs =>
            have : A'.b key = A.b key := hm key (by rcases h3' with h | h; exact .inl h; cases key; exact .inr ⟨_, rfl⟩; simp [isLocP] at h) (by rw [hb]; simp)
            rw [this, hb]
        · rename_i sz' key n i f
          rw [hp] at h1 h3'
          simp only [loadF] at h1
          have hq1 : q = true := h3'.resolve_right (by simp [isLocP])
          unfold rowGet at h1
          split at h1
          · rename_i n' el sz'' xs he
            rw [he, hrw (by simp [RIns.mode, VIns.isLoad]) hq1 key _ he (by simp)]
          · cases h1
      · have hld : i.isLoad = false := by simpa using hld
        refine ⟨c, p, ?_, h2, (fun e => by rw [hld] at e; cases e), h4⟩
        rw [← h1]
        exact (vIF_agree (by simpa only [RIns.looks, Ins.looks] using ht) hld).symm
    | box d key v =>
      cases key with
      | some m => simp only [G1] at h
      | none =>
        simp only [G1, RIns.looks, Ins.looks] at h ht ⊢
        obtain ⟨h1, h2, h3⟩ := h
        rw [← evalF_agree ht]
        exact ⟨hn d rfl (.inl rfl) h1, h2, h3⟩
    | alloc d key z =>
      cases key with
      | some m => simp only [G1] at h
      | none =>
        simp only [G1] at h ⊢
        exact ⟨hn d rfl (.inl rfl) h.1, h.2⟩
    | store sz u v =>
      simp only [G1, RIns.looks, Ins.looks] at h ht ⊢
      obtain ⟨h1, h2⟩ := agree_app ht
      rw [← evalF_agree h1, ← evalF_agree h2]
      obtain ⟨k, off, cs, g1, g2, g3, g4⟩ := h
      exact ⟨k, off, cs, g1, by rw [hw rfl]; exact g2, g3, g4⟩
    | bsl d sz el xs =>
      simp only [G1, RIns.looks, Ins.looks] at h ht ⊢
      rw [← map_agree ht]
      exact ⟨hn d rfl (.inr (.inl rfl)) h.1, h.2⟩
    | app d sz el u v =>
      simp only [G1, RIns.looks, Ins.looks] at h ht ⊢
      obtain ⟨h1, h2⟩ := agree_app ht
      rw [← evalF_agree h1, ← evalF_agree h2]
      obtain ⟨tag, xs, tag', ys, g1, g2, h⟩ := h
      refine ⟨tag, xs, tag', ys, g1, g2, ?_⟩
      rcases h with ⟨k, o, e1, e2, e3⟩ | ⟨e1, e2, e3, e4⟩
      · exact .inl ⟨k, o, e1, ha rfl k o e2, e3⟩
      · exact .inr ⟨e1, e2, hn d rfl (.inr (.inr rfl)) e3, e4⟩
    | bslm d key sz el xs => simp only [G1] at h
    | appm d key sz el u v => simp only [G1] at h
    | mkmap d key => simp only [G1] at h
    | mput ks x k v => simp only [G1] at h
    | range d key x => simp only [G1] at h
  | next d x => simp only [G1] at h
  | call d f xs =>
    simp only [G1, RIns.looks] at h ht ⊢
    obtain ⟨h1, h2⟩ := agree_app ht
    rw [← evalF_agree h1, ← map_agree h2]
    obtain ⟨n, caps, g1, ⟨s, s', r, rm, c1, c2, c3, c4, c5, c6⟩, g3⟩ := h
    refine ⟨n, caps, g1, ⟨s, s', r, rm, fun k cs hk => ?_, fun k o hk => ?_, c3, c4, ⟨c5.1, c5.2.1, c5.2.2.1, c5.2.2.2.1, fun k hk => ?_⟩, c6⟩, g3⟩
    · cases k with
      | loc m => rw [c3.1 m] at hk; cases hk
      | obj m => rw [(hc rfl m).1]; exact c1 _ _ hk
    · cases k with
      | loc m => rw [c3.2 m] at hk; cases hk
      | obj m => rw [(hc rfl m).2.1]; exact c2 _ _ hk
    · obtain ⟨⟨j, rfl⟩, d2, d3, d4, d5⟩ := c5.2.2.2.2 k hk
      exact ⟨⟨j, rfl⟩, (hc rfl j).2.2 d2, by rw [(hc rfl j).1]; exact d3, by rw [(hc rfl j).2.1]; exact d4, d5⟩

end Go.Pv
