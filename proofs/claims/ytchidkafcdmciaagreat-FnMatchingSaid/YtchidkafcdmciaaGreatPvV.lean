/- Regions that draw their order, III: pairs that may change places; every order comes to the same. -/
import Derived.Test.YtchidkafcdmciaaGreatPvU
set_option linter.all false
namespace Go.Pv
open Go Go.RowKit

def skipEf (d : Option Nat) : Ef := ⟨d, .tuple [], [], [], none⟩
/-- An instruction behind its guard. -/
def GG (P : Program) (q : Bool) (n0 : Nat) (g : GI) (A : AS) (x : Ef) : Prop :=
  match g.g with
  | none => G1 P q n0 g.i A x
  | some (s, w) => match A.t s with
    | .bool b => (b = w ∧ G1 P q n0 g.i A x) ∨ (b = !w ∧ x = skipEf g.i.dst)
    | .tuple [] => x = skipEf g.i.dst
    | _ => False

def mOk : Mode → Mode → Bool
  | .v, _ => true
  | _, .v => true
  | .l, .l | .l, .n | .l, .s | .l, .a | .l, .c => true
  | .n, .n | .n, .s | .n, .a | .n, .c => true
  | .s, .l | .s, .n | .s, .s | .s, .c => true
  | .a, .l | .a, .n | .a, .s => true
  | .c, .l | .c, .n | .c, .s => true
  | _, _ => false
def GI.dst (g : GI) : Option Nat := g.i.dst
def gComm (g h : GI) : Bool :=
  (match g.i.dst with | some d => !(h.looks.contains d) && h.i.dst != some d | none => true) && (match h.i.dst with | some d => !(g.looks.contains d) | none => true) && mOk g.i.mode h.i.mode

theorem touch_skip (q : Bool) (n0 : Nat) (m : Mode) (d : Option Nat) (A : AS) : Touch q n0 m d A (skipEf d) :=
  ⟨rfl, fun k hk => by simp [skipEf, look] at hk, fun k hk => by simp [skipEf, look] at hk, fun k hk => by simp [skipEf] at hk, fun _ k o hk => by simp [skipEf, look] at hk, fun _ k o hk => by simp [skipEf, look] at hk⟩
theorem touch_GG {P : Program} {q : Bool} {n0 : Nat} {g : GI} {A : AS} {x : Ef} (h : GG P q n0 g A x) : Touch q n0 g.i.mode g.i.dst A x := by
  unfold GG at h
  split at h
  · exact touch_of h
  · split at h
    · rcases h with ⟨_, h⟩ | ⟨_, rfl⟩
      · exact touch_of h
      · exact touch_skip _ _ _ _ _
    · subst h; exact touch_skip _ _ _ _ _
    · exact h.elim

theorem do_b {A : AS} {x : Ef} {k : Key} (h : look k x.bw = none) : (A.do x).b k = A.b k := by simp [AS.do, fsets, h]
theorem do_e {A : AS} {x : Ef} {k : Key} (h : look k x.ew = none) : (A.do x).e k = A.e k := by simp [AS.do, fsets, h]
theorem do_b_none {A : AS} {x : Ef} {k : Key} (h : (A.do x).b k = none) : A.b k = none := by
  simp only [AS.do, fsets] at h
  split at h
  · cases h
  · exact h
theorem do_e_none {A : AS} {x : Ef} {k : Key} (h : (A.do x).e k = none) : A.e k = none := by
  simp only [AS.do, fsets] at h
  split at h
  · cases h
  · exact h
theorem none_of {α : Type} {o : Option α} (h : ¬o.isSome) : o = none := by cases o <;> simp at h ⊢

theorem GG_move {P : Program} {q : Bool} {n0 : Nat} {g : GI} {A A' : AS} {x : Ef} (h : GG P q n0 g A x) (ht : agree g.looks A.t A'.t) (hm : G1 P q n0 g.i A x → G1 P q n0 g.i A' x) : GG P q n0 g A' x := by
  unfold GG at h ⊢
  cases hg : g.g with
  | none => simp only [hg] at h ⊢; exact hm h
  | some sw =>
    obtain ⟨s, w⟩ := sw
    have : A.t s = A'.t s := ht s (by simp [GI.looks, hg])
    simp only [hg, this] at h ⊢
    split at h
    · rcases h with ⟨h1, h2⟩ | h
      · exact .inl ⟨h1, hm h2⟩
      · exact .inr h
    · exact h
    · exact h

theorem swap {P : Program} {q : Bool} {n0 : Nat} {g h : GI} (hgh : gComm g h = true) {A : AS} {x y : Ef} (hx : GG P q n0 g A x) (hy : GG P q n0 h (A.do x) y) :
    GG P q n0 h A y ∧ GG P q n0 g (A.do y) x ∧ x.apart y := by
  simp only [gComm, Bool.and_eq_true] at hgh
  obtain ⟨⟨hd1, hd2⟩, hm⟩ := hgh
  have tx := touch_GG hx
  have hne : ∀ d d', g.i.dst = some d → h.i.dst = some d' → d ≠ d' := by
    intro d d' e1 e2 e
    simp only [e1, Bool.and_eq_true, bne_iff_ne] at hd1
    exact hd1.2 (by rw [e2, e])
  have hag : agree h.looks (A.do x).t A.t := by
    intro i hi
    simp only [AS.do]
    rw [if_neg]
    intro e
    rw [tx.d] at e
    simp only [e, Bool.and_eq_true, Bool.not_eq_true', List.contains_eq_mem, decide_eq_false_iff_not] at hd1
    exact hd1.1 hi
  have hlb : ∀ k, (look k x.bw).isSome → _ := tx.b
  have hle : ∀ k, (look k x.ew).isSome → _ := tx.e
  have key1 : GG P q n0 h A y := by
    refine GG_move hy hag fun hG => G1_move hG (fun i hi => hag i (by simp [GI.looks, hi])) (fun e k hk hb => ?_) (fun e hq k o ho hxs => ?_) (fun d hd hmm hcond => ?_) (fun e k o ho => ?_) (fun e k => ?_) (fun e m => ?_)
    · rw [do_b (none_of fun hs => ?_)]
      rw [e] at hm
      rcases hlb k hs with ⟨e1, _⟩ | e1 | ⟨e1, ⟨j, e2⟩, e3⟩
      · rw [e1] at hm; simp [mOk] at hm
      · rw [e1] at hm; simp [mOk] at hm
      · rcases hk with hk | ⟨m, hk⟩
        · rw [hk] at e3; cases e3
        · rw [hk] at e2; cases e2
    · rw [e] at hm
      cases hlk : look k x.ew with
      | none => rw [do_e hlk] at ho; exact ho
      | some o' =>
        exfalso
        have hoo : (A.do x).e k = some o' := by simp [AS.do, fsets, hlk]
        rw [hoo] at ho; cases ho
        rcases hle k (by simp [hlk]) with ⟨e1, _⟩ | ⟨e1, _⟩ | ⟨e1, _, e3⟩
        · exact hxs (tx.xn (.inr e1) k _ hlk)
        · exact hxs (tx.xn (.inl e1) k _ hlk)
        · rw [hq] at e3; cases e3
    · exact ⟨hcond.1.1, do_b_none hcond.2.1, do_e_none hcond.2.2⟩
    · rw [do_e (none_of fun hs => ?_)] at ho
      · exact ho
      · rw [e] at hm
        rcases hle k hs with ⟨e1, _⟩ | ⟨e1, _⟩ | ⟨e1, _⟩ <;> (rw [e1] at hm; simp [mOk] at hm)
    · rw [do_b (none_of fun hs => ?_)]
      rw [e] at hm
      rcases hlb k hs with ⟨e1, _⟩ | e1 | ⟨e1, _⟩ <;> (rw [e1] at hm; simp [mOk] at hm)
    · rw [e] at hm
      refine ⟨?_, ?_, fun hF => hF.1⟩
      · rw [do_b (none_of fun hs => ?_)]
        rcases hlb _ hs with ⟨e1, d, _, e2, _⟩ | e1 | ⟨e1, _⟩
        · cases e2
        · rw [e1] at hm; simp [mOk] at hm
        · rw [e1] at hm; simp [mOk] at hm
      · rw [do_e (none_of fun hs => ?_)]
        rcases hle _ hs with ⟨e1, d, _, e2, _⟩ | ⟨e1, _⟩ | ⟨e1, _⟩
        · cases e2
        · rw [e1] at hm; simp [mOk] at hm
        · rw [e1] at hm; simp [mOk] at hm
  have ty := touch_GG key1
  have hag2 : agree g.looks A.t (A.do y).t := by
    intro i hi
    simp only [AS.do]
    rw [if_neg]
    intro e
    rw [ty.d] at e
    simp only [e, Bool.not_eq_true', List.contains_eq_mem, decide_eq_false_iff_not] at hd2
    exact hd2 hi
  refine ⟨key1, ?_, ?_⟩
  · refine GG_move hx hag2 fun hG => G1_move hG (fun i hi => hag2 i (by simp [GI.looks, hi])) (fun e k hk hb => ?_) (fun e hq k o ho hxs => ?_) (fun d hd hmm hcond => ?_) (fun e k o ho => ?_) (fun e k => ?_) (fun e m => ?_)
    · refine do_b (none_of fun hs => ?_)
      rw [e] at hm
      rcases ty.b k hs with ⟨e1, d, _, _, e2, _⟩ | e1 | ⟨e1, ⟨j, e2⟩, e3⟩
      · exact hb e2
      · rw [e1] at hm; simp [mOk] at hm
      · rcases hk with hk | ⟨m, hk⟩
        · rw [hk] at e3; cases e3
        · rw [hk] at e2; cases e2
    · rw [do_e (none_of fun hs => ?_)]
      · exact ho
      · rcases ty.e k hs with ⟨e1, d, _, _, _, e2⟩ | ⟨e1, e2⟩ | ⟨e1, _, e3⟩
        · rw [e2] at ho; cases ho
        · exact hxs (ty.ex e1 k o hs ho)
        · rw [hq] at e3; cases e3
    · refine ⟨⟨hcond.1, fun er => ?_⟩, ?_, ?_⟩
      · rcases ty.r _ er with ⟨d', e1, e2⟩ | ⟨_, ⟨j, e2⟩, _⟩
        · simp only [Key.loc.injEq] at e2
          exact hne d d' hd e1 (by omega)
        · cases e2
      · rw [do_b (none_of fun hs => ?_)]
        · exact hcond.2.1
        · rcases ty.b _ hs with ⟨e1, d', e2, e3, _⟩ | e1 | ⟨e1, ⟨j, e2⟩, _⟩
          · simp only [Key.loc.injEq] at e3
            exact hne d d' hd e2 (by omega)
          · rcases hmm with e2 | e2 | e2 <;> (rw [e1, e2] at hm; simp [mOk] at hm)
          · cases e2
      · rw [do_e (none_of fun hs => ?_)]
        · exact hcond.2.2
        · rcases ty.e _ hs with ⟨e1, d', e2, e3, _⟩ | ⟨e1, e2⟩ | ⟨e1, ⟨j, e2⟩, _⟩
          · simp only [Key.loc.injEq] at e3
            exact hne d d' hd e2 (by omega)
          · rcases e2 with e2 | ⟨d', e2, e3, _⟩
            · exact e2 hcond.2.2
            · simp only [Key.loc.injEq] at e3
              exact hne d d' hd e2 (by omega)
          · cases e2
    · rw [do_e (none_of fun hs => ?_)]
      · exact ho
      · rw [e] at hm
        rcases ty.e k hs with ⟨e1, d, _, _, _, e2⟩ | ⟨e1, _⟩ | ⟨e1, _⟩
        · rw [e2] at ho; cases ho
        · rw [e1] at hm; simp [mOk] at hm
        · rw [e1] at hm; simp [mOk] at hm
    · refine do_b (none_of fun hs => ?_)
      rw [e] at hm
      rcases ty.b k hs with ⟨e1, _⟩ | e1 | ⟨e1, _⟩ <;> (rw [e1] at hm; simp [mOk] at hm)
    · rw [e] at hm
      refine ⟨?_, ?_, fun hF => ⟨hF, fun er => ?_⟩⟩
      rotate_left 2
      · rcases ty.r _ er with ⟨d', _, e2⟩ | ⟨e2, _⟩
        · cases e2
        · rw [e2] at hm; simp [mOk] at hm
      · refine do_b (none_of fun hs => ?_)
        rcases ty.b _ hs with ⟨e1, d, _, e2, _⟩ | e1 | ⟨e1, _⟩
        · cases e2
        · rw [e1] at hm; simp [mOk] at hm
        · rw [e1] at hm; simp [mOk] at hm
      · refine do_e (none_of fun hs => ?_)
        rcases ty.e _ hs with ⟨e1, d, _, e2, _⟩ | ⟨e1, _⟩ | ⟨e1, _⟩
        · cases e2
        · rw [e1] at hm; simp [mOk] at hm
        · rw [e1] at hm; simp [mOk] at hm
  · refine ⟨fun i hi e => ?_, fun k hk => none_of fun hs => ?_, fun k hk => none_of fun hs => ?_⟩
    · rw [tx.d] at hi
      rw [ty.d] at e
      exact hne i i hi e rfl
    · rcases hlb k hk with ⟨a1, d, a2, a3, _⟩ | a1 | ⟨a1, ⟨j, a2⟩, _⟩ <;> rcases ty.b k hs with ⟨b1, d', b2, b3, _⟩ | b1 | ⟨b1, ⟨j', b2⟩, _⟩
      · rw [a3] at b3; simp only [Key.loc.injEq] at b3; exact hne d d' a2 b2 (by omega)
      · rw [a1, b1] at hm; simp [mOk] at hm
      · rw [a3] at b2; cases b2
      · rw [a1, b1] at hm; simp [mOk] at hm
      · rw [a1, b1] at hm; simp [mOk] at hm
      · rw [a1, b1] at hm; simp [mOk] at hm
      · rw [a2] at b3; cases b3
      · rw [a1, b1] at hm; simp [mOk] at hm
      · rw [a1, b1] at hm; simp [mOk] at hm
    · rcases hle k hk with ⟨a1, d, a2, a3, _⟩ | ⟨a1, a2⟩ | ⟨a1, ⟨j, a2⟩, _⟩ <;> rcases ty.e k hs with ⟨b1, d', b2, b3, _, b4⟩ | ⟨b1, b2⟩ | ⟨b1, ⟨j', b2⟩, _⟩
      · rw [a3] at b3; simp only [Key.loc.injEq] at b3; exact hne d d' a2 b2 (by omega)
      · rw [a1, b1] at hm; simp [mOk] at hm
      · rw [a3] at b2; cases b2
      · rcases a2 with a2 | ⟨d, a2, a3, _⟩
        · exact a2 b4
        · rw [a3] at b3; simp only [Key.loc.injEq] at b3; exact hne d d' a2 b2 (by omega)
      · rw [a1, b1] at hm; simp [mOk] at hm
      · rw [a1, b1] at hm; simp [mOk] at hm
      · rw [a2] at b3; cases b3
      · rw [a1, b1] at hm; simp [mOk] at hm
      · rw [a1, b1] at hm; simp [mOk] at hm

end Go.Pv
