/- sort.Slice as sortBindings calls it. -/
import Derived.Test.YtchidkafcdmciaaGreatPlain
import Derived.Shelf.SlSortFuncK.WholeK
import Derived.Shelf.GgSortFunc.Tiny
import Derived.Deep.QuietTactic
import Derived.Ground.GgsProg
import Derived.Lib.OwnBridge
set_option linter.all false
namespace Go.Proofs
open Go.Shelf Go.RowKit Go.Lib Go.Sort

noncomputable def Tryz.svT : TypeInfo := (Tryz.prog.info? 31).get (by kernel_rfl)
noncomputable def Tryz.svE : TypeInfo := (Tryz.prog.info? 30).get (by kernel_rfl)
theorem Tryz.svK (n : Nat) (h2 : 2 ≤ n) : Lib.swapperK n Tryz.svE 25 = 9 := by
  have a : Tryz.svE.hasPointers = true := by kernel_rfl
  have b : Tryz.svE.bytes = 64 := by kernel_rfl
  have c : (n == 0) = false := by simp; omega
  have d : (n == 1) = false := by simp; omega
  simp [Lib.swapperK, a, b, c, d]

set_option maxHeartbeats 2000000 in
theorem Tryz.less (blk off c Bs size : Nat) (W : World) (G : Nat → Int) (hs : W.cell? ⟨Bs, 0, none⟩ = some (.slice (some ⟨blk, off, none⟩) size c))
    (hc : ∀ t, t < size → W.cell? ⟨blk, off + t * 5, none⟩ = some (.int .i64 (G t))) (i j : Nat) (hi : i < size) (hj : j < size) (_hsz : size < 4611686018427387904) :
    Calls Tryz.prog 118 #[.int .i64 i, .int .i64 j, .pointer (some ⟨Bs, 0, none⟩)] W fun e w' => e = .returned (.bool (decide (G i < G j))) ∧ ∃ q, w' = W.drewN q := by
  have ci := hc i hi
  have cj := hc j hj
  go_enter Tryz.func118, Tryz.ntmps118
  go_wp2
  go_quiet (fail)
  go_wp2
  go_ret
  exact ⟨rfl, nq, rfl⟩

/-- Five cells, the first an integer. -/
def Q4 : Type := { x : List Value // x.length = 4 ∧ ∀ v ∈ x, v.oneCell' = true }
instance : Inhabited Q4 := ⟨⟨[.int .i64 0, .int .i64 0, .int .i64 0, .int .i64 0], rfl, by intro v hv; simp at hv; subst hv; rfl⟩⟩
def Q5 : Type := Int × Q4
instance : Inhabited Q5 := ⟨(0, default)⟩
def Q5.enc (x : Q5) : List Value := .int .i64 x.1 :: x.2.1
def Q5.lt (a b : Q5) : Bool := decide (a.1 < b.1)
theorem Q5.swo : SWO Q5.lt where
  irrefl := fun x => by simp [Q5.lt]
  trans := fun x y z h1 h2 => by simp [Q5.lt] at *; omega
  ntrans := fun x y z h1 h2 => by simp [Q5.lt] at *; omega

theorem Tryz.sort_Slice_bindings (blk off c Bs : Nat) (d : Array Q5) (h2 : 2 ≤ d.size) (hsz : d.size < 4611686018427387904) (w : World) (hH : HoldsK Q5.enc 5 w blk off d) (hblk : blk < w.heap.size)
    (hBs : w.cell? ⟨Bs, 0, none⟩ = some (.slice (some ⟨blk, off, none⟩) d.size c)) (hB1 : Bs < w.heap.size) (hB2 : Bs ≠ blk) :
    Calls Tryz.prog 117 #[.iface 31 (.slice (some ⟨blk, off, none⟩) d.size c), .func (.func 118) #[] #[.pointer (some ⟨Bs, 0, none⟩)]] w fun e w' =>
      e = .returned (.tuple #[]) ∧ ∃ d' n os, PermIn 0 d.size d d' ∧ SortedIn Q5.lt 0 d.size d' ∧ w' = grow (putRowK Q5.enc 5 (Sort.ahead w n) blk off d') os := by
  have hless : LessReadsK Tryz.prog 118 #[.pointer (some ⟨Bs, 0, none⟩)] Q5.enc 5 Q5.lt blk off d.size w := by
    intro m os dk hs i j hi hj
    have e : sortWorldK Q5.enc 5 w blk off m dk os = putRowK Q5.enc 5 (grow (Sort.ahead w m) os) blk off dk := by
      unfold sortWorldK; rw [putRowK_grow _ _ (Sort.ahead w m) _ blk off _ hblk]
    have hHg : HoldsK Q5.enc 5 (grow (Sort.ahead w m) os) blk off d := holdsK_grow _ _ _ _ blk off d hblk (holdsK_ahead _ _ _ _ _ _ _ hH)
    refine Tryz.less blk off c Bs d.size _ (fun t => dk[t]!.1) ?_ (fun t ht => ?_) i j hi hj (by omega)
    · rw [e, cell?_putRowK_other _ _ _ blk off dk _ (by exact hB2), cell?_grow _ _ _ (by exact hB1)]; exact hBs
    · rw [e]; exact ((holdsK_putRowK _ _ _ blk off d dk hHg hs).cell (i := t) (c := 0) (by omega) (by omega)).1
  exact Any.sort_Slice_cells_sorted Tryz.lays6 31 30 Tryz.svT Tryz.svE (by kernel_rfl) (by kernel_rfl) (by kernel_rfl) (by kernel_rfl) 25 (fun _ => by kernel_rfl) Q5.enc 5 (fun x => by simp [Q5.enc, x.2.2.1]) (by kernel_rfl) (fun _ => by kernel_rfl)
    (fun x v hv => by
      simp only [Q5.enc, List.mem_cons] at hv
      rcases hv with rfl | hv
      · rfl
      · exact x.2.2.2 v hv) Q5.lt Q5.swo 118 _
    (enters_of Tryz.func118 (by kernel_rfl) rfl) blk off c d h2 hsz 180 (by rw [Tryz.svK _ h2]; kernel_rfl) false
    (fun args W => run_callFunc_extern Tryz.func180 (by kernel_rfl) (by kernel_rfl) (by kernel_rfl) (e := Extern.ReflectliteSwapper.swap false) (by kernel_rfl) args W) w hless hH hblk
theorem Tryz.sort_Slice_few (p : Option Addr) (n c : Nat) (h1 : n ≤ 1) (lf : Fn) (la lb : Array Value) (w : World) :
    Calls Tryz.prog 117 #[.iface 31 (.slice p n c), .func lf la lb] w fun e w' => e = .returned (.tuple #[]) ∧ ∃ os, w' = grow w os := by
  rcases (by omega : n = 0 ∨ n = 1) with rfl | rfl
  · exact Any.sort_Slice_tiny Tryz.lays6 31 30 Tryz.svT Tryz.svE (by kernel_rfl) (by kernel_rfl) (by kernel_rfl) (by kernel_rfl) 25 (fun _ => by kernel_rfl) p 0 c h1 172 (by kernel_rfl) lf la lb w
  · exact Any.sort_Slice_tiny Tryz.lays6 31 30 Tryz.svT Tryz.svE (by kernel_rfl) (by kernel_rfl) (by kernel_rfl) (by kernel_rfl) 25 (fun _ => by kernel_rfl) p 1 c h1 173 (by kernel_rfl) lf la lb w
end Go.Proofs
