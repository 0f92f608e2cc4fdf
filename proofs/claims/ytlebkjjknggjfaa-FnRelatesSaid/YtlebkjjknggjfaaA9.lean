/-
  Contracts of the functions that make transformers.
-/
import Derived.Test.YtlebkjjknggjfaaA4
import Derived.Test.YtlebkjjknggjfaaA7
namespace Go.Proofs.Ytlebkjjknggjfaa
open Go.RowKit Go.DC
set_option maxHeartbeats 1000000
set_option linter.unusedVariables false
set_option linter.unusedSimpArgs false

theorem rel_box1 (b1 b2 : Nat) (x : Nat → Int) (p : Int) (s : Nat) (hs : s < 4) (w : World) (h1 : Row w b1 4 x) (h2 : Row w b2 1 fun _ => p) :
    Calls Try.prog 96 #[.int .i64 s, .pointer (some ⟨b1, 0, none⟩), .pointer (some ⟨b2, 0, none⟩)] w fun e w' => e = .returned (.bool (bandn (x s) p == 0)) ∧ Below w.heap.size w w' := by
  have hc1 := h1.cell hs
  have hc2 := h2.cell (i := 0) (by omega)
  go_enter Try.func96, Try.ntmps96
  go_wp2_with fail
  go_quiet (fail)
  go_wp2_with fail
  go_ret
  exact ⟨rfl, below_drewN (Below.refl _ _) _⟩
theorem rel_box (x : Nat → Int) (p : Int) (w : World) :
    Calls Try.prog 63 #[.agg (cellsF 4 x), .int .i64 p] w fun e w' => e = .returned (.int .i64 (boxR x p)) ∧ Below w.heap.size w w' := by
  have h1 : Row ((w.alloc (.cells (cellsF 4 x) 50)).alloc (.cells #[.int .i64 p] 3)) w.heap.size 4 x := (Row.new w 4 x _ rfl).alloc _
  have h2 : Row ((w.alloc (.cells (cellsF 4 x) 50)).alloc (.cells #[.int .i64 p] 3)) (w.heap.size + 1) 1 fun _ => p := Row.new _ 1 (fun _ => p) _ (by simp)
  have hf := impl_states 96 #[.pointer (some ⟨w.heap.size, 0, none⟩), .pointer (some ⟨w.heap.size + 1, 0, none⟩)] (fun s => bandn (x s) p == 0) ((w.alloc (.cells (cellsF 4 x) 50)).alloc (.cells #[.int .i64 p] 3)) Try.call96
    (fun s w1 hs hb => rel_box1 _ _ x p s hs w1 (h1.below hb h1.lt) (h2.below hb h2.lt))
  have Hf := Lib.hid hf
  clear hf h1 h2
  go_enter Try.func63, Try.ntmps63
  go_wp2_with (go_at_call 94; refine Hf.out.mono ?_; rintro e w' ⟨rfl, hb⟩)
  go_ret
  exact ⟨rfl, bgo (ba2 w _ _) hb⟩
end Go.Proofs.Ytlebkjjknggjfaa
