/-
  Contracts of the functions that read two transformers, compare them and lead states.
-/
import Derived.Test.YtkefgjfcojdhdaaA4
import Derived.Test.YtkefgjfcojdhdaaA7
import Derived.Test.YtkefgjfcojdhdaaA9
import Derived.Test.YtkefgjfcojdhdaaPL
namespace Go.Proofs.Ytkefgjfcojdhdaa
open Go.RowKit Go.DC
set_option maxHeartbeats 1000000
set_option linter.unusedVariables false
set_option linter.unusedSimpArgs false

theorem trans_refined (x y : Nat → Int) (w : World) :
    Calls Try.prog 67 #[.agg (cellsF 16 x), .agg (cellsF 16 y)] w fun e w' => e = .returned (.bool (refB x y)) ∧ Below w.heap.size w w' := by
  have h0 : Row ((w.alloc (.cells (cellsF 16 x) 50)).alloc (.cells (cellsF 16 y) 50)) w.heap.size 16 x := (Row.new w 16 x _ rfl).alloc _
  have h1 : Row ((w.alloc (.cells (cellsF 16 x) 50)).alloc (.cells (cellsF 16 y) 50)) (w.heap.size + 1) 16 y := Row.new _ 16 y _ (by simp)
  have H0 := Lib.hid h0
  have H1 := Lib.hid h1
  clear h0 h1
  go_enter Try.func67, Try.ntmps67
  go_wp2_with fail
  go_loopg [6] 16 (fun gk i wr => ∃ n : Nat, n ≤ 16 ∧ gk = 16 - n ∧ i = .int .i64 n ∧ (∀ k, k < n → (bits BinOp.andNot IntKind.i64 (x k) (y k) != 0) = false) ∧ Row wr w.heap.size 16 x ∧ Row wr (w.heap.size + 1) 16 y ∧ Below w.heap.size w wr)
  case atStart => exact ⟨0, by omega, rfl, rfl, fun _ h => absurd h (Nat.not_lt_zero _), H0.out, H1.out, ba2 _ _ _⟩
  case round =>
    clear H0 H1
    obtain ⟨n, hn, rfl, rfl, ho, h0, h1, hb⟩ := hrel
    have Ho := Lib.hid ho
    clear ho
    by_cases hlt : n < 16
    · have hc0 := h0.cell hlt
      have hc1 := h1.cell hlt
      cases hv : (bits BinOp.andNot IntKind.i64 (x n) (y n) != 0)
      · go_wp2_with fail
        go_quiet (fail)
        go_wp2_with fail
        go_roundg (16 - (n + 1))
        case rel => exact ⟨n + 1, by omega, rfl, by go_num, fun k hk => if e : k = n then e ▸ hv else Ho.out k (by omega), h0, h1, below_drewN hb _⟩
        case measure => omega
      · have Hf := Lib.hid (refB_bad hlt hv)
        go_wp2_with fail
        go_quiet (fail)
        go_wp2_with fail
        go_ret
        exact ⟨by rw [Hf.out]; rfl, below_drewN hb _⟩
    · obtain rfl : n = 16 := by omega
      have Hf := Lib.hid (refB_ok Ho.out)
      go_wp2_with fail
      go_ret
      exact ⟨by rw [Hf.out]; rfl, hb⟩
end Go.Proofs.Ytkefgjfcojdhdaa
