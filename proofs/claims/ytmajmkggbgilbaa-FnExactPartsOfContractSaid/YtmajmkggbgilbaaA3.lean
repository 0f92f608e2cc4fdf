/-
  Contracts of the functions that make relations out of relations: reading two, turning, images.
-/
import Derived.Test.YtmajmkggbgilbaaA2
import Derived.Test.YtmajmkggbgilbaaT
import Derived.Deep.QuietTactic
import Derived.BigQuiet
namespace Go.Proofs.Ytmajmkggbgilbaa
open Go.RowKit Go.DC
set_option maxHeartbeats 400000
set_option linter.unusedVariables false
set_option linter.unusedSimpArgs false

theorem rel_text (x : Nat → Int) (hx : Dg 4 x) (w : World) :
    Calls Try.prog 24 #[.agg (cellsF 4 x)] w fun e w' => e = .returned (.string (txt 4 x)) ∧ Below w.heap.size w w' := by
  have hr := Row.new w 4 x 31 rfl
  go_enter Try.func24, Try.ntmps24
  go_wp2_with (refine ld rel4 _ rfl rfl _ rfl (f := ?_) ?_ ?_; rotate_left; first | (with_reducible assumption) | (with_reducible exact Row.new4 _ _ rfl) | (with_reducible exact Row.new16 _ _ rfl) | ((with_reducible refine Row.set ?_ _ _); (with_reducible assumption)) | ((with_reducible refine Row.other ?_ ?_ _); (with_reducible assumption); (focus first | (simp; done) | (simp; omega))) | ((with_reducible refine Row.alloc ?_ _); (with_reducible assumption)) | ((with_reducible refine Row.drew ?_); (with_reducible assumption)))
  go_loopg [3, 7] 4 (fun gk o i wr => ∃ n : Nat, n ≤ 4 ∧ gk = 4 - n ∧ i = .int .i64 n ∧ o = .string (txt n x) ∧ w.alloc (.cells (cellsF 4 x) 31) = wr)
  case atStart => exact ⟨0, by omega, rfl, rfl, rfl, rfl⟩
  case round =>
    obtain ⟨n, hn, rfl, rfl, rfl, rfl⟩ := hrel
    by_cases hlt : n < 4
    · have hix := idx4 x hlt
      obtain ⟨hx0, hx1⟩ := hx n (by omega)
      have hadd : ∀ w, (Op.stringOp .add (txt n x) (dgt (x n))).run Try.prog w = .ok (.string (txt (n + 1) x)) w := fun w => by
        rw [run_string_add_sum w _ _ (by rw [txt_size]; show n + 1 ≤ _; omega), txt_succ]
      go_wp2_with (go_at_call 34; refine (impl_digit _ _ (by assumption) (by assumption)).mono ?_; rintro e w' ⟨rfl, rfl⟩)
      go_roundg (4 - (n + 1))
      case rel => exact ⟨n + 1, by omega, rfl, by go_num, rfl, rfl⟩
      case measure => omega
    · obtain rfl : n = 4 := by omega
      go_wp2_with fail
      go_ret
      exact ⟨rfl, (Below.refl _ _).alloc (Nat.le_refl _) _⟩
end Go.Proofs.Ytmajmkggbgilbaa
