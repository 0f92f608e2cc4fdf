/-
  Contracts of the functions that make relations out of relations: reading two, turning, images.
-/
import Derived.Test.YtfajaikkagmkeaaA2
import Derived.Test.YtfajaikkagmkeaaT
import Derived.Deep.QuietTactic
import Derived.BigQuiet
namespace Go.Proofs.Ytfajaikkagmkeaa
open Go.RowKit Go.DC
set_option maxHeartbeats 400000
set_option linter.unusedVariables false
set_option linter.unusedSimpArgs false

theorem rel_text (x : Nat → Int) (hx : Dg 4 x) (w : World) :
    Calls Try.prog 148 #[.agg (cellsF 4 x)] w fun e w' => e = .returned (.string (txt 4 x)) ∧ Below w.heap.size w w' := by
  have hr := Row.new w 4 x 60 rfl
  go_enter Try.func148, Try.ntmps148
  go_wp2_with (refine ld rel4 _ rfl rfl _ rfl (f := ?_) ?_ ?_; rotate_left; first | (with_reducible assumption) | (with_reducible exact Row.new4 _ _ rfl) | (with_reducible exact Row.new16 _ _ rfl) | ((with_reducible refine Row.set ?_ _ _); (with_reducible assumption)) | ((with_reducible refine Row.other ?_ ?_ _); (with_reducible assumption); (focus first | (simp; done) | (simp; omega))) | ((with_reducible refine Row.alloc ?_ _); (with_reducible assumption)) | ((with_reducible refine Row.drew ?_); (with_reducible assumption)))
  go_loopg [3, 7] 4 (fun gk o i wr => ∃ n : Nat, n ≤ 4 ∧ gk = 4 - n ∧ i = .int .i64 n ∧ o = .string (txt n x) ∧ w.alloc (.cells (cellsF 4 x) 60) = wr)
  case atStart => exact ⟨0, by omega, rfl, rfl, rfl, rfl⟩
  case round =>
    obtain ⟨n, hn, rfl, rfl, rfl, rfl⟩ := hrel
    by_cases hlt : n < 4
    · have hix := idx4 x hlt
      obtain ⟨hx0, hx1⟩ := hx n (by omega)
      have hadd : ∀ w, (Op.stringOp .add (txt n x) (dgt (x n))).run Try.prog w = .ok (.string (txt (n + 1) x)) w := fun w => by
        rw [run_string_add_sum w _ _ (by rw [txt_size]; show n + 1 ≤ _; omega), txt_succ]
      go_wp2_with (go_at_call 132; refine (impl_digit _ _ (by assumption) (by assumption)).mono ?_; rintro e w' ⟨rfl, rfl⟩)
      go_roundg (4 - (n + 1))
      case rel => exact ⟨n + 1, by omega, rfl, by go_num, rfl, rfl⟩
      case measure => omega
    · obtain rfl : n = 4 := by omega
      go_wp2_with fail
      go_ret
      exact ⟨rfl, (Below.refl _ _).alloc (Nat.le_refl _) _⟩
theorem rel_diamond1 (b1 b2 : Nat) (x : Nat → Int) (p : Int) (s : Nat) (hs : s < 4) (w : World) (h1 : Row w b1 4 x) (h2 : Row w b2 1 fun _ => p) :
    Calls Try.prog 162 #[.int .i64 s, .pointer (some ⟨b1, 0, none⟩), .pointer (some ⟨b2, 0, none⟩)] w fun e w' => e = .returned (.bool (band (x s) p != 0)) ∧ Below w.heap.size w w' := by
  have hc1 := h1.cell hs
  have hc2 := h2.cell (i := 0) (by omega)
  go_enter Try.func162, Try.ntmps162
  go_wp2_with fail
  go_quiet (fail)
  go_wp2_with fail
  go_ret
  exact ⟨rfl, below_drewN (Below.refl _ _) _⟩
theorem rel_diamond (x : Nat → Int) (p : Int) (w : World) :
    Calls Try.prog 134 #[.agg (cellsF 4 x), .int .i64 p] w fun e w' => e = .returned (.int .i64 (dia x p)) ∧ Below w.heap.size w w' := by
  have h1 : Row ((w.alloc (.cells (cellsF 4 x) 60)).alloc (.cells #[.int .i64 p] 3)) w.heap.size 4 x := (Row.new w 4 x _ rfl).alloc _
  have h2 : Row ((w.alloc (.cells (cellsF 4 x) 60)).alloc (.cells #[.int .i64 p] 3)) (w.heap.size + 1) 1 fun _ => p := Row.new _ 1 (fun _ => p) _ (by simp)
  have hf := impl_states 162 #[.pointer (some ⟨w.heap.size, 0, none⟩), .pointer (some ⟨w.heap.size + 1, 0, none⟩)] (fun s => band (x s) p != 0) ((w.alloc (.cells (cellsF 4 x) 60)).alloc (.cells #[.int .i64 p] 3)) Try.call162
    (fun s w1 hs hb => rel_diamond1 _ _ x p s hs w1 (h1.below hb h1.lt) (h2.below hb h2.lt))
  have Hf := Lib.hid hf
  clear hf h1 h2
  go_enter Try.func134, Try.ntmps134
  go_wp2_with (go_at_call 161; refine Hf.out.mono ?_; rintro e w' ⟨rfl, hb⟩)
  go_ret
  exact ⟨rfl, (((Below.refl _ _).alloc (Nat.le_refl _) _).alloc (by simp) _).trans (hb.mono (by simp; omega))⟩
end Go.Proofs.Ytfajaikkagmkeaa
