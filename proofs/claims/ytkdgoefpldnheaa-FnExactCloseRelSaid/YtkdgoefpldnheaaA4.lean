/-
  Contracts of the program's functions on relations.
-/
import Derived.Test.YtkdgoefpldnheaaA3
import Derived.Test.YtkdgoefpldnheaaT
import Derived.Deep.QuietTactic
import Derived.BigQuiet
namespace Go.Proofs.Ytkdgoefpldnheaa
open Go.RowKit Go.DC
set_option maxHeartbeats 400000
set_option linter.unusedVariables false
set_option linter.unusedSimpArgs false

theorem rel_then (x y : Nat → Int) (hx : Dg 4 x) (hy : Dg 4 y) (w : World) :
    Calls Try.prog 36 #[.agg (cellsF 4 x), .agg (cellsF 4 y)] w fun e w' => e = .returned (.agg (cellsF 4 (thenR x y))) ∧ Below w.heap.size w w' := by
  have h0 : Row ((((w.alloc (.cells (cellsF 4 x) 37)).alloc (.cells (cellsF 4 y) 37)).alloc (.cells #[.int .i64 0, .int .i64 0, .int .i64 0, .int .i64 0] 37)).alloc (.cells #[.int .i64 0, .int .i64 0, .int .i64 0, .int .i64 0] 37)) w.heap.size 4 x := (((Row.new w 4 x _ rfl).alloc _).alloc _).alloc _
  have h1 : Row ((((w.alloc (.cells (cellsF 4 x) 37)).alloc (.cells (cellsF 4 y) 37)).alloc (.cells #[.int .i64 0, .int .i64 0, .int .i64 0, .int .i64 0] 37)).alloc (.cells #[.int .i64 0, .int .i64 0, .int .i64 0, .int .i64 0] 37)) (w.heap.size + 1) 4 y := ((Row.new _ 4 y _ (by simp)).alloc _).alloc _
  have h2 : Row ((((w.alloc (.cells (cellsF 4 x) 37)).alloc (.cells (cellsF 4 y) 37)).alloc (.cells #[.int .i64 0, .int .i64 0, .int .i64 0, .int .i64 0] 37)).alloc (.cells #[.int .i64 0, .int .i64 0, .int .i64 0, .int .i64 0] 37)) (w.heap.size + 2) 4 (fun _ => 0) := (Row.new4 _ _ (by simp)).alloc _
  have h3 : Row ((((w.alloc (.cells (cellsF 4 x) 37)).alloc (.cells (cellsF 4 y) 37)).alloc (.cells #[.int .i64 0, .int .i64 0, .int .i64 0, .int .i64 0] 37)).alloc (.cells #[.int .i64 0, .int .i64 0, .int .i64 0, .int .i64 0] 37)) (w.heap.size + 3) 4 (fun _ => 0) := Row.new4 _ _ (by simp)
  have H0 := Lib.hid h0
  have H1 := Lib.hid h1
  have H2 := Lib.hid h2
  have H3 := Lib.hid h3
  clear h0 h1 h2 h3
  go_enter Try.func36, Try.ntmps36
  go_wp2_with fail
  go_loopg [9] 4 (fun gk i wr => ∃ n : Nat, n ≤ 4 ∧ gk = 4 - n ∧ i = .int .i64 n ∧ Row wr w.heap.size 4 x ∧ Row wr (w.heap.size + 1) 4 y ∧ Row wr (w.heap.size + 2) 4 (fun _ => 0) ∧ Row wr (w.heap.size + 3) 4 (pre n (thenR x y)) ∧ Below w.heap.size w wr)
  case atStart => exact ⟨0, by omega, rfl, rfl, H0.out, H1.out, H2.out, H3.out.pre_zero _, ba4 _ _ _ _ _⟩
  case round =>
    obtain ⟨n, hn, rfl, rfl, h0, h1, h2, h3, hb⟩ := hrel
    clear H0 H1 H2 H3
    by_cases hlt : n < 4
    · have hd : decide ((n : Int) < 4) = true := decide_eq_true (by omega)
      go_wp2_with fail
      obtain ⟨wo, rfl⟩ : ∃ wo : World, wo = wr := ⟨_, rfl⟩
      go_loopg [12] 4 (fun gk i wr => ∃ m : Nat, m ≤ 4 ∧ gk = 4 - m ∧ i = .int .i64 m ∧ Row wr w.heap.size 4 x ∧ Row wr (w.heap.size + 1) 4 y ∧ Row wr (w.heap.size + 2) 4 (fun _ => 0) ∧ Row wr (w.heap.size + 3) 4 (upd (pre n (thenR x y)) n (un m (fun u => hasb (x n) u) y)) ∧ Below w.heap.size w wr)
      case atStart => exact ⟨0, by omega, rfl, rfl, h0, h1, h2, h3.upd_in (pre_at _ _), hb⟩
      case round =>
        clear h0 h1 h2 h3 hb
        obtain ⟨m, hm, rfl, rfl, h0, h1, h2, h3, hb⟩ := hrel
        by_cases hlt' : m < 4
        · go_wp2_with (first | (refine ld rel4 _ rfl rfl _ rfl (f := ?_) ?_ ?_; rotate_left; first | (with_reducible assumption) | (with_reducible exact Row.new4 _ _ rfl) | (with_reducible exact Row.new16 _ _ rfl) | ((with_reducible refine Row.set ?_ _ _); (with_reducible assumption)) | ((with_reducible refine Row.other ?_ ?_ _); (with_reducible assumption); (focus first | (simp; done) | (simp; omega))) | ((with_reducible refine Row.alloc ?_ _); (with_reducible assumption)) | ((with_reducible refine Row.drew ?_); (with_reducible assumption))) | (go_at_call 73; refine (rel_has x hx _ _ (by omega) (by omega) (by omega) (by omega) _).mono ?_; rintro e w' ⟨rfl, hb1⟩))
          · have h0' := h0.go hb1
            have h1' := h1.go hb1
            have h2' := h2.go hb1
            have h3' := h3.go hb1
            have hb' := bgo hb hb1
            have hc := h3'.cell hlt
            rw [upd_same] at hc
            have hc1 := h1'.cell hlt'
            have hfz := h3'.free n
            clear h0 h1 h2 h3 hb hb1
            go_region
            go_wp2_with fail
            go_roundg (4 - (m + 1))
            case rel => exact ⟨m + 1, by omega, rfl, by go_num, (h0'.other (by first | (simp; done) | (simp; omega) | omega) _).drew, (h1'.other (by first | (simp; done) | (simp; omega) | omega) _).drew, (h2'.other (by first | (simp; done) | (simp; omega) | omega) _).drew, (h3'.set n _).upd2 (un_yes (by assumption)), (hb'.setCell (by first | (simp; done) | (simp; omega) | omega) _).drew⟩
            case measure => omega
          · go_roundg (4 - (m + 1))
            case rel => exact ⟨m + 1, by omega, rfl, by go_num, h0.go hb1, h1.go hb1, h2.go hb1, by rw [← un_no (by assumption)]; exact h3.go hb1, bgo hb hb1⟩
            case measure => omega
        · obtain rfl : m = 4 := by omega
          go_wp2_with fail
          go_roundg (4 - (n + 1))
          case rel => exact ⟨n + 1, by omega, rfl, by go_num, h0, h1, h2, h3.pre_succ rfl, hb⟩
          case measure => omega
    · obtain rfl : n = 4 := by omega
      have h3' := h3.pre_all
      go_wp2_with (first | (refine ld rel4 _ rfl rfl _ rfl (f := ?_) ?_ ?_; rotate_left; first | (with_reducible assumption) | (with_reducible exact Row.new4 _ _ rfl) | (with_reducible exact Row.new16 _ _ rfl) | ((with_reducible refine Row.set ?_ _ _); (with_reducible assumption)) | ((with_reducible refine Row.other ?_ ?_ _); (with_reducible assumption); (focus first | (simp; done) | (simp; omega))) | ((with_reducible refine Row.alloc ?_ _); (with_reducible assumption)) | ((with_reducible refine Row.drew ?_); (with_reducible assumption))) | (refine st rel4 _ _ rfl rfl _ rfl _ rfl (f := ?_) ?_ ?_; rotate_left; first | (with_reducible assumption) | (with_reducible exact Row.new4 _ _ rfl) | (with_reducible exact Row.new16 _ _ rfl) | ((with_reducible refine Row.set ?_ _ _); (with_reducible assumption)) | ((with_reducible refine Row.other ?_ ?_ _); (with_reducible assumption); (focus first | (simp; done) | (simp; omega))) | ((with_reducible refine Row.alloc ?_ _); (with_reducible assumption)) | ((with_reducible refine Row.drew ?_); (with_reducible assumption))))
      exact ret_row rel4 rfl _ rfl (h2.setRow _) rfl ⟨rfl, below_setRow hb (by omega) _⟩
end Go.Proofs.Ytkdgoefpldnheaa
