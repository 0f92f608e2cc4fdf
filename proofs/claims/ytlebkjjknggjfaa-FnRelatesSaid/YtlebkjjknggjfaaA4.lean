/-
  Contracts of the program's functions on relations.
-/
import Derived.Test.YtlebkjjknggjfaaA3
import Derived.Test.YtlebkjjknggjfaaT
import Derived.Deep.QuietTactic
import Derived.BigQuiet
namespace Go.Proofs.Ytlebkjjknggjfaa
open Go.RowKit Go.DC
set_option maxHeartbeats 400000
set_option linter.unusedVariables false
set_option linter.unusedSimpArgs false

theorem impl_AndRel11 (b1 b2 : Nat) (x y : Nat → Int) (hx : Dg 4 x) (hy : Dg 4 y) (s t : Nat) (hs : s < 4) (ht : t < 4) (w : World) (h1 : Row w b1 4 x) (h2 : Row w b2 4 y) :
    Calls Try.prog 84 #[.int .i64 s, .int .i64 t, .pointer (some ⟨b1, 0, none⟩), .pointer (some ⟨b2, 0, none⟩)] w fun e w' => e = .returned (.bool (hasb (x s) t && hasb (y s) t)) ∧ Below w.heap.size w w' := by
  have Hc : ∃ c, hasb (x s) t = c := ⟨_, rfl⟩
  obtain ⟨c, hc⟩ := Hc
  have Hc := Lib.hid hc
  clear hc
  go_enter Try.func84, Try.ntmps84
  go_wp2_with (refine ld rel4 _ rfl rfl _ rfl (f := ?_) ?_ ?_; rotate_left; first | (with_reducible assumption) | (with_reducible exact Row.new4 _ _ rfl) | (with_reducible exact Row.new16 _ _ rfl) | ((with_reducible refine Row.set ?_ _ _); (with_reducible assumption)) | ((with_reducible refine Row.other ?_ ?_ _); (with_reducible assumption); (focus first | (simp; done) | (simp; omega))) | ((with_reducible refine Row.alloc ?_ _); (with_reducible assumption)) | ((with_reducible refine Row.drew ?_); (with_reducible assumption)))
  refine (rel_has x hx _ _ (by omega) (by omega) (by omega) (by omega) _).mono ?_
  rintro e w1 ⟨rfl, hb1⟩
  have h3 := h2.go hb1
  have e1 : hasb (x ((s : Int)).toNat) ((t : Int)).toNat = c := Hc.out
  rw [e1]
  clear e1
  cases c
  all_goals
    go_wp2_with (first | (refine ld rel4 _ rfl rfl _ rfl (f := ?_) ?_ ?_; rotate_left; first | (with_reducible assumption) | (with_reducible exact Row.new4 _ _ rfl) | (with_reducible exact Row.new16 _ _ rfl) | ((with_reducible refine Row.set ?_ _ _); (with_reducible assumption)) | ((with_reducible refine Row.other ?_ ?_ _); (with_reducible assumption); (focus first | (simp; done) | (simp; omega))) | ((with_reducible refine Row.alloc ?_ _); (with_reducible assumption)) | ((with_reducible refine Row.drew ?_); (with_reducible assumption))) | (go_at_call 69; refine (rel_has y hy _ _ (by omega) (by omega) (by omega) (by omega) _).mono ?_; rintro e w' ⟨rfl, hb⟩))
    go_ret
    first
      | exact ⟨by rw [Hc.out]; rfl, bgo hb1 hb⟩
      | exact ⟨by rw [Hc.out]; rfl, hb1⟩
theorem impl_AndRel1 (x y : Nat → Int) (hx : Dg 4 x) (hy : Dg 4 y) (w : World) :
    Calls Try.prog 83 #[.agg (cellsF 4 x), .agg (cellsF 4 y)] w fun e w' => e = .returned (.agg (cellsF 4 fun s => mk 4 fun t => hasb (x s) t && hasb (y s) t)) ∧ Below w.heap.size w w' := by
  have h1 : Row (((w.alloc (.cells (cellsF 4 x) 50)).alloc (.cells (cellsF 4 y) 50)).alloc (.cells #[.int .i64 0, .int .i64 0, .int .i64 0, .int .i64 0] 50)) w.heap.size 4 x := ((Row.new w 4 x _ rfl).alloc _).alloc _
  have h1' : Row (((w.alloc (.cells (cellsF 4 x) 50)).alloc (.cells (cellsF 4 y) 50)).alloc (.cells #[.int .i64 0, .int .i64 0, .int .i64 0, .int .i64 0] 50)) (w.heap.size + 1) 4 y := (Row.new _ 4 y _ (by simp)).alloc _
  have h2 : Row (((w.alloc (.cells (cellsF 4 x) 50)).alloc (.cells (cellsF 4 y) 50)).alloc (.cells #[.int .i64 0, .int .i64 0, .int .i64 0, .int .i64 0] 50)) (w.heap.size + 2) 4 _ := Row.new4 _ _ (by simp)
  have hf := impl_makeRel 84 #[(.pointer (some ⟨w.heap.size, 0, none⟩)), (.pointer (some ⟨w.heap.size + 1, 0, none⟩))] (fun s t => hasb (x s) t && hasb (y s) t) (((w.alloc (.cells (cellsF 4 x) 50)).alloc (.cells (cellsF 4 y) 50)).alloc (.cells #[.int .i64 0, .int .i64 0, .int .i64 0, .int .i64 0] 50)) Try.call84
    (fun s t w1 hs ht hb => impl_AndRel11 _ _ x y hx hy s t hs ht w1 (h1.go hb) (h1'.go hb))
  have Hf := Lib.hid hf
  have Hr := Lib.hid h2
  clear hf h1 h1' h2
  go_enter Try.func83, Try.ntmps83
  go_wp2_with (first | (go_at_call 52; refine Hf.out.mono ?_; rintro e w' ⟨rfl, hb⟩; have hr := Hr.out.go hb) | (refine st rel4 _ _ rfl rfl _ rfl _ rfl (f := ?_) ?_ ?_; rotate_left; first | (with_reducible assumption) | (with_reducible exact Row.new4 _ _ rfl) | (with_reducible exact Row.new16 _ _ rfl) | ((with_reducible refine Row.set ?_ _ _); (with_reducible assumption)) | ((with_reducible refine Row.other ?_ ?_ _); (with_reducible assumption); (focus first | (simp; done) | (simp; omega))) | ((with_reducible refine Row.alloc ?_ _); (with_reducible assumption)) | ((with_reducible refine Row.drew ?_); (with_reducible assumption))))
  exact ret_row rel4 rfl _ rfl (hr.setRow _) rfl ⟨rfl, below_setRow (bgo (ba3 w _ _ _) hb) (by omega) _⟩
theorem impl_OrRel11 (b1 b2 : Nat) (x y : Nat → Int) (hx : Dg 4 x) (hy : Dg 4 y) (s t : Nat) (hs : s < 4) (ht : t < 4) (w : World) (h1 : Row w b1 4 x) (h2 : Row w b2 4 y) :
    Calls Try.prog 82 #[.int .i64 s, .int .i64 t, .pointer (some ⟨b1, 0, none⟩), .pointer (some ⟨b2, 0, none⟩)] w fun e w' => e = .returned (.bool (hasb (x s) t || hasb (y s) t)) ∧ Below w.heap.size w w' := by
  have Hc : ∃ c, hasb (x s) t = c := ⟨_, rfl⟩
  obtain ⟨c, hc⟩ := Hc
  have Hc := Lib.hid hc
  clear hc
  go_enter Try.func82, Try.ntmps82
  go_wp2_with (refine ld rel4 _ rfl rfl _ rfl (f := ?_) ?_ ?_; rotate_left; first | (with_reducible assumption) | (with_reducible exact Row.new4 _ _ rfl) | (with_reducible exact Row.new16 _ _ rfl) | ((with_reducible refine Row.set ?_ _ _); (with_reducible assumption)) | ((with_reducible refine Row.other ?_ ?_ _); (with_reducible assumption); (focus first | (simp; done) | (simp; omega))) | ((with_reducible refine Row.alloc ?_ _); (with_reducible assumption)) | ((with_reducible refine Row.drew ?_); (with_reducible assumption)))
  refine (rel_has x hx _ _ (by omega) (by omega) (by omega) (by omega) _).mono ?_
  rintro e w1 ⟨rfl, hb1⟩
  have h3 := h2.go hb1
  have e1 : hasb (x ((s : Int)).toNat) ((t : Int)).toNat = c := Hc.out
  rw [e1]
  clear e1
  cases c
  all_goals
    go_wp2_with (first | (refine ld rel4 _ rfl rfl _ rfl (f := ?_) ?_ ?_; rotate_left; first | (with_reducible assumption) | (with_reducible exact Row.new4 _ _ rfl) | (with_reducible exact Row.new16 _ _ rfl) | ((with_reducible refine Row.set ?_ _ _); (with_reducible assumption)) | ((with_reducible refine Row.other ?_ ?_ _); (with_reducible assumption); (focus first | (simp; done) | (simp; omega))) | ((with_reducible refine Row.alloc ?_ _); (with_reducible assumption)) | ((with_reducible refine Row.drew ?_); (with_reducible assumption))) | (go_at_call 69; refine (rel_has y hy _ _ (by omega) (by omega) (by omega) (by omega) _).mono ?_; rintro e w' ⟨rfl, hb⟩))
    go_ret
    first
      | exact ⟨by rw [Hc.out]; rfl, bgo hb1 hb⟩
      | exact ⟨by rw [Hc.out]; rfl, hb1⟩
theorem impl_OrRel1 (x y : Nat → Int) (hx : Dg 4 x) (hy : Dg 4 y) (w : World) :
    Calls Try.prog 81 #[.agg (cellsF 4 x), .agg (cellsF 4 y)] w fun e w' => e = .returned (.agg (cellsF 4 fun s => mk 4 fun t => hasb (x s) t || hasb (y s) t)) ∧ Below w.heap.size w w' := by
  have h1 : Row (((w.alloc (.cells (cellsF 4 x) 50)).alloc (.cells (cellsF 4 y) 50)).alloc (.cells #[.int .i64 0, .int .i64 0, .int .i64 0, .int .i64 0] 50)) w.heap.size 4 x := ((Row.new w 4 x _ rfl).alloc _).alloc _
  have h1' : Row (((w.alloc (.cells (cellsF 4 x) 50)).alloc (.cells (cellsF 4 y) 50)).alloc (.cells #[.int .i64 0, .int .i64 0, .int .i64 0, .int .i64 0] 50)) (w.heap.size + 1) 4 y := (Row.new _ 4 y _ (by simp)).alloc _
  have h2 : Row (((w.alloc (.cells (cellsF 4 x) 50)).alloc (.cells (cellsF 4 y) 50)).alloc (.cells #[.int .i64 0, .int .i64 0, .int .i64 0, .int .i64 0] 50)) (w.heap.size + 2) 4 _ := Row.new4 _ _ (by simp)
  have hf := impl_makeRel 82 #[(.pointer (some ⟨w.heap.size, 0, none⟩)), (.pointer (some ⟨w.heap.size + 1, 0, none⟩))] (fun s t => hasb (x s) t || hasb (y s) t) (((w.alloc (.cells (cellsF 4 x) 50)).alloc (.cells (cellsF 4 y) 50)).alloc (.cells #[.int .i64 0, .int .i64 0, .int .i64 0, .int .i64 0] 50)) Try.call82
    (fun s t w1 hs ht hb => impl_OrRel11 _ _ x y hx hy s t hs ht w1 (h1.go hb) (h1'.go hb))
  have Hf := Lib.hid hf
  have Hr := Lib.hid h2
  clear hf h1 h1' h2
  go_enter Try.func81, Try.ntmps81
  go_wp2_with (first | (go_at_call 52; refine Hf.out.mono ?_; rintro e w' ⟨rfl, hb⟩; have hr := Hr.out.go hb) | (refine st rel4 _ _ rfl rfl _ rfl _ rfl (f := ?_) ?_ ?_; rotate_left; first | (with_reducible assumption) | (with_reducible exact Row.new4 _ _ rfl) | (with_reducible exact Row.new16 _ _ rfl) | ((with_reducible refine Row.set ?_ _ _); (with_reducible assumption)) | ((with_reducible refine Row.other ?_ ?_ _); (with_reducible assumption); (focus first | (simp; done) | (simp; omega))) | ((with_reducible refine Row.alloc ?_ _); (with_reducible assumption)) | ((with_reducible refine Row.drew ?_); (with_reducible assumption))))
  exact ret_row rel4 rfl _ rfl (hr.setRow _) rfl ⟨rfl, below_setRow (bgo (ba3 w _ _ _) hb) (by omega) _⟩
theorem impl_TurnRel1 (x y : Nat → Int) (hx : Dg 4 x) (w : World) :
    Calls Try.prog 71 #[.agg (cellsF 4 x), .agg (cellsF 4 y)] w fun e w' => e = .returned (.agg (cellsF 4 (turn x))) ∧ Below w.heap.size w w' := by
  have h1 := ((Row.new w 4 x 50 rfl).alloc (.cells (cellsF 4 y) 50)).alloc (.cells #[.int .i64 0, .int .i64 0, .int .i64 0, .int .i64 0] 50)
  have h2 : Row (((w.alloc (.cells (cellsF 4 x) 50)).alloc (.cells (cellsF 4 y) 50)).alloc (.cells #[.int .i64 0, .int .i64 0, .int .i64 0, .int .i64 0] 50)) (w.heap.size + 2) 4 _ := Row.new4 _ _ (by simp)
  go_enter Try.func71, Try.ntmps71
  go_wp2_with (first | (refine ld rel4 _ rfl rfl _ rfl (f := ?_) ?_ ?_; rotate_left; first | (with_reducible assumption) | (with_reducible exact Row.new4 _ _ rfl) | (with_reducible exact Row.new16 _ _ rfl) | ((with_reducible refine Row.set ?_ _ _); (with_reducible assumption)) | ((with_reducible refine Row.other ?_ ?_ _); (with_reducible assumption); (focus first | (simp; done) | (simp; omega))) | ((with_reducible refine Row.alloc ?_ _); (with_reducible assumption)) | ((with_reducible refine Row.drew ?_); (with_reducible assumption))) | (go_at_call 61; refine (rel_turned x hx _).mono ?_; rintro e w' ⟨rfl, hb⟩; have hr := h2.go hb) | (refine st rel4 _ _ rfl rfl _ rfl _ rfl (f := ?_) ?_ ?_; rotate_left; first | (with_reducible assumption) | (with_reducible exact Row.new4 _ _ rfl) | (with_reducible exact Row.new16 _ _ rfl) | ((with_reducible refine Row.set ?_ _ _); (with_reducible assumption)) | ((with_reducible refine Row.other ?_ ?_ _); (with_reducible assumption); (focus first | (simp; done) | (simp; omega))) | ((with_reducible refine Row.alloc ?_ _); (with_reducible assumption)) | ((with_reducible refine Row.drew ?_); (with_reducible assumption))))
  exact ret_row rel4 rfl _ rfl (hr.setRow _) rfl ⟨rfl, below_setRow (bgo (ba3 w _ _ _) hb) (by omega) _⟩
theorem rel_then (x y : Nat → Int) (hx : Dg 4 x) (hy : Dg 4 y) (w : World) :
    Calls Try.prog 58 #[.agg (cellsF 4 x), .agg (cellsF 4 y)] w fun e w' => e = .returned (.agg (cellsF 4 (thenR x y))) ∧ Below w.heap.size w w' := by
  have h0 : Row ((((w.alloc (.cells (cellsF 4 x) 50)).alloc (.cells (cellsF 4 y) 50)).alloc (.cells #[.int .i64 0, .int .i64 0, .int .i64 0, .int .i64 0] 50)).alloc (.cells #[.int .i64 0, .int .i64 0, .int .i64 0, .int .i64 0] 50)) w.heap.size 4 x := (((Row.new w 4 x _ rfl).alloc _).alloc _).alloc _
  have h1 : Row ((((w.alloc (.cells (cellsF 4 x) 50)).alloc (.cells (cellsF 4 y) 50)).alloc (.cells #[.int .i64 0, .int .i64 0, .int .i64 0, .int .i64 0] 50)).alloc (.cells #[.int .i64 0, .int .i64 0, .int .i64 0, .int .i64 0] 50)) (w.heap.size + 1) 4 y := ((Row.new _ 4 y _ (by simp)).alloc _).alloc _
  have h2 : Row ((((w.alloc (.cells (cellsF 4 x) 50)).alloc (.cells (cellsF 4 y) 50)).alloc (.cells #[.int .i64 0, .int .i64 0, .int .i64 0, .int .i64 0] 50)).alloc (.cells #[.int .i64 0, .int .i64 0, .int .i64 0, .int .i64 0] 50)) (w.heap.size + 2) 4 (fun _ => 0) := (Row.new4 _ _ (by simp)).alloc _
  have h3 : Row ((((w.alloc (.cells (cellsF 4 x) 50)).alloc (.cells (cellsF 4 y) 50)).alloc (.cells #[.int .i64 0, .int .i64 0, .int .i64 0, .int .i64 0] 50)).alloc (.cells #[.int .i64 0, .int .i64 0, .int .i64 0, .int .i64 0] 50)) (w.heap.size + 3) 4 (fun _ => 0) := Row.new4 _ _ (by simp)
  have H0 := Lib.hid h0
  have H1 := Lib.hid h1
  have H2 := Lib.hid h2
  have H3 := Lib.hid h3
  clear h0 h1 h2 h3
  go_enter Try.func58, Try.ntmps58
  go_wp2_with fail
  go_loopg [9] 4 (fun gk i wr => ∃ n : Nat, n ≤ 4 ∧ gk = 4 - n ∧ i = .int .i64 n ∧ Row wr w.heap.size 4 x ∧ Row wr (w.heap.size + 1) 4 y ∧ Row wr (w.heap.size + 2) 4 (fun _ => 0) ∧ Row wr (w.heap.size + 3) 4 (pre n (thenR x y)) ∧ Below w.heap.size w wr)
  case atStart => exact ⟨0, by omega, rfl, rfl, H0.out, H1.out, H2.out, H3.out.pre_zero _, ba4 _ _ _ _ _⟩
  case round =>
    obtain ⟨n, hn, rfl, rfl, h0, h1, h2, h3, hb⟩ := hrel
    clear H0 H1 H2 H3
    by_cases hlt : n < 4
    · have hd : decide ((n : Int) < 4) = true := decide_eq_true (by omega)
      go_wp2_with fail
      obtain ⟨wo, rfl⟩ : ∃ wo : World, wo = wr := ⟨_, rfl⟩
      go_loopg [12] 4 (fun gk i wr => ∃ m : Nat, m ≤ 4 ∧ gk = 4 - m ∧ i = .int .i64 m ∧ Row wr w.heap.size 4 x ∧ Row wr (w.heap.size + 1) 4 y ∧ Row wr (w.heap.size + 2) 4 (fun _ => 0) ∧ Row wr (w.heap.size + 3) 4 (upd (pre n (thenR x y)) n (un m (fun u => hasb (x n) u) y)) ∧ Below w.heap.size w wr)
      case atStart => exact ⟨0, by omega, rfl, rfl, h0, h1, h2, h3.upd_in (pre_at _ _), hb⟩
      case round =>
        clear h0 h1 h2 h3 hb
        obtain ⟨m, hm, rfl, rfl, h0, h1, h2, h3, hb⟩ := hrel
        by_cases hlt' : m < 4
        · go_wp2_with (first | (refine ld rel4 _ rfl rfl _ rfl (f := ?_) ?_ ?_; rotate_left; first | (with_reducible assumption) | (with_reducible exact Row.new4 _ _ rfl) | (with_reducible exact Row.new16 _ _ rfl) | ((with_reducible refine Row.set ?_ _ _); (with_reducible assumption)) | ((with_reducible refine Row.other ?_ ?_ _); (with_reducible assumption); (focus first | (simp; done) | (simp; omega))) | ((with_reducible refine Row.alloc ?_ _); (with_reducible assumption)) | ((with_reducible refine Row.drew ?_); (with_reducible assumption))) | (go_at_call 69; refine (rel_has x hx _ _ (by omega) (by omega) (by omega) (by omega) _).mono ?_; rintro e w' ⟨rfl, hb1⟩))
          · have h0' := h0.go hb1
            have h1' := h1.go hb1
            have h2' := h2.go hb1
            have h3' := h3.go hb1
            have hb' := bgo hb hb1
            have hc := h3'.cell hlt
            rw [upd_same] at hc
            have hc1 := h1'.cell hlt'
            have hfz := h3'.free n
            clear h0 h1 h2 h3 hb hb1
            go_region
            go_wp2_with fail
            go_roundg (4 - (m + 1))
            case rel => exact ⟨m + 1, by omega, rfl, by go_num, (h0'.other (by first | (simp; done) | (simp; omega) | omega) _).drew, (h1'.other (by first | (simp; done) | (simp; omega) | omega) _).drew, (h2'.other (by first | (simp; done) | (simp; omega) | omega) _).drew, (h3'.set n _).upd2 (un_yes (by assumption)), (hb'.setCell (by first | (simp; done) | (simp; omega) | omega) _).drew⟩
            case measure => omega
          · go_roundg (4 - (m + 1))
            case rel => exact ⟨m + 1, by omega, rfl, by go_num, h0.go hb1, h1.go hb1, h2.go hb1, by rw [← un_no (by assumption)]; exact h3.go hb1, bgo hb hb1⟩
            case measure => omega
        · obtain rfl : m = 4 := by omega
          go_wp2_with fail
          go_roundg (4 - (n + 1))
          case rel => exact ⟨n + 1, by omega, rfl, by go_num, h0, h1, h2, h3.pre_succ rfl, hb⟩
          case measure => omega
    · obtain rfl : n = 4 := by omega
      have h3' := h3.pre_all
      go_wp2_with (first | (refine ld rel4 _ rfl rfl _ rfl (f := ?_) ?_ ?_; rotate_left; first | (with_reducible assumption) | (with_reducible exact Row.new4 _ _ rfl) | (with_reducible exact Row.new16 _ _ rfl) | ((with_reducible refine Row.set ?_ _ _); (with_reducible assumption)) | ((with_reducible refine Row.other ?_ ?_ _); (with_reducible assumption); (focus first | (simp; done) | (simp; omega))) | ((with_reducible refine Row.alloc ?_ _); (with_reducible assumption)) | ((with_reducible refine Row.drew ?_); (with_reducible assumption))) | (refine st rel4 _ _ rfl rfl _ rfl _ rfl (f := ?_) ?_ ?_; rotate_left; first | (with_reducible assumption) | (with_reducible exact Row.new4 _ _ rfl) | (with_reducible exact Row.new16 _ _ rfl) | ((with_reducible refine Row.set ?_ _ _); (with_reducible assumption)) | ((with_reducible refine Row.other ?_ ?_ _); (with_reducible assumption); (focus first | (simp; done) | (simp; omega))) | ((with_reducible refine Row.alloc ?_ _); (with_reducible assumption)) | ((with_reducible refine Row.drew ?_); (with_reducible assumption))))
      exact ret_row rel4 rfl _ rfl (h2.setRow _) rfl ⟨rfl, below_setRow hb (by omega) _⟩
theorem impl_ImageOf1 (x : Nat → Int) (p : Int) (hx : Dg 4 x) (w : World) :
    Calls Try.prog 60 #[.agg (cellsF 4 x), .int .i64 p] w fun e w' => e = .returned (.int .i64 (dia (turn x) p)) ∧ Below w.heap.size w w' := by
  have h1 := Row.new w 4 x 50 rfl
  go_enter Try.func60, Try.ntmps60
  go_wp2_with (first | (refine ld rel4 _ rfl rfl _ rfl (f := ?_) ?_ ?_; rotate_left; first | (with_reducible assumption) | (with_reducible exact Row.new4 _ _ rfl) | (with_reducible exact Row.new16 _ _ rfl) | ((with_reducible refine Row.set ?_ _ _); (with_reducible assumption)) | ((with_reducible refine Row.other ?_ ?_ _); (with_reducible assumption); (focus first | (simp; done) | (simp; omega))) | ((with_reducible refine Row.alloc ?_ _); (with_reducible assumption)) | ((with_reducible refine Row.drew ?_); (with_reducible assumption))) | (go_at_call 61; refine (rel_turned x hx _).mono ?_; rintro e w1 ⟨rfl, hb1⟩) | (go_at_call 62; refine (rel_diamond _ _ _).mono ?_; rintro e w' ⟨rfl, hb⟩))
  go_ret
  exact ⟨rfl, bgo (bgo (ba1 w _) hb1) hb⟩
theorem impl_asked (k : Nat) (v : Int) (r : ByteArray) (p : Int) (w : World)
    (hf : dvB 4 r = true → cv p = true → ∀ w1, Below w.heap.size w w1 → Calls Try.prog k #[.agg (cellsF 4 (dg r)), .int .i64 p] w1 fun e w2 => e = .returned (.int .i64 v) ∧ Below w1.heap.size w1 w2)
    (hk : ∀ xs w, (callFunc k xs).run Try.prog w = .ok (.enter k xs) w) :
    Calls Try.prog 59 #[.string r, .int .i64 p, .func (.func k) #[] #[]] w fun e w' => e = .returned (.int .i64 (askV (dvB 4 r && cv p) v)) ∧ Below w.heap.size w w' := by
  have Hf := Lib.hid hf
  clear hf
  have Hr : ∃ b, dvB 4 r = b := ⟨_, rfl⟩
  have Hq : ∃ b, cv p = b := ⟨_, rfl⟩
  obtain ⟨br, hr⟩ := Hr
  obtain ⟨bq, hq⟩ := Hq
  have Hr := Lib.hid hr
  have Hq := Lib.hid hq
  rw [hr, hq]
  clear hr hq
  cases br <;> cases bq
  all_goals
    go_enter Try.func59, Try.ntmps59
    go_wp2_with fail
    refine (impl_readRel _ _).mono ?_
    rintro e w1 ⟨rfl, hb1⟩
    rw [Hr.out]
    go_wp2_with (refine st rel4 _ _ rfl rfl _ rfl _ rfl (f := ?_) ?_ ?_; rotate_left; first | (with_reducible assumption) | (with_reducible exact Row.new4 _ _ rfl) | (with_reducible exact Row.new16 _ _ rfl) | ((with_reducible refine Row.set ?_ _ _); (with_reducible assumption)) | ((with_reducible refine Row.other ?_ ?_ _); (with_reducible assumption); (focus first | (simp; done) | (simp; omega))) | ((with_reducible refine Row.alloc ?_ _); (with_reducible assumption)) | ((with_reducible refine Row.drew ?_); (with_reducible assumption)))
    try (refine (impl_ConditionValid _ _).mono ?_; rintro e w' ⟨rfl, rfl⟩; rw [Hq.out])
    have hb2 := below_setRow (bgo hb1 (ba1 w1 (.cells #[.int .i64 0, .int .i64 0, .int .i64 0, .int .i64 0] 50))) hb1.size (cellsF 4 (rdF (dvB 4 r) r))
    rw [Hr.out] at hb2
    have hx : Row ((w1.alloc (.cells #[.int .i64 0, .int .i64 0, .int .i64 0, .int .i64 0] 50)).setRow w1.heap.size (cellsF 4 (rdF (dvB 4 r) r))) w1.heap.size 4 (rdF (dvB 4 r) r) := (Row.new4 _ _ rfl).setRow _
    rw [Hr.out] at hx
    try simp only [rdF_true] at hb2 hx ⊢
    go_wp2_with (first | (refine ld rel4 _ rfl rfl _ rfl (f := ?_) ?_ ?_; rotate_left; first | (with_reducible assumption) | (with_reducible exact Row.new4 _ _ rfl) | (with_reducible exact Row.new16 _ _ rfl) | ((with_reducible refine Row.set ?_ _ _); (with_reducible assumption)) | ((with_reducible refine Row.other ?_ ?_ _); (with_reducible assumption); (focus first | (simp; done) | (simp; omega))) | ((with_reducible refine Row.alloc ?_ _); (with_reducible assumption)) | ((with_reducible refine Row.drew ?_); (with_reducible assumption))) | (with_reducible refine (Hf.out Hr.out Hq.out _ hb2).mono ?_; rintro e w' ⟨rfl, hb⟩))
    go_ret
    first
      | exact ⟨rfl, hb2⟩
      | exact ⟨rfl, bgo hb2 hb⟩
theorem impl_NotRel (r : ByteArray) (w : World) :
    Calls Try.prog 30 #[.string r] w fun e w' => e = .returned (.tuple #[.string (orNo (dvB 4 r) (txt 4 (fun s => mk 4 fun t => !hasb (dg r s) t))), .bool (dvB 4 r)]) ∧ Below w.heap.size w w' := by
  have hf := impl_two 77 (fun s => mk 4 fun t => !hasb (dg r s) t) r r w (fun _ _ => ⟨mk4_ge _, mk4_le _⟩) (fun h _ w1 _ => impl_NotRel1 (dg r) (dg r) (dvB_Dg h) w1) Try.call77
  rw [Bool.and_self] at hf
  have Hf := Lib.hid hf
  clear hf
  go_enter Try.func30, Try.ntmps30
  go_wp2_with (go_at_call 57; refine Hf.out.mono ?_; rintro e w' ⟨rfl, hb⟩)
  go_ret2
  exact ⟨rfl, hb⟩
theorem impl_TurnRel (r : ByteArray) (w : World) :
    Calls Try.prog 25 #[.string r] w fun e w' => e = .returned (.tuple #[.string (orNo (dvB 4 r) (txt 4 (turn (dg r)))), .bool (dvB 4 r)]) ∧ Below w.heap.size w w' := by
  have hf := impl_two 71 (turn (dg r)) r r w (fun _ _ => ⟨mk4_ge _, mk4_le _⟩) (fun h _ w1 _ => impl_TurnRel1 (dg r) (dg r) (dvB_Dg h) w1) Try.call71
  rw [Bool.and_self] at hf
  have Hf := Lib.hid hf
  clear hf
  go_enter Try.func25, Try.ntmps25
  go_wp2_with (go_at_call 57; refine Hf.out.mono ?_; rintro e w' ⟨rfl, hb⟩)
  go_ret2
  exact ⟨rfl, hb⟩
theorem impl_AndRel (r q : ByteArray) (w : World) :
    Calls Try.prog 39 #[.string r, .string q] w fun e w' => e = .returned (.tuple #[.string (orNo (dvB 4 r && dvB 4 q) (txt 4 (fun s => mk 4 fun t => hasb (dg r s) t && hasb (dg q s) t))), .bool (dvB 4 r && dvB 4 q)]) ∧ Below w.heap.size w w' := by
  cases hv : (dvB 4 r && dvB 4 q)
  case false =>
    have hf := impl_two 83 (fun _ => 0) r q w (Dg_zero 4) (fun h h2 w1 _ => by simp [h, h2] at hv) Try.call83
    rw [hv] at hf
    have Hf := Lib.hid hf
    clear hf hv
    go_enter Try.func39, Try.ntmps39
    go_wp2_with (go_at_call 57; refine Hf.out.mono ?_; rintro e w' ⟨rfl, hb⟩)
    go_ret2
    exact ⟨rfl, hb⟩
  case true =>
    have hd : Dg 4 (dg r) ∧ Dg 4 (dg q) := by rw [Bool.and_eq_true] at hv; exact ⟨dvB_Dg hv.1, dvB_Dg hv.2⟩
    have hf := impl_two 83 (fun s => mk 4 fun t => hasb (dg r s) t && hasb (dg q s) t) r q w (fun _ _ => ⟨mk4_ge _, mk4_le _⟩) (fun h h2 w1 _ => impl_AndRel1 (dg r) (dg q) (dvB_Dg h) (dvB_Dg h2) w1) Try.call83
    rw [hv] at hf
    have Hf := Lib.hid hf
    clear hf hv hd
    go_enter Try.func39, Try.ntmps39
    go_wp2_with (go_at_call 57; refine Hf.out.mono ?_; rintro e w' ⟨rfl, hb⟩)
    go_ret2
    exact ⟨rfl, hb⟩
theorem impl_OrRel (r q : ByteArray) (w : World) :
    Calls Try.prog 36 #[.string r, .string q] w fun e w' => e = .returned (.tuple #[.string (orNo (dvB 4 r && dvB 4 q) (txt 4 (fun s => mk 4 fun t => hasb (dg r s) t || hasb (dg q s) t))), .bool (dvB 4 r && dvB 4 q)]) ∧ Below w.heap.size w w' := by
  cases hv : (dvB 4 r && dvB 4 q)
  case false =>
    have hf := impl_two 81 (fun _ => 0) r q w (Dg_zero 4) (fun h h2 w1 _ => by simp [h, h2] at hv) Try.call81
    rw [hv] at hf
    have Hf := Lib.hid hf
    clear hf hv
    go_enter Try.func36, Try.ntmps36
    go_wp2_with (go_at_call 57; refine Hf.out.mono ?_; rintro e w' ⟨rfl, hb⟩)
    go_ret2
    exact ⟨rfl, hb⟩
  case true =>
    have hd : Dg 4 (dg r) ∧ Dg 4 (dg q) := by rw [Bool.and_eq_true] at hv; exact ⟨dvB_Dg hv.1, dvB_Dg hv.2⟩
    have hf := impl_two 81 (fun s => mk 4 fun t => hasb (dg r s) t || hasb (dg q s) t) r q w (fun _ _ => ⟨mk4_ge _, mk4_le _⟩) (fun h h2 w1 _ => impl_OrRel1 (dg r) (dg q) (dvB_Dg h) (dvB_Dg h2) w1) Try.call81
    rw [hv] at hf
    have Hf := Lib.hid hf
    clear hf hv hd
    go_enter Try.func36, Try.ntmps36
    go_wp2_with (go_at_call 57; refine Hf.out.mono ?_; rintro e w' ⟨rfl, hb⟩)
    go_ret2
    exact ⟨rfl, hb⟩
theorem impl_ComposeRel (r q : ByteArray) (w : World) :
    Calls Try.prog 14 #[.string r, .string q] w fun e w' => e = .returned (.tuple #[.string (orNo (dvB 4 r && dvB 4 q) (txt 4 (thenR (dg r) (dg q)))), .bool (dvB 4 r && dvB 4 q)]) ∧ Below w.heap.size w w' := by
  cases hv : (dvB 4 r && dvB 4 q)
  case false =>
    have hf := impl_two 58 (fun _ => 0) r q w (Dg_zero 4) (fun h h2 w1 _ => by simp [h, h2] at hv) Try.call58
    rw [hv] at hf
    have Hf := Lib.hid hf
    clear hf hv
    go_enter Try.func14, Try.ntmps14
    go_wp2_with (go_at_call 57; refine Hf.out.mono ?_; rintro e w' ⟨rfl, hb⟩)
    go_ret2
    exact ⟨rfl, hb⟩
  case true =>
    have hd : Dg 4 (dg r) ∧ Dg 4 (dg q) := by rw [Bool.and_eq_true] at hv; exact ⟨dvB_Dg hv.1, dvB_Dg hv.2⟩
    have hf := impl_two 58 (thenR (dg r) (dg q)) r q w (thenR_Dg _ hd.2) (fun h h2 w1 _ => rel_then (dg r) (dg q) (dvB_Dg h) (dvB_Dg h2) w1) Try.call58
    rw [hv] at hf
    have Hf := Lib.hid hf
    clear hf hv hd
    go_enter Try.func14, Try.ntmps14
    go_wp2_with (go_at_call 57; refine Hf.out.mono ?_; rintro e w' ⟨rfl, hb⟩)
    go_ret2
    exact ⟨rfl, hb⟩
theorem impl_ImageOf (r : ByteArray) (p : Int) (w : World) :
    Calls Try.prog 16 #[.string r, .int .i64 p] w fun e w' => e = .returned (.int .i64 (askV (dvB 4 r && cv p) (dia (turn (dg r)) p))) ∧ Below w.heap.size w w' := by
  have hf := impl_asked 60 (dia (turn (dg r)) p) r p w (fun h _ w1 _ => impl_ImageOf1 (dg r) p (dvB_Dg h) w1) Try.call60
  have Hf := Lib.hid hf
  clear hf
  go_enter Try.func16, Try.ntmps16
  go_wp2_with fail
  refine Hf.out.mono ?_
  rintro e w' ⟨rfl, hb⟩
  go_wp2_with fail
  go_ret
  exact ⟨rfl, hb⟩
theorem impl_Relates (r : ByteArray) (s t : Int) (w : World) :
    Calls Try.prog 23 #[.string r, .int .i64 s, .int .i64 t] w fun e w' => e = .returned (.bool (relates r s t)) ∧ Below w.heap.size w w' := by
  have Hr : ∃ b, dvB 4 r = b := ⟨_, rfl⟩
  obtain ⟨br, hr⟩ := Hr
  have Hs : ∃ b, sv s = b := ⟨_, rfl⟩
  obtain ⟨bs, hs⟩ := Hs
  have Ht : ∃ b, sv t = b := ⟨_, rfl⟩
  obtain ⟨bt, ht⟩ := Ht
  have Hr := Lib.hid hr
  have Hs := Lib.hid hs
  have Ht := Lib.hid ht
  have He : relates r s t = if br && bs && bt then hasb (dg r s.toNat) t.toNat else false := by unfold relates; rw [hr, hs, ht]
  have He := Lib.hid He
  clear hr hs ht
  go_enter Try.func23, Try.ntmps23
  go_wp2_with fail
  refine (impl_readRel _ _).mono ?_
  rintro e w1 ⟨rfl, hb1⟩
  have hb2 := below_setRow (bgo hb1 (ba1 w1 (.cells #[.int .i64 0, .int .i64 0, .int .i64 0, .int .i64 0] 50))) hb1.size (cellsF 4 (rdF (dvB 4 r) r))
  have hx : Row ((w1.alloc (.cells #[.int .i64 0, .int .i64 0, .int .i64 0, .int .i64 0] 50)).setRow w1.heap.size (cellsF 4 (rdF (dvB 4 r) r))) w1.heap.size 4 (rdF (dvB 4 r) r) := (Row.new4 _ _ rfl).setRow _
  have e1 := Hr.out
  simp only [e1] at hb2 hx ⊢
  clear e1
  have e2 : ∀ (w : World), Calls Try.prog 68 #[.int .i64 s] w fun e w' => e = .returned (.bool bs) ∧ w = w' := fun w => by have := impl_stateOk s w; rwa [Hs.out] at this
  have e3 : ∀ (w : World), Calls Try.prog 68 #[.int .i64 t] w fun e w' => e = .returned (.bool bt) ∧ w = w' := fun w => by have := impl_stateOk t w; rwa [Ht.out] at this
  have E2 := Lib.hid e2
  have E3 := Lib.hid e3
  clear e2 e3
  cases br
  case false =>
    go_wp2_with (refine st rel4 _ _ rfl rfl _ rfl _ rfl (f := ?_) ?_ ?_; rotate_left; first | (with_reducible assumption) | (with_reducible exact Row.new4 _ _ rfl) | (with_reducible exact Row.new16 _ _ rfl) | ((with_reducible refine Row.set ?_ _ _); (with_reducible assumption)) | ((with_reducible refine Row.other ?_ ?_ _); (with_reducible assumption); (focus first | (simp; done) | (simp; omega))) | ((with_reducible refine Row.alloc ?_ _); (with_reducible assumption)) | ((with_reducible refine Row.drew ?_); (with_reducible assumption)))
    go_ret
    exact ⟨by rw [He.out]; rfl, hb2⟩
  case true =>
    cases bs
    case false =>
      go_wp2_with (first | (refine st rel4 _ _ rfl rfl _ rfl _ rfl (f := ?_) ?_ ?_; rotate_left; first | (with_reducible assumption) | (with_reducible exact Row.new4 _ _ rfl) | (with_reducible exact Row.new16 _ _ rfl) | ((with_reducible refine Row.set ?_ _ _); (with_reducible assumption)) | ((with_reducible refine Row.other ?_ ?_ _); (with_reducible assumption); (focus first | (simp; done) | (simp; omega))) | ((with_reducible refine Row.alloc ?_ _); (with_reducible assumption)) | ((with_reducible refine Row.drew ?_); (with_reducible assumption))) | (go_at_call 68; refine (E2.out _).mono ?_; rintro e w' ⟨rfl, rfl⟩))
      go_ret
      exact ⟨by rw [He.out]; rfl, hb2⟩
    case true =>
      go_wp2_with (refine st rel4 _ _ rfl rfl _ rfl _ rfl (f := ?_) ?_ ?_; rotate_left; first | (with_reducible assumption) | (with_reducible exact Row.new4 _ _ rfl) | (with_reducible exact Row.new16 _ _ rfl) | ((with_reducible refine Row.set ?_ _ _); (with_reducible assumption)) | ((with_reducible refine Row.other ?_ ?_ _); (with_reducible assumption); (focus first | (simp; done) | (simp; omega))) | ((with_reducible refine Row.alloc ?_ _); (with_reducible assumption)) | ((with_reducible refine Row.drew ?_); (with_reducible assumption)))
      refine (E2.out _).mono ?_
      rintro e w' ⟨rfl, rfl⟩
      cases bt
      case false =>
        go_wp2_with (go_at_call 68; refine (E3.out _).mono ?_; rintro e w' ⟨rfl, rfl⟩)
        go_ret
        exact ⟨by rw [He.out]; rfl, hb2⟩
      case true =>
        have h1 := sv_iff.1 Hs.out
        have h2 := sv_iff.1 Ht.out
        have hd := dvB_Dg Hr.out
        go_wp2_with (first | (go_at_call 68; refine (E3.out _).mono ?_; rintro e w' ⟨rfl, rfl⟩) | (refine ld rel4 _ rfl rfl _ rfl (f := ?_) ?_ ?_; rotate_left; first | (with_reducible assumption) | (with_reducible exact Row.new4 _ _ rfl) | (with_reducible exact Row.new16 _ _ rfl) | ((with_reducible refine Row.set ?_ _ _); (with_reducible assumption)) | ((with_reducible refine Row.other ?_ ?_ _); (with_reducible assumption); (focus first | (simp; done) | (simp; omega))) | ((with_reducible refine Row.alloc ?_ _); (with_reducible assumption)) | ((with_reducible refine Row.drew ?_); (with_reducible assumption))) | (go_at_call 69; refine (rel_has _ hd _ _ h1.1 h1.2 h2.1 h2.2 _).mono ?_; rintro e w' ⟨rfl, hb⟩))
        go_ret
        exact ⟨by rw [He.out]; rfl, bgo hb2 hb⟩
end Go.Proofs.Ytlebkjjknggjfaa
