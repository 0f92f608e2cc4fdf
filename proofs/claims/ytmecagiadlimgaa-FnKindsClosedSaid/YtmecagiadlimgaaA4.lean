/-
  Contracts of the program's functions on relations.
-/
import Derived.Test.YtmecagiadlimgaaA3
import Derived.Test.YtmecagiadlimgaaT
import Derived.Deep.QuietTactic
import Derived.BigQuiet
namespace Go.Proofs.Ytmecagiadlimgaa
open Go.RowKit Go.DC
set_option maxHeartbeats 400000
set_option linter.unusedVariables false
set_option linter.unusedSimpArgs false

theorem impl_TurnRel1 (x y : Nat → Int) (hx : Dg 4 x) (w : World) :
    Calls Try.prog 118 #[.agg (cellsF 4 x), .agg (cellsF 4 y)] w fun e w' => e = .returned (.agg (cellsF 4 (turn x))) ∧ Below w.heap.size w w' := by
  have h1 := ((Row.new w 4 x 59 rfl).alloc (.cells (cellsF 4 y) 59)).alloc (.cells #[.int .i64 0, .int .i64 0, .int .i64 0, .int .i64 0] 59)
  have h2 : Row (((w.alloc (.cells (cellsF 4 x) 59)).alloc (.cells (cellsF 4 y) 59)).alloc (.cells #[.int .i64 0, .int .i64 0, .int .i64 0, .int .i64 0] 59)) (w.heap.size + 2) 4 _ := Row.new4 _ _ (by simp)
  go_enter Try.func118, Try.ntmps118
  go_wp2_with (first | (refine ld rel4 _ rfl rfl _ rfl (f := ?_) ?_ ?_; rotate_left; first | (with_reducible assumption) | (with_reducible exact Row.new4 _ _ rfl) | (with_reducible exact Row.new16 _ _ rfl) | ((with_reducible refine Row.set ?_ _ _); (with_reducible assumption)) | ((with_reducible refine Row.other ?_ ?_ _); (with_reducible assumption); (focus first | (simp; done) | (simp; omega))) | ((with_reducible refine Row.alloc ?_ _); (with_reducible assumption)) | ((with_reducible refine Row.drew ?_); (with_reducible assumption))) | (go_at_call 119; refine (rel_turned x hx _).mono ?_; rintro e w' ⟨rfl, hb⟩; have hr := h2.go hb) | (refine st rel4 _ _ rfl rfl _ rfl _ rfl (f := ?_) ?_ ?_; rotate_left; first | (with_reducible assumption) | (with_reducible exact Row.new4 _ _ rfl) | (with_reducible exact Row.new16 _ _ rfl) | ((with_reducible refine Row.set ?_ _ _); (with_reducible assumption)) | ((with_reducible refine Row.other ?_ ?_ _); (with_reducible assumption); (focus first | (simp; done) | (simp; omega))) | ((with_reducible refine Row.alloc ?_ _); (with_reducible assumption)) | ((with_reducible refine Row.drew ?_); (with_reducible assumption))))
  exact ret_row rel4 rfl _ rfl (hr.setRow _) rfl ⟨rfl, below_setRow (bgo (ba3 w _ _ _) hb) (by omega) _⟩
theorem rel_then (x y : Nat → Int) (hx : Dg 4 x) (hy : Dg 4 y) (w : World) :
    Calls Try.prog 93 #[.agg (cellsF 4 x), .agg (cellsF 4 y)] w fun e w' => e = .returned (.agg (cellsF 4 (thenR x y))) ∧ Below w.heap.size w w' := by
  have h0 : Row ((((w.alloc (.cells (cellsF 4 x) 59)).alloc (.cells (cellsF 4 y) 59)).alloc (.cells #[.int .i64 0, .int .i64 0, .int .i64 0, .int .i64 0] 59)).alloc (.cells #[.int .i64 0, .int .i64 0, .int .i64 0, .int .i64 0] 59)) w.heap.size 4 x := (((Row.new w 4 x _ rfl).alloc _).alloc _).alloc _
  have h1 : Row ((((w.alloc (.cells (cellsF 4 x) 59)).alloc (.cells (cellsF 4 y) 59)).alloc (.cells #[.int .i64 0, .int .i64 0, .int .i64 0, .int .i64 0] 59)).alloc (.cells #[.int .i64 0, .int .i64 0, .int .i64 0, .int .i64 0] 59)) (w.heap.size + 1) 4 y := ((Row.new _ 4 y _ (by simp)).alloc _).alloc _
  have h2 : Row ((((w.alloc (.cells (cellsF 4 x) 59)).alloc (.cells (cellsF 4 y) 59)).alloc (.cells #[.int .i64 0, .int .i64 0, .int .i64 0, .int .i64 0] 59)).alloc (.cells #[.int .i64 0, .int .i64 0, .int .i64 0, .int .i64 0] 59)) (w.heap.size + 2) 4 (fun _ => 0) := (Row.new4 _ _ (by simp)).alloc _
  have h3 : Row ((((w.alloc (.cells (cellsF 4 x) 59)).alloc (.cells (cellsF 4 y) 59)).alloc (.cells #[.int .i64 0, .int .i64 0, .int .i64 0, .int .i64 0] 59)).alloc (.cells #[.int .i64 0, .int .i64 0, .int .i64 0, .int .i64 0] 59)) (w.heap.size + 3) 4 (fun _ => 0) := Row.new4 _ _ (by simp)
  have H0 := Lib.hid h0
  have H1 := Lib.hid h1
  have H2 := Lib.hid h2
  have H3 := Lib.hid h3
  clear h0 h1 h2 h3
  go_enter Try.func93, Try.ntmps93
  go_wp2_with fail
  go_loopg [9] 4 (fun gk i wr => ∃ n : Nat, n ≤ 4 ∧ gk = 4 - n ∧ i = .int .i64 n ∧ Row wr w.heap.size 4 x ∧ Row wr (w.heap.size + 1) 4 y ∧ Row wr (w.heap.size + 2) 4 (fun _ => 0) ∧ Row wr (w.heap.size + 3) 4 (pre n (thenR x y)) ∧ Below w.heap.size w wr)
  case atStart => exact ⟨0, by omega, rfl, rfl, H0.out, H1.out, H2.out, H3.out.pre_zero _, ba4 _ _ _ _ _⟩
  case round =>
    obtain ⟨n, hn, rfl, rfl, h0, h1, h2, h3, hb⟩ := hrel
    clear H0 H1 H2 H3
    by_cases hlt : n < 4
    · have hd : decide ((n : Int) < 4) = true := decide_eq_true (by omega)
      go_wp2_with fail
      obtain ⟨wo, rfl⟩ : ∃ wo : World, wo = wr := ⟨_, rfl⟩
      go_loopg [12] 4 (fun gk i wr => ∃ m : Nat, m ≤ 4 ∧ gk = 4 - m ∧ i = .int .i64 m ∧ Row wr w.heap.size 4 x ∧ Row wr (w.heap.size + 1) 4 y ∧ Row wr (w.heap.size + 2) 4 (fun _ => 0) ∧ Row wr (w.heap.size + 3) 4 (upd (pre n (thenR x y)) n (un m (fun u => hasb (x n) u) y)) ∧ Below w.heap.size w wr)
      case atStart => exact ⟨0, by omega, rfl, rfl, h0, h1, h2, h3.upd_in (pre_at _ _), hb⟩
      case round =>
        clear h0 h1 h2 h3 hb
        obtain ⟨m, hm, rfl, rfl, h0, h1, h2, h3, hb⟩ := hrel
        by_cases hlt' : m < 4
        · go_wp2_with (first | (refine ld rel4 _ rfl rfl _ rfl (f := ?_) ?_ ?_; rotate_left; first | (with_reducible assumption) | (with_reducible exact Row.new4 _ _ rfl) | (with_reducible exact Row.new16 _ _ rfl) | ((with_reducible refine Row.set ?_ _ _); (with_reducible assumption)) | ((with_reducible refine Row.other ?_ ?_ _); (with_reducible assumption); (focus first | (simp; done) | (simp; omega))) | ((with_reducible refine Row.alloc ?_ _); (with_reducible assumption)) | ((with_reducible refine Row.drew ?_); (with_reducible assumption))) | (go_at_call 141; refine (rel_has x hx _ _ (by omega) (by omega) (by omega) (by omega) _).mono ?_; rintro e w' ⟨rfl, hb1⟩))
          · have h0' := h0.go hb1
            have h1' := h1.go hb1
            have h2' := h2.go hb1
            have h3' := h3.go hb1
            have hb' := bgo hb hb1
            have hc := h3'.cell hlt
            rw [upd_same] at hc
            have hc1 := h1'.cell hlt'
            have hfz := h3'.free n
            clear h0 h1 h2 h3 hb hb1
            go_region
            go_wp2_with fail
            go_roundg (4 - (m + 1))
            case rel => exact ⟨m + 1, by omega, rfl, by go_num, (h0'.other (by first | (simp; done) | (simp; omega) | omega) _).drew, (h1'.other (by first | (simp; done) | (simp; omega) | omega) _).drew, (h2'.other (by first | (simp; done) | (simp; omega) | omega) _).drew, (h3'.set n _).upd2 (un_yes (by assumption)), (hb'.setCell (by first | (simp; done) | (simp; omega) | omega) _).drew⟩
            case measure => omega
          · go_roundg (4 - (m + 1))
            case rel => exact ⟨m + 1, by omega, rfl, by go_num, h0.go hb1, h1.go hb1, h2.go hb1, by rw [← un_no (by assumption)]; exact h3.go hb1, bgo hb hb1⟩
            case measure => omega
        · obtain rfl : m = 4 := by omega
          go_wp2_with fail
          go_roundg (4 - (n + 1))
          case rel => exact ⟨n + 1, by omega, rfl, by go_num, h0, h1, h2, h3.pre_succ rfl, hb⟩
          case measure => omega
    · obtain rfl : n = 4 := by omega
      have h3' := h3.pre_all
      go_wp2_with (first | (refine ld rel4 _ rfl rfl _ rfl (f := ?_) ?_ ?_; rotate_left; first | (with_reducible assumption) | (with_reducible exact Row.new4 _ _ rfl) | (with_reducible exact Row.new16 _ _ rfl) | ((with_reducible refine Row.set ?_ _ _); (with_reducible assumption)) | ((with_reducible refine Row.other ?_ ?_ _); (with_reducible assumption); (focus first | (simp; done) | (simp; omega))) | ((with_reducible refine Row.alloc ?_ _); (with_reducible assumption)) | ((with_reducible refine Row.drew ?_); (with_reducible assumption))) | (refine st rel4 _ _ rfl rfl _ rfl _ rfl (f := ?_) ?_ ?_; rotate_left; first | (with_reducible assumption) | (with_reducible exact Row.new4 _ _ rfl) | (with_reducible exact Row.new16 _ _ rfl) | ((with_reducible refine Row.set ?_ _ _); (with_reducible assumption)) | ((with_reducible refine Row.other ?_ ?_ _); (with_reducible assumption); (focus first | (simp; done) | (simp; omega))) | ((with_reducible refine Row.alloc ?_ _); (with_reducible assumption)) | ((with_reducible refine Row.drew ?_); (with_reducible assumption))))
      exact ret_row rel4 rfl _ rfl (h2.setRow _) rfl ⟨rfl, below_setRow hb (by omega) _⟩
theorem impl_asked (k : Nat) (v : Int) (r : ByteArray) (p : Int) (w : World)
    (hf : dvB 4 r = true → cv p = true → ∀ w1, Below w.heap.size w w1 → Calls Try.prog k #[.agg (cellsF 4 (dg r)), .int .i64 p] w1 fun e w2 => e = .returned (.int .i64 v) ∧ Below w1.heap.size w1 w2)
    (hk : ∀ xs w, (callFunc k xs).run Try.prog w = .ok (.enter k xs) w) :
    Calls Try.prog 85 #[.string r, .int .i64 p, .func (.func k) #[] #[]] w fun e w' => e = .returned (.int .i64 (askV (dvB 4 r && cv p) v)) ∧ Below w.heap.size w w' := by
  have Hf := Lib.hid hf
  clear hf
  have Hr : ∃ b, dvB 4 r = b := ⟨_, rfl⟩
  have Hq : ∃ b, cv p = b := ⟨_, rfl⟩
  obtain ⟨br, hr⟩ := Hr
  obtain ⟨bq, hq⟩ := Hq
  have Hr := Lib.hid hr
  have Hq := Lib.hid hq
  rw [hr, hq]
  clear hr hq
  cases br <;> cases bq
  all_goals
    go_enter Try.func85, Try.ntmps85
    go_wp2_with fail
    refine (impl_readRel _ _).mono ?_
    rintro e w1 ⟨rfl, hb1⟩
    rw [Hr.out]
    go_wp2_with (refine st rel4 _ _ rfl rfl _ rfl _ rfl (f := ?_) ?_ ?_; rotate_left; first | (with_reducible assumption) | (with_reducible exact Row.new4 _ _ rfl) | (with_reducible exact Row.new16 _ _ rfl) | ((with_reducible refine Row.set ?_ _ _); (with_reducible assumption)) | ((with_reducible refine Row.other ?_ ?_ _); (with_reducible assumption); (focus first | (simp; done) | (simp; omega))) | ((with_reducible refine Row.alloc ?_ _); (with_reducible assumption)) | ((with_reducible refine Row.drew ?_); (with_reducible assumption)))
    try (refine (impl_ConditionValid _ _).mono ?_; rintro e w' ⟨rfl, rfl⟩; rw [Hq.out])
    have hb2 := below_setRow (bgo hb1 (ba1 w1 (.cells #[.int .i64 0, .int .i64 0, .int .i64 0, .int .i64 0] 59))) hb1.size (cellsF 4 (rdF (dvB 4 r) r))
    rw [Hr.out] at hb2
    have hx : Row ((w1.alloc (.cells #[.int .i64 0, .int .i64 0, .int .i64 0, .int .i64 0] 59)).setRow w1.heap.size (cellsF 4 (rdF (dvB 4 r) r))) w1.heap.size 4 (rdF (dvB 4 r) r) := (Row.new4 _ _ rfl).setRow _
    rw [Hr.out] at hx
    try simp only [rdF_true] at hb2 hx ⊢
    go_wp2_with (first | (refine ld rel4 _ rfl rfl _ rfl (f := ?_) ?_ ?_; rotate_left; first | (with_reducible assumption) | (with_reducible exact Row.new4 _ _ rfl) | (with_reducible exact Row.new16 _ _ rfl) | ((with_reducible refine Row.set ?_ _ _); (with_reducible assumption)) | ((with_reducible refine Row.other ?_ ?_ _); (with_reducible assumption); (focus first | (simp; done) | (simp; omega))) | ((with_reducible refine Row.alloc ?_ _); (with_reducible assumption)) | ((with_reducible refine Row.drew ?_); (with_reducible assumption))) | (with_reducible refine (Hf.out Hr.out Hq.out _ hb2).mono ?_; rintro e w' ⟨rfl, hb⟩))
    go_ret
    first
      | exact ⟨rfl, hb2⟩
      | exact ⟨rfl, bgo hb2 hb⟩
theorem impl_TurnRel (r : ByteArray) (w : World) :
    Calls Try.prog 64 #[.string r] w fun e w' => e = .returned (.tuple #[.string (orNo (dvB 4 r) (txt 4 (turn (dg r)))), .bool (dvB 4 r)]) ∧ Below w.heap.size w w' := by
  have hf := impl_two 118 (turn (dg r)) r r w (fun _ _ => ⟨mk4_ge _, mk4_le _⟩) (fun h _ w1 _ => impl_TurnRel1 (dg r) (dg r) (dvB_Dg h) w1) Try.call118
  rw [Bool.and_self] at hf
  have Hf := Lib.hid hf
  clear hf
  go_enter Try.func64, Try.ntmps64
  go_wp2_with (go_at_call 92; refine Hf.out.mono ?_; rintro e w' ⟨rfl, hb⟩)
  go_ret2
  exact ⟨rfl, hb⟩
theorem impl_ComposeRel (r q : ByteArray) (w : World) :
    Calls Try.prog 30 #[.string r, .string q] w fun e w' => e = .returned (.tuple #[.string (orNo (dvB 4 r && dvB 4 q) (txt 4 (thenR (dg r) (dg q)))), .bool (dvB 4 r && dvB 4 q)]) ∧ Below w.heap.size w w' := by
  cases hv : (dvB 4 r && dvB 4 q)
  case false =>
    have hf := impl_two 93 (fun _ => 0) r q w (Dg_zero 4) (fun h h2 w1 _ => by simp [h, h2] at hv) Try.call93
    rw [hv] at hf
    have Hf := Lib.hid hf
    clear hf hv
    go_enter Try.func30, Try.ntmps30
    go_wp2_with (go_at_call 92; refine Hf.out.mono ?_; rintro e w' ⟨rfl, hb⟩)
    go_ret2
    exact ⟨rfl, hb⟩
  case true =>
    have hd : Dg 4 (dg r) ∧ Dg 4 (dg q) := by rw [Bool.and_eq_true] at hv; exact ⟨dvB_Dg hv.1, dvB_Dg hv.2⟩
    have hf := impl_two 93 (thenR (dg r) (dg q)) r q w (thenR_Dg _ hd.2) (fun h h2 w1 _ => rel_then (dg r) (dg q) (dvB_Dg h) (dvB_Dg h2) w1) Try.call93
    rw [hv] at hf
    have Hf := Lib.hid hf
    clear hf hv hd
    go_enter Try.func30, Try.ntmps30
    go_wp2_with (go_at_call 92; refine Hf.out.mono ?_; rintro e w' ⟨rfl, hb⟩)
    go_ret2
    exact ⟨rfl, hb⟩
end Go.Proofs.Ytmecagiadlimgaa
