/-
  Contracts of the reference's functions on relations, exported.
-/
import Derived.Test.YtlebkjjknggjfaaB1
import Derived.Test.YtlebkjjknggjfaaT
namespace Go.Proofs.Ytlebkjjknggjfaa
open Go.RowKit Go.DC
set_option maxHeartbeats 400000
set_option linter.unusedVariables false
set_option linter.unusedSimpArgs false

theorem spec_AndRel (r q : ByteArray) (w : World) (hr : r.size ≤ maxLen) (hq : q.size ≤ maxLen) :
    Calls Try.prog 40 #[.string r, .string q] w fun e w' => e = .returned (.tuple #[.string (orNo (dvB 4 r && dvB 4 q) (txt 4 (fun s => band (dg r s) (dg q s)))), .bool (dvB 4 r && dvB 4 q)]) ∧ w = w' := by
  cases hv : (dvB 4 r && dvB 4 q)
  case false =>
    go_enter Try.func40, Try.ntmps40
    go_wp2_with (go_at_call 65; refine (spec_l2Two _ _ _ hr hq).mono ?_; rintro e w' ⟨rfl, rfl⟩)
    go_ret2
    exact ⟨rfl, rfl⟩
  case true =>
    obtain ⟨ha, hb⟩ := Bool.and_eq_true_iff.1 hv
    have hz := (dvB_iff.1 ha).1
    have hz : 4 ≤ r.size := by omega
    have hz2 := (dvB_iff.1 hb).1
    have hz2 : 4 ≤ q.size := by omega
    have hd := dvB_Dg ha
    have hd2 := dvB_Dg hb
    clear ha hb
    rw [orNo_true]
    go_enter Try.func40, Try.ntmps40
    go_wp2_with (go_at_call 65; refine (spec_l2Two _ _ _ hr hq).mono ?_; rintro e w' ⟨rfl, rfl⟩)
    clear hv
    go_loopg [6, 7] 4 (fun gk o i wr => ∃ n : Nat, n ≤ 4 ∧ gk = 4 - n ∧ i = .int .i64 n ∧ o = .string (txt n (fun s => band (dg r s) (dg q s))) ∧ w = wr)
    case atStart => exact ⟨0, by omega, rfl, rfl, rfl, rfl⟩
    case round =>
      obtain ⟨n, hn, rfl, rfl, rfl, rfl⟩ := hrel
      by_cases hlt : n < 4
      · have hadd : ∀ w, (Op.stringOp .add (txt n (fun s => band (dg r s) (dg q s))) (dgt (bits BinOp.and IntKind.i64 (dg r n) (dg q n)))).run Try.prog w = .ok (.string (txt (n + 1) (fun s => band (dg r s) (dg q s)))) w := fun w => by
          rw [run_string_add_sum w _ _ (by rw [txt_size]; show n + 1 ≤ _; omega)]
          exact congrArg (fun x => Result.ok (Value.string x) w) (txt_succ n (fun s => band (dg r s) (dg q s)))
        obtain ⟨h0, h1⟩ := hd n hlt
        obtain ⟨h2, h3⟩ := hd2 n hlt
        have hg : 0 ≤ bits BinOp.and IntKind.i64 (dg r n) (dg q n) ∧ bits BinOp.and IntKind.i64 (dg r n) (dg q n) ≤ 15 := band_rng h0 h1 h2 h3
        obtain ⟨hg0, hg1⟩ := hg
        go_wp2_with (first | (go_at_call 75; refine (spec_l2To _ _ _ (by omega) (by omega)).mono ?_; rintro e w' ⟨rfl, rfl⟩) | (go_at_call 56; refine (spec_l2Digit _ _ (by first | assumption | omega) (by first | assumption | omega)).mono ?_; rintro e w' ⟨rfl, rfl⟩))
        go_roundg (4 - (n + 1))
        case rel => exact ⟨n + 1, by omega, rfl, by go_num, rfl, rfl⟩
        case measure => omega
      · obtain rfl : n = 4 := by omega
        go_wp2_with fail
        go_ret2
        exact ⟨rfl, rfl⟩
theorem spec_OrRel (r q : ByteArray) (w : World) (hr : r.size ≤ maxLen) (hq : q.size ≤ maxLen) :
    Calls Try.prog 41 #[.string r, .string q] w fun e w' => e = .returned (.tuple #[.string (orNo (dvB 4 r && dvB 4 q) (txt 4 (fun s => bor (dg r s) (dg q s)))), .bool (dvB 4 r && dvB 4 q)]) ∧ w = w' := by
  cases hv : (dvB 4 r && dvB 4 q)
  case false =>
    go_enter Try.func41, Try.ntmps41
    go_wp2_with (go_at_call 65; refine (spec_l2Two _ _ _ hr hq).mono ?_; rintro e w' ⟨rfl, rfl⟩)
    go_ret2
    exact ⟨rfl, rfl⟩
  case true =>
    obtain ⟨ha, hb⟩ := Bool.and_eq_true_iff.1 hv
    have hz := (dvB_iff.1 ha).1
    have hz : 4 ≤ r.size := by omega
    have hz2 := (dvB_iff.1 hb).1
    have hz2 : 4 ≤ q.size := by omega
    have hd := dvB_Dg ha
    have hd2 := dvB_Dg hb
    clear ha hb
    rw [orNo_true]
    go_enter Try.func41, Try.ntmps41
    go_wp2_with (first | (go_at_call 65; refine (spec_l2Two _ _ _ hr hq).mono ?_; rintro e w' ⟨rfl, rfl⟩) | (go_at_call 80; refine (spec_l2Or _ _ _ hz hd hz2 hd2).mono ?_; rintro e w' ⟨rfl, rfl⟩))
    go_ret2
    exact ⟨rfl, rfl⟩
theorem spec_ComposeRel (r q : ByteArray) (w : World) (hr : r.size ≤ maxLen) (hq : q.size ≤ maxLen) :
    Calls Try.prog 22 #[.string r, .string q] w fun e w' => e = .returned (.tuple #[.string (orNo (dvB 4 r && dvB 4 q) (txt 4 (thenR (dg r) (dg q)))), .bool (dvB 4 r && dvB 4 q)]) ∧ w = w' := by
  cases hv : (dvB 4 r && dvB 4 q)
  case false =>
    go_enter Try.func22, Try.ntmps22
    go_wp2_with (go_at_call 65; refine (spec_l2Two _ _ _ hr hq).mono ?_; rintro e w' ⟨rfl, rfl⟩)
    go_ret2
    exact ⟨rfl, rfl⟩
  case true =>
    obtain ⟨ha, hb⟩ := Bool.and_eq_true_iff.1 hv
    have hz := (dvB_iff.1 ha).1
    have hz : 4 ≤ r.size := by omega
    have hz2 := (dvB_iff.1 hb).1
    have hz2 : 4 ≤ q.size := by omega
    have hd := dvB_Dg ha
    have hd2 := dvB_Dg hb
    clear ha hb
    rw [orNo_true]
    go_enter Try.func22, Try.ntmps22
    go_wp2_with (first | (go_at_call 65; refine (spec_l2Two _ _ _ hr hq).mono ?_; rintro e w' ⟨rfl, rfl⟩) | (go_at_call 66; refine (spec_l2Compose _ _ _ hz hd hz2 hd2).mono ?_; rintro e w' ⟨rfl, rfl⟩))
    go_ret2
    exact ⟨rfl, rfl⟩
theorem spec_ImageOf (r : ByteArray) (p : Int) (w : World) (hr : r.size ≤ maxLen) :
    Calls Try.prog 45 #[.string r, .int .i64 p] w fun e w' => e = .returned (.int .i64 (askV (dvB 4 r && cv p) (un 4 (fun u => hasb p u) (dg r)))) ∧ w = w' := by
  cases hv : (dvB 4 r && cv p)
  case false =>
    go_enter Try.func45, Try.ntmps45
    go_wp2_with (go_at_call 85; refine (spec_l2Ready _ _ _ hr).mono ?_; rintro e w' ⟨rfl, rfl⟩)
    go_ret
    exact ⟨rfl, rfl⟩
  case true =>
    obtain ⟨ha, hb⟩ := Bool.and_eq_true_iff.1 hv
    have hz := (dvB_iff.1 ha).1
    have hz : 4 ≤ r.size := by omega
    have hd := dvB_Dg ha
    obtain ⟨hp0, hp1⟩ := cv_iff.1 hb
    clear ha hb
    rw [askV_true]
    go_enter Try.func45, Try.ntmps45
    go_wp2_with (first | (go_at_call 85; refine (spec_l2Ready _ _ _ hr).mono ?_; rintro e w' ⟨rfl, rfl⟩) | (go_at_call 86; refine (spec_l2Image _ _ _ hz hp0 hp1).mono ?_; rintro e w' ⟨rfl, rfl⟩))
    go_ret
    exact ⟨rfl, rfl⟩
end Go.Proofs.Ytlebkjjknggjfaa
