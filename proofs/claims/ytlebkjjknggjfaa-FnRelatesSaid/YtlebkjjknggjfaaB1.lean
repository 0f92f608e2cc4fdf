/-
  Contracts of the reference's functions on relations.
-/
import Derived.Test.YtlebkjjknggjfaaA1
import Derived.Test.YtlebkjjknggjfaaT
namespace Go.Proofs.Ytlebkjjknggjfaa
open Go.RowKit Go.DC
set_option maxHeartbeats 400000
set_option linter.unusedVariables false
set_option linter.unusedSimpArgs false

theorem spec_RelValid (r : ByteArray) (w : World) (hs : r.size ≤ maxLen) :
    Calls Try.prog 29 #[.string r] w fun e w' => e = .returned (.bool (dvB 4 r)) ∧ w = w' := by
  have hc := fun (w : World) => spec_l2Digits r 4 w hs
  have Hc := Lib.hid hc
  clear hc
  go_enter Try.func29, Try.ntmps29
  go_wp2_with (go_at_call 76; refine (Hc.out _).mono ?_; rintro e w' ⟨rfl, rfl⟩)
  go_ret
  exact ⟨rfl, rfl⟩
theorem spec_l2Two (r q : ByteArray) (w : World) (hs : r.size ≤ maxLen) (hq : q.size ≤ maxLen) :
    Calls Try.prog 65 #[.string r, .string q] w fun e w' => e = .returned (.bool (dvB 4 r && dvB 4 q)) ∧ w = w' := by
  cases h : dvB 4 r
  all_goals
    go_enter Try.func65, Try.ntmps65
    go_wp2_with fail
    refine (spec_RelValid _ _ hs).mono ?_
    rintro e w' ⟨rfl, rfl⟩
    rw [h]
    go_wp2_with (go_at_call 29; refine (spec_RelValid _ _ hq).mono ?_; rintro e w' ⟨rfl, rfl⟩)
    go_ret
    exact ⟨by simp, rfl⟩
theorem spec_l2Ready (r : ByteArray) (p : Int) (w : World) (hs : r.size ≤ maxLen) :
    Calls Try.prog 85 #[.string r, .int .i64 p] w fun e w' => e = .returned (.bool (dvB 4 r && cv p)) ∧ w = w' := by
  cases h : dvB 4 r
  all_goals
    go_enter Try.func85, Try.ntmps85
    go_wp2_with fail
    refine (spec_RelValid _ _ hs).mono ?_
    rintro e w' ⟨rfl, rfl⟩
    rw [h]
    go_wp2_with (go_at_call 55; refine (spec_ConditionValid _ _).mono ?_; rintro e w' ⟨rfl, rfl⟩)
    go_ret
    exact ⟨by simp, rfl⟩
theorem spec_Relates (r : ByteArray) (s t : Int) (w : World) (hr : r.size ≤ maxLen) :
    Calls Try.prog 27 #[.string r, .int .i64 s, .int .i64 t] w fun e w' => e = .returned (.bool (relates r s t)) ∧ w = w' := by
  have He : relates r s t = if dvB 4 r && sv s && sv t then hasb (dg r s.toNat) t.toNat else false := rfl
  have He := Lib.hid He
  cases h : dvB 4 r
  case false =>
    go_enter Try.func27, Try.ntmps27
    go_wp2_with (first | (go_at_call 29; refine (spec_RelValid _ _ hr).mono ?_; rintro e w' ⟨rfl, rfl⟩))
    go_ret
    exact ⟨by rw [He.out, h]; rfl, rfl⟩
  case true =>
    have hd := dvB_Dg h
    have hz := (dvB_iff.1 h).1
    have Hz := Lib.hid hz
    clear hz
    cases h1 : sv s
    case false =>
      go_enter Try.func27, Try.ntmps27
      go_wp2_with (first | (go_at_call 29; refine (spec_RelValid _ _ hr).mono ?_; rintro e w' ⟨rfl, rfl⟩) | (go_at_call 73; refine (spec_l1State _ _).mono ?_; rintro e w' ⟨rfl, rfl⟩))
      go_ret
      exact ⟨by rw [He.out, h, h1]; rfl, rfl⟩
    case true =>
      cases h2 : sv t
      case false =>
        go_enter Try.func27, Try.ntmps27
        go_wp2_with (first | (go_at_call 29; refine (spec_RelValid _ _ hr).mono ?_; rintro e w' ⟨rfl, rfl⟩) | (go_at_call 73; refine (spec_l1State _ _).mono ?_; rintro e w' ⟨rfl, rfl⟩))
        go_ret
        exact ⟨by rw [He.out, h, h1, h2]; rfl, rfl⟩
      case true =>
        obtain ⟨a1, a2⟩ := sv_iff.1 h1
        obtain ⟨b1, b2⟩ := sv_iff.1 h2
        obtain ⟨c1, c2⟩ := hd s.toNat (by omega)
        go_enter Try.func27, Try.ntmps27
        go_wp2_with (first | (go_at_call 29; refine (spec_RelValid _ _ hr).mono ?_; rintro e w' ⟨rfl, rfl⟩) | (go_at_call 73; refine (spec_l1State _ _).mono ?_; rintro e w' ⟨rfl, rfl⟩) | (go_at_call 75; refine (spec_l2To _ _ _ a1 (by rw [Hz.out]; omega)).mono ?_; rintro e w' ⟨rfl, rfl⟩) | (go_at_call 74; refine (spec_l1Has _ _ _ (by omega) (by omega) (by omega) (by omega)).mono ?_; rintro e w' ⟨rfl, rfl⟩))
        go_ret
        exact ⟨by rw [He.out, h, h1, h2]; rfl, rfl⟩
theorem spec_l2Or (r q : ByteArray) (w : World) (hz : 4 ≤ r.size) (hd : Dg 4 (dg r)) (hz2 : 4 ≤ q.size) (hd2 : Dg 4 (dg q)) :
    Calls Try.prog 80 #[.string r, .string q] w fun e w' => e = .returned (.string (txt 4 (fun s => bor (dg r s) (dg q s)))) ∧ w = w' := by
  go_enter Try.func80, Try.ntmps80
  go_wp2_with fail
  go_loopg [5, 6] 4 (fun gk o i wr => ∃ n : Nat, n ≤ 4 ∧ gk = 4 - n ∧ i = .int .i64 n ∧ o = .string (txt n (fun s => bor (dg r s) (dg q s))) ∧ w = wr)
  case atStart => exact ⟨0, by omega, rfl, rfl, rfl, rfl⟩
  case round =>
    obtain ⟨n, hn, rfl, rfl, rfl, rfl⟩ := hrel
    by_cases hlt : n < 4
    · have hadd : ∀ w, (Op.stringOp .add (txt n (fun s => bor (dg r s) (dg q s))) (dgt (bits BinOp.or IntKind.i64 (dg r n) (dg q n)))).run Try.prog w = .ok (.string (txt (n + 1) (fun s => bor (dg r s) (dg q s)))) w := fun w => by
        rw [run_string_add_sum w _ _ (by rw [txt_size]; show n + 1 ≤ _; omega)]
        exact congrArg (fun x => Result.ok (Value.string x) w) (txt_succ n (fun s => bor (dg r s) (dg q s)))
      obtain ⟨h0, h1⟩ := hd n hlt
      obtain ⟨h2, h3⟩ := hd2 n hlt
      have hg : 0 ≤ bits BinOp.or IntKind.i64 (dg r n) (dg q n) ∧ bits BinOp.or IntKind.i64 (dg r n) (dg q n) ≤ 15 := bor_rng h0 h1 h2 h3
      obtain ⟨hg0, hg1⟩ := hg
      go_wp2_with (first | (go_at_call 75; refine (spec_l2To _ _ _ (by omega) (by omega)).mono ?_; rintro e w' ⟨rfl, rfl⟩) | (go_at_call 56; refine (spec_l2Digit _ _ (by first | assumption | omega) (by first | assumption | omega)).mono ?_; rintro e w' ⟨rfl, rfl⟩))
      go_roundg (4 - (n + 1))
      case rel => exact ⟨n + 1, by omega, rfl, by go_num, rfl, rfl⟩
      case measure => omega
    · obtain rfl : n = 4 := by omega
      go_wp2_with fail
      go_ret
      exact ⟨rfl, rfl⟩
theorem spec_l2Image (r : ByteArray) (p : Int) (w : World) (hz : 4 ≤ r.size) (hp0 : 0 ≤ p) (hp1 : p ≤ 15) :
    Calls Try.prog 86 #[.string r, .int .i64 p] w fun e w' => e = .returned (.int .i64 (un 4 (fun u => hasb p u) (dg r))) ∧ w = w' := by
  go_enter Try.func86, Try.ntmps86
  go_wp2_with fail
  go_loopg [5, 6] 4 (fun gk o i wr => ∃ n : Nat, n ≤ 4 ∧ gk = 4 - n ∧ i = .int .i64 n ∧ o = .int .i64 (un n (fun u => hasb p u) (dg r)) ∧ w = wr)
  case atStart => exact ⟨0, by omega, rfl, rfl, rfl, rfl⟩
  case round =>
    obtain ⟨n, hn, rfl, rfl, rfl, rfl⟩ := hrel
    by_cases hlt : n < 4
    · go_wp2_with (first | (go_at_call 74; refine (spec_l1Has _ _ _ (by omega) (by omega) (by omega) (by omega)).mono ?_; rintro e w' ⟨rfl, rfl⟩) | (go_at_call 75; refine (spec_l2To _ _ _ (by omega) (by omega)).mono ?_; rintro e w' ⟨rfl, rfl⟩))
      · go_roundg (4 - (n + 1))
        case rel => exact ⟨n + 1, by omega, rfl, by go_num, by rw [← un_yes (by assumption)], rfl⟩
        case measure => omega
      · go_roundg (4 - (n + 1))
        case rel => exact ⟨n + 1, by omega, rfl, by go_num, by rw [← un_no (by assumption)], rfl⟩
        case measure => omega
    · obtain rfl : n = 4 := by omega
      go_wp2_with fail
      go_ret
      exact ⟨rfl, rfl⟩
theorem spec_l2Diamond (r : ByteArray) (p : Int) (w : World) (hz : 4 ≤ r.size) :
    Calls Try.prog 87 #[.string r, .int .i64 p] w fun e w' => e = .returned (.int .i64 (dia (dg r) p)) ∧ w = w' := by
  go_enter Try.func87, Try.ntmps87
  go_wp2_with fail
  go_loopg [5, 6] 4 (fun gk o i wr => ∃ n : Nat, n ≤ 4 ∧ gk = 4 - n ∧ i = .int .i64 n ∧ o = .int .i64 (mk n fun s => bits BinOp.and IntKind.i64 (dg r s) p != 0) ∧ w = wr)
  case atStart => exact ⟨0, by omega, rfl, rfl, rfl, rfl⟩
  case round =>
    obtain ⟨n, hn, rfl, rfl, rfl, rfl⟩ := hrel
    by_cases hlt : n < 4
    · go_wp2_with (first | (go_at_call 75; refine (spec_l2To _ _ _ (by omega) (by omega)).mono ?_; rintro e w' ⟨rfl, rfl⟩))
      · go_roundg (4 - (n + 1))
        case rel => exact ⟨n + 1, by omega, rfl, by go_num, by rw [← mk_yes (f := fun s => bits BinOp.and IntKind.i64 (dg r s) p != 0) (by assumption) (by omega)], rfl⟩
        case measure => omega
      · go_roundg (4 - (n + 1))
        case rel => exact ⟨n + 1, by omega, rfl, by go_num, by rw [← mk_no (f := fun s => bits BinOp.and IntKind.i64 (dg r s) p != 0) (by assumption)], rfl⟩
        case measure => omega
    · obtain rfl : n = 4 := by omega
      go_wp2_with fail
      go_ret
      exact ⟨rfl, rfl⟩
theorem spec_l2Compose (r q : ByteArray) (w : World) (hz : 4 ≤ r.size) (hd : Dg 4 (dg r)) (hz2 : 4 ≤ q.size) (hd2 : Dg 4 (dg q)) :
    Calls Try.prog 66 #[.string r, .string q] w fun e w' => e = .returned (.string (txt 4 (thenR (dg r) (dg q)))) ∧ w = w' := by
  go_enter Try.func66, Try.ntmps66
  go_wp2_with fail
  go_loopg [5, 6] 4 (fun gk o i wr => ∃ n : Nat, n ≤ 4 ∧ gk = 4 - n ∧ i = .int .i64 n ∧ o = .string (txt n (thenR (dg r) (dg q))) ∧ w = wr)
  case atStart => exact ⟨0, by omega, rfl, rfl, rfl, rfl⟩
  case round =>
    obtain ⟨n, hn, rfl, rfl, rfl, rfl⟩ := hrel
    by_cases hlt : n < 4
    · have hadd : ∀ w, (Op.stringOp .add (txt n (thenR (dg r) (dg q))) (dgt (un 4 (fun u => hasb (dg r n) u) (dg q)))).run Try.prog w = .ok (.string (txt (n + 1) (thenR (dg r) (dg q)))) w := fun w => by
        rw [run_string_add_sum w _ _ (by rw [txt_size]; show n + 1 ≤ _; omega)]
        exact congrArg (fun x => Result.ok (Value.string x) w) (txt_succ n (thenR (dg r) (dg q)))
      obtain ⟨h0, h1⟩ := hd n hlt
      have hg : 0 ≤ un 4 (fun u => hasb (dg r n) u) (dg q) ∧ un 4 (fun u => hasb (dg r n) u) (dg q) ≤ 15 := un_rng hd2 4 (Nat.le_refl _)
      obtain ⟨hg0, hg1⟩ := hg
      go_wp2_with (first | (go_at_call 75; refine (spec_l2To _ _ _ (by omega) (by omega)).mono ?_; rintro e w' ⟨rfl, rfl⟩) | (go_at_call 86; refine (spec_l2Image _ _ _ hz2 h0 h1).mono ?_; rintro e w' ⟨rfl, rfl⟩) | (go_at_call 56; refine (spec_l2Digit _ _ (by first | assumption | omega) (by first | assumption | omega)).mono ?_; rintro e w' ⟨rfl, rfl⟩))
      go_roundg (4 - (n + 1))
      case rel => exact ⟨n + 1, by omega, rfl, by go_num, rfl, rfl⟩
      case measure => omega
    · obtain rfl : n = 4 := by omega
      go_wp2_with fail
      go_ret
      exact ⟨rfl, rfl⟩
end Go.Proofs.Ytlebkjjknggjfaa
