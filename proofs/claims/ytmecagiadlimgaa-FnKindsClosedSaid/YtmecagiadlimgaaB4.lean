/-
  Contracts of the reference's functions that make transformers.
-/
import Derived.Test.YtmecagiadlimgaaB3
import Derived.Test.YtmecagiadlimgaaB2
import Derived.Test.YtmecagiadlimgaaPL
namespace Go.Proofs.Ytmecagiadlimgaa
open Go.RowKit Go.DC
set_option maxHeartbeats 1000000
set_option linter.unusedVariables false
set_option linter.unusedSimpArgs false

theorem spec_l3Then (r q : ByteArray) (w : World) (hz : 16 ≤ r.size) (hd : Dg 16 (dg r)) (hz2 : 16 ≤ q.size) (hd2 : Dg 16 (dg q)) :
    Calls Try.prog 135 #[.string r, .string q] w fun e w' => e = .returned (.string (txt 16 (thenT (dg r) (dg q)))) ∧ w = w' := by
  go_enter Try.func135, Try.ntmps135
  go_wp2_with fail
  go_loopg [5, 6] 16 (fun gk o i wr => ∃ n : Nat, n ≤ 16 ∧ gk = 16 - n ∧ i = .int .i64 n ∧ o = .string (txt n (thenT (dg r) (dg q))) ∧ w = wr)
  case atStart => exact ⟨0, by omega, rfl, rfl, rfl, rfl⟩
  case round =>
    obtain ⟨n, hn, rfl, rfl, rfl, rfl⟩ := hrel
    by_cases hlt : n < 16
    · have hadd : ∀ w, (Op.stringOp .add (txt n (thenT (dg r) (dg q))) (dgt (dg r (dg q n).toNat))).run Try.prog w = .ok (.string (txt (n + 1) (thenT (dg r) (dg q)))) w := fun w => by
        rw [run_string_add_sum w _ _ (by rw [txt_size]; show n + 1 ≤ _; omega)]
        exact congrArg (fun x => Result.ok (Value.string x) w) (txt_succ n (thenT (dg r) (dg q)))
      obtain ⟨h2, h3⟩ := hd2 n hlt
      have hg : 0 ≤ dg r (dg q n).toNat ∧ dg r (dg q n).toNat ≤ 15 := hd _ (by omega)
      obtain ⟨hg0, hg1⟩ := hg
      go_wp2_with (first | (go_at_call 101; refine (spec_l3Value _ _ _ (by omega) (by omega)).mono ?_; rintro e w' ⟨rfl, rfl⟩) | (go_at_call 124; refine (spec_l2Digit _ _ (by first | assumption | omega) (by first | assumption | omega)).mono ?_; rintro e w' ⟨rfl, rfl⟩))
      go_roundg (16 - (n + 1))
      case rel => exact ⟨n + 1, by omega, rfl, by go_num, rfl, rfl⟩
      case measure => omega
    · obtain rfl : n = 16 := by omega
      go_wp2_with fail
      go_ret
      exact ⟨rfl, rfl⟩
theorem spec_l3Join (r q : ByteArray) (w : World) (hz : 16 ≤ r.size) (hd : Dg 16 (dg r)) (hz2 : 16 ≤ q.size) (hd2 : Dg 16 (dg q)) :
    Calls Try.prog 156 #[.string r, .string q] w fun e w' => e = .returned (.string (txt 16 (joinT (dg r) (dg q)))) ∧ w = w' := by
  go_enter Try.func156, Try.ntmps156
  go_wp2_with fail
  go_loopg [5, 6] 16 (fun gk o i wr => ∃ n : Nat, n ≤ 16 ∧ gk = 16 - n ∧ i = .int .i64 n ∧ o = .string (txt n (joinT (dg r) (dg q))) ∧ w = wr)
  case atStart => exact ⟨0, by omega, rfl, rfl, rfl, rfl⟩
  case round =>
    obtain ⟨n, hn, rfl, rfl, rfl, rfl⟩ := hrel
    by_cases hlt : n < 16
    · have hadd : ∀ w, (Op.stringOp .add (txt n (joinT (dg r) (dg q))) (dgt (bits BinOp.or IntKind.i64 (dg r n) (dg q n)))).run Try.prog w = .ok (.string (txt (n + 1) (joinT (dg r) (dg q)))) w := fun w => by
        rw [run_string_add_sum w _ _ (by rw [txt_size]; show n + 1 ≤ _; omega)]
        exact congrArg (fun x => Result.ok (Value.string x) w) (txt_succ n (joinT (dg r) (dg q)))
      obtain ⟨h0, h1⟩ := hd n hlt
      obtain ⟨h2, h3⟩ := hd2 n hlt
      have hg : 0 ≤ bits BinOp.or IntKind.i64 (dg r n) (dg q n) ∧ bits BinOp.or IntKind.i64 (dg r n) (dg q n) ≤ 15 := bor_rng h0 h1 h2 h3
      obtain ⟨hg0, hg1⟩ := hg
      go_wp2_with (first | (go_at_call 101; refine (spec_l3Value _ _ _ (by omega) (by omega)).mono ?_; rintro e w' ⟨rfl, rfl⟩) | (go_at_call 124; refine (spec_l2Digit _ _ (by first | assumption | omega) (by first | assumption | omega)).mono ?_; rintro e w' ⟨rfl, rfl⟩))
      go_roundg (16 - (n + 1))
      case rel => exact ⟨n + 1, by omega, rfl, by go_num, rfl, rfl⟩
      case measure => omega
    · obtain rfl : n = 16 := by omega
      go_wp2_with fail
      go_ret
      exact ⟨rfl, rfl⟩
theorem spec_l3Assert (p : Int) (w : World) (h0 : 0 ≤ p) (h1 : p ≤ 15) :
    Calls Try.prog 136 #[.int .i64 p] w fun e w' => e = .returned (.string (txt 16 (assertT p))) ∧ w = w' := by
  go_enter Try.func136, Try.ntmps136
  go_wp2_with fail
  go_loopg [3, 4] 16 (fun gk o i wr => ∃ n : Nat, n ≤ 16 ∧ gk = 16 - n ∧ i = .int .i64 n ∧ o = .string (txt n (assertT p)) ∧ w = wr)
  case atStart => exact ⟨0, by omega, rfl, rfl, rfl, rfl⟩
  case round =>
    obtain ⟨n, hn, rfl, rfl, rfl, rfl⟩ := hrel
    by_cases hlt : n < 16
    · have hadd : ∀ w, (Op.stringOp .add (txt n (assertT p)) (dgt (bits BinOp.and IntKind.i64 p (n : Int)))).run Try.prog w = .ok (.string (txt (n + 1) (assertT p))) w := fun w => by
        rw [run_string_add_sum w _ _ (by rw [txt_size]; show n + 1 ≤ _; omega)]
        exact congrArg (fun x => Result.ok (Value.string x) w) (txt_succ n (assertT p))

      have hg : 0 ≤ bits BinOp.and IntKind.i64 p (n : Int) ∧ bits BinOp.and IntKind.i64 p (n : Int) ≤ 15 := band_rng h0 h1 (by omega) (by omega)
      obtain ⟨hg0, hg1⟩ := hg
      go_wp2_with (first | (go_at_call 124; refine (spec_l2Digit _ _ (by first | assumption | omega) (by first | assumption | omega)).mono ?_; rintro e w' ⟨rfl, rfl⟩))
      go_roundg (16 - (n + 1))
      case rel => exact ⟨n + 1, by omega, rfl, by go_num, rfl, rfl⟩
      case measure => omega
    · obtain rfl : n = 16 := by omega
      go_wp2_with fail
      go_ret
      exact ⟨rfl, rfl⟩
theorem spec_l3Angel (r : ByteArray) (w : World) (hz : 4 ≤ r.size) :
    Calls Try.prog 116 #[.string r] w fun e w' => e = .returned (.string (txt 16 (angelT (dg r)))) ∧ w = w' := by
  go_enter Try.func116, Try.ntmps116
  go_wp2_with fail
  go_loopg [3, 4] 16 (fun gk o i wr => ∃ n : Nat, n ≤ 16 ∧ gk = 16 - n ∧ i = .int .i64 n ∧ o = .string (txt n (angelT (dg r))) ∧ w = wr)
  case atStart => exact ⟨0, by omega, rfl, rfl, rfl, rfl⟩
  case round =>
    obtain ⟨n, hn, rfl, rfl, rfl, rfl⟩ := hrel
    by_cases hlt : n < 16
    · have hadd : ∀ w, (Op.stringOp .add (txt n (angelT (dg r))) (dgt (dia (dg r) (n : Int)))).run Try.prog w = .ok (.string (txt (n + 1) (angelT (dg r)))) w := fun w => by
        rw [run_string_add_sum w _ _ (by rw [txt_size]; show n + 1 ≤ _; omega)]
        exact congrArg (fun x => Result.ok (Value.string x) w) (txt_succ n (angelT (dg r)))

      have hg : 0 ≤ dia (dg r) (n : Int) ∧ dia (dg r) (n : Int) ≤ 15 := dia_rng _ _
      obtain ⟨hg0, hg1⟩ := hg
      go_wp2_with (first | (go_at_call 152; refine (spec_l2Diamond _ _ _ hz).mono ?_; rintro e w' ⟨rfl, rfl⟩) | (go_at_call 124; refine (spec_l2Digit _ _ (by first | assumption | omega) (by first | assumption | omega)).mono ?_; rintro e w' ⟨rfl, rfl⟩))
      go_roundg (16 - (n + 1))
      case rel => exact ⟨n + 1, by omega, rfl, by go_num, rfl, rfl⟩
      case measure => omega
    · obtain rfl : n = 16 := by omega
      go_wp2_with fail
      go_ret
      exact ⟨rfl, rfl⟩
theorem spec_l4Spec (p : Int) (r : ByteArray) (w : World) (h0 : 0 ≤ p) (h1 : p ≤ 15) (hz : 4 ≤ r.size) :
    Calls Try.prog 84 #[.int .i64 p, .string r] w fun e w' => e = .returned (.string (txt 16 (thenT (assertT p) (dual (angelT (dg r)))))) ∧ w = w' := by
  have hA := assertT_Dg h0 h1
  have hG := angelT_Dg (dg r) 16
  have c1 := fun w => spec_l3Dual (txt 16 (angelT (dg r))) w (by rw [txt_size]; exact Nat.le_refl _) (dg_txt_Dg hG)
  rw [dual_txt hG] at c1
  have c2 := fun w => spec_l3Then (txt 16 (assertT p)) (txt 16 (dual (angelT (dg r)))) w (by rw [txt_size]; exact Nat.le_refl _) (dg_txt_Dg hA) (by rw [txt_size]; exact Nat.le_refl _) (dg_txt_Dg (dual_Dg hG))
  rw [then_txt hA (dual_Dg hG)] at c2
  have C1 := Lib.hid c1
  have C2 := Lib.hid c2
  clear c1 c2 hA hG
  go_enter Try.func84, Try.ntmps84
  go_wp2_with (first | (go_at_call 136; refine (spec_l3Assert _ _ h0 h1).mono ?_; rintro e w' ⟨rfl, rfl⟩) | (go_at_call 116; refine (spec_l3Angel _ _ hz).mono ?_; rintro e w' ⟨rfl, rfl⟩) | (go_at_call 100; refine (C1.out _).mono ?_; rintro e w' ⟨rfl, rfl⟩) | (go_at_call 135; refine (C2.out _).mono ?_; rintro e w' ⟨rfl, rfl⟩))
  go_ret
  exact ⟨rfl, rfl⟩
theorem spec_l4Rel (r : ByteArray) (w : World) (hz : 16 ≤ r.size) (hd : Dg 16 (dg r)) :
    Calls Try.prog 113 #[.string r] w fun e w' => e = .returned (.string (txt 4 (leadsT (dg r)))) ∧ w = w' := by
  go_enter Try.func113, Try.ntmps113
  go_wp2_with fail
  go_loopg [3, 4] 4 (fun gk o i wr => ∃ n : Nat, n ≤ 4 ∧ gk = 4 - n ∧ i = .int .i64 n ∧ o = .string (txt n (leadsT (dg r))) ∧ w = wr)
  case atStart => exact ⟨0, by omega, rfl, rfl, rfl, rfl⟩
  case round =>
    obtain ⟨n, hn, rfl, rfl, rfl, rfl⟩ := hrel
    by_cases hlt : n < 4
    · have hdn : decide ((n : Int) < 4) = true := decide_eq_true (by omega)
      go_wp2_with fail
      go_loopg [5, 6] 16 (fun gk o i wr => ∃ m : Nat, m ≤ 16 ∧ gk = 16 - m ∧ i = .int .i64 m ∧ o = .int .i64 (leadTo m (dg r) n) ∧ w = wr)
      case atStart => exact ⟨0, by omega, rfl, rfl, rfl, rfl⟩
      case round =>
        obtain ⟨m, hm, rfl, rfl, rfl, rfl⟩ := hrel
        by_cases hlt' : m < 16
        · obtain ⟨h0, h1⟩ := hd m hlt'
          go_wp2_with (first | (go_at_call 101; refine (spec_l3Value _ _ _ (by omega) (by omega)).mono ?_; rintro e w' ⟨rfl, rfl⟩) | (go_at_call 123; refine (spec_l1Has _ _ _ (by omega) (by omega) (by omega) (by omega)).mono ?_; rintro e w' ⟨rfl, rfl⟩))
          · go_roundg (16 - (m + 1))
            case rel => exact ⟨m + 1, by omega, rfl, by go_num, by rw [← lead_yes (by assumption)], rfl⟩
            case measure => omega
          · go_roundg (16 - (m + 1))
            case rel => exact ⟨m + 1, by omega, rfl, by go_num, by rw [← lead_no (by assumption)], rfl⟩
            case measure => omega
        · obtain rfl : m = 16 := by omega
          have hadd : ∀ w, (Op.stringOp .add (txt n (leadsT (dg r))) (dgt (leadTo 16 (dg r) n))).run Try.prog w = .ok (.string (txt (n + 1) (leadsT (dg r)))) w := fun w => by
            rw [run_string_add_sum w _ _ (by rw [txt_size]; show n + 1 ≤ _; omega)]
            exact congrArg (fun x => Result.ok (Value.string x) w) (txt_succ n (leadsT (dg r)))
          obtain ⟨hg0, hg1⟩ := lead_rng (dg r) n 16 (Nat.le_refl _)
          go_wp2_with (go_at_call 124; refine (spec_l2Digit _ _ (by first | assumption | omega) (by first | assumption | omega)).mono ?_; rintro e w' ⟨rfl, rfl⟩)
          go_roundg (4 - (n + 1))
          case rel => exact ⟨n + 1, by omega, rfl, by go_num, rfl, rfl⟩
          case measure => omega
    · obtain rfl : n = 4 := by omega
      go_wp2_with fail
      go_ret
      exact ⟨rfl, rfl⟩
theorem spec_AngelTrans (r : ByteArray) (w : World) (hr : r.size ≤ maxLen) :
    Calls Try.prog 61 #[.string r] w fun e w' => e = .returned (.tuple #[.string (orNo (dvB 4 r) (txt 16 (angelT (dg r)))), .bool (dvB 4 r)]) ∧ w = w' := by
  cases hv : (dvB 4 r)
  case false =>
    go_enter Try.func61, Try.ntmps61
    go_wp2_with (go_at_call 83; refine (spec_RelValid _ _ hr).mono ?_; rintro e w' ⟨rfl, rfl⟩)
    go_ret2
    exact ⟨rfl, rfl⟩
  case true =>
    have hz := (dvB_iff.1 hv).1
    have hz : 4 ≤ r.size := by omega
    have hd := dvB_Dg hv
    rw [orNo_true]
    go_enter Try.func61, Try.ntmps61
    go_wp2_with (first | (go_at_call 83; refine (spec_RelValid _ _ hr).mono ?_; rintro e w' ⟨rfl, rfl⟩) | (go_at_call 116; refine (spec_l3Angel _ _ hz).mono ?_; rintro e w' ⟨rfl, rfl⟩))
    go_ret2
    exact ⟨rfl, rfl⟩
theorem spec_DemonTrans (r : ByteArray) (w : World) (hr : r.size ≤ maxLen) :
    Calls Try.prog 63 #[.string r] w fun e w' => e = .returned (.tuple #[.string (orNo (dvB 4 r) (txt 16 (dual (angelT (dg r))))), .bool (dvB 4 r)]) ∧ w = w' := by
  cases hv : dvB 4 r
  case false =>
    go_enter Try.func63, Try.ntmps63
    go_wp2_with (go_at_call 83; refine (spec_RelValid _ _ hr).mono ?_; rintro e w' ⟨rfl, rfl⟩)
    go_ret2
    exact ⟨rfl, rfl⟩
  case true =>
    have hz := (dvB_iff.1 hv).1
    have hz : 4 ≤ r.size := by omega
    have hG := angelT_Dg (dg r) 16
    have c1 := fun w => spec_l3Dual (txt 16 (angelT (dg r))) w (by rw [txt_size]; exact Nat.le_refl _) (dg_txt_Dg hG)
    rw [dual_txt hG] at c1
    have C1 := Lib.hid c1
    clear c1 hG
    rw [orNo_true]
    go_enter Try.func63, Try.ntmps63
    go_wp2_with (first | (go_at_call 83; refine (spec_RelValid _ _ hr).mono ?_; rintro e w' ⟨rfl, rfl⟩) | (go_at_call 116; refine (spec_l3Angel _ _ hz).mono ?_; rintro e w' ⟨rfl, rfl⟩) | (go_at_call 100; refine (C1.out _).mono ?_; rintro e w' ⟨rfl, rfl⟩))
    go_ret2
    exact ⟨rfl, rfl⟩
theorem spec_ApplyTrans (r : ByteArray) (p : Int) (w : World) (hr : r.size ≤ maxLen) :
    Calls Try.prog 73 #[.string r, .int .i64 p] w fun e w' => e = .returned (.int .i64 (askV (tvB r && cv p) (ap (dg r) p))) ∧ w = w' := by
  have Ha := Lib.hid (show ap (dg r) p = dg r p.toNat from rfl)
  cases hv : tvB r
  case false =>
    go_enter Try.func73, Try.ntmps73
    go_wp2_with (go_at_call 98; refine (spec_TransValid _ _ hr).mono ?_; rintro e w' ⟨rfl, rfl⟩)
    go_ret
    exact ⟨rfl, rfl⟩
  case true =>
    have hz := tvB_size hv
    have hz : 16 ≤ r.size := by omega
    cases hp : cv p
    case false =>
      go_enter Try.func73, Try.ntmps73
      go_wp2_with (first | (go_at_call 98; refine (spec_TransValid _ _ hr).mono ?_; rintro e w' ⟨rfl, rfl⟩) | (go_at_call 82; refine (spec_ConditionValid _ _).mono ?_; rintro e w' ⟨rfl, rfl⟩))
      go_ret
      exact ⟨rfl, rfl⟩
    case true =>
      obtain ⟨hp0, hp1⟩ := cv_iff.1 hp
      go_enter Try.func73, Try.ntmps73
      go_wp2_with (first | (go_at_call 98; refine (spec_TransValid _ _ hr).mono ?_; rintro e w' ⟨rfl, rfl⟩) | (go_at_call 82; refine (spec_ConditionValid _ _).mono ?_; rintro e w' ⟨rfl, rfl⟩) | (go_at_call 101; refine (spec_l3Value _ _ _ (by omega) (by omega)).mono ?_; rintro e w' ⟨rfl, rfl⟩))
      go_ret
      exact ⟨by rw [Ha.out]; rfl, rfl⟩
end Go.Proofs.Ytmecagiadlimgaa
