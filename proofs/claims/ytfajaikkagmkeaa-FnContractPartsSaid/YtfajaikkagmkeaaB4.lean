/-
  Contracts of the reference's functions that make transformers.
-/
import Derived.Test.YtfajaikkagmkeaaB3
import Derived.Test.YtfajaikkagmkeaaB2
import Derived.Test.YtfajaikkagmkeaaG1
namespace Go.Proofs.Ytfajaikkagmkeaa
open Go.RowKit Go.DC
set_option maxHeartbeats 1000000
set_option linter.unusedVariables false
set_option linter.unusedSimpArgs false

theorem spec_l3Then (r q : ByteArray) (w : World) (hz : 16 ≤ r.size) (hd : Dg 16 (dg r)) (hz2 : 16 ≤ q.size) (hd2 : Dg 16 (dg q)) :
    Calls Try.prog 108 #[.string r, .string q] w fun e w' => e = .returned (.string (txt 16 (thenT (dg r) (dg q)))) ∧ w = w' := by
  go_enter Try.func108, Try.ntmps108
  go_wp2_with fail
  go_loopg [5, 6] 16 (fun gk o i wr => ∃ n : Nat, n ≤ 16 ∧ gk = 16 - n ∧ i = .int .i64 n ∧ o = .string (txt n (thenT (dg r) (dg q))) ∧ w = wr)
  case atStart => exact ⟨0, by omega, rfl, rfl, rfl, rfl⟩
  case round =>
    obtain ⟨n, hn, rfl, rfl, rfl, rfl⟩ := hrel
    by_cases hlt : n < 16
    · have hadd : ∀ w, (Op.stringOp .add (txt n (thenT (dg r) (dg q))) (dgt (dg r (dg q n).toNat))).run Try.prog w = .ok (.string (txt (n + 1) (thenT (dg r) (dg q)))) w := fun w => by
        rw [run_string_add_sum w _ _ (by rw [txt_size]; show n + 1 ≤ _; omega)]
        exact congrArg (fun x => Result.ok (Value.string x) w) (txt_succ n (thenT (dg r) (dg q)))
      obtain ⟨h2, h3⟩ := hd2 n hlt
      have hg : 0 ≤ dg r (dg q n).toNat ∧ dg r (dg q n).toNat ≤ 15 := hd _ (by omega)
      obtain ⟨hg0, hg1⟩ := hg
      go_wp2_with (first | (go_at_call 64; refine (spec_l3Value _ _ _ (by omega) (by omega)).mono ?_; rintro e w' ⟨rfl, rfl⟩) | (go_at_call 142; refine (spec_l2Digit _ _ (by first | assumption | omega) (by first | assumption | omega)).mono ?_; rintro e w' ⟨rfl, rfl⟩))
      go_roundg (16 - (n + 1))
      case rel => exact ⟨n + 1, by omega, rfl, by go_num, rfl, rfl⟩
      case measure => omega
    · obtain rfl : n = 16 := by omega
      go_wp2_with fail
      go_ret
      exact ⟨rfl, rfl⟩
theorem spec_l3Join (r q : ByteArray) (w : World) (hz : 16 ≤ r.size) (hd : Dg 16 (dg r)) (hz2 : 16 ≤ q.size) (hd2 : Dg 16 (dg q)) :
    Calls Try.prog 110 #[.string r, .string q] w fun e w' => e = .returned (.string (txt 16 (joinT (dg r) (dg q)))) ∧ w = w' := by
  go_enter Try.func110, Try.ntmps110
  go_wp2_with fail
  go_loopg [5, 6] 16 (fun gk o i wr => ∃ n : Nat, n ≤ 16 ∧ gk = 16 - n ∧ i = .int .i64 n ∧ o = .string (txt n (joinT (dg r) (dg q))) ∧ w = wr)
  case atStart => exact ⟨0, by omega, rfl, rfl, rfl, rfl⟩
  case round =>
    obtain ⟨n, hn, rfl, rfl, rfl, rfl⟩ := hrel
    by_cases hlt : n < 16
    · have hadd : ∀ w, (Op.stringOp .add (txt n (joinT (dg r) (dg q))) (dgt (bits BinOp.or IntKind.i64 (dg r n) (dg q n)))).run Try.prog w = .ok (.string (txt (n + 1) (joinT (dg r) (dg q)))) w := fun w => by
        rw [run_string_add_sum w _ _ (by rw [txt_size]; show n + 1 ≤ _; omega)]
        exact congrArg (fun x => Result.ok (Value.string x) w) (txt_succ n (joinT (dg r) (dg q)))
      obtain ⟨h0, h1⟩ := hd n hlt
      obtain ⟨h2, h3⟩ := hd2 n hlt
      have hg : 0 ≤ bits BinOp.or IntKind.i64 (dg r n) (dg q n) ∧ bits BinOp.or IntKind.i64 (dg r n) (dg q n) ≤ 15 := bor_rng h0 h1 h2 h3
      obtain ⟨hg0, hg1⟩ := hg
      go_wp2_with (first | (go_at_call 64; refine (spec_l3Value _ _ _ (by omega) (by omega)).mono ?_; rintro e w' ⟨rfl, rfl⟩) | (go_at_call 142; refine (spec_l2Digit _ _ (by first | assumption | omega) (by first | assumption | omega)).mono ?_; rintro e w' ⟨rfl, rfl⟩))
      go_roundg (16 - (n + 1))
      case rel => exact ⟨n + 1, by omega, rfl, by go_num, rfl, rfl⟩
      case measure => omega
    · obtain rfl : n = 16 := by omega
      go_wp2_with fail
      go_ret
      exact ⟨rfl, rfl⟩
theorem spec_l3Assert (p : Int) (w : World) (h0 : 0 ≤ p) (h1 : p ≤ 15) :
    Calls Try.prog 105 #[.int .i64 p] w fun e w' => e = .returned (.string (txt 16 (assertT p))) ∧ w = w' := by
  go_enter Try.func105, Try.ntmps105
  go_wp2_with fail
  go_loopg [3, 4] 16 (fun gk o i wr => ∃ n : Nat, n ≤ 16 ∧ gk = 16 - n ∧ i = .int .i64 n ∧ o = .string (txt n (assertT p)) ∧ w = wr)
  case atStart => exact ⟨0, by omega, rfl, rfl, rfl, rfl⟩
  case round =>
    obtain ⟨n, hn, rfl, rfl, rfl, rfl⟩ := hrel
    by_cases hlt : n < 16
    · have hadd : ∀ w, (Op.stringOp .add (txt n (assertT p)) (dgt (bits BinOp.and IntKind.i64 p (n : Int)))).run Try.prog w = .ok (.string (txt (n + 1) (assertT p))) w := fun w => by
        rw [run_string_add_sum w _ _ (by rw [txt_size]; show n + 1 ≤ _; omega)]
        exact congrArg (fun x => Result.ok (Value.string x) w) (txt_succ n (assertT p))

      have hg : 0 ≤ bits BinOp.and IntKind.i64 p (n : Int) ∧ bits BinOp.and IntKind.i64 p (n : Int) ≤ 15 := band_rng h0 h1 (by omega) (by omega)
      obtain ⟨hg0, hg1⟩ := hg
      go_wp2_with (first | (go_at_call 142; refine (spec_l2Digit _ _ (by first | assumption | omega) (by first | assumption | omega)).mono ?_; rintro e w' ⟨rfl, rfl⟩))
      go_roundg (16 - (n + 1))
      case rel => exact ⟨n + 1, by omega, rfl, by go_num, rfl, rfl⟩
      case measure => omega
    · obtain rfl : n = 16 := by omega
      go_wp2_with fail
      go_ret
      exact ⟨rfl, rfl⟩
theorem spec_l3Angel (r : ByteArray) (w : World) (hz : 4 ≤ r.size) :
    Calls Try.prog 107 #[.string r] w fun e w' => e = .returned (.string (txt 16 (angelT (dg r)))) ∧ w = w' := by
  go_enter Try.func107, Try.ntmps107
  go_wp2_with fail
  go_loopg [3, 4] 16 (fun gk o i wr => ∃ n : Nat, n ≤ 16 ∧ gk = 16 - n ∧ i = .int .i64 n ∧ o = .string (txt n (angelT (dg r))) ∧ w = wr)
  case atStart => exact ⟨0, by omega, rfl, rfl, rfl, rfl⟩
  case round =>
    obtain ⟨n, hn, rfl, rfl, rfl, rfl⟩ := hrel
    by_cases hlt : n < 16
    · have hadd : ∀ w, (Op.stringOp .add (txt n (angelT (dg r))) (dgt (dia (dg r) (n : Int)))).run Try.prog w = .ok (.string (txt (n + 1) (angelT (dg r)))) w := fun w => by
        rw [run_string_add_sum w _ _ (by rw [txt_size]; show n + 1 ≤ _; omega)]
        exact congrArg (fun x => Result.ok (Value.string x) w) (txt_succ n (angelT (dg r)))

      have hg : 0 ≤ dia (dg r) (n : Int) ∧ dia (dg r) (n : Int) ≤ 15 := dia_rng _ _
      obtain ⟨hg0, hg1⟩ := hg
      go_wp2_with (first | (go_at_call 151; refine (spec_l2Diamond _ _ _ hz).mono ?_; rintro e w' ⟨rfl, rfl⟩) | (go_at_call 142; refine (spec_l2Digit _ _ (by first | assumption | omega) (by first | assumption | omega)).mono ?_; rintro e w' ⟨rfl, rfl⟩))
      go_roundg (16 - (n + 1))
      case rel => exact ⟨n + 1, by omega, rfl, by go_num, rfl, rfl⟩
      case measure => omega
    · obtain rfl : n = 16 := by omega
      go_wp2_with fail
      go_ret
      exact ⟨rfl, rfl⟩
end Go.Proofs.Ytfajaikkagmkeaa
