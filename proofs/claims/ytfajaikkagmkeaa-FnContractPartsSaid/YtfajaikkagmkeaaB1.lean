/-
  Contracts of the reference's functions on relations.
-/
import Derived.Test.YtfajaikkagmkeaaA1
import Derived.Test.YtfajaikkagmkeaaT
namespace Go.Proofs.Ytfajaikkagmkeaa
open Go.RowKit Go.DC
set_option maxHeartbeats 400000
set_option linter.unusedVariables false
set_option linter.unusedSimpArgs false

theorem spec_l2Diamond (r : ByteArray) (p : Int) (w : World) (hz : 4 ≤ r.size) :
    Calls Try.prog 151 #[.string r, .int .i64 p] w fun e w' => e = .returned (.int .i64 (dia (dg r) p)) ∧ w = w' := by
  go_enter Try.func151, Try.ntmps151
  go_wp2_with fail
  go_loopg [5, 6] 4 (fun gk o i wr => ∃ n : Nat, n ≤ 4 ∧ gk = 4 - n ∧ i = .int .i64 n ∧ o = .int .i64 (mk n fun s => bits BinOp.and IntKind.i64 (dg r s) p != 0) ∧ w = wr)
  case atStart => exact ⟨0, by omega, rfl, rfl, rfl, rfl⟩
  case round =>
    obtain ⟨n, hn, rfl, rfl, rfl, rfl⟩ := hrel
    by_cases hlt : n < 4
    · go_wp2_with (first | (go_at_call 170; refine (spec_l2To _ _ _ (by omega) (by omega)).mono ?_; rintro e w' ⟨rfl, rfl⟩))
      · go_roundg (4 - (n + 1))
        case rel => exact ⟨n + 1, by omega, rfl, by go_num, by rw [← mk_yes (f := fun s => bits BinOp.and IntKind.i64 (dg r s) p != 0) (by assumption) (by omega)], rfl⟩
        case measure => omega
      · go_roundg (4 - (n + 1))
        case rel => exact ⟨n + 1, by omega, rfl, by go_num, by rw [← mk_no (f := fun s => bits BinOp.and IntKind.i64 (dg r s) p != 0) (by assumption)], rfl⟩
        case measure => omega
    · obtain rfl : n = 4 := by omega
      go_wp2_with fail
      go_ret
      exact ⟨rfl, rfl⟩
end Go.Proofs.Ytfajaikkagmkeaa
