/-
  Contracts of the laws' own helper on contracts.
-/
import Derived.Test.YtfajaikkagmkeaaA16
import Derived.Test.YtfajaikkagmkeaaC6
namespace Go.Proofs.Ytfajaikkagmkeaa
open Go.RowKit Go.DC
set_option maxHeartbeats 1000000
set_option linter.unusedVariables false
set_option linter.unusedSimpArgs false
theorem laws_dcTrans (c : ByteArray) (w : World) (hm : c.size ≤ maxLen) :
    Calls Try.prog 26 #[.string c] w fun e w' => e = .returned (.string (ctv c ByteArray.empty fun t => txt 16 (tr t))) ∧ Below w.heap.size w w' := by
  have C := Lib.hid (fun w => impl_TransOfContract c w hm)
  generalize (ctv c ByteArray.empty fun t => txt 16 (tr t)) = v at *
  generalize (cto c).isSome = b at *
  go_enter Try.func26, Try.ntmps26
  go_wp2_with fail
  refine (C.out _).mono ?_
  rintro e w' ⟨rfl, hb⟩
  have HB := Lib.hid hb
  clear hb
  go_wp2_with fail
  go_ret
  exact ⟨rfl, HB.out⟩
end Go.Proofs.Ytfajaikkagmkeaa
