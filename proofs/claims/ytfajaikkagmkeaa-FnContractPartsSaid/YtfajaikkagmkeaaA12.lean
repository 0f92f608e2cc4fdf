/-
  Contracts of the program's functions on kinds of transformers.
-/
import Derived.Test.YtfajaikkagmkeaaA7
import Derived.Test.YtfajaikkagmkeaaA10
import Derived.Test.YtfajaikkagmkeaaG1
import Derived.OwnWalk
namespace Go.Proofs.Ytfajaikkagmkeaa
open Go.RowKit Go.DC
set_option maxHeartbeats 1000000
set_option linter.unusedVariables false
set_option linter.unusedSimpArgs false

theorem ask_is (b : Bool) (v k : Int) (hk : 0 ≤ k) : (askV b v == k) = (b && (v == k)) := by
  cases b
  · show ((-1 : Int) == k) = false
    rw [beq_eq_false_iff_ne]; omega
  · rfl
end Go.Proofs.Ytfajaikkagmkeaa
