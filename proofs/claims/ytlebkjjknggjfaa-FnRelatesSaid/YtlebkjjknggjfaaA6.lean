/-
  Contracts of the functions that try all pairs, and that iterate.
-/
import Derived.Test.YtlebkjjknggjfaaA5
import Derived.Test.YtlebkjjknggjfaaT
import Derived.Test.YtlebkjjknggjfaaPT
import Derived.Deep.QuietTactic
import Derived.BigQuiet
namespace Go.Proofs.Ytlebkjjknggjfaa
open Go.RowKit Go.DC
set_option maxHeartbeats 1000000
set_option linter.unusedVariables false
set_option linter.unusedSimpArgs false

end Go.Proofs.Ytlebkjjknggjfaa
