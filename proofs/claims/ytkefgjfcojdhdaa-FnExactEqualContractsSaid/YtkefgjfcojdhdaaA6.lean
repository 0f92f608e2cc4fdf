/-
  Contracts of the functions that try all pairs, and that iterate.
-/
import Derived.Test.YtkefgjfcojdhdaaA5
import Derived.Test.YtkefgjfcojdhdaaT
import Derived.Test.YtkefgjfcojdhdaaPT
import Derived.Deep.QuietTactic
import Derived.BigQuiet
namespace Go.Proofs.Ytkefgjfcojdhdaa
open Go.RowKit Go.DC
set_option maxHeartbeats 1000000
set_option linter.unusedVariables false
set_option linter.unusedSimpArgs false

end Go.Proofs.Ytkefgjfcojdhdaa
