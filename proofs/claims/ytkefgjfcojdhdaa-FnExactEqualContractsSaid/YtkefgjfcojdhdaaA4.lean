/-
  Contracts of the program's functions on relations.
-/
import Derived.Test.YtkefgjfcojdhdaaA3
import Derived.Test.YtkefgjfcojdhdaaT
import Derived.Deep.QuietTactic
import Derived.BigQuiet
namespace Go.Proofs.Ytkefgjfcojdhdaa
open Go.RowKit Go.DC
set_option maxHeartbeats 400000
set_option linter.unusedVariables false
set_option linter.unusedSimpArgs false

end Go.Proofs.Ytkefgjfcojdhdaa
