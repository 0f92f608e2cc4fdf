/-
  Contracts of the reference's functions on relations, exported.
-/
import Derived.Test.YtkefgjfcojdhdaaB1
import Derived.Test.YtkefgjfcojdhdaaT
namespace Go.Proofs.Ytkefgjfcojdhdaa
open Go.RowKit Go.DC
set_option maxHeartbeats 400000
set_option linter.unusedVariables false
set_option linter.unusedSimpArgs false

end Go.Proofs.Ytkefgjfcojdhdaa
