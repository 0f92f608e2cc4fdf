/-
  Contracts of the reference's functions on relations, exported.
-/
import Derived.Test.YtfajaikkagmkeaaB1
import Derived.Test.YtfajaikkagmkeaaT
namespace Go.Proofs.Ytfajaikkagmkeaa
open Go.RowKit Go.DC
set_option maxHeartbeats 400000
set_option linter.unusedVariables false
set_option linter.unusedSimpArgs false

end Go.Proofs.Ytfajaikkagmkeaa
