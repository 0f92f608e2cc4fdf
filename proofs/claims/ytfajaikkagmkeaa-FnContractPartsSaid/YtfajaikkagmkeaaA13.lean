/-
  Contracts of the program's functions on specifications and bounds.
-/
import Derived.Test.YtfajaikkagmkeaaA7
import Derived.Test.YtfajaikkagmkeaaA10
import Derived.Test.YtfajaikkagmkeaaG1
import Derived.OwnWalk
namespace Go.Proofs.Ytfajaikkagmkeaa
open Go.RowKit Go.DC
set_option maxHeartbeats 1000000
set_option linter.unusedVariables false
set_option linter.unusedSimpArgs false

end Go.Proofs.Ytfajaikkagmkeaa
