/-
  Contracts of the program's functions on relations.
-/
import Derived.Test.YtfajaikkagmkeaaA3
import Derived.Test.YtfajaikkagmkeaaT
import Derived.Deep.QuietTactic
import Derived.BigQuiet
namespace Go.Proofs.Ytfajaikkagmkeaa
open Go.RowKit Go.DC
set_option maxHeartbeats 400000
set_option linter.unusedVariables false
set_option linter.unusedSimpArgs false

end Go.Proofs.Ytfajaikkagmkeaa
