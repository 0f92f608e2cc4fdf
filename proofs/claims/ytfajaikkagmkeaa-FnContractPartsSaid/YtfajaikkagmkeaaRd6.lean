/-
  Contracts of the draws of transformers, first part: families, tables of families, spoilt texts.
-/
import Derived.Test.YtfajaikkagmkeaaRd4
import Derived.Test.YtfajaikkagmkeaaB4
import Derived.Test.YtfajaikkagmkeaaG1
namespace Go.Proofs.Ytfajaikkagmkeaa
open Go.RowKit Go.DC
set_option maxHeartbeats 1000000
set_option linter.unusedVariables false
set_option linter.unusedSimpArgs false
end Go.Proofs.Ytfajaikkagmkeaa
