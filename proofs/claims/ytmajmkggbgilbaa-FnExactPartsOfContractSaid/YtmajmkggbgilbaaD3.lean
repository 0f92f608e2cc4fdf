/-
  Contracts of the reference's functions that count statements.
-/
import Derived.Test.YtmajmkggbgilbaaD2
namespace Go.Proofs.Ytmajmkggbgilbaa
open Go.RowKit Go.DC
set_option maxHeartbeats 1000000
set_option linter.unusedVariables false
set_option linter.unusedSimpArgs false

end Go.Proofs.Ytmajmkggbgilbaa
