/-
  Contracts of the reference's functions on relations.
-/
import Derived.Test.YtmajmkggbgilbaaA1
import Derived.Test.YtmajmkggbgilbaaT
namespace Go.Proofs.Ytmajmkggbgilbaa
open Go.RowKit Go.DC
set_option maxHeartbeats 400000
set_option linter.unusedVariables false
set_option linter.unusedSimpArgs false

end Go.Proofs.Ytmajmkggbgilbaa
