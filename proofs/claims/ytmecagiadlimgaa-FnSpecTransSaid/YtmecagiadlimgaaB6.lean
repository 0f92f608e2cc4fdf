/-
  Contracts of the reference's functions for the laws on relations.
-/
import Derived.Test.YtmecagiadlimgaaB2
import Derived.Test.YtmecagiadlimgaaPv
namespace Go.Proofs.Ytmecagiadlimgaa
open Go.RowKit Go.DC
set_option maxHeartbeats 1000000
set_option linter.unusedVariables false
set_option linter.unusedSimpArgs false

end Go.Proofs.Ytmecagiadlimgaa
