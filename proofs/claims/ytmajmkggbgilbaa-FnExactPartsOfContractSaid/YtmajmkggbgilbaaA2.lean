/-
  Contracts of the functions on relations that read digits, make sets and make relations.
-/
import Derived.Test.YtmajmkggbgilbaaA1
import Derived.Test.YtmajmkggbgilbaaT
import Derived.Deep.QuietTactic
import Derived.BigQuiet
namespace Go.Proofs.Ytmajmkggbgilbaa
open Go.RowKit Go.DC
set_option maxHeartbeats 400000
set_option linter.unusedVariables false
set_option linter.unusedSimpArgs false

end Go.Proofs.Ytmajmkggbgilbaa
