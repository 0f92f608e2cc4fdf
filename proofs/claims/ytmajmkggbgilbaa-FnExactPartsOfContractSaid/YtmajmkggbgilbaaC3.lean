/-
  Contracts of the program's functions that count statements.
-/
import Derived.Test.YtmajmkggbgilbaaC2
import Derived.Test.YtmajmkggbgilbaaPc
namespace Go.Proofs.Ytmajmkggbgilbaa
open Go.RowKit Go.DC
set_option maxHeartbeats 1000000
set_option linter.unusedVariables false
set_option linter.unusedSimpArgs false

theorem cto_len {c : ByteArray} {t : Ct} (h : cto c = some t) : t.tx.length ≤ 200 := (cto_some.1 h).2.2
end Go.Proofs.Ytmajmkggbgilbaa
