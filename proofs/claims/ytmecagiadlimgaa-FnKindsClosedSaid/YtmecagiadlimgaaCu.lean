/-
  Cuts of walks: nothing of its own, the kit's tactic alone.
-/
import Derived.Deep.DeepCutAuto
namespace Go.DC
/-- The cut's text has a name. -/
theorem cut_named : True := trivial
end Go.DC
