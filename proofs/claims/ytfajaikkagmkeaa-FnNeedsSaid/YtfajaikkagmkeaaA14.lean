/-
  Contracts of the program's small functions on conditions and relations.
-/
import Derived.Test.YtfajaikkagmkeaaA4
import Derived.Test.YtfajaikkagmkeaaA9
import Derived.Test.YtfajaikkagmkeaaG2
namespace Go.Proofs.Ytfajaikkagmkeaa
open Go.RowKit Go.DC
set_option maxHeartbeats 1000000
set_option linter.unusedVariables false
set_option linter.unusedSimpArgs false

theorem impl_OrCondition (p q : Int) (w : World) :
    Calls Try.prog 20 #[.int .i64 p, .int .i64 q] w fun e w' => e = .returned (.int .i64 (askV (cv p && cv q) (bor p q))) ∧ w = w' := by
  cases hp : cv p <;> cases hq : cv q
  all_goals
    go_enter Try.func20, Try.ntmps20
    go_wp2_with (go_at_call 15; refine (impl_ConditionValid _ _).mono ?_; rintro e w' ⟨rfl, rfl⟩)
    go_ret
    exact ⟨rfl, rfl⟩
theorem impl_Implies (p q : Int) (w : World) :
    Calls Try.prog 41 #[.int .i64 p, .int .i64 q] w fun e w' => e = .returned (.bool ((cv p && cv q) && (bandn p q == 0))) ∧ w = w' := by
  cases hp : cv p <;> cases hq : cv q
  all_goals
    go_enter Try.func41, Try.ntmps41
    go_wp2_with (go_at_call 15; refine (impl_ConditionValid _ _).mono ?_; rintro e w' ⟨rfl, rfl⟩)
    go_ret
    exact ⟨rfl, rfl⟩
end Go.Proofs.Ytfajaikkagmkeaa
