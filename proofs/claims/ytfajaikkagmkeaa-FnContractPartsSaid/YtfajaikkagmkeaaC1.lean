/-
  Contracts of the program's reader of contracts.
-/
import Derived.Test.YtfajaikkagmkeaaA1
import Derived.Test.YtfajaikkagmkeaaG1
import Derived.Deep.QuietTactic
import Derived.BigQuiet
import Derived.OwnWalk
namespace Go.Proofs.Ytfajaikkagmkeaa
open Go.RowKit Go.DC
set_option maxHeartbeats 1000000
set_option linter.unusedVariables false
set_option linter.unusedSimpArgs false

def shT (o : UInt8) : Int × Int := match shp o with
  | none => (-1, 0)
  | some (k, d) => ((k : Int), (d : Int))
theorem byte_ne {o n : UInt8} (h : ¬ o = n) : ((o.toNat : Int) == (n.toNat : Int)) = false := by
  rw [byte_eq]; simpa using h
theorem impl_shapeOf (o : UInt8) (w : World) :
    Calls Try.prog 113 #[.int .u8 (o.toNat : Int)] w fun e w' => e = .returned (.tuple #[.int .i64 (shT o).1, .int .i64 (shT o).2]) ∧ w = w' := by
  by_cases h115 : o = 115
  · subst h115
    go_enter Try.func113, Try.ntmps113
    go_wp2_with fail
    go_ret2
    exact ⟨rfl, rfl⟩
  by_cases h97 : o = 97
  · subst h97
    go_enter Try.func113, Try.ntmps113
    go_wp2_with fail
    go_ret2
    exact ⟨rfl, rfl⟩
  by_cases h109 : o = 109
  · subst h109
    go_enter Try.func113, Try.ntmps113
    go_wp2_with fail
    go_ret2
    exact ⟨rfl, rfl⟩
  by_cases h33 : o = 33
  · subst h33
    go_enter Try.func113, Try.ntmps113
    go_wp2_with fail
    go_ret2
    exact ⟨rfl, rfl⟩
  by_cases h63 : o = 63
  · subst h63
    go_enter Try.func113, Try.ntmps113
    go_wp2_with fail
    go_ret2
    exact ⟨rfl, rfl⟩
  by_cases h65 : o = 65
  · subst h65
    go_enter Try.func113, Try.ntmps113
    go_wp2_with fail
    go_ret2
    exact ⟨rfl, rfl⟩
  by_cases h68 : o = 68
  · subst h68
    go_enter Try.func113, Try.ntmps113
    go_wp2_with fail
    go_ret2
    exact ⟨rfl, rfl⟩
  by_cases h59 : o = 59
  · subst h59
    go_enter Try.func113, Try.ntmps113
    go_wp2_with fail
    go_ret2
    exact ⟨rfl, rfl⟩
  by_cases h38 : o = 38
  · subst h38
    go_enter Try.func113, Try.ntmps113
    go_wp2_with fail
    go_ret2
    exact ⟨rfl, rfl⟩
  by_cases h124 : o = 124
  · subst h124
    go_enter Try.func113, Try.ntmps113
    go_wp2_with fail
    go_ret2
    exact ⟨rfl, rfl⟩
  by_cases h105 : o = 105
  · subst h105
    go_enter Try.func113, Try.ntmps113
    go_wp2_with fail
    go_ret2
    exact ⟨rfl, rfl⟩
  by_cases h119 : o = 119
  · subst h119
    go_enter Try.func113, Try.ntmps113
    go_wp2_with fail
    go_ret2
    exact ⟨rfl, rfl⟩
  by_cases h42 : o = 42
  · subst h42
    go_enter Try.func113, Try.ntmps113
    go_wp2_with fail
    go_ret2
    exact ⟨rfl, rfl⟩
  by_cases h43 : o = 43
  · subst h43
    go_enter Try.func113, Try.ntmps113
    go_wp2_with fail
    go_ret2
    exact ⟨rfl, rfl⟩
  have hs : shp o = none := by simp [shp, h115, h97, h109, h33, h63, h65, h68, h59, h38, h124, h105, h119, h42, h43]
  have hT : shT o = (-1, 0) := by unfold shT; rw [hs]
  rw [hT]
  clear hT hs
  have n115 : ((o.toNat : Int) == (115 : Int)) = false := byte_ne h115
  have n97 : ((o.toNat : Int) == (97 : Int)) = false := byte_ne h97
  have n109 : ((o.toNat : Int) == (109 : Int)) = false := byte_ne h109
  have n33 : ((o.toNat : Int) == (33 : Int)) = false := byte_ne h33
  have n63 : ((o.toNat : Int) == (63 : Int)) = false := byte_ne h63
  have n65 : ((o.toNat : Int) == (65 : Int)) = false := byte_ne h65
  have n68 : ((o.toNat : Int) == (68 : Int)) = false := byte_ne h68
  have n59 : ((o.toNat : Int) == (59 : Int)) = false := byte_ne h59
  have n38 : ((o.toNat : Int) == (38 : Int)) = false := byte_ne h38
  have n124 : ((o.toNat : Int) == (124 : Int)) = false := byte_ne h124
  have n105 : ((o.toNat : Int) == (105 : Int)) = false := byte_ne h105
  have n119 : ((o.toNat : Int) == (119 : Int)) = false := byte_ne h119
  have n42 : ((o.toNat : Int) == (42 : Int)) = false := byte_ne h42
  have n43 : ((o.toNat : Int) == (43 : Int)) = false := byte_ne h43
  clear h115 h97 h109 h33 h63 h65 h68 h59 h38 h124 h105 h119 h42 h43
  go_enter Try.func113, Try.ntmps113
  go_wp2_with fail
  go_ret2
  exact ⟨rfl, rfl⟩
end Go.Proofs.Ytfajaikkagmkeaa
