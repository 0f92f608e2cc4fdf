/-
  The types of arrays of this translation.
-/
import Derived.Test.YtfajaikkagmkeaaRows
import Derived.Test.YtfajaikkagmkeaaG1
namespace Go.Proofs.Ytfajaikkagmkeaa
open Go.RowKit Go.DC
set_option linter.unusedSimpArgs false
set_option linter.unusedVariables false
theorem rel4 : ArrT Try.prog 60 4 := ⟨⟨3, Try.underlying60⟩, by kernel_rfl⟩
theorem idx4 (x : Nat → Int) {n : Nat} (hn : n < 4) (w : World) : (Instr.index 60 (.agg (cellsF 4 x)) (.int .i64 n)).run Try.prog w = .ok (.int .i64 (x n)) w := by
  have hc := cellsF_get 4 x hn
  have h1 : (isAgg 3).run Try.prog w = .ok false w := by kernel_rfl
  have h2 : (sizeOf 3).run Try.prog w = .ok 1 w := by kernel_rfl
  simp [Instr.index, asIntOf, run_underlying Try.underlying60, part, h1, h2, hc, show (n : Int) < 4 by omega]
  intro h; omega
theorem trans16 : ArrT Try.prog 66 16 := ⟨⟨3, Try.underlying66⟩, by kernel_rfl⟩
theorem idx16 (x : Nat → Int) {n : Nat} (hn : n < 16) (w : World) : (Instr.index 66 (.agg (cellsF 16 x)) (.int .i64 n)).run Try.prog w = .ok (.int .i64 (x n)) w := by
  have hc := cellsF_get 16 x hn
  have h1 : (isAgg 3).run Try.prog w = .ok false w := by kernel_rfl
  have h2 : (sizeOf 3).run Try.prog w = .ok 1 w := by kernel_rfl
  simp [Instr.index, asIntOf, run_underlying Try.underlying66, part, h1, h2, hc, show (n : Int) < 16 by omega]
  intro h; omega
end Go.Proofs.Ytfajaikkagmkeaa
