/-
  The types of arrays of this translation.
-/
import Derived.Test.YtmajmkggbgilbaaRows
import Derived.Test.YtmajmkggbgilbaaMem
namespace Go.Proofs.Ytmajmkggbgilbaa
open Go.RowKit Go.DC
set_option linter.unusedSimpArgs false
set_option linter.unusedVariables false
theorem rel4 : ArrT Try.prog 31 4 := ⟨⟨3, Try.underlying31⟩, by kernel_rfl⟩
theorem idx4 (x : Nat → Int) {n : Nat} (hn : n < 4) (w : World) : (Instr.index 31 (.agg (cellsF 4 x)) (.int .i64 n)).run Try.prog w = .ok (.int .i64 (x n)) w := by
  have hc := cellsF_get 4 x hn
  have h1 : (isAgg 3).run Try.prog w = .ok false w := by kernel_rfl
  have h2 : (sizeOf 3).run Try.prog w = .ok 1 w := by kernel_rfl
  simp [Instr.index, asIntOf, run_underlying Try.underlying31, part, h1, h2, hc, show (n : Int) < 4 by omega]
  intro h; omega
end Go.Proofs.Ytmajmkggbgilbaa
