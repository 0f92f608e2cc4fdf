/-
  Contracts of the exported draws for the laws on relations.
-/
import Derived.Test.YtfajaikkagmkeaaRd4
import Derived.OwnWalk
namespace Go.Proofs.Ytfajaikkagmkeaa
open Go.RowKit Go.DC
set_option maxHeartbeats 1000000
set_option linter.unusedVariables false
set_option linter.unusedSimpArgs false
/-- A text of at most m bytes was drawn. -/
def Drawn1 (m : Nat) (w : World) (e : Ending) (w' : World) : Prop := ∃ s : ByteArray, s.size ≤ m ∧ e = .returned (.string s) ∧ Below w.heap.size w w'
/-- Two texts were drawn. -/
def Drawn2 (m : Nat) (w : World) (e : Ending) (w' : World) : Prop := ∃ s t : ByteArray, s.size ≤ m ∧ t.size ≤ m ∧ e = .returned (.tuple #[.string s, .string t]) ∧ Below w.heap.size w w'
/-- A number was drawn. -/
def DrawnI (w : World) (e : Ending) (w' : World) : Prop := ∃ n : Int, e = .returned (.int .i64 n) ∧ Below w.heap.size w w'
/-- A text and a number were drawn. -/
def DrawnTI (m : Nat) (w : World) (e : Ending) (w' : World) : Prop := ∃ (s : ByteArray) (n : Int), s.size ≤ m ∧ e = .returned (.tuple #[.string s, .int .i64 n]) ∧ Below w.heap.size w w'
/-- A text and two numbers were drawn. -/
def DrawnTII (m : Nat) (w : World) (e : Ending) (w' : World) : Prop := ∃ (s : ByteArray) (n k : Int), s.size ≤ m ∧ e = .returned (.tuple #[.string s, .int .i64 n, .int .i64 k]) ∧ Below w.heap.size w w'
theorem IsRow.go {w w' : World} {a : Option Addr} {len cap : Nat} {zs : List Int} (h : IsRow .u8 w a len cap zs) (hb : Below w.heap.size w w') : IsRow .u8 w' a len cap zs := by
  rcases h with h | ⟨x, h1, h2, h3, h4, h5, h6⟩
  · exact .inl h
  · refine .inr ⟨x, h1, h2, h3, h4, fun j hj => ?_, h6⟩
    have h7 := h5 j hj
    rw [hb.cell (p := x.add j) (block_lt_of_cell h7)]
    exact h7
end Go.Proofs.Ytfajaikkagmkeaa
