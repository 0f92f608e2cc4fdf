/-
  Contracts of the exported draws for the laws on relations.
-/
import Derived.Test.YtmecagiadlimgaaRd4
import Derived.OwnWalk
namespace Go.Proofs.Ytmecagiadlimgaa
open Go.RowKit Go.DC
set_option maxHeartbeats 1000000
set_option linter.unusedVariables false
set_option linter.unusedSimpArgs false
/-- A text of at most m bytes was drawn. -/
def Drawn1 (m : Nat) (w : World) (e : Ending) (w' : World) : Prop := ∃ s : ByteArray, s.size ≤ m ∧ e = .returned (.string s) ∧ Below w.heap.size w w'
/-- Two texts were drawn. -/
def Drawn2 (m : Nat) (w : World) (e : Ending) (w' : World) : Prop := ∃ s t : ByteArray, s.size ≤ m ∧ t.size ≤ m ∧ e = .returned (.tuple #[.string s, .string t]) ∧ Below w.heap.size w w'
/-- A number was drawn. -/
def DrawnI (w : World) (e : Ending) (w' : World) : Prop := ∃ n : Int, e = .returned (.int .i64 n) ∧ Below w.heap.size w w'
/-- A text and a number were drawn. -/
def DrawnTI (m : Nat) (w : World) (e : Ending) (w' : World) : Prop := ∃ (s : ByteArray) (n : Int), s.size ≤ m ∧ e = .returned (.tuple #[.string s, .int .i64 n]) ∧ Below w.heap.size w w'
/-- A text and two numbers were drawn. -/
def DrawnTII (m : Nat) (w : World) (e : Ending) (w' : World) : Prop := ∃ (s : ByteArray) (n k : Int), s.size ≤ m ∧ e = .returned (.tuple #[.string s, .int .i64 n, .int .i64 k]) ∧ Below w.heap.size w w'
theorem IsRow.go {w w' : World} {a : Option Addr} {len cap : Nat} {zs : List Int} (h : IsRow .u8 w a len cap zs) (hb : Below w.heap.size w w') : IsRow .u8 w' a len cap zs := by
  rcases h with h | ⟨x, h1, h2, h3, h4, h5, h6⟩
  · exact .inl h
  · refine .inr ⟨x, h1, h2, h3, h4, fun j hj => ?_, h6⟩
    have h7 := h5 j hj
    rw [hb.cell (p := x.add j) (block_lt_of_cell h7)]
    exact h7
theorem spec_DrawTurnRel (a : Option Addr) (len cap : Nat) (zs : List Int) (w : World) (h : IsRow .u8 w a len cap zs) :
    Calls Try.prog 66 #[.slice a len cap] w (Drawn1 5 w) := by
  go_enter Try.func66, Try.ntmps66
  go_wp2_with fail
  refine (spec_l14Open a len cap zs w h).mono ?_
  rintro e w1 ⟨b, hb, rfl, hR, hB⟩
  have HR := Lib.hid hR
  have HB := Lib.hid hB
  clear hR hB h
  go_wp2_with fail
  refine (spec_l2Open b 0 _ HR.out (by omega)).mono ?_
  rintro e w2 ⟨s, q, hs, hq, rfl, hR2, hE2⟩
  have Hs := Lib.hid hs
  have HB2 := Lib.hid (HB.out.trans (hE2.below hb HB.out.size))
  clear hR2 hE2 hs HB HR
  go_wp2_with fail
  go_ret
  exact ⟨_, Hs.out, rfl, HB2.out⟩
theorem spec_DrawAngelTrans (a : Option Addr) (len cap : Nat) (zs : List Int) (w : World) (h : IsRow .u8 w a len cap zs) :
    Calls Try.prog 59 #[.slice a len cap] w (Drawn1 5 w) := by
  go_enter Try.func59, Try.ntmps59
  go_wp2_with fail
  refine (spec_l14Open a len cap zs w h).mono ?_
  rintro e w1 ⟨b, hb, rfl, hR, hB⟩
  have HR := Lib.hid hR
  have HB := Lib.hid hB
  clear hR hB h
  go_wp2_with fail
  refine (spec_l2Open b 0 _ HR.out (by omega)).mono ?_
  rintro e w2 ⟨s, q, hs, hq, rfl, hR2, hE2⟩
  have Hs := Lib.hid hs
  have HB2 := Lib.hid (HB.out.trans (hE2.below hb HB.out.size))
  clear hR2 hE2 hs HB HR
  go_wp2_with fail
  go_ret
  exact ⟨_, Hs.out, rfl, HB2.out⟩
end Go.Proofs.Ytmecagiadlimgaa
