/-
  Contracts of the exported draws for the laws on relations.
-/
import Derived.Test.YtlebkjjknggjfaaRd4
import Derived.OwnWalk
namespace Go.Proofs.Ytlebkjjknggjfaa
open Go.RowKit Go.DC
set_option maxHeartbeats 1000000
set_option linter.unusedVariables false
set_option linter.unusedSimpArgs false
/-- A text of at most m bytes was drawn. -/
def Drawn1 (m : Nat) (w : World) (e : Ending) (w' : World) : Prop := ∃ s : ByteArray, s.size ≤ m ∧ e = .returned (.string s) ∧ Below w.heap.size w w'
/-- Two texts were drawn. -/
def Drawn2 (m : Nat) (w : World) (e : Ending) (w' : World) : Prop := ∃ s t : ByteArray, s.size ≤ m ∧ t.size ≤ m ∧ e = .returned (.tuple #[.string s, .string t]) ∧ Below w.heap.size w w'
/-- A number was drawn. -/
def DrawnI (w : World) (e : Ending) (w' : World) : Prop := ∃ n : Int, e = .returned (.int .i64 n) ∧ Below w.heap.size w w'
/-- A text and a number were drawn. -/
def DrawnTI (m : Nat) (w : World) (e : Ending) (w' : World) : Prop := ∃ (s : ByteArray) (n : Int), s.size ≤ m ∧ e = .returned (.tuple #[.string s, .int .i64 n]) ∧ Below w.heap.size w w'
/-- A text and two numbers were drawn. -/
def DrawnTII (m : Nat) (w : World) (e : Ending) (w' : World) : Prop := ∃ (s : ByteArray) (n k : Int), s.size ≤ m ∧ e = .returned (.tuple #[.string s, .int .i64 n, .int .i64 k]) ∧ Below w.heap.size w w'
theorem IsRow.go {w w' : World} {a : Option Addr} {len cap : Nat} {zs : List Int} (h : IsRow .u8 w a len cap zs) (hb : Below w.heap.size w w') : IsRow .u8 w' a len cap zs := by
  rcases h with h | ⟨x, h1, h2, h3, h4, h5, h6⟩
  · exact .inl h
  · refine .inr ⟨x, h1, h2, h3, h4, fun j hj => ?_, h6⟩
    have h7 := h5 j hj
    rw [hb.cell (p := x.add j) (block_lt_of_cell h7)]
    exact h7
theorem spec_DrawTurnRel (a : Option Addr) (len cap : Nat) (zs : List Int) (w : World) (h : IsRow .u8 w a len cap zs) :
    Calls Try.prog 24 #[.slice a len cap] w (Drawn1 5 w) := by
  go_enter Try.func24, Try.ntmps24
  go_wp2_with fail
  refine (spec_l14Open a len cap zs w h).mono ?_
  rintro e w1 ⟨b, hb, rfl, hR, hB⟩
  have HR := Lib.hid hR
  have HB := Lib.hid hB
  clear hR hB h
  go_wp2_with fail
  refine (spec_l2Open b 0 _ HR.out (by omega)).mono ?_
  rintro e w2 ⟨s, q, hs, hq, rfl, hR2, hE2⟩
  have Hs := Lib.hid hs
  have HB2 := Lib.hid (HB.out.trans (hE2.below hb HB.out.size))
  clear hR2 hE2 hs HB HR
  go_wp2_with fail
  go_ret
  exact ⟨_, Hs.out, rfl, HB2.out⟩
theorem spec_DrawCloseRel (a : Option Addr) (len cap : Nat) (zs : List Int) (w : World) (h : IsRow .u8 w a len cap zs) :
    Calls Try.prog 33 #[.slice a len cap] w (Drawn1 5 w) := by
  go_enter Try.func33, Try.ntmps33
  go_wp2_with fail
  refine (spec_l14Open a len cap zs w h).mono ?_
  rintro e w1 ⟨b, hb, rfl, hR, hB⟩
  have HR := Lib.hid hR
  have HB := Lib.hid hB
  clear hR hB h
  go_wp2_with fail
  refine (spec_l2Open b 0 _ HR.out (by omega)).mono ?_
  rintro e w2 ⟨s, q, hs, hq, rfl, hR2, hE2⟩
  have Hs := Lib.hid hs
  have HB2 := Lib.hid (HB.out.trans (hE2.below hb HB.out.size))
  clear hR2 hE2 hs HB HR
  go_wp2_with fail
  go_ret
  exact ⟨_, Hs.out, rfl, HB2.out⟩
theorem spec_DrawComposeRel (a : Option Addr) (len cap : Nat) (zs : List Int) (w : World) (h : IsRow .u8 w a len cap zs) :
    Calls Try.prog 21 #[.slice a len cap] w (Drawn2 5 w) := by
  go_enter Try.func21, Try.ntmps21
  go_wp2_with fail
  refine (spec_l14Open a len cap zs w h).mono ?_
  rintro e w1 ⟨b, hb, rfl, hR, hB⟩
  have HR := Lib.hid hR
  have HB := Lib.hid hB
  clear hR hB h
  go_wp2_with fail
  refine (spec_l2Pair b 0 _ HR.out (by omega)).mono ?_
  rintro e w2 ⟨s, t, q, hs, ht, hq, rfl, hR2, hE2⟩
  have Hs := Lib.hid hs
  have Ht := Lib.hid ht
  have HB2 := Lib.hid (HB.out.trans (hE2.below hb HB.out.size))
  clear hR2 hE2 hs ht HB HR
  go_wp2_with fail
  go_ret2
  exact ⟨_, _, Hs.out, Ht.out, rfl, HB2.out⟩
theorem spec_DrawAndRel (a : Option Addr) (len cap : Nat) (zs : List Int) (w : World) (h : IsRow .u8 w a len cap zs) :
    Calls Try.prog 38 #[.slice a len cap] w (Drawn2 5 w) := by
  go_enter Try.func38, Try.ntmps38
  go_wp2_with fail
  refine (spec_l14Open a len cap zs w h).mono ?_
  rintro e w1 ⟨b, hb, rfl, hR, hB⟩
  have HR := Lib.hid hR
  have HB := Lib.hid hB
  clear hR hB h
  go_wp2_with fail
  refine (spec_l2Pair b 0 _ HR.out (by omega)).mono ?_
  rintro e w2 ⟨s, t, q, hs, ht, hq, rfl, hR2, hE2⟩
  have Hs := Lib.hid hs
  have Ht := Lib.hid ht
  have HB2 := Lib.hid (HB.out.trans (hE2.below hb HB.out.size))
  clear hR2 hE2 hs ht HB HR
  go_wp2_with fail
  go_ret2
  exact ⟨_, _, Hs.out, Ht.out, rfl, HB2.out⟩
theorem spec_DrawTestRel (a : Option Addr) (len cap : Nat) (zs : List Int) (w : World) (h : IsRow .u8 w a len cap zs) :
    Calls Try.prog 10 #[.slice a len cap] w (DrawnI w) := by
  go_enter Try.func10, Try.ntmps10
  go_wp2_with fail
  refine (spec_l14Open a len cap zs w h).mono ?_
  rintro e w1 ⟨b, hb, rfl, hR, hB⟩
  have HR := Lib.hid hR
  have HB := Lib.hid hB
  clear hR hB h
  go_wp2_with fail
  refine (spec_l1Some b 0 _ HR.out (by omega)).mono ?_
  rintro e w2 ⟨v, rfl, hR2, hE2⟩
  have HB2 := Lib.hid (HB.out.trans (hE2.below hb HB.out.size))
  clear hR2 hE2 HB HR
  go_wp2_with fail
  go_ret
  exact ⟨_, rfl, HB2.out⟩
theorem spec_DrawImageOf (a : Option Addr) (len cap : Nat) (zs : List Int) (w : World) (h : IsRow .u8 w a len cap zs) :
    Calls Try.prog 44 #[.slice a len cap] w (DrawnTI 5 w) := by
  go_enter Try.func44, Try.ntmps44
  go_wp2_with fail
  refine (spec_l14Open a len cap zs w h).mono ?_
  rintro e w1 ⟨b, hb, rfl, hR, hB⟩
  have HR := Lib.hid hR
  have HB := Lib.hid hB
  clear hR hB h
  go_wp2_with fail
  refine (spec_l2Open b 0 _ HR.out (by omega)).mono ?_
  rintro e w2 ⟨s, q, hs, hq, rfl, hR2, hE2⟩
  have Hs := Lib.hid hs
  have HR2 := Lib.hid hR2
  have HB2 := Lib.hid (HB.out.trans (hE2.below hb HB.out.size))
  clear hR2 hE2 hs HB HR
  go_wp2_with fail
  refine (spec_l1Some b q _ HR2.out (by omega)).mono ?_
  rintro e w3 ⟨v, rfl, hR3, hE3⟩
  have HB3 := Lib.hid (HB2.out.trans (hE3.below hb HB2.out.size))
  clear hR3 hE3
  go_wp2_with fail
  go_ret2
  exact ⟨_, _, Hs.out, rfl, HB3.out⟩
theorem spec_DrawRelates (a : Option Addr) (len cap : Nat) (zs : List Int) (w : World) (h : IsRow .u8 w a len cap zs) :
    Calls Try.prog 26 #[.slice a len cap] w (DrawnTII 5 w) := by
  go_enter Try.func26, Try.ntmps26
  go_wp2_with fail
  refine (spec_l14Open a len cap zs w h).mono ?_
  rintro e w1 ⟨b, hb, rfl, hR, hB⟩
  have HR := Lib.hid hR
  have HB := Lib.hid hB
  clear hR hB h
  go_wp2_with fail
  refine (spec_l2Open b 0 _ HR.out (by omega)).mono ?_
  rintro e w2 ⟨s, q, hs, hq, rfl, hR2, hE2⟩
  have Hs := Lib.hid hs
  have HR2 := Lib.hid hR2
  have HB2 := Lib.hid (HB.out.trans (hE2.below hb HB.out.size))
  clear hR2 hE2 hs HB HR
  go_wp2_with fail
  refine (spec_l1Spot b q _ HR2.out (by omega)).mono ?_
  rintro e w3 ⟨v, rfl, hR3, hE3⟩
  have HR3 := Lib.hid hR3
  have HB3 := Lib.hid (HB2.out.trans (hE3.below hb HB2.out.size))
  clear hR3 hE3 HR2 HB2
  go_wp2_with fail
  refine (spec_l1Spot b (q + 2) _ HR3.out (by omega)).mono ?_
  rintro e w4 ⟨v2, rfl, hR4, hE4⟩
  have HB4 := Lib.hid (HB3.out.trans (hE4.below hb HB3.out.size))
  clear hR4 hE4
  go_wp2_with fail
  go_ret3
  exact ⟨_, _, _, Hs.out, rfl, HB4.out⟩
end Go.Proofs.Ytlebkjjknggjfaa
