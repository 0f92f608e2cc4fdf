/-
  Contracts of the draws of numbers and texts, and of the draw for PlayValue.
-/
import Derived.Test.YtbheabeeomaagaaRd2
import Derived.Test.YtbheabeeomaagaaT
import Derived.Test.YtbheabeeomaagaaRd
import Derived.Deep.QuietTactic
import Derived.BigQuiet
namespace Go.Proofs.Ytbheabeeomaagaa
open Go.RowKit Go.DC
set_option maxHeartbeats 1000000
set_option linter.unusedVariables false
set_option linter.unusedSimpArgs false

theorem spec_num (b p c n : Nat) (f : Nat → Int) (w : World) (hr : Rd w b p) (hp : p ≤ 1000000) (hn : 1 ≤ n) (hn2 : n ≤ 1000000) (hl : Row w c n f) (hc : c ≠ b) :
    Calls Try.prog 91 #[.pointer (some ⟨b, 0, none⟩), .slice (some ⟨c, 0, none⟩) n n] w fun e w' => DrawN b p 1 w e w' := by
  have Hl := Lib.hid hl
  have Hc := Lib.hid hc
  clear hl hc
  go_enter Try.func91, Try.ntmps91
  go_wp2_with fail
  refine (spec_pick b p n _ hr hp (by omega) (by omega)).mono ?_
  rintro e w' ⟨v, h0, h1, rfl, hR, hE⟩
  have HR := Lib.hid hR
  have HE := Lib.hid hE
  have hcell := (Hl.out.els hE Hc.out).cell (i := v.toNat) (by omega)
  clear hR hE hr
  go_wp2_with fail
  exact bodyPost_ret (results_tmp rfl _ _ _) rfl ⟨_, rfl, HR.out, HE.out⟩
theorem spec_of (b p c n m : Nat) (f : Nat → ByteArray) (w : World) (hr : Rd w b p) (hp : p ≤ 1000000) (hn : 1 ≤ n) (hn2 : n ≤ 1000000) (hl : Texts w c n f) (hc : c ≠ b) (hm : ∀ i, i < n → (f i).size ≤ m) :
    Calls Try.prog 52 #[.pointer (some ⟨b, 0, none⟩), .slice (some ⟨c, 0, none⟩) n n] w fun e w' => DrawT b p 1 m w e w' := by
  have Hl := Lib.hid hl
  have Hc := Lib.hid hc
  have Hm := Lib.hid hm
  clear hl hc hm
  go_enter Try.func52, Try.ntmps52
  go_wp2_with fail
  refine (spec_pick b p n _ hr hp (by omega) (by omega)).mono ?_
  rintro e w' ⟨v, h0, h1, rfl, hR, hE⟩
  have HR := Lib.hid hR
  have HE := Lib.hid hE
  have hcell := (Hl.out.els hE Hc.out).2 v.toNat (by omega)
  have Hsz := Lib.hid (Hm.out v.toNat (by omega))
  clear hR hE hr
  go_wp2_with fail
  exact bodyPost_ret (results_tmp rfl _ _ _) rfl ⟨_, Hsz.out, rfl, HR.out, HE.out⟩
theorem spec_l1Spot (b p : Nat) (w : World) (hr : Rd w b p) (hp : p ≤ 999990) :
    Calls Try.prog 51 #[.pointer (some ⟨b, 0, none⟩)] w fun e w' => DrawN b p 2 w e w' := by
  go_enter Try.func51, Try.ntmps51
  go_wp2_with fail
  refine (spec_pick b p 24 _ hr (by omega) (by omega) (by omega)).mono ?_
  rintro e w1 ⟨v, h0, h1, rfl, hR, hE⟩
  have HR := Lib.hid hR
  have HE := Lib.hid hE
  clear hR hE hr
  cases hv : (v == 0)
  · go_wp2_with fail
    refine (spec_pick b (p + 1) 4 _ HR.out (by omega) (by omega) (by omega)).mono ?_
    rintro e w2 ⟨v2, h2, h3, rfl, hR2, hE2⟩
    have HR2 := Lib.hid hR2
    have HE2 := Lib.hid (HE.out.trans hE2)
    clear hR2 hE2
    go_wp2_with fail
    exact bodyPost_ret (results_tmp rfl _ _ _) rfl ⟨_, rfl, HR2.out, HE2.out⟩
  · have Hl := Lib.hid (Row.list3 w1 3 (-1) 4 9223372036854775807)
    have Hb := Lib.hid HR.out.lt
    have HR3 := Lib.hid (HR.out.below (ba1 w1 (.cells #[.int .i64 (-1), .int .i64 4, .int .i64 9223372036854775807] 3)))
    have HE3 := Lib.hid (HE.out.alloc (.cells #[.int .i64 (-1), .int .i64 4, .int .i64 9223372036854775807] 3))
    clear HR HE
    go_wp2_with fail
    refine (spec_num b (p + 1) _ 3 _ _ HR3.out (by omega) (by omega) (by omega) Hl.out (by have := Hb.out; omega)).mono ?_
    rintro e w2 ⟨v2, rfl, hR2, hE2⟩
    have HR2 := Lib.hid hR2
    have HE2 := Lib.hid (HE3.out.trans hE2)
    clear hR2 hE2
    go_wp2_with fail
    exact bodyPost_ret (results_tmp rfl _ _ _) rfl ⟨_, rfl, HR2.out, HE2.out⟩
theorem spec_l1Some (b p : Nat) (w : World) (hr : Rd w b p) (hp : p ≤ 999990) :
    Calls Try.prog 53 #[.pointer (some ⟨b, 0, none⟩)] w fun e w' => DrawN b p 2 w e w' := by
  go_enter Try.func53, Try.ntmps53
  go_wp2_with fail
  refine (spec_pick b p 24 _ hr (by omega) (by omega) (by omega)).mono ?_
  rintro e w1 ⟨v, h0, h1, rfl, hR, hE⟩
  have HR := Lib.hid hR
  have HE := Lib.hid hE
  clear hR hE hr
  cases hv : (v == 0)
  · go_wp2_with fail
    refine (spec_pick b (p + 1) 16 _ HR.out (by omega) (by omega) (by omega)).mono ?_
    rintro e w2 ⟨v2, h2, h3, rfl, hR2, hE2⟩
    have HR2 := Lib.hid hR2
    have HE2 := Lib.hid (HE.out.trans hE2)
    clear hR2 hE2
    go_wp2_with fail
    exact bodyPost_ret (results_tmp rfl _ _ _) rfl ⟨_, rfl, HR2.out, HE2.out⟩
  · have Hl := Lib.hid (Row.list3 w1 3 (-1) 16 9223372036854775807)
    have Hb := Lib.hid HR.out.lt
    have HR3 := Lib.hid (HR.out.below (ba1 w1 (.cells #[.int .i64 (-1), .int .i64 16, .int .i64 9223372036854775807] 3)))
    have HE3 := Lib.hid (HE.out.alloc (.cells #[.int .i64 (-1), .int .i64 16, .int .i64 9223372036854775807] 3))
    clear HR HE
    go_wp2_with fail
    refine (spec_num b (p + 1) _ 3 _ _ HR3.out (by omega) (by omega) (by omega) Hl.out (by have := Hb.out; omega)).mono ?_
    rintro e w2 ⟨v2, rfl, hR2, hE2⟩
    have HR2 := Lib.hid hR2
    have HE2 := Lib.hid (HE3.out.trans hE2)
    clear hR2 hE2
    go_wp2_with fail
    exact bodyPost_ret (results_tmp rfl _ _ _) rfl ⟨_, rfl, HR2.out, HE2.out⟩
/-- What opening a reader leaves. -/
def Opened (w : World) (e : Ending) (w' : World) : Prop := ∃ b, w.heap.size ≤ b ∧ e = .returned (.pointer (some ⟨b, 0, none⟩)) ∧ Rd w' b 0 ∧ Below w.heap.size w w'
theorem spec_l14Open (a : Option Addr) (len cap : Nat) (zs : List Int) (w : World) (h : IsRow .u8 w a len cap zs) :
    Calls Try.prog 50 #[.slice a len cap] w fun e w' => Opened w e w' := by
  have Hrow := Lib.hid h
  by_cases hl : 2000 < len
  · rcases h with ⟨_, h, _⟩ | ⟨x, rfl, hlc, hm, hz, hcell, hwf⟩
    · exact absurd h (by omega)
    · unfold maxLen at hm
      clear hcell hwf hz
      have hd : decide ((2000 : Int) < len) = true := by simp; omega
      go_enter Try.func50, Try.ntmps50
      go_wp2_with fail
      exact bodyPost_ret (results_tmp rfl _ _ _) rfl ⟨w.heap.size, Nat.le_refl _, rfl, Rd.of_row Hrow.out (by omega) (by omega) (Nat.le_refl _) (ba1 _ _) (heap_alloc_last w _), ba1 _ _⟩
  · have hd : decide ((2000 : Int) < len) = false := by simp; omega
    clear h
    go_enter Try.func50, Try.ntmps50
    go_wp2_with fail
    exact bodyPost_ret (results_tmp rfl _ _ _) rfl ⟨w.heap.size, Nat.le_refl _, rfl, Rd.of_row Hrow.out (by omega) (by omega) (Nat.le_refl _) (ba1 _ _) (heap_alloc_last w _), ba1 _ _⟩
def DrewPV (w : World) (e : Ending) (w' : World) : Prop := ∃ (s : Int) (t : ByteArray) (p : Int), e = .returned (.tuple #[.int .i64 s, .string t, .int .i64 p]) ∧ Below w.heap.size w w'
theorem spec_DrawPlayValue (a : Option Addr) (len cap : Nat) (zs : List Int) (w : World) (h : IsRow .u8 w a len cap zs) :
    Calls Try.prog 19 #[.slice a len cap] w fun e w' => DrewPV w e w' := by
  go_enter Try.func19, Try.ntmps19
  go_wp2_with fail
  refine (spec_l14Open a len cap zs w h).mono ?_
  rintro e w1 ⟨b, hb, rfl, hR, hB⟩
  have HR := Lib.hid hR
  have HB := Lib.hid hB
  clear hR hB h
  go_wp2_with fail
  refine (spec_l1Spot b 0 _ HR.out (by omega)).mono ?_
  rintro e w2 ⟨v, rfl, hR2, hE2⟩
  have HR2 := Lib.hid hR2
  have HB2 := Lib.hid (HB.out.trans (hE2.below hb HB.out.size))
  clear hR2 hE2 HR HB
  have Ht := Lib.hid (Texts.new w2 9 [⟨#[100, 111, 110, 101]⟩, ⟨#[97, 110, 103, 101, 108]⟩, ⟨#[100, 101, 109, 111, 110]⟩, ⟨#[100, 111, 110, 101]⟩, ⟨#[108, 111, 110, 103]⟩, ⟨#[]⟩])
  have Hm := Lib.hid (tx_size (l := [⟨#[100, 111, 110, 101]⟩, ⟨#[97, 110, 103, 101, 108]⟩, ⟨#[100, 101, 109, 111, 110]⟩, ⟨#[100, 111, 110, 101]⟩, ⟨#[108, 111, 110, 103]⟩, ⟨#[]⟩]) (m := 100) (by decide))
  have HR3 := Lib.hid (HR2.out.below (ba1 w2 (.cells (([⟨#[100, 111, 110, 101]⟩, ⟨#[97, 110, 103, 101, 108]⟩, ⟨#[100, 101, 109, 111, 110]⟩, ⟨#[100, 111, 110, 101]⟩, ⟨#[108, 111, 110, 103]⟩, ⟨#[]⟩] : List ByteArray).map Value.string).toArray 9)))
  have HB3 := Lib.hid (bgo HB2.out (ba1 w2 (.cells (([⟨#[100, 111, 110, 101]⟩, ⟨#[97, 110, 103, 101, 108]⟩, ⟨#[100, 101, 109, 111, 110]⟩, ⟨#[100, 111, 110, 101]⟩, ⟨#[108, 111, 110, 103]⟩, ⟨#[]⟩] : List ByteArray).map Value.string).toArray 9)))
  have Hlt := Lib.hid HR2.out.lt
  clear HR2 HB2
  go_wp2_with fail
  refine (spec_of b (0 + 2) w2.heap.size 6 100 _ _ HR3.out (by omega) (by omega) (by omega) Ht.out (by have := Hlt.out; omega) Hm.out).mono ?_
  rintro e w4 ⟨t, _, rfl, hR4, hE4⟩
  have HR4 := Lib.hid hR4
  have HB4 := Lib.hid (HB3.out.trans (hE4.below hb HB3.out.size))
  clear hR4 hE4 HR3 HB3
  go_wp2_with fail
  refine (spec_l1Some b _ _ HR4.out (by omega)).mono ?_
  rintro e w5 ⟨q, rfl, hR5, hE5⟩
  have HB5 := Lib.hid (HB4.out.trans (hE5.below hb HB4.out.size))
  clear hR5 hE5 HR4 HB4
  go_wp2_with fail
  go_ret3
  exact ⟨_, _, _, rfl, HB5.out⟩
end Go.Proofs.Ytbheabeeomaagaa
