/-
  Contracts of the draws of numbers and texts, and of the draw for PlayValue.
-/
import Derived.Test.YtfajaikkagmkeaaRd2
import Derived.Test.YtfajaikkagmkeaaT
import Derived.Test.YtfajaikkagmkeaaG2
import Derived.Deep.QuietTactic
import Derived.BigQuiet
namespace Go.Proofs.Ytfajaikkagmkeaa
open Go.RowKit Go.DC
set_option maxHeartbeats 1000000
set_option linter.unusedVariables false
set_option linter.unusedSimpArgs false

theorem spec_num (b p c n : Nat) (f : Nat → Int) (w : World) (hr : Rd w b p) (hp : p ≤ 1000000) (hn : 1 ≤ n) (hn2 : n ≤ 1000000) (hl : Row w c n f) (hc : c ≠ b) :
    Calls Try.prog 101 #[.pointer (some ⟨b, 0, none⟩), .slice (some ⟨c, 0, none⟩) n n] w fun e w' => DrawN b p 1 w e w' := by
  have Hl := Lib.hid hl
  have Hc := Lib.hid hc
  clear hl hc
  go_enter Try.func101, Try.ntmps101
  go_wp2_with fail
  refine (spec_pick b p n _ hr hp (by omega) (by omega)).mono ?_
  rintro e w' ⟨v, h0, h1, rfl, hR, hE⟩
  have HR := Lib.hid hR
  have HE := Lib.hid hE
  have hcell := (Hl.out.els hE Hc.out).cell (i := v.toNat) (by omega)
  clear hR hE hr
  go_wp2_with fail
  exact bodyPost_ret (results_tmp rfl _ _ _) rfl ⟨_, rfl, HR.out, HE.out⟩
theorem spec_of (b p c n m : Nat) (f : Nat → ByteArray) (w : World) (hr : Rd w b p) (hp : p ≤ 1000000) (hn : 1 ≤ n) (hn2 : n ≤ 1000000) (hl : Texts w c n f) (hc : c ≠ b) (hm : ∀ i, i < n → (f i).size ≤ m) :
    Calls Try.prog 141 #[.pointer (some ⟨b, 0, none⟩), .slice (some ⟨c, 0, none⟩) n n] w fun e w' => DrawT b p 1 m w e w' := by
  have Hl := Lib.hid hl
  have Hc := Lib.hid hc
  have Hm := Lib.hid hm
  clear hl hc hm
  go_enter Try.func141, Try.ntmps141
  go_wp2_with fail
  refine (spec_pick b p n _ hr hp (by omega) (by omega)).mono ?_
  rintro e w' ⟨v, h0, h1, rfl, hR, hE⟩
  have HR := Lib.hid hR
  have HE := Lib.hid hE
  have hcell := (Hl.out.els hE Hc.out).2 v.toNat (by omega)
  have Hsz := Lib.hid (Hm.out v.toNat (by omega))
  clear hR hE hr
  go_wp2_with fail
  exact bodyPost_ret (results_tmp rfl _ _ _) rfl ⟨_, Hsz.out, rfl, HR.out, HE.out⟩
theorem spec_l1Spot (b p : Nat) (w : World) (hr : Rd w b p) (hp : p ≤ 999990) :
    Calls Try.prog 59 #[.pointer (some ⟨b, 0, none⟩)] w fun e w' => DrawN b p 2 w e w' := by
  go_enter Try.func59, Try.ntmps59
  go_wp2_with fail
  refine (spec_pick b p 24 _ hr (by omega) (by omega) (by omega)).mono ?_
  rintro e w1 ⟨v, h0, h1, rfl, hR, hE⟩
  have HR := Lib.hid hR
  have HE := Lib.hid hE
  clear hR hE hr
  cases hv : (v == 0)
  · go_wp2_with fail
    refine (spec_pick b (p + 1) 4 _ HR.out (by omega) (by omega) (by omega)).mono ?_
    rintro e w2 ⟨v2, h2, h3, rfl, hR2, hE2⟩
    have HR2 := Lib.hid hR2
    have HE2 := Lib.hid (HE.out.trans hE2)
    clear hR2 hE2
    go_wp2_with fail
    exact bodyPost_ret (results_tmp rfl _ _ _) rfl ⟨_, rfl, HR2.out, HE2.out⟩
  · have Hl := Lib.hid (Row.list3 w1 3 (-1) 4 9223372036854775807)
    have Hb := Lib.hid HR.out.lt
    have HR3 := Lib.hid (HR.out.below (ba1 w1 (.cells #[.int .i64 (-1), .int .i64 4, .int .i64 9223372036854775807] 3)))
    have HE3 := Lib.hid (HE.out.alloc (.cells #[.int .i64 (-1), .int .i64 4, .int .i64 9223372036854775807] 3))
    clear HR HE
    go_wp2_with fail
    refine (spec_num b (p + 1) _ 3 _ _ HR3.out (by omega) (by omega) (by omega) Hl.out (by have := Hb.out; omega)).mono ?_
    rintro e w2 ⟨v2, rfl, hR2, hE2⟩
    have HR2 := Lib.hid hR2
    have HE2 := Lib.hid (HE3.out.trans hE2)
    clear hR2 hE2
    go_wp2_with fail
    exact bodyPost_ret (results_tmp rfl _ _ _) rfl ⟨_, rfl, HR2.out, HE2.out⟩
theorem spec_l1Some (b p : Nat) (w : World) (hr : Rd w b p) (hp : p ≤ 999990) :
    Calls Try.prog 60 #[.pointer (some ⟨b, 0, none⟩)] w fun e w' => DrawN b p 2 w e w' := by
  go_enter Try.func60, Try.ntmps60
  go_wp2_with fail
  refine (spec_pick b p 24 _ hr (by omega) (by omega) (by omega)).mono ?_
  rintro e w1 ⟨v, h0, h1, rfl, hR, hE⟩
  have HR := Lib.hid hR
  have HE := Lib.hid hE
  clear hR hE hr
  cases hv : (v == 0)
  · go_wp2_with fail
    refine (spec_pick b (p + 1) 16 _ HR.out (by omega) (by omega) (by omega)).mono ?_
    rintro e w2 ⟨v2, h2, h3, rfl, hR2, hE2⟩
    have HR2 := Lib.hid hR2
    have HE2 := Lib.hid (HE.out.trans hE2)
    clear hR2 hE2
    go_wp2_with fail
    exact bodyPost_ret (results_tmp rfl _ _ _) rfl ⟨_, rfl, HR2.out, HE2.out⟩
  · have Hl := Lib.hid (Row.list3 w1 3 (-1) 16 9223372036854775807)
    have Hb := Lib.hid HR.out.lt
    have HR3 := Lib.hid (HR.out.below (ba1 w1 (.cells #[.int .i64 (-1), .int .i64 16, .int .i64 9223372036854775807] 3)))
    have HE3 := Lib.hid (HE.out.alloc (.cells #[.int .i64 (-1), .int .i64 16, .int .i64 9223372036854775807] 3))
    clear HR HE
    go_wp2_with fail
    refine (spec_num b (p + 1) _ 3 _ _ HR3.out (by omega) (by omega) (by omega) Hl.out (by have := Hb.out; omega)).mono ?_
    rintro e w2 ⟨v2, rfl, hR2, hE2⟩
    have HR2 := Lib.hid hR2
    have HE2 := Lib.hid (HE3.out.trans hE2)
    clear hR2 hE2
    go_wp2_with fail
    exact bodyPost_ret (results_tmp rfl _ _ _) rfl ⟨_, rfl, HR2.out, HE2.out⟩
/-- What opening a reader leaves. -/
def Opened (w : World) (e : Ending) (w' : World) : Prop := ∃ b, w.heap.size ≤ b ∧ e = .returned (.pointer (some ⟨b, 0, none⟩)) ∧ Rd w' b 0 ∧ Below w.heap.size w w'
theorem spec_l14Open (a : Option Addr) (len cap : Nat) (zs : List Int) (w : World) (h : IsRow .u8 w a len cap zs) :
    Calls Try.prog 57 #[.slice a len cap] w fun e w' => Opened w e w' := by
  have Hrow := Lib.hid h
  by_cases hl : 2000 < len
  · rcases h with ⟨_, h, _⟩ | ⟨x, rfl, hlc, hm, hz, hcell, hwf⟩
    · exact absurd h (by omega)
    · unfold maxLen at hm
      clear hcell hwf hz
      have hd : decide ((2000 : Int) < len) = true := by simp; omega
      go_enter Try.func57, Try.ntmps57
      go_wp2_with fail
      exact bodyPost_ret (results_tmp rfl _ _ _) rfl ⟨w.heap.size, Nat.le_refl _, rfl, Rd.of_row Hrow.out (by omega) (by omega) (Nat.le_refl _) (ba1 _ _) (heap_alloc_last w _), ba1 _ _⟩
  · have hd : decide ((2000 : Int) < len) = false := by simp; omega
    clear h
    go_enter Try.func57, Try.ntmps57
    go_wp2_with fail
    exact bodyPost_ret (results_tmp rfl _ _ _) rfl ⟨w.heap.size, Nat.le_refl _, rfl, Rd.of_row Hrow.out (by omega) (by omega) (Nat.le_refl _) (ba1 _ _) (heap_alloc_last w _), ba1 _ _⟩
end Go.Proofs.Ytfajaikkagmkeaa
