/-
  For every input the law FnDemonAbove returns true: a conjunctive transformer refines one exactly if it refines the least conjunctive one above it; both bounds are dual, and equal the transformer exactly if it is of their kind. No condition.
-/
import Derived.Test.YtmecagiadlimgaaRows
import Derived.Test.YtmecagiadlimgaaA14
import Derived.Test.YtmecagiadlimgaaA16
import Derived.Test.YtmecagiadlimgaaB5
import Derived.Test.YtmecagiadlimgaaRd9
import Derived.Test.YtmecagiadlimgaaQe
import Derived.WalkKit
import Derived.ProofKit
import Derived.OpenShut
import Derived.ShutString
import Derived.ChangeOld
import Derived.Below
namespace Go.Proofs.Ytmecagiadlimgaa.fnDemonAbove
open Go.ChangeShapes Go.WideShapes Go.ChangeAt Go.RowKit Go.DC
open Go.ChangeMaps (open_string shut_string)
set_option linter.unusedVariables false
set_option linter.unusedSimpArgs false
set_option maxHeartbeats 400000
theorem own : ownKnob Try.prog.godebug = none := by kernel_rfl
theorem laidOut : laidOutB Try.prog = true := by kernel_rfl
set_option maxHeartbeats 4000000 in
set_option maxRecDepth 100000 in
theorem walk (a0 : Option Addr) (len0 cap0 : Nat) (z0 : List Int) (a1 : Option Addr) (len1 cap1 : Nat) (z1 : List Int) (w : World) (w0 : IsRow .u8 w a0 len0 cap0 z0) (w1 : IsRow .u8 w a1 len1 cap1 z1) :
    Calls Try.prog 8 #[.slice a0 len0 cap0, .slice a1 len1 cap1] w fun e w' => e = .returned (.bool true) ∧ Below w.heap.size w w' := by
  by_cases hl : (1048576 : Int) < len0
  · clear w0 w1
    go_enter Try.func8, Try.ntmps8
    go_wp2_with fail
    go_ret
    exact ⟨rfl, Below.refl _ _⟩
  by_cases hl1 : (1048576 : Int) < len1
  · clear w0 w1
    go_enter Try.func8, Try.ntmps8
    go_wp2_with fail
    go_ret
    exact ⟨rfl, Below.refl _ _⟩
  have H0 := Lib.hid w0
  have H1 := Lib.hid w1
  clear w0 w1
  go_enter Try.func8, Try.ntmps8
  go_wp2_with fail
  refine (spec_DrawDemonAbove a0 len0 cap0 z0 w H0.out).mono ?_
  rintro e w2 ⟨t, hz, rfl, hB⟩
  have HB := Lib.hid hB
  clear hB H0
  have c1 := fun w => impl_DemonAbove t w
  have c2 := fun w => spec_DemonAbove t w (by unfold maxLen; omega)
  have c3 := fun w => impl_AngelBelow t w
  have c4 := fun w => spec_AngelBelow t w (by unfold maxLen; omega)
  clear hz
  cases ht : tvB t
  case false =>
    rw [ht, orNo_false] at c1 c2 c3 c4
    have C1 := Lib.hid c1
    clear c1
    have C2 := Lib.hid c2
    clear c2
    have C3 := Lib.hid c3
    clear c3
    have C4 := Lib.hid c4
    clear c4
    clear ht
    (go_wp2_with fail; refine (C1.out _).mono ?_; rintro e w' ⟨rfl, hb⟩; have HB := Lib.hid (bgo HB.out hb); clear hb)
    (go_wp2_with fail; refine (C2.out _).mono ?_; rintro e w' ⟨rfl, rfl⟩)
    (go_wp2_with fail; refine (C3.out _).mono ?_; rintro e w' ⟨rfl, hb⟩; have HB := Lib.hid (bgo HB.out hb); clear hb)
    (go_wp2_with fail; refine (C4.out _).mono ?_; rintro e w' ⟨rfl, rfl⟩)
    go_wp2_with fail
    go_ret
    exact ⟨rfl, HB.out⟩
  case true =>
    rw [ht, orNo_true] at c1 c2 c3 c4
    have hT := tvB_Tr ht
    have dU := tvB_txt hT.above
    have dV := tvB_txt hT.dual.above.dual
    have dD := tvB_txt hT.dual
    have dW := tvB_txt hT.dual.above
    have c5 := fun w h => spec_DrawSpecOf a1 len1 cap1 z1 w h
    have c6 := fun o w => impl_IsConjunctive o w
    obtain ⟨S, hS⟩ : ∃ S : ByteArray → Bool, S = fun o => refB (dg t) (dg o) := ⟨_, rfl⟩
    have c7 : ∀ o, tvB o = true → conjB (dg o) = true → ∀ w, Calls Try.prog 49 #[.string t, .string o] w fun e w' => e = .returned (.bool (S o)) ∧ Below w.heap.size w w' := by
      intro o ho hc w
      have h := impl_RefinesTrans t o w
      rw [ht, ho, Bool.and_self, Bool.true_and] at h
      rw [hS]; exact h
    have c8 : ∀ o, tvB o = true → conjB (dg o) = true → ∀ w, Calls Try.prog 49 #[.string (txt 16 (aboveT (dg t))), .string o] w fun e w' => e = .returned (.bool (S o)) ∧ Below w.heap.size w w' := by
      intro o ho hc w
      have h := impl_RefinesTrans (txt 16 (aboveT (dg t))) o w
      rw [dU, ho, Bool.and_self, Bool.true_and, da_ref ht ho hc] at h
      rw [hS]; exact h
    have c9 := fun w => laws_dcDual t w
    rw [ht, orNo_true] at c9
    have c10 := fun w => impl_DemonAbove (txt 16 (dual (dg t))) w
    rw [dD, orNo_true, da_dual ht] at c10
    have c11 := fun w => impl_DemonAbove (txt 16 (aboveT (dg t))) w
    rw [dU, orNo_true, cj_above_txt dU (da_conj ht)] at c11
    have c12 := fun w => impl_IsConjunctive (txt 16 (aboveT (dg t))) w
    rw [dU, da_conj ht, Bool.and_self] at c12
    have c13 := fun w => impl_IsDisjunctive (txt 16 (dual (aboveT (dual (dg t))))) w
    rw [dV, da_disj ht, Bool.and_self] at c13
    have c14 := fun w => impl_RefinesTrans t (txt 16 (aboveT (dg t))) w
    rw [ht, dU, da_up ht, Bool.and_self, Bool.and_self] at c14
    have c15 := fun w => impl_RefinesTrans (txt 16 (dual (aboveT (dual (dg t))))) t w
    rw [ht, dV, da_low ht, Bool.and_self, Bool.and_self] at c15
    have c16 := fun w => laws_dcDual (txt 16 (aboveT (dual (dg t)))) w
    rw [dW, orNo_true, dual_txt hT.dual.above.dg] at c16
    have c17 := fun w => impl_IsConjunctive t w
    rw [ht, Bool.true_and] at c17
    have c18 := fun w => impl_IsDisjunctive t w
    rw [ht, Bool.true_and] at c18
    have HU := Lib.hid (da_same ht)
    have HV := Lib.hid (da_sameV ht)
    clear hS dU dV dD dW hT ht
    generalize txt 16 (aboveT (dg t)) = U at *
    generalize txt 16 (dual (aboveT (dual (dg t)))) = V at *
    generalize txt 16 (aboveT (dual (dg t))) = D at *
    generalize txt 16 (dual (dg t)) = E at *
    generalize conjB (dg t) = cj at *
    generalize disjB (dg t) = dj at *
    have C1 := Lib.hid c1
    clear c1
    have C2 := Lib.hid c2
    clear c2
    have C3 := Lib.hid c3
    clear c3
    have C4 := Lib.hid c4
    clear c4
    have C5 := Lib.hid c5
    clear c5
    have C6 := Lib.hid c6
    clear c6
    have C7 := Lib.hid c7
    clear c7
    have C8 := Lib.hid c8
    clear c8
    have C9 := Lib.hid c9
    clear c9
    have C10 := Lib.hid c10
    clear c10
    have C11 := Lib.hid c11
    clear c11
    have C12 := Lib.hid c12
    clear c12
    have C13 := Lib.hid c13
    clear c13
    have C14 := Lib.hid c14
    clear c14
    have C15 := Lib.hid c15
    clear c15
    have C16 := Lib.hid c16
    clear c16
    have C17 := Lib.hid c17
    clear c17
    have C18 := Lib.hid c18
    clear c18
    (go_wp2_with fail; refine (C1.out _).mono ?_; rintro e w' ⟨rfl, hb⟩; have HB := Lib.hid (bgo HB.out hb); clear hb)
    (go_wp2_with fail; refine (C2.out _).mono ?_; rintro e w' ⟨rfl, rfl⟩)
    (go_wp2_with fail; refine (C3.out _).mono ?_; rintro e w' ⟨rfl, hb⟩; have HB := Lib.hid (bgo HB.out hb); clear hb)
    (go_wp2_with fail; refine (C4.out _).mono ?_; rintro e w' ⟨rfl, rfl⟩)
    go_wp2_with fail
    refine (C5.out _ (Go.Proofs.Ytmecagiadlimgaa.IsRow.go H1.out HB.out)).mono ?_
    rintro e w4 ⟨o, hz, rfl, hb⟩
    have HB := Lib.hid (bgo HB.out hb)
    clear hb hz
    have c6 := C6.out o
    clear C6
    have A6 := Lib.hid c6
    clear c6
    have hcut : ∀ (x : Bool), True := fun _ => trivial
    clear hcut
    cases ho : (tvB o && conjB (dg o))
    case false =>
      have B6 := Lib.hid (show ∀ w, Calls Try.prog 31 #[.string o] w fun e w' => e = .returned (.bool false) ∧ Below w.heap.size w w' from fun w => by have h := A6.out w; rw [ho] at h; exact h)
      clear A6 C7 C8 ho
      (go_wp2_with fail; refine (B6.out _).mono ?_; rintro e w' ⟨rfl, hb⟩; have HB := Lib.hid (bgo HB.out hb); clear hb)
      cases cj <;> cases dj
      case false.false =>
        have n1 : (U.toList == t.toList) = false := by rw [eq_text]; exact decide_eq_false fun h => by cases HU.out.1 h
        have n2 : (V.toList == t.toList) = false := by rw [eq_text]; exact decide_eq_false fun h => by cases HV.out.1 h
        clear HU HV
        (go_wp2_with fail; refine (C9.out _).mono ?_; rintro e w' ⟨rfl, hb⟩; have HB := Lib.hid (bgo HB.out hb); clear hb)
        (go_wp2_with fail; refine (C10.out _).mono ?_; rintro e w' ⟨rfl, hb⟩; have HB := Lib.hid (bgo HB.out hb); clear hb)
        (go_wp2_with fail; refine (C11.out _).mono ?_; rintro e w' ⟨rfl, hb⟩; have HB := Lib.hid (bgo HB.out hb); clear hb)
        (go_wp2_with fail; refine (C12.out _).mono ?_; rintro e w' ⟨rfl, hb⟩; have HB := Lib.hid (bgo HB.out hb); clear hb)
        (go_wp2_with fail; refine (C13.out _).mono ?_; rintro e w' ⟨rfl, hb⟩; have HB := Lib.hid (bgo HB.out hb); clear hb)
        (go_wp2_with fail; refine (C14.out _).mono ?_; rintro e w' ⟨rfl, hb⟩; have HB := Lib.hid (bgo HB.out hb); clear hb)
        (go_wp2_with fail; refine (C15.out _).mono ?_; rintro e w' ⟨rfl, hb⟩; have HB := Lib.hid (bgo HB.out hb); clear hb)
        (go_wp2_with fail; refine (C16.out _).mono ?_; rintro e w' ⟨rfl, hb⟩; have HB := Lib.hid (bgo HB.out hb); clear hb)
        (go_wp2_with fail; refine (C17.out _).mono ?_; rintro e w' ⟨rfl, hb⟩; have HB := Lib.hid (bgo HB.out hb); clear hb)
        (go_wp2_with fail; refine (C18.out _).mono ?_; rintro e w' ⟨rfl, hb⟩; have HB := Lib.hid (bgo HB.out hb); clear hb)
        go_wp2_with fail
        go_ret
        exact ⟨rfl, HB.out⟩
      case false.true =>
        have n1 : (U.toList == t.toList) = false := by rw [eq_text]; exact decide_eq_false fun h => by cases HU.out.1 h
        obtain rfl : V = t := HV.out.2 rfl
        clear HU HV
        (go_wp2_with fail; refine (C9.out _).mono ?_; rintro e w' ⟨rfl, hb⟩; have HB := Lib.hid (bgo HB.out hb); clear hb)
        (go_wp2_with fail; refine (C10.out _).mono ?_; rintro e w' ⟨rfl, hb⟩; have HB := Lib.hid (bgo HB.out hb); clear hb)
        (go_wp2_with fail; refine (C11.out _).mono ?_; rintro e w' ⟨rfl, hb⟩; have HB := Lib.hid (bgo HB.out hb); clear hb)
        (go_wp2_with fail; refine (C12.out _).mono ?_; rintro e w' ⟨rfl, hb⟩; have HB := Lib.hid (bgo HB.out hb); clear hb)
        (go_wp2_with fail; refine (C13.out _).mono ?_; rintro e w' ⟨rfl, hb⟩; have HB := Lib.hid (bgo HB.out hb); clear hb)
        (go_wp2_with fail; refine (C14.out _).mono ?_; rintro e w' ⟨rfl, hb⟩; have HB := Lib.hid (bgo HB.out hb); clear hb)
        (go_wp2_with fail; refine (C15.out _).mono ?_; rintro e w' ⟨rfl, hb⟩; have HB := Lib.hid (bgo HB.out hb); clear hb)
        (go_wp2_with fail; refine (C16.out _).mono ?_; rintro e w' ⟨rfl, hb⟩; have HB := Lib.hid (bgo HB.out hb); clear hb)
        (go_wp2_with fail; refine (C17.out _).mono ?_; rintro e w' ⟨rfl, hb⟩; have HB := Lib.hid (bgo HB.out hb); clear hb)
        (go_wp2_with fail; refine (C18.out _).mono ?_; rintro e w' ⟨rfl, hb⟩; have HB := Lib.hid (bgo HB.out hb); clear hb)
        go_wp2_with fail
        go_ret
        exact ⟨rfl, HB.out⟩
      case true.false =>
        obtain rfl : U = t := HU.out.2 rfl
        have n2 : (V.toList == U.toList) = false := by rw [eq_text]; exact decide_eq_false fun h => by cases HV.out.1 h
        clear HU HV
        (go_wp2_with fail; refine (C9.out _).mono ?_; rintro e w' ⟨rfl, hb⟩; have HB := Lib.hid (bgo HB.out hb); clear hb)
        (go_wp2_with fail; refine (C10.out _).mono ?_; rintro e w' ⟨rfl, hb⟩; have HB := Lib.hid (bgo HB.out hb); clear hb)
        (go_wp2_with fail; refine (C11.out _).mono ?_; rintro e w' ⟨rfl, hb⟩; have HB := Lib.hid (bgo HB.out hb); clear hb)
        (go_wp2_with fail; refine (C12.out _).mono ?_; rintro e w' ⟨rfl, hb⟩; have HB := Lib.hid (bgo HB.out hb); clear hb)
        (go_wp2_with fail; refine (C13.out _).mono ?_; rintro e w' ⟨rfl, hb⟩; have HB := Lib.hid (bgo HB.out hb); clear hb)
        (go_wp2_with fail; refine (C14.out _).mono ?_; rintro e w' ⟨rfl, hb⟩; have HB := Lib.hid (bgo HB.out hb); clear hb)
        (go_wp2_with fail; refine (C15.out _).mono ?_; rintro e w' ⟨rfl, hb⟩; have HB := Lib.hid (bgo HB.out hb); clear hb)
        (go_wp2_with fail; refine (C16.out _).mono ?_; rintro e w' ⟨rfl, hb⟩; have HB := Lib.hid (bgo HB.out hb); clear hb)
        (go_wp2_with fail; refine (C17.out _).mono ?_; rintro e w' ⟨rfl, hb⟩; have HB := Lib.hid (bgo HB.out hb); clear hb)
        (go_wp2_with fail; refine (C18.out _).mono ?_; rintro e w' ⟨rfl, hb⟩; have HB := Lib.hid (bgo HB.out hb); clear hb)
        go_wp2_with fail
        go_ret
        exact ⟨rfl, HB.out⟩
      case true.true =>
        obtain rfl : U = t := HU.out.2 rfl
        obtain rfl : V = U := HV.out.2 rfl
        clear HU HV
        (go_wp2_with fail; refine (C9.out _).mono ?_; rintro e w' ⟨rfl, hb⟩; have HB := Lib.hid (bgo HB.out hb); clear hb)
        (go_wp2_with fail; refine (C10.out _).mono ?_; rintro e w' ⟨rfl, hb⟩; have HB := Lib.hid (bgo HB.out hb); clear hb)
        (go_wp2_with fail; refine (C11.out _).mono ?_; rintro e w' ⟨rfl, hb⟩; have HB := Lib.hid (bgo HB.out hb); clear hb)
        (go_wp2_with fail; refine (C12.out _).mono ?_; rintro e w' ⟨rfl, hb⟩; have HB := Lib.hid (bgo HB.out hb); clear hb)
        (go_wp2_with fail; refine (C13.out _).mono ?_; rintro e w' ⟨rfl, hb⟩; have HB := Lib.hid (bgo HB.out hb); clear hb)
        (go_wp2_with fail; refine (C14.out _).mono ?_; rintro e w' ⟨rfl, hb⟩; have HB := Lib.hid (bgo HB.out hb); clear hb)
        (go_wp2_with fail; refine (C15.out _).mono ?_; rintro e w' ⟨rfl, hb⟩; have HB := Lib.hid (bgo HB.out hb); clear hb)
        (go_wp2_with fail; refine (C16.out _).mono ?_; rintro e w' ⟨rfl, hb⟩; have HB := Lib.hid (bgo HB.out hb); clear hb)
        (go_wp2_with fail; refine (C17.out _).mono ?_; rintro e w' ⟨rfl, hb⟩; have HB := Lib.hid (bgo HB.out hb); clear hb)
        (go_wp2_with fail; refine (C18.out _).mono ?_; rintro e w' ⟨rfl, hb⟩; have HB := Lib.hid (bgo HB.out hb); clear hb)
        go_wp2_with fail
        go_ret
        exact ⟨rfl, HB.out⟩
    case true =>
      obtain ⟨h1, h2⟩ := Bool.and_eq_true_iff.1 ho
      have B6 := Lib.hid (show ∀ w, Calls Try.prog 31 #[.string o] w fun e w' => e = .returned (.bool true) ∧ Below w.heap.size w w' from fun w => by have h := A6.out w; rw [ho] at h; exact h)
      have A7 := Lib.hid (C7.out o h1 h2)
      have A8 := Lib.hid (C8.out o h1 h2)
      clear A6 C7 C8 ho h1 h2
      generalize S o = s at *
      (go_wp2_with fail; refine (B6.out _).mono ?_; rintro e w' ⟨rfl, hb⟩; have HB := Lib.hid (bgo HB.out hb); clear hb)
      (go_wp2_with fail; refine (A7.out _).mono ?_; rintro e w' ⟨rfl, hb⟩; have HB := Lib.hid (bgo HB.out hb); clear hb)
      (go_wp2_with fail; refine (A8.out _).mono ?_; rintro e w' ⟨rfl, hb⟩; have HB := Lib.hid (bgo HB.out hb); clear hb)
      cases cj <;> cases dj
      case false.false =>
        have n1 : (U.toList == t.toList) = false := by rw [eq_text]; exact decide_eq_false fun h => by cases HU.out.1 h
        have n2 : (V.toList == t.toList) = false := by rw [eq_text]; exact decide_eq_false fun h => by cases HV.out.1 h
        clear HU HV
        (go_wp2_with fail; refine (C9.out _).mono ?_; rintro e w' ⟨rfl, hb⟩; have HB := Lib.hid (bgo HB.out hb); clear hb)
        (go_wp2_with fail; refine (C10.out _).mono ?_; rintro e w' ⟨rfl, hb⟩; have HB := Lib.hid (bgo HB.out hb); clear hb)
        (go_wp2_with fail; refine (C11.out _).mono ?_; rintro e w' ⟨rfl, hb⟩; have HB := Lib.hid (bgo HB.out hb); clear hb)
        (go_wp2_with fail; refine (C12.out _).mono ?_; rintro e w' ⟨rfl, hb⟩; have HB := Lib.hid (bgo HB.out hb); clear hb)
        (go_wp2_with fail; refine (C13.out _).mono ?_; rintro e w' ⟨rfl, hb⟩; have HB := Lib.hid (bgo HB.out hb); clear hb)
        (go_wp2_with fail; refine (C14.out _).mono ?_; rintro e w' ⟨rfl, hb⟩; have HB := Lib.hid (bgo HB.out hb); clear hb)
        (go_wp2_with fail; refine (C15.out _).mono ?_; rintro e w' ⟨rfl, hb⟩; have HB := Lib.hid (bgo HB.out hb); clear hb)
        (go_wp2_with fail; refine (C16.out _).mono ?_; rintro e w' ⟨rfl, hb⟩; have HB := Lib.hid (bgo HB.out hb); clear hb)
        (go_wp2_with fail; refine (C17.out _).mono ?_; rintro e w' ⟨rfl, hb⟩; have HB := Lib.hid (bgo HB.out hb); clear hb)
        (go_wp2_with fail; refine (C18.out _).mono ?_; rintro e w' ⟨rfl, hb⟩; have HB := Lib.hid (bgo HB.out hb); clear hb)
        go_wp2_with fail
        go_ret
        exact ⟨rfl, HB.out⟩
      case false.true =>
        have n1 : (U.toList == t.toList) = false := by rw [eq_text]; exact decide_eq_false fun h => by cases HU.out.1 h
        obtain rfl : V = t := HV.out.2 rfl
        clear HU HV
        (go_wp2_with fail; refine (C9.out _).mono ?_; rintro e w' ⟨rfl, hb⟩; have HB := Lib.hid (bgo HB.out hb); clear hb)
        (go_wp2_with fail; refine (C10.out _).mono ?_; rintro e w' ⟨rfl, hb⟩; have HB := Lib.hid (bgo HB.out hb); clear hb)
        (go_wp2_with fail; refine (C11.out _).mono ?_; rintro e w' ⟨rfl, hb⟩; have HB := Lib.hid (bgo HB.out hb); clear hb)
        (go_wp2_with fail; refine (C12.out _).mono ?_; rintro e w' ⟨rfl, hb⟩; have HB := Lib.hid (bgo HB.out hb); clear hb)
        (go_wp2_with fail; refine (C13.out _).mono ?_; rintro e w' ⟨rfl, hb⟩; have HB := Lib.hid (bgo HB.out hb); clear hb)
        (go_wp2_with fail; refine (C14.out _).mono ?_; rintro e w' ⟨rfl, hb⟩; have HB := Lib.hid (bgo HB.out hb); clear hb)
        (go_wp2_with fail; refine (C15.out _).mono ?_; rintro e w' ⟨rfl, hb⟩; have HB := Lib.hid (bgo HB.out hb); clear hb)
        (go_wp2_with fail; refine (C16.out _).mono ?_; rintro e w' ⟨rfl, hb⟩; have HB := Lib.hid (bgo HB.out hb); clear hb)
        (go_wp2_with fail; refine (C17.out _).mono ?_; rintro e w' ⟨rfl, hb⟩; have HB := Lib.hid (bgo HB.out hb); clear hb)
        (go_wp2_with fail; refine (C18.out _).mono ?_; rintro e w' ⟨rfl, hb⟩; have HB := Lib.hid (bgo HB.out hb); clear hb)
        go_wp2_with fail
        go_ret
        exact ⟨rfl, HB.out⟩
      case true.false =>
        obtain rfl : U = t := HU.out.2 rfl
        have n2 : (V.toList == U.toList) = false := by rw [eq_text]; exact decide_eq_false fun h => by cases HV.out.1 h
        clear HU HV
        (go_wp2_with fail; refine (C9.out _).mono ?_; rintro e w' ⟨rfl, hb⟩; have HB := Lib.hid (bgo HB.out hb); clear hb)
        (go_wp2_with fail; refine (C10.out _).mono ?_; rintro e w' ⟨rfl, hb⟩; have HB := Lib.hid (bgo HB.out hb); clear hb)
        (go_wp2_with fail; refine (C11.out _).mono ?_; rintro e w' ⟨rfl, hb⟩; have HB := Lib.hid (bgo HB.out hb); clear hb)
        (go_wp2_with fail; refine (C12.out _).mono ?_; rintro e w' ⟨rfl, hb⟩; have HB := Lib.hid (bgo HB.out hb); clear hb)
        (go_wp2_with fail; refine (C13.out _).mono ?_; rintro e w' ⟨rfl, hb⟩; have HB := Lib.hid (bgo HB.out hb); clear hb)
        (go_wp2_with fail; refine (C14.out _).mono ?_; rintro e w' ⟨rfl, hb⟩; have HB := Lib.hid (bgo HB.out hb); clear hb)
        (go_wp2_with fail; refine (C15.out _).mono ?_; rintro e w' ⟨rfl, hb⟩; have HB := Lib.hid (bgo HB.out hb); clear hb)
        (go_wp2_with fail; refine (C16.out _).mono ?_; rintro e w' ⟨rfl, hb⟩; have HB := Lib.hid (bgo HB.out hb); clear hb)
        (go_wp2_with fail; refine (C17.out _).mono ?_; rintro e w' ⟨rfl, hb⟩; have HB := Lib.hid (bgo HB.out hb); clear hb)
        (go_wp2_with fail; refine (C18.out _).mono ?_; rintro e w' ⟨rfl, hb⟩; have HB := Lib.hid (bgo HB.out hb); clear hb)
        go_wp2_with fail
        go_ret
        exact ⟨rfl, HB.out⟩
      case true.true =>
        obtain rfl : U = t := HU.out.2 rfl
        obtain rfl : V = U := HV.out.2 rfl
        clear HU HV
        (go_wp2_with fail; refine (C9.out _).mono ?_; rintro e w' ⟨rfl, hb⟩; have HB := Lib.hid (bgo HB.out hb); clear hb)
        (go_wp2_with fail; refine (C10.out _).mono ?_; rintro e w' ⟨rfl, hb⟩; have HB := Lib.hid (bgo HB.out hb); clear hb)
        (go_wp2_with fail; refine (C11.out _).mono ?_; rintro e w' ⟨rfl, hb⟩; have HB := Lib.hid (bgo HB.out hb); clear hb)
        (go_wp2_with fail; refine (C12.out _).mono ?_; rintro e w' ⟨rfl, hb⟩; have HB := Lib.hid (bgo HB.out hb); clear hb)
        (go_wp2_with fail; refine (C13.out _).mono ?_; rintro e w' ⟨rfl, hb⟩; have HB := Lib.hid (bgo HB.out hb); clear hb)
        (go_wp2_with fail; refine (C14.out _).mono ?_; rintro e w' ⟨rfl, hb⟩; have HB := Lib.hid (bgo HB.out hb); clear hb)
        (go_wp2_with fail; refine (C15.out _).mono ?_; rintro e w' ⟨rfl, hb⟩; have HB := Lib.hid (bgo HB.out hb); clear hb)
        (go_wp2_with fail; refine (C16.out _).mono ?_; rintro e w' ⟨rfl, hb⟩; have HB := Lib.hid (bgo HB.out hb); clear hb)
        (go_wp2_with fail; refine (C17.out _).mono ?_; rintro e w' ⟨rfl, hb⟩; have HB := Lib.hid (bgo HB.out hb); clear hb)
        (go_wp2_with fail; refine (C18.out _).mono ?_; rintro e w' ⟨rfl, hb⟩; have HB := Lib.hid (bgo HB.out hb); clear hb)
        go_wp2_with fail
        go_ret
        exact ⟨rfl, HB.out⟩
set_option maxRecDepth 100000 in
theorem lifted (os : Os) (started : os.Started) (H : Type) (enc : TypeId × Value → H) :
    ReturnsInHanded {} Try.checked os 8 .any (Rows.fnDemonAboveSpec.pre6 enc Try.prog Try.f8 Rows.fnDemonAboveRow.domain false) (Rows.fnDemonAboveSpec.post enc Try.prog Try.f8 false true false false) := by
  refine returnsInHanded_of_change (C := Try.checked) own started (by kernel_rfl) Try.func8
    (ChangeSpec.witness6 (enc := enc) (C := Try.checked) false ⟨#[], #[.slice none 0 0, .slice none 0 0], []⟩ 8 (by kernel_rfl) (by kernel_rfl) (by kernel_rfl) (by kernel_rfl)) ?_
  intro W base args ds gs before hval0 hW hcnd _
  have hval : ∀ (j : Nat) t v, Try.f8.params[j]? = some t → args[j]? = some v → Value.okWide Try.prog W .any base t v := hval0
  have hW' := hW
  obtain ⟨p, q, hA0, hV, rfl, hfz, hnd⟩ := hW
  have hA : DataW.TrodAll enc Try.prog W 0 (fun _ => true) true Try.f8.params.toList args.toList ds p := hA0
  rw [Try.params8] at hA hval
  obtain ⟨v0, vs0, d0, ds0, p0, q0, hargs, rfl, rfl, h0, r0⟩ := trodAll_cons hA
  obtain ⟨v1, vs1, d1, ds1, p1, q1, rfl, rfl, rfl, h1, r1⟩ := trodAll_cons r0
  obtain ⟨rfl, rfl, rfl⟩ := trodAll_nil r1
  obtain rfl : args = #[v0, v1] := by cases args; simp_all
  obtain ⟨rfl, rfl⟩ := trodVars_none hV
  obtain ⟨a0, len0, cap0, rfl⟩ := okWide_slice Try.underlying22 (hval 0 22 v0 rfl rfl)
  have k0 := h0
  have lt0 : ∀ x ∈ p0, x.block < W.heap.size := by obtain ⟨m, hm⟩ := k0; exact DataW.trod_lt m _ _ _ hm
  obtain ⟨z0, w0⟩ : ∃ zs, IsRow .u8 W a0 len0 cap0 zs := by
    obtain ⟨fuel, hf⟩ := h0
    rcases open_ints Try.underlying22 Try.underlying5 (by kernel_rfl) hf with ⟨hcs, _⟩ | ⟨x, l, c, zs, hcs, _, hl, hm, hz, _, hcell, hwz⟩
    · simp [Value.cells] at hcs
      obtain ⟨rfl, rfl, rfl⟩ := hcs
      exact ⟨[], .inl ⟨rfl, rfl, rfl, rfl⟩⟩
    · simp [Value.cells] at hcs
      obtain ⟨rfl, rfl, rfl⟩ := hcs
      exact ⟨zs, .inr ⟨_, rfl, hl, hm, by simpa using hz, hcell, hwz⟩⟩
  obtain ⟨a1, len1, cap1, rfl⟩ := okWide_slice Try.underlying22 (hval 1 22 v1 rfl rfl)
  have k1 := h1
  have lt1 : ∀ x ∈ p1, x.block < W.heap.size := by obtain ⟨m, hm⟩ := k1; exact DataW.trod_lt m _ _ _ hm
  obtain ⟨z1, w1⟩ : ∃ zs, IsRow .u8 W a1 len1 cap1 zs := by
    obtain ⟨fuel, hf⟩ := h1
    rcases open_ints Try.underlying22 Try.underlying5 (by kernel_rfl) hf with ⟨hcs, _⟩ | ⟨x, l, c, zs, hcs, _, hl, hm, hz, _, hcell, hwz⟩
    · simp [Value.cells] at hcs
      obtain ⟨rfl, rfl, rfl⟩ := hcs
      exact ⟨[], .inl ⟨rfl, rfl, rfl, rfl⟩⟩
    · simp [Value.cells] at hcs
      obtain ⟨rfl, rfl, rfl⟩ := hcs
      exact ⟨zs, .inr ⟨_, rfl, hl, hm, by simpa using hz, hcell, hwz⟩⟩
  clear hA0 hval0
  refine (walk a0 len0 cap0 z0 a1 len1 cap1 z1 W w0 w1).mono fun e W' ⟨he, bel⟩ => ?_
  subst he
  exact ⟨_, rfl, _, _, _, [], _, [], hW', trodAll_mk1 (shut_bool Try.underlying4 _), (trodAll_cons_mk (Below.trod laidOut (by kernel_rfl) (of_decide_eq_true (by kernel_rfl)) k0 bel lt0) (trodAll_cons_mk (Below.trod laidOut (by kernel_rfl) (of_decide_eq_true (by kernel_rfl)) k1 bel lt1) trodAll_mk0)), rfl, bel.frame _, fun h => by cases h⟩
theorem over : Rows.fnDemonAboveRow.holds Try.pinned (OpenSpec.ofChange Rows.fnDemonAboveSpec) :=
  OpenClaim.holds_of_wide 8 Try.f8 rfl rfl rfl rfl rfl rfl rfl ⟨rfl, rfl, rfl, rfl, rfl⟩ rfl rfl rfl rfl rfl (by kernel_rfl) Try.func8 (by kernel_rfl)
    (of_decide_eq_true (by kernel_rfl)) (by unfold Func.isWrapper; first | (rw [if_pos (by decide +kernel)]; kernel_rfl) | (rw [if_neg (by decide +kernel)]; exact ⟨rfl, rfl⟩))
    (fun os started H enc _ => lifted os started H enc)
end Go.Proofs.Ytmecagiadlimgaa.fnDemonAbove
namespace Go.Proofs.Ytmecagiadlimgaa
theorem fnDemonAbove_holds : Rows.FnDemonAboveSaid := fnDemonAbove.over
#print axioms fnDemonAbove_holds
end Go.Proofs.Ytmecagiadlimgaa
