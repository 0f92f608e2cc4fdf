/-
  For every input the law FnImagesCompose returns true: images and boxes go through composition, and those of a union are connected. No condition.
-/
import Derived.Test.YtlebkjjknggjfaaRows
import Derived.Test.YtlebkjjknggjfaaA14
import Derived.Test.YtlebkjjknggjfaaB6
import Derived.Test.YtlebkjjknggjfaaRd5
import Derived.Test.YtlebkjjknggjfaaPw
import Derived.WalkKit
import Derived.ProofKit
import Derived.OpenShut
import Derived.ShutString
import Derived.ChangeOld
import Derived.Below
namespace Go.Proofs.Ytlebkjjknggjfaa.fnImagesCompose
open Go.ChangeShapes Go.WideShapes Go.ChangeAt Go.RowKit Go.DC
open Go.ChangeMaps (open_string shut_string)
set_option linter.unusedVariables false
set_option linter.unusedSimpArgs false
set_option maxHeartbeats 400000
theorem own : ownKnob Try.prog.godebug = none := by kernel_rfl
theorem laidOut : laidOutB Try.prog = true := by kernel_rfl
theorem walk (a0 : Option Addr) (len0 cap0 : Nat) (z0 : List Int) (a1 : Option Addr) (len1 cap1 : Nat) (z1 : List Int) (w : World) (w0 : IsRow .u8 w a0 len0 cap0 z0) (w1 : IsRow .u8 w a1 len1 cap1 z1) :
    Calls Try.prog 8 #[.slice a0 len0 cap0, .slice a1 len1 cap1] w fun e w' => e = .returned (.bool true) ∧ Below w.heap.size w w' := by
  by_cases hl : (1048576 : Int) < len0
  · clear w0 w1
    go_enter Try.func8, Try.ntmps8
    go_wp2_with fail
    go_ret
    exact ⟨rfl, Below.refl _ _⟩
  by_cases hl1 : (1048576 : Int) < len1
  · clear w0 w1
    go_enter Try.func8, Try.ntmps8
    go_wp2_with fail
    go_ret
    exact ⟨rfl, Below.refl _ _⟩
  have H0 := Lib.hid w0
  clear w0 w1
  go_enter Try.func8, Try.ntmps8
  go_wp2_with fail
  refine (spec_DrawComposeRel a0 len0 cap0 z0 w H0.out).mono ?_
  rintro e w2 ⟨r, t, hz, hz2, rfl, hB⟩
  have HB := Lib.hid hB
  clear hB H0
  have c1 := fun w => impl_ComposeRel r t w
  have c2 := fun w => spec_ComposeRel r t w (by unfold maxLen; omega) (by unfold maxLen; omega)
  clear hz hz2
  cases hv : (dvB 4 r && dvB 4 t)
  case false =>
    rw [hv] at c1 c2
    rw [orNo_false] at c1 c2
    have C1 := Lib.hid c1
    clear c1
    have C2 := Lib.hid c2
    clear c2
    clear hv
    (go_wp2_with fail; refine (C1.out _).mono ?_; rintro e w' ⟨rfl, hb⟩; have HB := Lib.hid (bgo HB.out hb); clear hb)
    (go_wp2_with fail; refine (C2.out _).mono ?_; rintro e w' ⟨rfl, rfl⟩)
    go_wp2_with fail
    go_ret
    exact ⟨rfl, HB.out⟩
  case true =>
    rw [hv] at c1 c2
    rw [orNo_true] at c1 c2
    obtain ⟨hr, ht⟩ := Bool.and_eq_true_iff.1 hv
    have hX := dvB_Dg hr
    have hY := dvB_Dg ht
    have hcq : Cv ((len1 : Int) % 16) := ⟨by omega, by omega⟩
    obtain ⟨p, hq⟩ : ∃ q, q = (len1 : Int) % 16 := ⟨_, rfl⟩
    rw [← hq] at hcq
    have hvp := cv_iff.2 hcq
    have dK := dvB_txt (thenR_Dg (dg r) hY)
    have dO := dvB_txt (orR_Dg hX hY)
    have c3 := fun w => impl_OrRel r t w
    rw [hr, ht, Bool.and_self, orNo_true, impl_or _ _ hr ht] at c3
    have c4 := fun w => impl_ImageOf (txt 4 (thenR (dg r) (dg t))) p w
    rw [dK, hvp, Bool.and_self, askV_true, ic_img hX hY hcq] at c4
    have c5 := fun w => impl_ImageOf r p w
    rw [hr, hvp, Bool.and_self, askV_true] at c5
    have c6 := fun w => impl_ImageOf t (dia (turn (dg r)) p) w
    rw [ht, cv_iff.2 (dia_cv _ _), Bool.and_self, askV_true] at c6
    have c7 := fun w => impl_DiamondOf (txt 4 (thenR (dg r) (dg t))) p w
    rw [dK, hvp, Bool.and_self, askV_true, ic_dia hX hY hcq] at c7
    have c8 := fun w => impl_DiamondOf t p w
    rw [ht, hvp, Bool.and_self, askV_true] at c8
    have c9 := fun w => impl_DiamondOf r (dia (dg t) p) w
    rw [hr, cv_iff.2 (dia_cv _ _), Bool.and_self, askV_true] at c9
    have c10 := fun w => impl_BoxOf (txt 4 (thenR (dg r) (dg t))) p w
    rw [dK, hvp, Bool.and_self, askV_true, ic_box hX hY hcq] at c10
    have c11 := fun w => impl_BoxOf t p w
    rw [ht, hvp, Bool.and_self, askV_true] at c11
    have c12 := fun w => impl_BoxOf r (boxR (dg t) p) w
    rw [hr, cv_iff.2 (box_cv _ _), Bool.and_self, askV_true] at c12
    have c13 := fun w => impl_BoxOf (txt 4 (orR (dg r) (dg t))) p w
    rw [dO, hvp, Bool.and_self, askV_true, ic_boxor hX hY hcq] at c13
    have c14 := fun w => impl_BoxOf r p w
    rw [hr, hvp, Bool.and_self, askV_true] at c14
    have c15 := fun w => impl_AndCondition (boxR (dg r) p) (boxR (dg t) p) w
    rw [cv_iff.2 (box_cv _ _), cv_iff.2 (box_cv _ _), Bool.and_self, askV_true] at c15
    have c16 := fun w => impl_DiamondOf (txt 4 (orR (dg r) (dg t))) p w
    rw [dO, hvp, Bool.and_self, askV_true, ic_diaor hX hY hcq] at c16
    have c17 := fun w => impl_DiamondOf r p w
    rw [hr, hvp, Bool.and_self, askV_true] at c17
    have c18 := fun w => impl_OrCondition (dia (dg r) p) (dia (dg t) p) w
    rw [cv_iff.2 (dia_cv _ _), cv_iff.2 (dia_cv _ _), Bool.and_self, askV_true] at c18
    clear dK dO hvp hX hY hr ht hv hcq
    generalize txt 4 (thenR (dg r) (dg t)) = K at *
    generalize txt 4 (orR (dg r) (dg t)) = O at *
    generalize dia (turn (dg t)) (dia (turn (dg r)) p) = v1 at *
    generalize dia (turn (dg r)) p = v2 at *
    generalize dia (dg r) (dia (dg t) p) = v3 at *
    generalize boxR (dg r) (boxR (dg t) p) = v4 at *
    generalize dia (dg t) p = v5 at *
    generalize boxR (dg t) p = v6 at *
    generalize dia (dg r) p = v7 at *
    generalize boxR (dg r) p = v8 at *
    generalize band v8 v6 = v9 at *
    generalize bor v7 v5 = v10 at *
    subst hq
    have C1 := Lib.hid c1
    clear c1
    have C2 := Lib.hid c2
    clear c2
    have C3 := Lib.hid c3
    clear c3
    have C4 := Lib.hid c4
    clear c4
    have C5 := Lib.hid c5
    clear c5
    have C6 := Lib.hid c6
    clear c6
    have C7 := Lib.hid c7
    clear c7
    have C8 := Lib.hid c8
    clear c8
    have C9 := Lib.hid c9
    clear c9
    have C10 := Lib.hid c10
    clear c10
    have C11 := Lib.hid c11
    clear c11
    have C12 := Lib.hid c12
    clear c12
    have C13 := Lib.hid c13
    clear c13
    have C14 := Lib.hid c14
    clear c14
    have C15 := Lib.hid c15
    clear c15
    have C16 := Lib.hid c16
    clear c16
    have C17 := Lib.hid c17
    clear c17
    have C18 := Lib.hid c18
    clear c18
    (go_wp2_with fail; refine (C1.out _).mono ?_; rintro e w' ⟨rfl, hb⟩; have HB := Lib.hid (bgo HB.out hb); clear hb)
    (go_wp2_with fail; refine (C2.out _).mono ?_; rintro e w' ⟨rfl, rfl⟩)
    (go_wp2_with fail; refine (C3.out _).mono ?_; rintro e w' ⟨rfl, hb⟩; have HB := Lib.hid (bgo HB.out hb); clear hb)
    (go_wp2_with fail; refine (C4.out _).mono ?_; rintro e w' ⟨rfl, hb⟩; have HB := Lib.hid (bgo HB.out hb); clear hb)
    (go_wp2_with fail; refine (C5.out _).mono ?_; rintro e w' ⟨rfl, hb⟩; have HB := Lib.hid (bgo HB.out hb); clear hb)
    (go_wp2_with fail; refine (C6.out _).mono ?_; rintro e w' ⟨rfl, hb⟩; have HB := Lib.hid (bgo HB.out hb); clear hb)
    (go_wp2_with fail; refine (C7.out _).mono ?_; rintro e w' ⟨rfl, hb⟩; have HB := Lib.hid (bgo HB.out hb); clear hb)
    (go_wp2_with fail; refine (C8.out _).mono ?_; rintro e w' ⟨rfl, hb⟩; have HB := Lib.hid (bgo HB.out hb); clear hb)
    (go_wp2_with fail; refine (C9.out _).mono ?_; rintro e w' ⟨rfl, hb⟩; have HB := Lib.hid (bgo HB.out hb); clear hb)
    (go_wp2_with fail; refine (C10.out _).mono ?_; rintro e w' ⟨rfl, hb⟩; have HB := Lib.hid (bgo HB.out hb); clear hb)
    (go_wp2_with fail; refine (C11.out _).mono ?_; rintro e w' ⟨rfl, hb⟩; have HB := Lib.hid (bgo HB.out hb); clear hb)
    (go_wp2_with fail; refine (C12.out _).mono ?_; rintro e w' ⟨rfl, hb⟩; have HB := Lib.hid (bgo HB.out hb); clear hb)
    (go_wp2_with fail; refine (C13.out _).mono ?_; rintro e w' ⟨rfl, hb⟩; have HB := Lib.hid (bgo HB.out hb); clear hb)
    (go_wp2_with fail; refine (C14.out _).mono ?_; rintro e w' ⟨rfl, hb⟩; have HB := Lib.hid (bgo HB.out hb); clear hb)
    (go_wp2_with fail; refine (C11.out _).mono ?_; rintro e w' ⟨rfl, hb⟩; have HB := Lib.hid (bgo HB.out hb); clear hb)
    (go_wp2_with fail; refine (C15.out _).mono ?_; rintro e w' ⟨rfl, rfl⟩)
    (go_wp2_with fail; refine (C16.out _).mono ?_; rintro e w' ⟨rfl, hb⟩; have HB := Lib.hid (bgo HB.out hb); clear hb)
    (go_wp2_with fail; refine (C17.out _).mono ?_; rintro e w' ⟨rfl, hb⟩; have HB := Lib.hid (bgo HB.out hb); clear hb)
    (go_wp2_with fail; refine (C8.out _).mono ?_; rintro e w' ⟨rfl, hb⟩; have HB := Lib.hid (bgo HB.out hb); clear hb)
    (go_wp2_with fail; refine (C18.out _).mono ?_; rintro e w' ⟨rfl, rfl⟩)
    go_wp2_with fail
    go_ret
    exact ⟨rfl, HB.out⟩
set_option maxRecDepth 100000 in
theorem lifted (os : Os) (started : os.Started) (H : Type) (enc : TypeId × Value → H) :
    ReturnsInHanded {} Try.checked os 8 .any (Rows.fnImagesComposeSpec.pre6 enc Try.prog Try.f8 Rows.fnImagesComposeRow.domain false) (Rows.fnImagesComposeSpec.post enc Try.prog Try.f8 false true false false) := by
  refine returnsInHanded_of_change (C := Try.checked) own started (by kernel_rfl) Try.func8
    (ChangeSpec.witness6 (enc := enc) (C := Try.checked) false ⟨#[], #[.slice none 0 0, .slice none 0 0], []⟩ 8 (by kernel_rfl) (by kernel_rfl) (by kernel_rfl) (by kernel_rfl)) ?_
  intro W base args ds gs before hval0 hW hcnd _
  have hval : ∀ (j : Nat) t v, Try.f8.params[j]? = some t → args[j]? = some v → Value.okWide Try.prog W .any base t v := hval0
  have hW' := hW
  obtain ⟨p, q, hA0, hV, rfl, hfz, hnd⟩ := hW
  have hA : DataW.TrodAll enc Try.prog W 0 (fun _ => true) true Try.f8.params.toList args.toList ds p := hA0
  rw [Try.params8] at hA hval
  obtain ⟨v0, vs0, d0, ds0, p0, q0, hargs, rfl, rfl, h0, r0⟩ := trodAll_cons hA
  obtain ⟨v1, vs1, d1, ds1, p1, q1, rfl, rfl, rfl, h1, r1⟩ := trodAll_cons r0
  obtain ⟨rfl, rfl, rfl⟩ := trodAll_nil r1
  obtain rfl : args = #[v0, v1] := by cases args; simp_all
  obtain ⟨rfl, rfl⟩ := trodVars_none hV
  obtain ⟨a0, len0, cap0, rfl⟩ := okWide_slice Try.underlying22 (hval 0 22 v0 rfl rfl)
  have k0 := h0
  have lt0 : ∀ x ∈ p0, x.block < W.heap.size := by obtain ⟨m, hm⟩ := k0; exact DataW.trod_lt m _ _ _ hm
  obtain ⟨z0, w0⟩ : ∃ zs, IsRow .u8 W a0 len0 cap0 zs := by
    obtain ⟨fuel, hf⟩ := h0
    rcases open_ints Try.underlying22 Try.underlying5 (by kernel_rfl) hf with ⟨hcs, _⟩ | ⟨x, l, c, zs, hcs, _, hl, hm, hz, _, hcell, hwz⟩
    · simp [Value.cells] at hcs
      obtain ⟨rfl, rfl, rfl⟩ := hcs
      exact ⟨[], .inl ⟨rfl, rfl, rfl, rfl⟩⟩
    · simp [Value.cells] at hcs
      obtain ⟨rfl, rfl, rfl⟩ := hcs
      exact ⟨zs, .inr ⟨_, rfl, hl, hm, by simpa using hz, hcell, hwz⟩⟩
  obtain ⟨a1, len1, cap1, rfl⟩ := okWide_slice Try.underlying22 (hval 1 22 v1 rfl rfl)
  have k1 := h1
  have lt1 : ∀ x ∈ p1, x.block < W.heap.size := by obtain ⟨m, hm⟩ := k1; exact DataW.trod_lt m _ _ _ hm
  obtain ⟨z1, w1⟩ : ∃ zs, IsRow .u8 W a1 len1 cap1 zs := by
    obtain ⟨fuel, hf⟩ := h1
    rcases open_ints Try.underlying22 Try.underlying5 (by kernel_rfl) hf with ⟨hcs, _⟩ | ⟨x, l, c, zs, hcs, _, hl, hm, hz, _, hcell, hwz⟩
    · simp [Value.cells] at hcs
      obtain ⟨rfl, rfl, rfl⟩ := hcs
      exact ⟨[], .inl ⟨rfl, rfl, rfl, rfl⟩⟩
    · simp [Value.cells] at hcs
      obtain ⟨rfl, rfl, rfl⟩ := hcs
      exact ⟨zs, .inr ⟨_, rfl, hl, hm, by simpa using hz, hcell, hwz⟩⟩
  clear hA0 hval0
  refine (walk a0 len0 cap0 z0 a1 len1 cap1 z1 W w0 w1).mono fun e W' ⟨he, bel⟩ => ?_
  subst he
  exact ⟨_, rfl, _, _, _, [], _, [], hW', trodAll_mk1 (shut_bool Try.underlying4 _), (trodAll_cons_mk (Below.trod laidOut (by kernel_rfl) (of_decide_eq_true (by kernel_rfl)) k0 bel lt0) (trodAll_cons_mk (Below.trod laidOut (by kernel_rfl) (of_decide_eq_true (by kernel_rfl)) k1 bel lt1) trodAll_mk0)), rfl, bel.frame _, fun h => by cases h⟩
theorem over : Rows.fnImagesComposeRow.holds Try.pinned (OpenSpec.ofChange Rows.fnImagesComposeSpec) :=
  OpenClaim.holds_of_wide 8 Try.f8 rfl rfl rfl rfl rfl rfl rfl ⟨rfl, rfl, rfl, rfl, rfl⟩ rfl rfl rfl rfl rfl (by kernel_rfl) Try.func8 (by kernel_rfl)
    (of_decide_eq_true (by kernel_rfl)) (by unfold Func.isWrapper; first | (rw [if_pos (by decide +kernel)]; kernel_rfl) | (rw [if_neg (by decide +kernel)]; exact ⟨rfl, rfl⟩))
    (fun os started H enc _ => lifted os started H enc)
end Go.Proofs.Ytlebkjjknggjfaa.fnImagesCompose
namespace Go.Proofs.Ytlebkjjknggjfaa
theorem fnImagesCompose_holds : Rows.FnImagesComposeSaid := fnImagesCompose.over
#print axioms fnImagesCompose_holds
end Go.Proofs.Ytlebkjjknggjfaa
