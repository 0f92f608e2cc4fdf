/-
  For every input the law FnAngelRel returns true: a disjunctive and strict transformer is the angel's choice over the relation that is found from it. No condition.
-/
import Derived.Test.YtmecagiadlimgaaRows
import Derived.Test.YtmecagiadlimgaaA14
import Derived.Test.YtmecagiadlimgaaA16
import Derived.Test.YtmecagiadlimgaaB5
import Derived.Test.YtmecagiadlimgaaRd9
import Derived.Test.YtmecagiadlimgaaPz
import Derived.WalkKit
import Derived.ProofKit
import Derived.OpenShut
import Derived.ShutString
import Derived.ChangeOld
import Derived.Below
namespace Go.Proofs.Ytmecagiadlimgaa.fnAngelRel
open Go.ChangeShapes Go.WideShapes Go.ChangeAt Go.RowKit Go.DC
open Go.ChangeMaps (open_string shut_string)
set_option linter.unusedVariables false
set_option linter.unusedSimpArgs false
set_option maxHeartbeats 400000
theorem own : ownKnob Try.prog.godebug = none := by kernel_rfl
theorem laidOut : laidOutB Try.prog = true := by kernel_rfl
set_option maxRecDepth 100000 in
theorem walk (a0 : Option Addr) (len0 cap0 : Nat) (z0 : List Int) (w : World) (w0 : IsRow .u8 w a0 len0 cap0 z0) :
    Calls Try.prog 11 #[.slice a0 len0 cap0] w fun e w' => e = .returned (.bool true) ∧ Below w.heap.size w w' := by
  by_cases hl : (1048576 : Int) < len0
  · clear w0
    go_enter Try.func11, Try.ntmps11
    go_wp2_with fail
    go_ret
    exact ⟨rfl, Below.refl _ _⟩
  have H0 := Lib.hid w0
  clear w0
  go_enter Try.func11, Try.ntmps11
  go_wp2_with fail
  refine (spec_DrawAngelRelOf a0 len0 cap0 z0 w H0.out).mono ?_
  rintro e w2 ⟨t, hz, rfl, hB⟩
  have HB := Lib.hid hB
  clear hB H0
  have c1 := fun w => impl_AngelRelOf t w
  have c2 := fun w => spec_AngelRelOf t w (by unfold maxLen; omega)
  rw [← eq_angelRel] at c2
  have c3 := fun w => impl_IsDisjunctive t w
  have c4 := fun w => impl_IsStrict t w
  clear hz
  cases hv : (tvB t && disjB (dg t) && (dg t 0 == 0))
  case false =>
    rw [hv] at c1 c2
    rw [orNo_false] at c1 c2
    cases h3 : (tvB t && disjB (dg t))
    case false =>
      rw [h3] at c3
      have C1 := Lib.hid c1
      clear c1
      have C2 := Lib.hid c2
      clear c2
      have C3 := Lib.hid c3
      clear c3
      clear hv h3 c4
      (go_wp2_with fail; refine (C1.out _).mono ?_; rintro e w' ⟨rfl, hb⟩; have HB := Lib.hid (bgo HB.out hb); clear hb)
      (go_wp2_with fail; refine (C2.out _).mono ?_; rintro e w' ⟨rfl, rfl⟩)
      (go_wp2_with fail; refine (C3.out _).mono ?_; rintro e w' ⟨rfl, hb⟩; have HB := Lib.hid (bgo HB.out hb); clear hb)
      (go_wp2_with fail; refine (C3.out _).mono ?_; rintro e w' ⟨rfl, hb⟩; have HB := Lib.hid (bgo HB.out hb); clear hb)
      go_wp2_with fail
      go_ret
      exact ⟨rfl, HB.out⟩
    case true =>
      rw [h3, Bool.true_and] at hv
      rw [h3] at c3
      rw [hv, Bool.and_false] at c4
      have C1 := Lib.hid c1
      clear c1
      have C2 := Lib.hid c2
      clear c2
      have C3 := Lib.hid c3
      clear c3
      have C4 := Lib.hid c4
      clear c4
      clear hv h3
      (go_wp2_with fail; refine (C1.out _).mono ?_; rintro e w' ⟨rfl, hb⟩; have HB := Lib.hid (bgo HB.out hb); clear hb)
      (go_wp2_with fail; refine (C2.out _).mono ?_; rintro e w' ⟨rfl, rfl⟩)
      (go_wp2_with fail; refine (C3.out _).mono ?_; rintro e w' ⟨rfl, hb⟩; have HB := Lib.hid (bgo HB.out hb); clear hb)
      (go_wp2_with fail; refine (C4.out _).mono ?_; rintro e w' ⟨rfl, hb⟩; have HB := Lib.hid (bgo HB.out hb); clear hb)
      (go_wp2_with fail; refine (C3.out _).mono ?_; rintro e w' ⟨rfl, hb⟩; have HB := Lib.hid (bgo HB.out hb); clear hb)
      (go_wp2_with fail; refine (C4.out _).mono ?_; rintro e w' ⟨rfl, hb⟩; have HB := Lib.hid (bgo HB.out hb); clear hb)
      go_wp2_with fail
      go_ret
      exact ⟨rfl, HB.out⟩
  case true =>
    rw [hv] at c1 c2
    rw [orNo_true] at c1 c2
    obtain ⟨h3, h0⟩ := Bool.and_eq_true_iff.1 hv
    obtain ⟨ht, hd⟩ := Bool.and_eq_true_iff.1 h3
    rw [h3] at c3
    rw [ht, Bool.true_and, h0] at c4
    have hT := tvB_Tr ht
    have hz0 : dg t 0 = 0 := beq_iff_eq.1 h0
    have hR := relT_Dg (dg t)
    have dR := dvB_txt hR
    have c1' : ∀ w, Calls Try.prog 69 #[.string t] w fun e w' => e = .returned (.tuple #[.string (txt 4 (relT (dg t))), .bool true]) ∧ Below w.heap.size w w' := c1
    have c2' : ∀ w, Calls Try.prog 70 #[.string t] w fun e w' => e = .returned (.tuple #[.string (txt 4 (relT (dg t))), .bool true]) ∧ w = w' := c2
    have c5 := fun w => impl_AngelTrans (txt 4 (relT (dg t))) w
    rw [dR, orNo_true, dj_txt ht hd hz0] at c5
    have c6 := fun w => impl_AngelBelow t w
    rw [ht, orNo_true, dj_below ht hd] at c6
    have hf := fun_conj hR (fun q hq => dj_angel hT hd hz0 hq)
    have c7 := fun w => impl_IsFunctional t w
    have e7 : ((tvB t && conjB (dg t)) && (tvB t && disjB (dg t)) && (tvB t && (dg t 0 == 0)) && (tvB t && (dg t 15 == 15))) = funB (relT (dg t)) 4 := by
      rw [← hf, h3, ht, h0, Bool.true_and, Bool.and_true, Bool.and_true, Bool.true_and, Bool.and_true, ap_15]
    rw [e7] at c7
    have c8 := fun w => impl_IsFunction (txt 4 (relT (dg t))) w
    rw [dR, Bool.true_and, funB_congr (dgt4 hR)] at c8
    have c9 := fun w => impl_IsTerminating t w
    have e9 : dg t 15 = dia (relT (dg t)) 15 := dj_angel hT hd hz0 Cv.c15
    rw [ht, Bool.true_and, e9] at c9
    have c10 := fun w => impl_DomainOf (txt 4 (relT (dg t))) w
    rw [dR, askV_true, dia_congr (dgt4 hR)] at c10
    clear hv h3 h0 ht hd hT hz0 dR hf e7 e9 c1 c2 hR
    generalize funB (relT (dg t)) 4 = f at *
    generalize dia (relT (dg t)) 15 = d at *
    generalize txt 4 (relT (dg t)) = R at *
    have C1 := Lib.hid c1'
    have C2 := Lib.hid c2'
    clear c1' c2'
    have C3 := Lib.hid c3
    clear c3
    have C4 := Lib.hid c4
    clear c4
    have C5 := Lib.hid c5
    clear c5
    have C6 := Lib.hid c6
    clear c6
    have C7 := Lib.hid c7
    clear c7
    have C8 := Lib.hid c8
    clear c8
    have C9 := Lib.hid c9
    clear c9
    have C10 := Lib.hid c10
    clear c10
    cases hd : (d == 15)
    all_goals
      rw [hd] at C9
      (go_wp2_with fail; refine (C1.out _).mono ?_; rintro e w' ⟨rfl, hb⟩; have HB := Lib.hid (bgo HB.out hb); clear hb)
      (go_wp2_with fail; refine (C2.out _).mono ?_; rintro e w' ⟨rfl, rfl⟩)
      (go_wp2_with fail; refine (C3.out _).mono ?_; rintro e w' ⟨rfl, hb⟩; have HB := Lib.hid (bgo HB.out hb); clear hb)
      (go_wp2_with fail; refine (C4.out _).mono ?_; rintro e w' ⟨rfl, hb⟩; have HB := Lib.hid (bgo HB.out hb); clear hb)
      (go_wp2_with fail; refine (C5.out _).mono ?_; rintro e w' ⟨rfl, hb⟩; have HB := Lib.hid (bgo HB.out hb); clear hb)
      (go_wp2_with fail; refine (C6.out _).mono ?_; rintro e w' ⟨rfl, hb⟩; have HB := Lib.hid (bgo HB.out hb); clear hb)
      (go_wp2_with fail; refine (C7.out _).mono ?_; rintro e w' ⟨rfl, hb⟩; have HB := Lib.hid (bgo HB.out hb); clear hb)
      (go_wp2_with fail; refine (C8.out _).mono ?_; rintro e w' ⟨rfl, hb⟩; have HB := Lib.hid (bgo HB.out hb); clear hb)
      (go_wp2_with fail; refine (C9.out _).mono ?_; rintro e w' ⟨rfl, hb⟩; have HB := Lib.hid (bgo HB.out hb); clear hb)
      (go_wp2_with fail; refine (C10.out _).mono ?_; rintro e w' ⟨rfl, hb⟩; have HB := Lib.hid (bgo HB.out hb); clear hb)
      go_wp2_with fail
      go_ret
      exact ⟨rfl, HB.out⟩
set_option maxRecDepth 100000 in
theorem lifted (os : Os) (started : os.Started) (H : Type) (enc : TypeId × Value → H) :
    ReturnsInHanded {} Try.checked os 11 .any (Rows.fnAngelRelSpec.pre6 enc Try.prog Try.f11 Rows.fnAngelRelRow.domain false) (Rows.fnAngelRelSpec.post enc Try.prog Try.f11 false true false false) := by
  refine returnsInHanded_of_change (C := Try.checked) own started (by kernel_rfl) Try.func11
    (ChangeSpec.witness6 (enc := enc) (C := Try.checked) false ⟨#[], #[.slice none 0 0], []⟩ 8 (by kernel_rfl) (by kernel_rfl) (by kernel_rfl) (by kernel_rfl)) ?_
  intro W base args ds gs before hval0 hW hcnd _
  have hval : ∀ (j : Nat) t v, Try.f11.params[j]? = some t → args[j]? = some v → Value.okWide Try.prog W .any base t v := hval0
  have hW' := hW
  obtain ⟨p, q, hA0, hV, rfl, hfz, hnd⟩ := hW
  have hA : DataW.TrodAll enc Try.prog W 0 (fun _ => true) true Try.f11.params.toList args.toList ds p := hA0
  rw [Try.params11] at hA hval
  obtain ⟨v0, vs0, d0, ds0, p0, q0, hargs, rfl, rfl, h0, r0⟩ := trodAll_cons hA
  obtain ⟨rfl, rfl, rfl⟩ := trodAll_nil r0
  obtain rfl : args = #[v0] := by cases args; simp_all
  obtain ⟨rfl, rfl⟩ := trodVars_none hV
  obtain ⟨a0, len0, cap0, rfl⟩ := okWide_slice Try.underlying22 (hval 0 22 v0 rfl rfl)
  have k0 := h0
  have lt0 : ∀ x ∈ p0, x.block < W.heap.size := by obtain ⟨m, hm⟩ := k0; exact DataW.trod_lt m _ _ _ hm
  obtain ⟨z0, w0⟩ : ∃ zs, IsRow .u8 W a0 len0 cap0 zs := by
    obtain ⟨fuel, hf⟩ := h0
    rcases open_ints Try.underlying22 Try.underlying5 (by kernel_rfl) hf with ⟨hcs, _⟩ | ⟨x, l, c, zs, hcs, _, hl, hm, hz, _, hcell, hwz⟩
    · simp [Value.cells] at hcs
      obtain ⟨rfl, rfl, rfl⟩ := hcs
      exact ⟨[], .inl ⟨rfl, rfl, rfl, rfl⟩⟩
    · simp [Value.cells] at hcs
      obtain ⟨rfl, rfl, rfl⟩ := hcs
      exact ⟨zs, .inr ⟨_, rfl, hl, hm, by simpa using hz, hcell, hwz⟩⟩
  clear hA0 hval0
  refine (walk a0 len0 cap0 z0 W w0).mono fun e W' ⟨he, bel⟩ => ?_
  subst he
  exact ⟨_, rfl, _, _, _, [], _, [], hW', trodAll_mk1 (shut_bool Try.underlying4 _), (trodAll_cons_mk (Below.trod laidOut (by kernel_rfl) (of_decide_eq_true (by kernel_rfl)) k0 bel lt0) trodAll_mk0), rfl, bel.frame _, fun h => by cases h⟩
theorem over : Rows.fnAngelRelRow.holds Try.pinned (OpenSpec.ofChange Rows.fnAngelRelSpec) :=
  OpenClaim.holds_of_wide 11 Try.f11 rfl rfl rfl rfl rfl rfl rfl ⟨rfl, rfl, rfl, rfl, rfl⟩ rfl rfl rfl rfl rfl (by kernel_rfl) Try.func11 (by kernel_rfl)
    (of_decide_eq_true (by kernel_rfl)) (by unfold Func.isWrapper; first | (rw [if_pos (by decide +kernel)]; kernel_rfl) | (rw [if_neg (by decide +kernel)]; exact ⟨rfl, rfl⟩))
    (fun os started H enc _ => lifted os started H enc)
end Go.Proofs.Ytmecagiadlimgaa.fnAngelRel
namespace Go.Proofs.Ytmecagiadlimgaa
theorem fnAngelRel_holds : Rows.FnAngelRelSaid := fnAngelRel.over
#print axioms fnAngelRel_holds
end Go.Proofs.Ytmecagiadlimgaa
