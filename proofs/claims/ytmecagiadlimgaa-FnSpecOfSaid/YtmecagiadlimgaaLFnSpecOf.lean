/-
  For every input the law FnSpecOf returns true: a conjunctive transformer is the specification that is found from it, and it is strict exactly if its starts lie in the domain. No condition.
-/
import Derived.Test.YtmecagiadlimgaaRows
import Derived.Test.YtmecagiadlimgaaA14
import Derived.Test.YtmecagiadlimgaaA16
import Derived.Test.YtmecagiadlimgaaB5
import Derived.Test.YtmecagiadlimgaaRd9
import Derived.Test.YtmecagiadlimgaaPy
import Derived.WalkKit
import Derived.ProofKit
import Derived.OpenShut
import Derived.ShutString
import Derived.ChangeOld
import Derived.Below
namespace Go.Proofs.Ytmecagiadlimgaa.fnSpecOf
open Go.ChangeShapes Go.WideShapes Go.ChangeAt Go.RowKit Go.DC
open Go.ChangeMaps (open_string shut_string)
set_option linter.unusedVariables false
set_option linter.unusedSimpArgs false
set_option maxHeartbeats 400000
theorem own : ownKnob Try.prog.godebug = none := by kernel_rfl
theorem laidOut : laidOutB Try.prog = true := by kernel_rfl
set_option maxRecDepth 100000 in
theorem walk (a0 : Option Addr) (len0 cap0 : Nat) (z0 : List Int) (w : World) (w0 : IsRow .u8 w a0 len0 cap0 z0) :
    Calls Try.prog 9 #[.slice a0 len0 cap0] w fun e w' => e = .returned (.bool true) ∧ Below w.heap.size w w' := by
  by_cases hl : (1048576 : Int) < len0
  · clear w0
    go_enter Try.func9, Try.ntmps9
    go_wp2_with fail
    go_ret
    exact ⟨rfl, Below.refl _ _⟩
  have H0 := Lib.hid w0
  clear w0
  go_enter Try.func9, Try.ntmps9
  go_wp2_with fail
  refine (spec_DrawSpecOf a0 len0 cap0 z0 w H0.out).mono ?_
  rintro e w2 ⟨t, hz, rfl, hB⟩
  have HB := Lib.hid hB
  clear hB H0
  have c1 := fun w => impl_SpecOf t w
  have c2 := fun w => spec_SpecOf t w (by unfold maxLen; omega)
  have c3 := fun w => impl_IsConjunctive t w
  clear hz
  cases hv : (tvB t && conjB (dg t))
  case false =>
    rw [hv] at c1 c2 c3
    rw [orZ_false, orNo_false] at c1 c2
    have C1 := Lib.hid c1
    clear c1
    have C2 := Lib.hid c2
    clear c2
    have C3 := Lib.hid c3
    clear c3
    clear hv
    (go_wp2_with fail; refine (C1.out _).mono ?_; rintro e w' ⟨rfl, hb⟩; have HB := Lib.hid (bgo HB.out hb); clear hb)
    (go_wp2_with fail; refine (C2.out _).mono ?_; rintro e w' ⟨rfl, rfl⟩)
    (go_wp2_with fail; refine (C3.out _).mono ?_; rintro e w' ⟨rfl, hb⟩; have HB := Lib.hid (bgo HB.out hb); clear hb)
    (go_wp2_with fail; refine (C3.out _).mono ?_; rintro e w' ⟨rfl, hb⟩; have HB := Lib.hid (bgo HB.out hb); clear hb)
    go_wp2_with fail
    go_ret
    exact ⟨rfl, HB.out⟩
  case true =>
    rw [hv] at c1 c2 c3
    rw [orZ_true, orNo_true] at c1 c2
    obtain ⟨ht, hc⟩ := Bool.and_eq_true_iff.1 hv
    have hT := tvB_Tr ht
    have h15 : Cv (dg t 15) := hT.dg 15 (by decide)
    have hL := leadsT_Dg (dg t)
    have dL := dvB_txt hL
    have c4 := fun w => impl_SpecTrans (dg t 15) (txt 4 (leadsT (dg t))) w
    rw [dL, cv_iff.2 h15, Bool.and_self, orNo_true, specD_txt hL, show txt 16 (specD (dg t 15) (leadsT (dg t))) = t from cj_above_txt ht hc] at c4
    have c5 := fun w => impl_DomainOf (txt 4 (leadsT (dg t))) w
    rw [dL, askV_true, dia_congr (dgt4 hL)] at c5
    have c6 := fun w => impl_DemonAbove t w
    rw [ht, orNo_true, cj_above_txt ht hc] at c6
    have c7 := fun w => impl_IsStrict t w
    rw [ht, Bool.true_and, cj_strict hT hc] at c7
    have c8 := fun w => impl_Implies (dg t 15) (dia (leadsT (dg t)) 15) w
    rw [cv_iff.2 h15, cv_iff.2 (dia_cv _ _), Bool.and_self, Bool.true_and] at c8
    have htot : dia (leadsT (dg t)) 15 = 15 → (bandn (dg t 15) (dia (leadsT (dg t)) 15) == 0) = true := fun e => by rw [e]; exact sub_in15 h15
    clear hv ht hc hT h15 dL hL
    obtain ⟨S, hS⟩ : ∃ S, (bandn (dg t 15) (dia (leadsT (dg t)) 15) == 0) = S := ⟨_, rfl⟩
    rw [hS] at c7 c8 htot
    clear hS
    generalize dia (leadsT (dg t)) 15 = d at *
    generalize txt 4 (leadsT (dg t)) = R at *
    generalize dg t 15 = p at *
    have C1 := Lib.hid c1
    clear c1
    have C2 := Lib.hid c2
    clear c2
    have C3 := Lib.hid c3
    clear c3
    have C4 := Lib.hid c4
    clear c4
    have C5 := Lib.hid c5
    clear c5
    have C6 := Lib.hid c6
    clear c6
    have C7 := Lib.hid c7
    clear c7
    have C8 := Lib.hid c8
    clear c8
    (go_wp2_with fail; refine (C1.out _).mono ?_; rintro e w' ⟨rfl, hb⟩; have HB := Lib.hid (bgo HB.out hb); clear hb)
    (go_wp2_with fail; refine (C2.out _).mono ?_; rintro e w' ⟨rfl, rfl⟩)
    (go_wp2_with fail; refine (C3.out _).mono ?_; rintro e w' ⟨rfl, hb⟩; have HB := Lib.hid (bgo HB.out hb); clear hb)
    by_cases hd : d = 15
    · obtain rfl : S = true := htot hd
      subst hd
      (go_wp2_with fail; refine (C4.out _).mono ?_; rintro e w' ⟨rfl, hb⟩; have HB := Lib.hid (bgo HB.out hb); clear hb)
      (go_wp2_with fail; refine (C5.out _).mono ?_; rintro e w' ⟨rfl, hb⟩; have HB := Lib.hid (bgo HB.out hb); clear hb)
      (go_wp2_with fail; refine (C6.out _).mono ?_; rintro e w' ⟨rfl, hb⟩; have HB := Lib.hid (bgo HB.out hb); clear hb)
      (go_wp2_with fail; refine (C7.out _).mono ?_; rintro e w' ⟨rfl, hb⟩; have HB := Lib.hid (bgo HB.out hb); clear hb)
      (go_wp2_with fail; refine (C5.out _).mono ?_; rintro e w' ⟨rfl, hb⟩; have HB := Lib.hid (bgo HB.out hb); clear hb)
      (go_wp2_with fail; refine (C8.out _).mono ?_; rintro e w' ⟨rfl, rfl⟩)
      (go_wp2_with fail; refine (C7.out _).mono ?_; rintro e w' ⟨rfl, hb⟩; have HB := Lib.hid (bgo HB.out hb); clear hb)
      go_wp2_with fail
      go_ret
      exact ⟨rfl, HB.out⟩
    · clear htot
      have hd' : (d == 15) = false := beq_eq_false_iff_ne.2 hd
      (go_wp2_with fail; refine (C4.out _).mono ?_; rintro e w' ⟨rfl, hb⟩; have HB := Lib.hid (bgo HB.out hb); clear hb)
      (go_wp2_with fail; refine (C5.out _).mono ?_; rintro e w' ⟨rfl, hb⟩; have HB := Lib.hid (bgo HB.out hb); clear hb)
      (go_wp2_with fail; refine (C6.out _).mono ?_; rintro e w' ⟨rfl, hb⟩; have HB := Lib.hid (bgo HB.out hb); clear hb)
      (go_wp2_with fail; refine (C7.out _).mono ?_; rintro e w' ⟨rfl, hb⟩; have HB := Lib.hid (bgo HB.out hb); clear hb)
      (go_wp2_with fail; refine (C5.out _).mono ?_; rintro e w' ⟨rfl, hb⟩; have HB := Lib.hid (bgo HB.out hb); clear hb)
      (go_wp2_with fail; refine (C8.out _).mono ?_; rintro e w' ⟨rfl, rfl⟩)
      go_wp2_with fail
      go_ret
      exact ⟨rfl, HB.out⟩
set_option maxRecDepth 100000 in
theorem lifted (os : Os) (started : os.Started) (H : Type) (enc : TypeId × Value → H) :
    ReturnsInHanded {} Try.checked os 9 .any (Rows.fnSpecOfSpec.pre6 enc Try.prog Try.f9 Rows.fnSpecOfRow.domain false) (Rows.fnSpecOfSpec.post enc Try.prog Try.f9 false true false false) := by
  refine returnsInHanded_of_change (C := Try.checked) own started (by kernel_rfl) Try.func9
    (ChangeSpec.witness6 (enc := enc) (C := Try.checked) false ⟨#[], #[.slice none 0 0], []⟩ 8 (by kernel_rfl) (by kernel_rfl) (by kernel_rfl) (by kernel_rfl)) ?_
  intro W base args ds gs before hval0 hW hcnd _
  have hval : ∀ (j : Nat) t v, Try.f9.params[j]? = some t → args[j]? = some v → Value.okWide Try.prog W .any base t v := hval0
  have hW' := hW
  obtain ⟨p, q, hA0, hV, rfl, hfz, hnd⟩ := hW
  have hA : DataW.TrodAll enc Try.prog W 0 (fun _ => true) true Try.f9.params.toList args.toList ds p := hA0
  rw [Try.params9] at hA hval
  obtain ⟨v0, vs0, d0, ds0, p0, q0, hargs, rfl, rfl, h0, r0⟩ := trodAll_cons hA
  obtain ⟨rfl, rfl, rfl⟩ := trodAll_nil r0
  obtain rfl : args = #[v0] := by cases args; simp_all
  obtain ⟨rfl, rfl⟩ := trodVars_none hV
  obtain ⟨a0, len0, cap0, rfl⟩ := okWide_slice Try.underlying22 (hval 0 22 v0 rfl rfl)
  have k0 := h0
  have lt0 : ∀ x ∈ p0, x.block < W.heap.size := by obtain ⟨m, hm⟩ := k0; exact DataW.trod_lt m _ _ _ hm
  obtain ⟨z0, w0⟩ : ∃ zs, IsRow .u8 W a0 len0 cap0 zs := by
    obtain ⟨fuel, hf⟩ := h0
    rcases open_ints Try.underlying22 Try.underlying5 (by kernel_rfl) hf with ⟨hcs, _⟩ | ⟨x, l, c, zs, hcs, _, hl, hm, hz, _, hcell, hwz⟩
    · simp [Value.cells] at hcs
      obtain ⟨rfl, rfl, rfl⟩ := hcs
      exact ⟨[], .inl ⟨rfl, rfl, rfl, rfl⟩⟩
    · simp [Value.cells] at hcs
      obtain ⟨rfl, rfl, rfl⟩ := hcs
      exact ⟨zs, .inr ⟨_, rfl, hl, hm, by simpa using hz, hcell, hwz⟩⟩
  clear hA0 hval0
  refine (walk a0 len0 cap0 z0 W w0).mono fun e W' ⟨he, bel⟩ => ?_
  subst he
  exact ⟨_, rfl, _, _, _, [], _, [], hW', trodAll_mk1 (shut_bool Try.underlying4 _), (trodAll_cons_mk (Below.trod laidOut (by kernel_rfl) (of_decide_eq_true (by kernel_rfl)) k0 bel lt0) trodAll_mk0), rfl, bel.frame _, fun h => by cases h⟩
theorem over : Rows.fnSpecOfRow.holds Try.pinned (OpenSpec.ofChange Rows.fnSpecOfSpec) :=
  OpenClaim.holds_of_wide 9 Try.f9 rfl rfl rfl rfl rfl rfl rfl ⟨rfl, rfl, rfl, rfl, rfl⟩ rfl rfl rfl rfl rfl (by kernel_rfl) Try.func9 (by kernel_rfl)
    (of_decide_eq_true (by kernel_rfl)) (by unfold Func.isWrapper; first | (rw [if_pos (by decide +kernel)]; kernel_rfl) | (rw [if_neg (by decide +kernel)]; exact ⟨rfl, rfl⟩))
    (fun os started H enc _ => lifted os started H enc)
end Go.Proofs.Ytmecagiadlimgaa.fnSpecOf
namespace Go.Proofs.Ytmecagiadlimgaa
theorem fnSpecOf_holds : Rows.FnSpecOfSaid := fnSpecOf.over
#print axioms fnSpecOf_holds
end Go.Proofs.Ytmecagiadlimgaa
