/-
  For every input the law FnPlayValue returns true: a play that is done is won for a condition or its negation, another for both or for none. No condition.
-/
import Derived.Test.YtbheabeeomaagaaRows
import Derived.Test.YtbheabeeomaagaaA8
import Derived.Test.YtbheabeeomaagaaRd3
import Derived.Test.YtbheabeeomaagaaPR
import Derived.WalkKit
import Derived.ProofKit
import Derived.OpenShut
import Derived.ShutString
import Derived.ChangeOld
import Derived.Below
namespace Go.Proofs.Ytbheabeeomaagaa.fnPlayValue
open Go.ChangeShapes Go.WideShapes Go.ChangeAt Go.RowKit Go.DC
open Go.ChangeMaps (open_string shut_string)
set_option linter.unusedVariables false
set_option linter.unusedSimpArgs false
set_option maxHeartbeats 400000
theorem own : ownKnob Try.prog.godebug = none := by kernel_rfl
theorem laidOut : laidOutB Try.prog = true := by kernel_rfl
theorem has_not {p s : Int} (h : cv p = true) (hs : sv s = true) : hasState (bandn 15 p) s = !hasState p s := by
  obtain ⟨h0, h1⟩ := cv_iff.1 h
  obtain ⟨s0, s1⟩ := sv_iff.1 hs
  have hr := bandn_rng (a := 15) (b := p) (by decide) (by decide) h0 h1
  have hc := cv_iff.2 hr
  unfold hasState
  rw [h, hs, hc]
  have hb := has_bandn (a := 15) (b := p) (by decide) (by decide) h0 h1 (i := s.toNat) (by omega)
  have h15 : hasb 15 s.toNat = true := by
    have : ∀ i : Fin 4, hasb 15 i.val = true := by decide +kernel
    exact this ⟨s.toNat, by omega⟩
  rw [h15] at hb
  simpa using hb
theorem cv_not {p : Int} (h : cv p = true) : cv (bandn 15 p) = true := by
  obtain ⟨h0, h1⟩ := cv_iff.1 h
  exact cv_iff.2 (bandn_rng (by decide) (by decide) h0 h1)
theorem has_out {p s : Int} (hs : sv s = false) : hasState p s = false := by unfold hasState; rw [hs, Bool.and_false]; rfl
theorem walk (a0 : Option Addr) (len0 cap0 : Nat) (z0 : List Int) (w : World) (w0 : IsRow .u8 w a0 len0 cap0 z0) :
    Calls Try.prog 5 #[.slice a0 len0 cap0] w fun e w' => e = .returned (.bool true) ∧ Below w.heap.size w w' := by
  by_cases hl : (1048576 : Int) < len0
  · go_enter Try.func5, Try.ntmps5
    go_wp2_with fail
    go_ret
    exact ⟨rfl, Below.refl _ _⟩
  · have H0 := Lib.hid w0
    clear w0
    go_enter Try.func5, Try.ntmps5
    go_wp2_with fail
    refine (spec_DrawPlayValue a0 len0 cap0 z0 w H0.out).mono ?_
    rintro e w1 ⟨s, t, p, rfl, hB⟩
    have HB := Lib.hid hB
    clear hB H0 hl
    have c1 := fun w => impl_PlayValue s t p w
    have c2 := fun w => spec_PlayValue s t p w
    have c3 := fun w => impl_PlayValue s t (bandn 15 p) w
    have c4 := fun w => impl_ConditionValid p w
    have c5 := fun w => impl_NotCondition p w
    cases h1 : cv p
    case false =>
      have hv : playV s t p = false := by
        unfold playV
        rw [hasState_cv h1, h1]
        simp
      rw [hv] at c1 c2
      rw [h1] at c4
      have C1 := Lib.hid c1
      have C2 := Lib.hid c2
      have C4 := Lib.hid c4
      clear c1 c2 c3 c4 c5 h1 hv
      go_wp2_with (first | (go_at_call 16; refine (C1.out _).mono ?_; rintro e w' ⟨rfl, rfl⟩) | (go_at_call 15; refine (C2.out _).mono ?_; rintro e w' ⟨rfl, rfl⟩) | (go_at_call 20; refine (C4.out _).mono ?_; rintro e w' ⟨rfl, rfl⟩))
      go_ret
      exact ⟨rfl, HB.out⟩
    case true =>
      rw [h1] at c4 c5
      have e5 : (if true = true then bandn 15 p else -1) = bandn 15 p := rfl
      rw [e5] at c5
      clear e5
      have hn := cv_not h1
      generalize hq : bandn 15 p = q at *
      have C4 := Lib.hid c4
      have C5 := Lib.hid c5
      clear c4 c5
      have hs : (∃ b b' : Bool, playV s t p = b ∧ playV s t q = b' ∧ ((t.toList == [100, 111, 110, 101]) = false ∧ b = b' ∨ (t.toList == [100, 111, 110, 101]) = true ∧ (sv s = true ∧ b' = !b ∨ sv s = false ∧ b = false ∧ b' = false))) := by
        refine ⟨_, _, rfl, rfl, ?_⟩
        cases hd : (t.toList == [100, 111, 110, 101])
        · refine .inl ⟨rfl, ?_⟩
          cases hm : (t.toList == [100, 101, 109, 111, 110])
          · rw [playV3 hd hm, playV3 hd hm]
          · rw [playV2 hd hm, playV2 hd hm, h1, hn]
        · refine .inr ⟨rfl, ?_⟩
          rw [playV1 hd, playV1 hd]
          cases hsv : sv s
          · exact .inr ⟨rfl, has_out hsv, has_out hsv⟩
          · exact .inl ⟨rfl, by rw [← hq]; exact has_not h1 hsv⟩
      obtain ⟨b, b', hb, hb', hcase⟩ := hs
      rw [hb] at c1 c2
      rw [hb'] at c3
      clear hb hb' hn hq h1
      have C1 := Lib.hid c1
      have C2 := Lib.hid c2
      have C3 := Lib.hid c3
      clear c1 c2 c3
      go_wp2_with fail
      refine (C1.out _).mono ?_
      rintro e w' ⟨rfl, rfl⟩
      go_wp2_with (first | (go_at_call 15; refine (C2.out _).mono ?_; rintro e w' ⟨rfl, rfl⟩) | (go_at_call 20; refine (C4.out _).mono ?_; rintro e w' ⟨rfl, rfl⟩) | (go_at_call 21; refine (C5.out _).mono ?_; rintro e w' ⟨rfl, rfl⟩))
      refine (C3.out _).mono ?_
      rintro e w' ⟨rfl, rfl⟩
      clear C1 C2 C3 C4 C5
      rcases hcase with ⟨hd, rfl⟩ | ⟨hd, ⟨hsv, rfl⟩ | ⟨hsv, rfl, rfl⟩⟩
      · cases b <;> by_cases hs0 : 0 ≤ s
        all_goals
          try have hs1 : decide (0 ≤ s) = false := by simpa using hs0
          go_wp2_with fail
          go_ret
          exact ⟨rfl, HB.out⟩
      · obtain ⟨s0, s1⟩ := sv_iff.1 hsv
        have hs1 : decide (s < 4) = true := by simp; omega
        clear hsv
        cases b
        all_goals
          go_wp2_with fail
          go_ret
          exact ⟨rfl, HB.out⟩
      · have hs2 := sv_false.1 hsv
        clear hsv
        by_cases hs0 : 0 ≤ s
        · have hs1 : decide (s < 4) = false := by simp; omega
          go_wp2_with fail
          go_ret
          exact ⟨rfl, HB.out⟩
        · have hs1 : decide (0 ≤ s) = false := by simpa using hs0
          clear hs2
          go_wp2_with fail
          go_ret
          exact ⟨rfl, HB.out⟩
set_option maxRecDepth 100000 in
theorem lifted (os : Os) (started : os.Started) (H : Type) (enc : TypeId × Value → H) :
    ReturnsInHanded {} Try.checked os 5 .any (Rows.fnPlayValueSpec.pre6 enc Try.prog Try.f5 Rows.fnPlayValueRow.domain false) (Rows.fnPlayValueSpec.post enc Try.prog Try.f5 false true false false) := by
  refine returnsInHanded_of_change (C := Try.checked) own started (by kernel_rfl) Try.func5
    (ChangeSpec.witness6 (enc := enc) (C := Try.checked) false ⟨#[], #[.slice none 0 0], []⟩ 8 (by kernel_rfl) (by kernel_rfl) (by kernel_rfl) (by kernel_rfl)) ?_
  intro W base args ds gs before hval0 hW hcnd _
  have hval : ∀ (j : Nat) t v, Try.f5.params[j]? = some t → args[j]? = some v → Value.okWide Try.prog W .any base t v := hval0
  have hW' := hW
  obtain ⟨p, q, hA0, hV, rfl, hfz, hnd⟩ := hW
  have hA : DataW.TrodAll enc Try.prog W 0 (fun _ => true) true Try.f5.params.toList args.toList ds p := hA0
  rw [Try.params5] at hA hval
  obtain ⟨v0, vs0, d0, ds0, p0, q0, hargs, rfl, rfl, h0, r0⟩ := trodAll_cons hA
  obtain ⟨rfl, rfl, rfl⟩ := trodAll_nil r0
  obtain rfl : args = #[v0] := by cases args; simp_all
  obtain ⟨rfl, rfl⟩ := trodVars_none hV
  obtain ⟨a0, len0, cap0, rfl⟩ := okWide_slice Try.underlying24 (hval 0 24 v0 rfl rfl)
  have k0 := h0
  have lt0 : ∀ x ∈ p0, x.block < W.heap.size := by obtain ⟨m, hm⟩ := k0; exact DataW.trod_lt m _ _ _ hm
  obtain ⟨z0, w0⟩ : ∃ zs, IsRow .u8 W a0 len0 cap0 zs := by
    obtain ⟨fuel, hf⟩ := h0
    rcases open_ints Try.underlying24 Try.underlying5 (by kernel_rfl) hf with ⟨hcs, _⟩ | ⟨x, l, c, zs, hcs, _, hl, hm, hz, _, hcell, hwz⟩
    · simp [Value.cells] at hcs
      obtain ⟨rfl, rfl, rfl⟩ := hcs
      exact ⟨[], .inl ⟨rfl, rfl, rfl, rfl⟩⟩
    · simp [Value.cells] at hcs
      obtain ⟨rfl, rfl, rfl⟩ := hcs
      exact ⟨zs, .inr ⟨_, rfl, hl, hm, by simpa using hz, hcell, hwz⟩⟩
  clear hA0 hval0
  refine (walk a0 len0 cap0 z0 W w0).mono fun e W' ⟨he, bel⟩ => ?_
  subst he
  exact ⟨_, rfl, _, _, _, [], _, [], hW', trodAll_mk1 (shut_bool Try.underlying4 _), (trodAll_cons_mk (Below.trod laidOut (by kernel_rfl) (of_decide_eq_true (by kernel_rfl)) k0 bel lt0) trodAll_mk0), rfl, bel.frame _, fun h => by cases h⟩
theorem over : Rows.fnPlayValueRow.holds Try.pinned (OpenSpec.ofChange Rows.fnPlayValueSpec) :=
  OpenClaim.holds_of_wide 5 Try.f5 rfl rfl rfl rfl rfl rfl rfl ⟨rfl, rfl, rfl, rfl, rfl⟩ rfl rfl rfl rfl rfl (by kernel_rfl) Try.func5 (by kernel_rfl)
    (of_decide_eq_true (by kernel_rfl)) (by unfold Func.isWrapper; first | (rw [if_pos (by decide +kernel)]; kernel_rfl) | (rw [if_neg (by decide +kernel)]; exact ⟨rfl, rfl⟩))
    (fun os started H enc _ => lifted os started H enc)
end Go.Proofs.Ytbheabeeomaagaa.fnPlayValue
namespace Go.Proofs.Ytbheabeeomaagaa
theorem fnPlayValue_holds : Rows.FnPlayValueSaid := fnPlayValue.over
#print axioms fnPlayValue_holds
end Go.Proofs.Ytbheabeeomaagaa
