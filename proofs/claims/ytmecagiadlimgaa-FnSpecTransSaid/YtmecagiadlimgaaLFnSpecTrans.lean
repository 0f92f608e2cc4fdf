/-
  For every input the law FnSpecTrans returns true: a specification tells the condition and the box of the relation, is conjunctive, and both are found from it. No condition.
-/
import Derived.Test.YtmecagiadlimgaaRows
import Derived.Test.YtmecagiadlimgaaA14
import Derived.Test.YtmecagiadlimgaaA16
import Derived.Test.YtmecagiadlimgaaB5
import Derived.Test.YtmecagiadlimgaaB6
import Derived.Test.YtmecagiadlimgaaRd9
import Derived.Test.YtmecagiadlimgaaQa
import Derived.WalkKit
import Derived.ProofKit
import Derived.OpenShut
import Derived.ShutString
import Derived.ChangeOld
import Derived.Below
namespace Go.Proofs.Ytmecagiadlimgaa.fnSpecTrans
open Go.ChangeShapes Go.WideShapes Go.ChangeAt Go.RowKit Go.DC
open Go.ChangeMaps (open_string shut_string)
set_option linter.unusedVariables false
set_option linter.unusedSimpArgs false
set_option maxHeartbeats 400000
theorem own : ownKnob Try.prog.godebug = none := by kernel_rfl
theorem laidOut : laidOutB Try.prog = true := by kernel_rfl
set_option maxRecDepth 100000 in
theorem walk (a0 : Option Addr) (len0 cap0 : Nat) (z0 : List Int) (w : World) (w0 : IsRow .u8 w a0 len0 cap0 z0) :
    Calls Try.prog 4 #[.slice a0 len0 cap0] w fun e w' => e = .returned (.bool true) ∧ Below w.heap.size w w' := by
  by_cases hl : (1048576 : Int) < len0
  · clear w0
    go_enter Try.func4, Try.ntmps4
    go_wp2_with fail
    go_ret
    exact ⟨rfl, Below.refl _ _⟩
  have H0 := Lib.hid w0
  clear w0
  go_enter Try.func4, Try.ntmps4
  go_wp2_with fail
  refine (spec_DrawSpecTrans a0 len0 cap0 z0 w H0.out).mono ?_
  rintro e w2 ⟨p, r, hz, rfl, hB⟩
  have HB := Lib.hid hB
  clear hB H0
  have c1 := fun w => impl_SpecTrans p r w
  have c2 := fun w => spec_SpecTrans p r w (by unfold maxLen; omega)
  clear hz
  cases hv : (dvB 4 r && cv p)
  case false =>
    rw [hv] at c1 c2
    rw [orNo_false] at c1 c2
    have C1 := Lib.hid c1
    clear c1
    have C2 := Lib.hid c2
    clear c2
    clear hv
    (go_wp2_with fail; refine (C1.out _).mono ?_; rintro e w' ⟨rfl, hb⟩; have HB := Lib.hid (bgo HB.out hb); clear hb)
    (go_wp2_with fail; refine (C2.out _).mono ?_; rintro e w' ⟨rfl, rfl⟩)
    go_wp2_with fail
    go_ret
    exact ⟨rfl, HB.out⟩
  case true =>
    rw [hv] at c1 c2
    rw [orNo_true] at c1 c2
    obtain ⟨hr, hcp⟩ := Bool.and_eq_true_iff.1 hv
    have hp : Cv p := cv_iff.1 hcp
    have hX := dvB_Dg hr
    have hT := Tr.specD hp hX
    have dT := tvB_txt hT
    have hD := specD_Dg hp.1 hp.2 (dg r) 16
    have hconj : conjB (dg (txt 16 (specD p (dg r)))) = true := by rw [conjB_congr (dgt16 hD)]; exact specD_conj hp hX
    obtain ⟨A, hA⟩ : ∃ A : Nat → Int, A = fun n : Nat => boxR (dg r) (n : Int) := ⟨_, rfl⟩
    obtain ⟨E, hE⟩ : ∃ E : Nat → Int, E = fun n : Nat => band p (boxR (dg r) (n : Int)) := ⟨_, rfl⟩
    have c3 : ∀ n : Nat, n < 16 → ∀ w, Calls Try.prog 17 #[.string (txt 16 (specD p (dg r))), .int .i64 n] w fun e w' => e = .returned (.int .i64 (E n)) ∧ Below w.heap.size w w' := by
      intro n hn w
      have h := impl_ApplyTrans (txt 16 (specD p (dg r))) n w
      rw [dT, cv_iff.2 (Cv.nat hn), Bool.and_self, askV_true, apt16 hD (Cv.nat hn), ap_specD (Cv.nat hn)] at h
      rw [hE]; exact h
    have c4 : ∀ n : Nat, n < 16 → ∀ w, Calls Try.prog 27 #[.string r, .int .i64 n] w fun e w' => e = .returned (.int .i64 (A n)) ∧ Below w.heap.size w w' := by
      intro n hn w
      have h := impl_BoxOf r n w
      rw [hr, cv_iff.2 (Cv.nat hn), Bool.and_self, askV_true] at h
      rw [hA]; exact h
    have c5 : ∀ n : Nat, n < 16 → ∀ w, Calls Try.prog 26 #[.int .i64 p, .int .i64 (A n)] w fun e w' => e = .returned (.int .i64 (E n)) ∧ w = w' := by
      intro n hn w
      have h := impl_AndCondition p (boxR (dg r) n) w
      rw [hcp, cv_iff.2 (box_cv _ _), Bool.and_self, askV_true] at h
      rw [hA, hE]; exact h
    have c6 := fun w => impl_SpecOf (txt 16 (specD p (dg r))) w
    rw [dT, hconj, Bool.and_self, orZ_true, orNo_true, sp_15 hp hX] at c6
    have c7 := fun w => impl_TestRel p w
    rw [hcp, orNo_true] at c7
    have dt := dvB_txt (testR_Dg p)
    have c8 := fun w => impl_ComposeRel (txt 4 (testR p)) r w
    rw [dt, hr, Bool.and_self, orNo_true] at c8
    have c9 := fun w => impl_ComposeRel (txt 4 (testR p)) (txt 4 (leadsT (dg (txt 16 (specD p (dg r)))))) w
    rw [dt, dvB_txt (leadsT_Dg _), Bool.and_self, orNo_true, sp_inside hp hX] at c9
    have c10 := fun w => impl_IsConjunctive (txt 16 (specD p (dg r))) w
    rw [dT, hconj, Bool.and_self] at c10
    clear hv hr hcp hp hX hT dT hD hconj hA hE dt
    generalize txt 4 (thenR (dg (txt 4 (testR p))) (dg r)) = I at *
    generalize txt 4 (testR p) = S at *
    generalize txt 4 (leadsT (dg (txt 16 (specD p (dg r))))) = L at *
    generalize txt 16 (specD p (dg r)) = T at *
    have C1 := Lib.hid c1
    clear c1
    have C2 := Lib.hid c2
    clear c2
    have C3 := Lib.hid c3
    clear c3
    have C4 := Lib.hid c4
    clear c4
    have C5 := Lib.hid c5
    clear c5
    have C6 := Lib.hid c6
    clear c6
    have C7 := Lib.hid c7
    clear c7
    have C8 := Lib.hid c8
    clear c8
    have C9 := Lib.hid c9
    clear c9
    have C10 := Lib.hid c10
    clear c10
    (go_wp2_with fail; refine (C1.out _).mono ?_; rintro e w' ⟨rfl, hb⟩; have HB := Lib.hid (bgo HB.out hb); clear hb)
    (go_wp2_with fail; refine (C2.out _).mono ?_; rintro e w' ⟨rfl, rfl⟩)
    go_wp2_with fail
    go_loopg [9] 16 (fun gk i wr => ∃ n : Nat, n ≤ 16 ∧ gk = 16 - n ∧ i = .int .i64 n ∧ Below w.heap.size w wr)
    case atStart => exact ⟨0, by omega, rfl, rfl, HB.out⟩
    case round =>
      clear HB
      obtain ⟨n, hn, rfl, rfl, hb⟩ := hrel
      have HB := Lib.hid hb
      clear hb
      by_cases hlt : n < 16
      case pos =>
        have hdn : decide ((n : Int) < 16) = true := decide_eq_true (by omega)
        have A3 := Lib.hid (C3.out n hlt)
        have A4 := Lib.hid (C4.out n hlt)
        have A5 := Lib.hid (C5.out n hlt)
        generalize A n = v at *
        generalize E n = u at *
        (go_wp2_with fail; refine (A3.out _).mono ?_; rintro e w' ⟨rfl, hb⟩; have HB := Lib.hid (bgo HB.out hb); clear hb)
        (go_wp2_with fail; refine (A4.out _).mono ?_; rintro e w' ⟨rfl, hb⟩; have HB := Lib.hid (bgo HB.out hb); clear hb)
        (go_wp2_with fail; refine (A5.out _).mono ?_; rintro e w' ⟨rfl, rfl⟩)
        go_wp2_with fail
        go_roundg (16 - (n + 1))
        case rel => exact ⟨n + 1, by omega, rfl, by go_num, HB.out⟩
        case measure => omega
      case neg =>
        obtain rfl : n = 16 := by omega
        clear C3 C4 C5
        (go_wp2_with fail; refine (C6.out _).mono ?_; rintro e w' ⟨rfl, hb⟩; have HB := Lib.hid (bgo HB.out hb); clear hb)
        (go_wp2_with fail; refine (C7.out _).mono ?_; rintro e w' ⟨rfl, hb⟩; have HB := Lib.hid (bgo HB.out hb); clear hb)
        (go_wp2_with fail; refine (C8.out _).mono ?_; rintro e w' ⟨rfl, hb⟩; have HB := Lib.hid (bgo HB.out hb); clear hb)
        (go_wp2_with fail; refine (C9.out _).mono ?_; rintro e w' ⟨rfl, hb⟩; have HB := Lib.hid (bgo HB.out hb); clear hb)
        (go_wp2_with fail; refine (C10.out _).mono ?_; rintro e w' ⟨rfl, hb⟩; have HB := Lib.hid (bgo HB.out hb); clear hb)
        go_wp2_with fail
        go_ret
        exact ⟨rfl, HB.out⟩
set_option maxRecDepth 100000 in
theorem lifted (os : Os) (started : os.Started) (H : Type) (enc : TypeId × Value → H) :
    ReturnsInHanded {} Try.checked os 4 .any (Rows.fnSpecTransSpec.pre6 enc Try.prog Try.f4 Rows.fnSpecTransRow.domain false) (Rows.fnSpecTransSpec.post enc Try.prog Try.f4 false true false false) := by
  refine returnsInHanded_of_change (C := Try.checked) own started (by kernel_rfl) Try.func4
    (ChangeSpec.witness6 (enc := enc) (C := Try.checked) false ⟨#[], #[.slice none 0 0], []⟩ 8 (by kernel_rfl) (by kernel_rfl) (by kernel_rfl) (by kernel_rfl)) ?_
  intro W base args ds gs before hval0 hW hcnd _
  have hval : ∀ (j : Nat) t v, Try.f4.params[j]? = some t → args[j]? = some v → Value.okWide Try.prog W .any base t v := hval0
  have hW' := hW
  obtain ⟨p, q, hA0, hV, rfl, hfz, hnd⟩ := hW
  have hA : DataW.TrodAll enc Try.prog W 0 (fun _ => true) true Try.f4.params.toList args.toList ds p := hA0
  rw [Try.params4] at hA hval
  obtain ⟨v0, vs0, d0, ds0, p0, q0, hargs, rfl, rfl, h0, r0⟩ := trodAll_cons hA
  obtain ⟨rfl, rfl, rfl⟩ := trodAll_nil r0
  obtain rfl : args = #[v0] := by cases args; simp_all
  obtain ⟨rfl, rfl⟩ := trodVars_none hV
  obtain ⟨a0, len0, cap0, rfl⟩ := okWide_slice Try.underlying22 (hval 0 22 v0 rfl rfl)
  have k0 := h0
  have lt0 : ∀ x ∈ p0, x.block < W.heap.size := by obtain ⟨m, hm⟩ := k0; exact DataW.trod_lt m _ _ _ hm
  obtain ⟨z0, w0⟩ : ∃ zs, IsRow .u8 W a0 len0 cap0 zs := by
    obtain ⟨fuel, hf⟩ := h0
    rcases open_ints Try.underlying22 Try.underlying5 (by kernel_rfl) hf with ⟨hcs, _⟩ | ⟨x, l, c, zs, hcs, _, hl, hm, hz, _, hcell, hwz⟩
    · simp [Value.cells] at hcs
      obtain ⟨rfl, rfl, rfl⟩ := hcs
      exact ⟨[], .inl ⟨rfl, rfl, rfl, rfl⟩⟩
    · simp [Value.cells] at hcs
      obtain ⟨rfl, rfl, rfl⟩ := hcs
      exact ⟨zs, .inr ⟨_, rfl, hl, hm, by simpa using hz, hcell, hwz⟩⟩
  clear hA0 hval0
  refine (walk a0 len0 cap0 z0 W w0).mono fun e W' ⟨he, bel⟩ => ?_
  subst he
  exact ⟨_, rfl, _, _, _, [], _, [], hW', trodAll_mk1 (shut_bool Try.underlying4 _), (trodAll_cons_mk (Below.trod laidOut (by kernel_rfl) (of_decide_eq_true (by kernel_rfl)) k0 bel lt0) trodAll_mk0), rfl, bel.frame _, fun h => by cases h⟩
theorem over : Rows.fnSpecTransRow.holds Try.pinned (OpenSpec.ofChange Rows.fnSpecTransSpec) :=
  OpenClaim.holds_of_wide 4 Try.f4 rfl rfl rfl rfl rfl rfl rfl ⟨rfl, rfl, rfl, rfl, rfl⟩ rfl rfl rfl rfl rfl (by kernel_rfl) Try.func4 (by kernel_rfl)
    (of_decide_eq_true (by kernel_rfl)) (by unfold Func.isWrapper; first | (rw [if_pos (by decide +kernel)]; kernel_rfl) | (rw [if_neg (by decide +kernel)]; exact ⟨rfl, rfl⟩))
    (fun os started H enc _ => lifted os started H enc)
end Go.Proofs.Ytmecagiadlimgaa.fnSpecTrans
namespace Go.Proofs.Ytmecagiadlimgaa
theorem fnSpecTrans_holds : Rows.FnSpecTransSaid := fnSpecTrans.over
#print axioms fnSpecTrans_holds
end Go.Proofs.Ytmecagiadlimgaa
