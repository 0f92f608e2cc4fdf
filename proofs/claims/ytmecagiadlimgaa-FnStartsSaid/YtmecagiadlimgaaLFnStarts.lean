/-
  For every input the law FnStarts returns true: what is needed lies between the miracles and the starts, and the dual exchanges them. No condition.
-/
import Derived.Test.YtmecagiadlimgaaRows
import Derived.Test.YtmecagiadlimgaaA14
import Derived.Test.YtmecagiadlimgaaA16
import Derived.Test.YtmecagiadlimgaaB5
import Derived.Test.YtmecagiadlimgaaRd9
import Derived.Test.YtmecagiadlimgaaPy
import Derived.WalkKit
import Derived.ProofKit
import Derived.OpenShut
import Derived.ShutString
import Derived.ChangeOld
import Derived.Below
namespace Go.Proofs.Ytmecagiadlimgaa.fnStarts
open Go.ChangeShapes Go.WideShapes Go.ChangeAt Go.RowKit Go.DC
open Go.ChangeMaps (open_string shut_string)
set_option linter.unusedVariables false
set_option linter.unusedSimpArgs false
set_option maxHeartbeats 400000
theorem own : ownKnob Try.prog.godebug = none := by kernel_rfl
theorem laidOut : laidOutB Try.prog = true := by kernel_rfl
set_option maxRecDepth 100000 in
theorem walk (a0 : Option Addr) (len0 cap0 : Nat) (z0 : List Int) (w : World) (w0 : IsRow .u8 w a0 len0 cap0 z0) :
    Calls Try.prog 3 #[.slice a0 len0 cap0] w fun e w' => e = .returned (.bool true) ∧ Below w.heap.size w w' := by
  by_cases hl : (1048576 : Int) < len0
  · clear w0
    go_enter Try.func3, Try.ntmps3
    go_wp2_with fail
    go_ret
    exact ⟨rfl, Below.refl _ _⟩
  have H0 := Lib.hid w0
  clear w0
  go_enter Try.func3, Try.ntmps3
  go_wp2_with fail
  refine (spec_DrawStartsOf a0 len0 cap0 z0 w H0.out).mono ?_
  rintro e w2 ⟨t, hz, rfl, hB⟩
  have HB := Lib.hid hB
  clear hB H0
  have c1 := fun w => impl_StartsOf t w
  have c2 := fun w => impl_MiraclesOf t w
  have c3 := fun w => spec_StartsOf t w (by unfold maxLen; omega)
  have c4 := fun w => spec_MiraclesOf t w (by unfold maxLen; omega)
  rw [show cv 15 = true from rfl, Bool.and_true] at c1 c3
  rw [show cv 0 = true from rfl, Bool.and_true] at c2 c4
  clear hz
  cases ht : tvB t
  case false =>
    rw [ht, askV_false] at c1 c2 c3 c4
    have C1 := Lib.hid c1
    clear c1
    have C2 := Lib.hid c2
    clear c2
    have C3 := Lib.hid c3
    clear c3
    have C4 := Lib.hid c4
    clear c4
    clear ht
    (go_wp2_with fail; refine (C1.out _).mono ?_; rintro e w' ⟨rfl, hb⟩; have HB := Lib.hid (bgo HB.out hb); clear hb)
    (go_wp2_with fail; refine (C2.out _).mono ?_; rintro e w' ⟨rfl, hb⟩; have HB := Lib.hid (bgo HB.out hb); clear hb)
    (go_wp2_with fail; refine (C3.out _).mono ?_; rintro e w' ⟨rfl, rfl⟩)
    (go_wp2_with fail; refine (C4.out _).mono ?_; rintro e w' ⟨rfl, rfl⟩)
    (go_wp2_with fail; refine (C3.out _).mono ?_; rintro e w' ⟨rfl, rfl⟩)
    (go_wp2_with fail; refine (C4.out _).mono ?_; rintro e w' ⟨rfl, rfl⟩)
    go_wp2_with fail
    go_ret
    exact ⟨rfl, HB.out⟩
  case true =>
    rw [ht, askV_true] at c1 c2 c3 c4
    have hT := tvB_Tr ht
    have hca := hT.cv Cv.c15
    have hcb := hT.cv Cv.c0
    obtain ⟨A, hA⟩ : ∃ A : Nat → Int, A = fun n : Nat => ap (dg t) (n : Int) := ⟨_, rfl⟩
    have c5 : ∀ n : Nat, n < 16 → ∀ w, Calls Try.prog 17 #[.string t, .int .i64 n] w fun e w' => e = .returned (.int .i64 (A n)) ∧ Below w.heap.size w w' := by
      intro n hn w
      have h := impl_ApplyTrans t n w
      rw [ht, cv_iff.2 (Cv.nat hn), Bool.and_self, askV_true] at h
      rw [hA]; exact h
    have c6 : ∀ n : Nat, n < 16 → ∀ w, Calls Try.prog 18 #[.int .i64 (ap (dg t) 0), .int .i64 (A n)] w fun e w' => e = .returned (.bool true) ∧ w = w' := by
      intro n hn w
      have h := impl_Implies (ap (dg t) 0) (ap (dg t) n) w
      rw [cv_iff.2 hcb, cv_iff.2 (hT.cv (Cv.nat hn)), sub_true (st_lo hT hn)] at h
      rw [hA]; exact h
    have c7 : ∀ n : Nat, n < 16 → ∀ w, Calls Try.prog 18 #[.int .i64 (A n), .int .i64 (ap (dg t) 15)] w fun e w' => e = .returned (.bool true) ∧ w = w' := by
      intro n hn w
      have h := impl_Implies (ap (dg t) n) (ap (dg t) 15) w
      rw [cv_iff.2 hca, cv_iff.2 (hT.cv (Cv.nat hn)), sub_true (st_hi hT hn)] at h
      rw [hA]; exact h
    have c8 := fun w => laws_dcDual t w
    rw [ht, orNo_true] at c8
    have hU := tvB_txt hT.dual
    have c9 := fun w => impl_StartsOf (txt 16 (dual (dg t))) w
    rw [hU, show cv 15 = true from rfl, Bool.and_self, askV_true, st_dual15 hT] at c9
    have c10 := fun w => impl_MiraclesOf (txt 16 (dual (dg t))) w
    rw [hU, show cv 0 = true from rfl, Bool.and_self, askV_true, st_dual0 hT] at c10
    have c11 := fun w => impl_NotCondition (ap (dg t) 0) w
    rw [cv_iff.2 hcb, if_pos rfl] at c11
    have c12 := fun w => impl_NotCondition (ap (dg t) 15) w
    rw [cv_iff.2 hca, if_pos rfl] at c12
    have c13 : ∀ w, Calls Try.prog 21 #[.string t] w fun e w' => e = .returned (.bool (ap (dg t) 15 == 15)) ∧ Below w.heap.size w w' := by
      intro w
      have h := impl_IsTerminating t w
      rw [ht, Bool.true_and] at h
      exact h
    have c14 : ∀ w, Calls Try.prog 22 #[.string t] w fun e w' => e = .returned (.bool (ap (dg t) 0 == 0)) ∧ Below w.heap.size w w' := by
      intro w
      have h := impl_IsStrict t w
      rw [ht, Bool.true_and] at h
      exact h
    have hn0 : ¬ ap (dg t) 15 < 0 := by have := hca.1; omega
    clear hca hcb hT ht hA hU
    generalize ap (dg t) 15 = a at *
    generalize ap (dg t) 0 = b at *
    generalize txt 16 (dual (dg t)) = U at *
    generalize bandn 15 a = na at *
    generalize bandn 15 b = nb at *
    have C1 := Lib.hid c1
    clear c1
    have C2 := Lib.hid c2
    clear c2
    have C3 := Lib.hid c3
    clear c3
    have C4 := Lib.hid c4
    clear c4
    have C5 := Lib.hid c5
    clear c5
    have C6 := Lib.hid c6
    clear c6
    have C7 := Lib.hid c7
    clear c7
    have C8 := Lib.hid c8
    clear c8
    have C9 := Lib.hid c9
    clear c9
    have C10 := Lib.hid c10
    clear c10
    have C11 := Lib.hid c11
    clear c11
    have C12 := Lib.hid c12
    clear c12
    have C13 := Lib.hid c13
    clear c13
    have C14 := Lib.hid c14
    clear c14
    (go_wp2_with fail; refine (C1.out _).mono ?_; rintro e w' ⟨rfl, hb⟩; have HB := Lib.hid (bgo HB.out hb); clear hb)
    (go_wp2_with fail; refine (C2.out _).mono ?_; rintro e w' ⟨rfl, hb⟩; have HB := Lib.hid (bgo HB.out hb); clear hb)
    (go_wp2_with fail; refine (C3.out _).mono ?_; rintro e w' ⟨rfl, rfl⟩)
    (go_wp2_with fail; refine (C4.out _).mono ?_; rintro e w' ⟨rfl, rfl⟩)
    go_wp2_with fail
    go_loopg [6] 16 (fun gk i wr => ∃ n : Nat, n ≤ 16 ∧ gk = 16 - n ∧ i = .int .i64 n ∧ Below w.heap.size w wr)
    case atStart => exact ⟨0, by omega, rfl, rfl, HB.out⟩
    case round =>
      clear HB
      obtain ⟨n, hn, rfl, rfl, hb⟩ := hrel
      have HB := Lib.hid hb
      clear hb
      by_cases hlt : n < 16
      case pos =>
        have hdn : decide ((n : Int) < 16) = true := decide_eq_true (by omega)
        have A5 := Lib.hid (C5.out n hlt)
        have A6 := Lib.hid (C6.out n hlt)
        have A7 := Lib.hid (C7.out n hlt)
        generalize A n = v at *
        (go_wp2_with fail; refine (A5.out _).mono ?_; rintro e w' ⟨rfl, hb⟩; have HB := Lib.hid (bgo HB.out hb); clear hb)
        (go_wp2_with fail; refine (A6.out _).mono ?_; rintro e w' ⟨rfl, rfl⟩)
        (go_wp2_with fail; refine (A7.out _).mono ?_; rintro e w' ⟨rfl, rfl⟩)
        go_wp2_with fail
        go_roundg (16 - (n + 1))
        case rel => exact ⟨n + 1, by omega, rfl, by go_num, HB.out⟩
        case measure => omega
      case neg =>
        obtain rfl : n = 16 := by omega
        clear C5 C6 C7
        cases h1 : (a == 15) <;> cases h2 : (b == 0)
        all_goals
          rw [h1] at C13
          rw [h2] at C14
          (go_wp2_with fail; refine (C8.out _).mono ?_; rintro e w' ⟨rfl, hb⟩; have HB := Lib.hid (bgo HB.out hb); clear hb)
          (go_wp2_with fail; refine (C9.out _).mono ?_; rintro e w' ⟨rfl, hb⟩; have HB := Lib.hid (bgo HB.out hb); clear hb)
          (go_wp2_with fail; refine (C11.out _).mono ?_; rintro e w' ⟨rfl, rfl⟩)
          (go_wp2_with fail; refine (C10.out _).mono ?_; rintro e w' ⟨rfl, hb⟩; have HB := Lib.hid (bgo HB.out hb); clear hb)
          (go_wp2_with fail; refine (C12.out _).mono ?_; rintro e w' ⟨rfl, rfl⟩)
          (go_wp2_with fail; refine (C13.out _).mono ?_; rintro e w' ⟨rfl, hb⟩; have HB := Lib.hid (bgo HB.out hb); clear hb)
          (go_wp2_with fail; refine (C14.out _).mono ?_; rintro e w' ⟨rfl, hb⟩; have HB := Lib.hid (bgo HB.out hb); clear hb)
          go_wp2_with fail
          go_ret
          exact ⟨rfl, HB.out⟩
set_option maxRecDepth 100000 in
theorem lifted (os : Os) (started : os.Started) (H : Type) (enc : TypeId × Value → H) :
    ReturnsInHanded {} Try.checked os 3 .any (Rows.fnStartsSpec.pre6 enc Try.prog Try.f3 Rows.fnStartsRow.domain false) (Rows.fnStartsSpec.post enc Try.prog Try.f3 false true false false) := by
  refine returnsInHanded_of_change (C := Try.checked) own started (by kernel_rfl) Try.func3
    (ChangeSpec.witness6 (enc := enc) (C := Try.checked) false ⟨#[], #[.slice none 0 0], []⟩ 8 (by kernel_rfl) (by kernel_rfl) (by kernel_rfl) (by kernel_rfl)) ?_
  intro W base args ds gs before hval0 hW hcnd _
  have hval : ∀ (j : Nat) t v, Try.f3.params[j]? = some t → args[j]? = some v → Value.okWide Try.prog W .any base t v := hval0
  have hW' := hW
  obtain ⟨p, q, hA0, hV, rfl, hfz, hnd⟩ := hW
  have hA : DataW.TrodAll enc Try.prog W 0 (fun _ => true) true Try.f3.params.toList args.toList ds p := hA0
  rw [Try.params3] at hA hval
  obtain ⟨v0, vs0, d0, ds0, p0, q0, hargs, rfl, rfl, h0, r0⟩ := trodAll_cons hA
  obtain ⟨rfl, rfl, rfl⟩ := trodAll_nil r0
  obtain rfl : args = #[v0] := by cases args; simp_all
  obtain ⟨rfl, rfl⟩ := trodVars_none hV
  obtain ⟨a0, len0, cap0, rfl⟩ := okWide_slice Try.underlying22 (hval 0 22 v0 rfl rfl)
  have k0 := h0
  have lt0 : ∀ x ∈ p0, x.block < W.heap.size := by obtain ⟨m, hm⟩ := k0; exact DataW.trod_lt m _ _ _ hm
  obtain ⟨z0, w0⟩ : ∃ zs, IsRow .u8 W a0 len0 cap0 zs := by
    obtain ⟨fuel, hf⟩ := h0
    rcases open_ints Try.underlying22 Try.underlying5 (by kernel_rfl) hf with ⟨hcs, _⟩ | ⟨x, l, c, zs, hcs, _, hl, hm, hz, _, hcell, hwz⟩
    · simp [Value.cells] at hcs
      obtain ⟨rfl, rfl, rfl⟩ := hcs
      exact ⟨[], .inl ⟨rfl, rfl, rfl, rfl⟩⟩
    · simp [Value.cells] at hcs
      obtain ⟨rfl, rfl, rfl⟩ := hcs
      exact ⟨zs, .inr ⟨_, rfl, hl, hm, by simpa using hz, hcell, hwz⟩⟩
  clear hA0 hval0
  refine (walk a0 len0 cap0 z0 W w0).mono fun e W' ⟨he, bel⟩ => ?_
  subst he
  exact ⟨_, rfl, _, _, _, [], _, [], hW', trodAll_mk1 (shut_bool Try.underlying4 _), (trodAll_cons_mk (Below.trod laidOut (by kernel_rfl) (of_decide_eq_true (by kernel_rfl)) k0 bel lt0) trodAll_mk0), rfl, bel.frame _, fun h => by cases h⟩
theorem over : Rows.fnStartsRow.holds Try.pinned (OpenSpec.ofChange Rows.fnStartsSpec) :=
  OpenClaim.holds_of_wide 3 Try.f3 rfl rfl rfl rfl rfl rfl rfl ⟨rfl, rfl, rfl, rfl, rfl⟩ rfl rfl rfl rfl rfl (by kernel_rfl) Try.func3 (by kernel_rfl)
    (of_decide_eq_true (by kernel_rfl)) (by unfold Func.isWrapper; first | (rw [if_pos (by decide +kernel)]; kernel_rfl) | (rw [if_neg (by decide +kernel)]; exact ⟨rfl, rfl⟩))
    (fun os started H enc _ => lifted os started H enc)
end Go.Proofs.Ytmecagiadlimgaa.fnStarts
namespace Go.Proofs.Ytmecagiadlimgaa
theorem fnStarts_holds : Rows.FnStartsSaid := fnStarts.over
#print axioms fnStarts_holds
end Go.Proofs.Ytmecagiadlimgaa
