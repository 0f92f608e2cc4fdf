/-
  For every input the law FnReach returns true: the angelic choice of all that reach a condition from where the transformer guarantees it is the transformer, and one that reaches is refined by it exactly if it guarantees it. No condition.
-/
import Derived.Test.YtmecagiadlimgaaRows
import Derived.Test.YtmecagiadlimgaaA14
import Derived.Test.YtmecagiadlimgaaA16
import Derived.Test.YtmecagiadlimgaaB5
import Derived.Test.YtmecagiadlimgaaRd9
import Derived.Test.YtmecagiadlimgaaQd
import Derived.WalkKit
import Derived.ProofKit
import Derived.OpenShut
import Derived.ShutString
import Derived.ChangeOld
import Derived.Below
namespace Go.Proofs.Ytmecagiadlimgaa.fnReach
open Go.ChangeShapes Go.WideShapes Go.ChangeAt Go.RowKit Go.DC
open Go.ChangeMaps (open_string shut_string)
set_option linter.unusedVariables false
set_option linter.unusedSimpArgs false
set_option maxHeartbeats 400000
theorem own : ownKnob Try.prog.godebug = none := by kernel_rfl
theorem laidOut : laidOutB Try.prog = true := by kernel_rfl
set_option maxHeartbeats 4000000 in
set_option maxRecDepth 100000 in
theorem walk (a0 : Option Addr) (len0 cap0 : Nat) (z0 : List Int) (a1 : Option Addr) (len1 cap1 : Nat) (z1 : List Int) (w : World) (w0 : IsRow .u8 w a0 len0 cap0 z0) (w1 : IsRow .u8 w a1 len1 cap1 z1) :
    Calls Try.prog 7 #[.slice a0 len0 cap0, .slice a1 len1 cap1] w fun e w' => e = .returned (.bool true) ∧ Below w.heap.size w w' := by
  by_cases hl : (1048576 : Int) < len0
  · clear w0 w1
    go_enter Try.func7, Try.ntmps7
    go_wp2_with fail
    go_ret
    exact ⟨rfl, Below.refl _ _⟩
  by_cases hl1 : (1048576 : Int) < len1
  · clear w0 w1
    go_enter Try.func7, Try.ntmps7
    go_wp2_with fail
    go_ret
    exact ⟨rfl, Below.refl _ _⟩
  have H0 := Lib.hid w0
  have H1 := Lib.hid w1
  clear w0 w1
  go_enter Try.func7, Try.ntmps7
  go_wp2_with fail
  refine (spec_DrawIsStrict a0 len0 cap0 z0 w H0.out).mono ?_
  rintro e w2 ⟨t, hz, rfl, hB⟩
  have HB := Lib.hid hB
  clear hB H0
  have c1 := fun w => impl_IsStrict t w
  have c2 := fun w => spec_IsStrict t w (by unfold maxLen; omega)
  have c3 := fun w => impl_TransValid t w
  clear hz
  cases ht : tvB t
  case false =>
    simp only [ht, Bool.false_and] at c1 c2 c3
    have C1 := Lib.hid c1
    clear c1
    have C2 := Lib.hid c2
    clear c2
    have C3 := Lib.hid c3
    clear c3
    clear ht
    (go_wp2_with fail; refine (C1.out _).mono ?_; rintro e w' ⟨rfl, hb⟩; have HB := Lib.hid (bgo HB.out hb); clear hb)
    (go_wp2_with fail; refine (C2.out _).mono ?_; rintro e w' ⟨rfl, rfl⟩)
    (go_wp2_with fail; refine (C3.out _).mono ?_; rintro e w' ⟨rfl, hb⟩; have HB := Lib.hid (bgo HB.out hb); clear hb)
    (go_wp2_with fail; refine (C1.out _).mono ?_; rintro e w' ⟨rfl, hb⟩; have HB := Lib.hid (bgo HB.out hb); clear hb)
    (go_wp2_with fail; refine (C2.out _).mono ?_; rintro e w' ⟨rfl, rfl⟩)
    go_wp2_with fail
    go_ret
    exact ⟨rfl, HB.out⟩
  case true =>
    simp only [ht, Bool.true_and] at c1 c2 c3
    have hT := tvB_Tr ht
    obtain ⟨X, hX⟩ : ∃ X : Nat → Int, X = fun n => dg t n := ⟨_, rfl⟩
    obtain ⟨R, hR⟩ : ∃ R : Int → Int → ByteArray, R = fun p q => txt 16 (reachT p q) := ⟨_, rfl⟩
    obtain ⟨J, hJ⟩ : ∃ J : Nat → ByteArray, J = fun n => txt 16 (joinN (dg t) n) := ⟨_, rfl⟩
    have c4 : ∀ n : Nat, n < 16 → ∀ w, Calls Try.prog 17 #[.string t, .int .i64 n] w fun e w' => e = .returned (.int .i64 (X n)) ∧ Below w.heap.size w w' := by
      intro n hn w
      have h := impl_ApplyTrans t n w
      rw [ht, cv_iff.2 (Cv.nat hn), Bool.and_self, askV_true, ap_nat] at h
      rw [hX]; exact h
    have c5 : ∀ p q : Int, Cv p → Cv q → ∀ w, Calls Try.prog 47 #[.int .i64 p, .int .i64 q] w fun e w' => e = .returned (.tuple #[.string (R p q), .bool true]) ∧ Below w.heap.size w w' := by
      intro p q hp hq w
      have h := impl_ReachTrans p q w
      rw [cv_iff.2 hp, cv_iff.2 hq, Bool.and_self, orNo_true] at h
      rw [hR]; exact h
    have c6 : ∀ p q : Int, Cv p → Cv q → ∀ w, Calls Try.prog 48 #[.int .i64 p, .int .i64 q] w fun e w' => e = .returned (.tuple #[.string (R p q), .bool true]) ∧ w = w' := by
      intro p q hp hq w
      have h := spec_ReachTrans p q w
      rw [cv_iff.2 hp, cv_iff.2 hq, Bool.and_self, orNo_true] at h
      rw [hR]; exact h
    have c7 : ∀ n : Nat, n < 16 → ∀ w, Calls Try.prog 49 #[.string (R (X n) n), .string t] w fun e w' => e = .returned (.bool true) ∧ Below w.heap.size w w' := by
      intro n hn w
      have h := impl_RefinesTrans (R (X n) n) t w
      rw [hR, hX] at h
      rw [tvB_txt (reach_Tr (hT.dg n hn) (Cv.nat hn)), ht, reach_self ht hn] at h
      rw [hR, hX]; exact h
    have c8 : ∀ n : Nat, n < 16 → ∀ w, Calls Try.prog 39 #[.string (J n), .string (R (X n) n)] w fun e w' => e = .returned (.string (J (n + 1))) ∧ Below w.heap.size w w' := by
      intro n hn w
      have h := laws_dcJoin (J n) (R (X n) n) w
      rw [hJ, hR, hX] at h
      rw [tvB_txt (joinN_Tr hT n (by omega)), tvB_txt (reach_Tr (hT.dg n hn) (Cv.nat hn)), Bool.and_self, orNo_true, joinN_step hT hn] at h
      rw [hJ, hR, hX]; exact h
    have c9 := fun w h => spec_DrawReachTrans a1 len1 cap1 z1 w h
    have c10 := fun a b w => impl_ReachTrans a b w
    have c11 := fun a b w => spec_ReachTrans a b w
    obtain ⟨A, hA⟩ : ∃ A : Int → Int, A = fun b => ap (dg t) b := ⟨_, rfl⟩
    have c12 : ∀ b, Cv b → ∀ w, Calls Try.prog 17 #[.string t, .int .i64 b] w fun e w' => e = .returned (.int .i64 (A b)) ∧ Below w.heap.size w w' := by
      intro b hb w
      have h := impl_ApplyTrans t b w
      rw [ht, cv_iff.2 hb, Bool.and_self, askV_true] at h
      rw [hA]; exact h
    obtain ⟨S, hS⟩ : ∃ S : Int → Int → Bool, S = fun a b => bandn a (ap (dg t) b) == 0 := ⟨_, rfl⟩
    have c13 : ∀ a b, Cv a → Cv b → ∀ w, Calls Try.prog 49 #[.string (R a b), .string t] w fun e w' => e = .returned (.bool (S a b)) ∧ Below w.heap.size w w' := by
      intro a b ha hb w
      have h := impl_RefinesTrans (R a b) t w
      rw [hR] at h
      rw [tvB_txt (reach_Tr ha hb), ht, reach_ref ht ha hb] at h
      rw [hR, hS]; exact h
    have c14 : ∀ a b, Cv a → Cv b → ∀ w, Calls Try.prog 18 #[.int .i64 a, .int .i64 (A b)] w fun e w' => e = .returned (.bool (S a b)) ∧ w = w' := by
      intro a b ha hb w
      have h := impl_Implies a (ap (dg t) b) w
      rw [cv_iff.2 ha, cv_iff.2 (hT.cv hb)] at h
      rw [hA, hS]; exact h
    have hXc : ∀ n, n < 16 → Cv (X n) := fun n hn => by rw [hX]; exact hT.dg n hn
    have hJ16 : J 16 = t := by rw [hJ]; exact joinN_txt ht
    have hJ0 : J 0 = ⟨#[48, 48, 48, 48, 48, 48, 48, 48, 48, 48, 48, 48, 48, 48, 48, 48]⟩ := by rw [hJ]; show txt 16 (fun _ => 0) = _; rfl
    have HXc := Lib.hid hXc
    have HJ16 := Lib.hid hJ16
    have HJ0 := Lib.hid hJ0
    clear hXc hJ16 hJ0 hX hR hJ hA hS hT ht
    have C1 := Lib.hid c1
    clear c1
    have C2 := Lib.hid c2
    clear c2
    have C3 := Lib.hid c3
    clear c3
    have C4 := Lib.hid c4
    clear c4
    have C5 := Lib.hid c5
    clear c5
    have C6 := Lib.hid c6
    clear c6
    have C7 := Lib.hid c7
    clear c7
    have C8 := Lib.hid c8
    clear c8
    have C9 := Lib.hid c9
    clear c9
    have C10 := Lib.hid c10
    clear c10
    have C11 := Lib.hid c11
    clear c11
    have C12 := Lib.hid c12
    clear c12
    have C13 := Lib.hid c13
    clear c13
    have C14 := Lib.hid c14
    clear c14
    generalize (dg t 0 == 0) = s0 at *
    (go_wp2_with fail; refine (C1.out _).mono ?_; rintro e w' ⟨rfl, hb⟩; have HB := Lib.hid (bgo HB.out hb); clear hb)
    (go_wp2_with fail; refine (C2.out _).mono ?_; rintro e w' ⟨rfl, rfl⟩)
    (go_wp2_with fail; refine (C3.out _).mono ?_; rintro e w' ⟨rfl, hb⟩; have HB := Lib.hid (bgo HB.out hb); clear hb)
    go_wp2_with fail
    rw [← HJ0.out]
    go_loopg [6, 7] 16 (fun gk a i wr => ∃ n : Nat, n ≤ 16 ∧ gk = 16 - n ∧ i = .int .i64 n ∧ a = .string (J n) ∧ Below w.heap.size w wr)
    case atStart => exact ⟨0, by omega, rfl, rfl, rfl, HB.out⟩
    case round =>
      clear HB
      obtain ⟨n, hn, rfl, rfl, rfl, hb⟩ := hrel
      have HB := Lib.hid hb
      clear hb
      by_cases hlt : n < 16
      case pos =>
        have hdn : decide ((n : Int) < 16) = true := decide_eq_true (by omega)
        have A4 := Lib.hid (C4.out n hlt)
        have A5 := Lib.hid (C5.out _ _ (HXc.out n hlt) (Cv.nat hlt))
        have A6 := Lib.hid (C6.out _ _ (HXc.out n hlt) (Cv.nat hlt))
        have A7 := Lib.hid (C7.out n hlt)
        have A8 := Lib.hid (C8.out n hlt)
        clear C4 C5 C6 C7 C8 C9 C10 C11 C12 C13 C14 HXc HJ16
        generalize R (X n) n = U at *
        generalize X n = xn at *
        generalize hJn : J n = Jn at *
        generalize hJm : J (n + 1) = Jm at *
        have HJm := Lib.hid hJm
        clear hJm hJn
        (go_wp2_with fail; refine (A4.out _).mono ?_; rintro e w' ⟨rfl, hb⟩; have HB := Lib.hid (bgo HB.out hb); clear hb)
        (go_wp2_with fail; refine (A5.out _).mono ?_; rintro e w' ⟨rfl, hb⟩; have HB := Lib.hid (bgo HB.out hb); clear hb)
        (go_wp2_with fail; refine (A6.out _).mono ?_; rintro e w' ⟨rfl, rfl⟩)
        (go_wp2_with fail; refine (A7.out _).mono ?_; rintro e w' ⟨rfl, hb⟩; have HB := Lib.hid (bgo HB.out hb); clear hb)
        (go_wp2_with fail; refine (A8.out _).mono ?_; rintro e w' ⟨rfl, hb⟩; have HB := Lib.hid (bgo HB.out hb); clear hb)
        go_wp2_with fail
        go_roundg (16 - (n + 1))
        case rel => exact ⟨n + 1, by omega, rfl, by go_num, congrArg Value.string HJm.out.symm, HB.out⟩
        case measure => omega
      case neg =>
        obtain rfl : n = 16 := by omega
        rw [HJ16.out]
        clear C4 C7 C8 HXc HJ16 HJ0
        go_wp2_with fail
        refine (C9.out _ (Go.Proofs.Ytmecagiadlimgaa.IsRow.go H1.out HB.out)).mono ?_
        rintro e w4 ⟨a, b, rfl, hb⟩
        have HB := Lib.hid (bgo HB.out hb)
        clear hb
        cases hab : (cv a && cv b)
        case false =>
          have c10 := C10.out a b
          have c11 := C11.out a b
          rw [hab, orNo_false] at c10 c11
          have A10 := Lib.hid c10
          have A11 := Lib.hid c11
          clear c10 c11 C5 C6 C9 C10 C11 C12 C13 C14 H1 hab
          (go_wp2_with fail; refine (A10.out _).mono ?_; rintro e w' ⟨rfl, hb⟩; have HB := Lib.hid (bgo HB.out hb); clear hb)
          (go_wp2_with fail; refine (A11.out _).mono ?_; rintro e w' ⟨rfl, rfl⟩)
          go_wp2_with fail
          go_ret
          exact ⟨rfl, HB.out⟩
        case true =>
          obtain ⟨ha, hb⟩ := Bool.and_eq_true_iff.1 hab
          have ha := cv_iff.1 ha
          have hb := cv_iff.1 hb
          have A5 := Lib.hid (C5.out a b ha hb)
          have A6 := Lib.hid (C6.out a b ha hb)
          have A12 := Lib.hid (C12.out b hb)
          have A13 := Lib.hid (C13.out a b ha hb)
          have A14 := Lib.hid (C14.out a b ha hb)
          clear C5 C6 C9 C10 C11 C12 C13 C14 H1 hab ha hb
          generalize R a b = U at *
          generalize A b = ab at *
          generalize S a b = s at *
          (go_wp2_with fail; refine (A5.out _).mono ?_; rintro e w' ⟨rfl, hb⟩; have HB := Lib.hid (bgo HB.out hb); clear hb)
          (go_wp2_with fail; refine (A6.out _).mono ?_; rintro e w' ⟨rfl, rfl⟩)
          (go_wp2_with fail; refine (A13.out _).mono ?_; rintro e w' ⟨rfl, hb⟩; have HB := Lib.hid (bgo HB.out hb); clear hb)
          (go_wp2_with fail; refine (A12.out _).mono ?_; rintro e w' ⟨rfl, hb⟩; have HB := Lib.hid (bgo HB.out hb); clear hb)
          (go_wp2_with fail; refine (A14.out _).mono ?_; rintro e w' ⟨rfl, rfl⟩)
          go_wp2_with fail
          go_ret
          exact ⟨rfl, HB.out⟩
set_option maxRecDepth 100000 in
theorem lifted (os : Os) (started : os.Started) (H : Type) (enc : TypeId × Value → H) :
    ReturnsInHanded {} Try.checked os 7 .any (Rows.fnReachSpec.pre6 enc Try.prog Try.f7 Rows.fnReachRow.domain false) (Rows.fnReachSpec.post enc Try.prog Try.f7 false true false false) := by
  refine returnsInHanded_of_change (C := Try.checked) own started (by kernel_rfl) Try.func7
    (ChangeSpec.witness6 (enc := enc) (C := Try.checked) false ⟨#[], #[.slice none 0 0, .slice none 0 0], []⟩ 8 (by kernel_rfl) (by kernel_rfl) (by kernel_rfl) (by kernel_rfl)) ?_
  intro W base args ds gs before hval0 hW hcnd _
  have hval : ∀ (j : Nat) t v, Try.f7.params[j]? = some t → args[j]? = some v → Value.okWide Try.prog W .any base t v := hval0
  have hW' := hW
  obtain ⟨p, q, hA0, hV, rfl, hfz, hnd⟩ := hW
  have hA : DataW.TrodAll enc Try.prog W 0 (fun _ => true) true Try.f7.params.toList args.toList ds p := hA0
  rw [Try.params7] at hA hval
  obtain ⟨v0, vs0, d0, ds0, p0, q0, hargs, rfl, rfl, h0, r0⟩ := trodAll_cons hA
  obtain ⟨v1, vs1, d1, ds1, p1, q1, rfl, rfl, rfl, h1, r1⟩ := trodAll_cons r0
  obtain ⟨rfl, rfl, rfl⟩ := trodAll_nil r1
  obtain rfl : args = #[v0, v1] := by cases args; simp_all
  obtain ⟨rfl, rfl⟩ := trodVars_none hV
  obtain ⟨a0, len0, cap0, rfl⟩ := okWide_slice Try.underlying22 (hval 0 22 v0 rfl rfl)
  have k0 := h0
  have lt0 : ∀ x ∈ p0, x.block < W.heap.size := by obtain ⟨m, hm⟩ := k0; exact DataW.trod_lt m _ _ _ hm
  obtain ⟨z0, w0⟩ : ∃ zs, IsRow .u8 W a0 len0 cap0 zs := by
    obtain ⟨fuel, hf⟩ := h0
    rcases open_ints Try.underlying22 Try.underlying5 (by kernel_rfl) hf with ⟨hcs, _⟩ | ⟨x, l, c, zs, hcs, _, hl, hm, hz, _, hcell, hwz⟩
    · simp [Value.cells] at hcs
      obtain ⟨rfl, rfl, rfl⟩ := hcs
      exact ⟨[], .inl ⟨rfl, rfl, rfl, rfl⟩⟩
    · simp [Value.cells] at hcs
      obtain ⟨rfl, rfl, rfl⟩ := hcs
      exact ⟨zs, .inr ⟨_, rfl, hl, hm, by simpa using hz, hcell, hwz⟩⟩
  obtain ⟨a1, len1, cap1, rfl⟩ := okWide_slice Try.underlying22 (hval 1 22 v1 rfl rfl)
  have k1 := h1
  have lt1 : ∀ x ∈ p1, x.block < W.heap.size := by obtain ⟨m, hm⟩ := k1; exact DataW.trod_lt m _ _ _ hm
  obtain ⟨z1, w1⟩ : ∃ zs, IsRow .u8 W a1 len1 cap1 zs := by
    obtain ⟨fuel, hf⟩ := h1
    rcases open_ints Try.underlying22 Try.underlying5 (by kernel_rfl) hf with ⟨hcs, _⟩ | ⟨x, l, c, zs, hcs, _, hl, hm, hz, _, hcell, hwz⟩
    · simp [Value.cells] at hcs
      obtain ⟨rfl, rfl, rfl⟩ := hcs
      exact ⟨[], .inl ⟨rfl, rfl, rfl, rfl⟩⟩
    · simp [Value.cells] at hcs
      obtain ⟨rfl, rfl, rfl⟩ := hcs
      exact ⟨zs, .inr ⟨_, rfl, hl, hm, by simpa using hz, hcell, hwz⟩⟩
  clear hA0 hval0
  refine (walk a0 len0 cap0 z0 a1 len1 cap1 z1 W w0 w1).mono fun e W' ⟨he, bel⟩ => ?_
  subst he
  exact ⟨_, rfl, _, _, _, [], _, [], hW', trodAll_mk1 (shut_bool Try.underlying4 _), (trodAll_cons_mk (Below.trod laidOut (by kernel_rfl) (of_decide_eq_true (by kernel_rfl)) k0 bel lt0) (trodAll_cons_mk (Below.trod laidOut (by kernel_rfl) (of_decide_eq_true (by kernel_rfl)) k1 bel lt1) trodAll_mk0)), rfl, bel.frame _, fun h => by cases h⟩
theorem over : Rows.fnReachRow.holds Try.pinned (OpenSpec.ofChange Rows.fnReachSpec) :=
  OpenClaim.holds_of_wide 7 Try.f7 rfl rfl rfl rfl rfl rfl rfl ⟨rfl, rfl, rfl, rfl, rfl⟩ rfl rfl rfl rfl rfl (by kernel_rfl) Try.func7 (by kernel_rfl)
    (of_decide_eq_true (by kernel_rfl)) (by unfold Func.isWrapper; first | (rw [if_pos (by decide +kernel)]; kernel_rfl) | (rw [if_neg (by decide +kernel)]; exact ⟨rfl, rfl⟩))
    (fun os started H enc _ => lifted os started H enc)
end Go.Proofs.Ytmecagiadlimgaa.fnReach
namespace Go.Proofs.Ytmecagiadlimgaa
theorem fnReach_holds : Rows.FnReachSaid := fnReach.over
#print axioms fnReach_holds
end Go.Proofs.Ytmecagiadlimgaa
