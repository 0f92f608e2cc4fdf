/-
  For every input the law FnRelSets returns true: meets and unions have the pairs that they shall have, counts add up, and being within is told by both. No condition.
-/
import Derived.Test.YtlebkjjknggjfaaRows
import Derived.Test.YtlebkjjknggjfaaA14
import Derived.Test.YtlebkjjknggjfaaB6
import Derived.Test.YtlebkjjknggjfaaRd5
import Derived.Test.YtlebkjjknggjfaaPx
import Derived.Test.YtlebkjjknggjfaaPR
import Derived.WalkKit
import Derived.ProofKit
import Derived.OpenShut
import Derived.ShutString
import Derived.ChangeOld
import Derived.Below
namespace Go.Proofs.Ytlebkjjknggjfaa.fnRelSets
open Go.ChangeShapes Go.WideShapes Go.ChangeAt Go.RowKit Go.DC
open Go.ChangeMaps (open_string shut_string)
set_option linter.unusedVariables false
set_option linter.unusedSimpArgs false
set_option maxHeartbeats 400000
theorem own : ownKnob Try.prog.godebug = none := by kernel_rfl
theorem laidOut : laidOutB Try.prog = true := by kernel_rfl
theorem relates_all {r : ByteArray} (hr : dvB 4 r = true) (R : Nat → Nat → Bool) (hR : ∀ s t, s < 4 → t < 4 → hasb (dg r s) t = R s t) : ∀ s t : Nat, s < 4 → t < 4 → ∀ w, Calls Try.prog 23 #[.string r, .int .i64 s, .int .i64 t] w fun e w' => e = .returned (.bool (R s t)) ∧ Below w.heap.size w w' := by
  intro s t hs ht w
  have h := impl_Relates r s t w
  rw [relates_at hr hs ht, hR s t hs ht] at h
  exact h
set_option maxRecDepth 100000 in
theorem walk (a0 : Option Addr) (len0 cap0 : Nat) (z0 : List Int) (w : World) (w0 : IsRow .u8 w a0 len0 cap0 z0) :
    Calls Try.prog 7 #[.slice a0 len0 cap0] w fun e w' => e = .returned (.bool true) ∧ Below w.heap.size w w' := by
  by_cases hl : (1048576 : Int) < len0
  · clear w0
    go_enter Try.func7, Try.ntmps7
    go_wp2_with fail
    go_ret
    exact ⟨rfl, Below.refl _ _⟩
  have H0 := Lib.hid w0
  clear w0
  go_enter Try.func7, Try.ntmps7
  go_wp2_with fail
  refine (spec_DrawAndRel a0 len0 cap0 z0 w H0.out).mono ?_
  rintro e w2 ⟨r, q, hz, hz2, rfl, hB⟩
  have HB := Lib.hid hB
  clear hB H0
  have c1 := fun w => impl_AndRel r q w
  have c2 := fun w => spec_AndRel r q w (by unfold maxLen; omega) (by unfold maxLen; omega)
  have c3 := fun w => impl_OrRel r q w
  have c4 := fun w => spec_OrRel r q w (by unfold maxLen; omega) (by unfold maxLen; omega)
  have c8 := fun w => impl_WithinRel r q w
  have c9 := fun w => spec_WithinRel r q w (by unfold maxLen; omega) (by unfold maxLen; omega)
  clear hz hz2
  cases hv : (dvB 4 r && dvB 4 q)
  case false =>
    rw [hv] at c1 c2 c3 c4
    rw [orNo_false] at c1 c2 c3 c4
    have C1 := Lib.hid c1
    clear c1
    have C2 := Lib.hid c2
    clear c2
    have C3 := Lib.hid c3
    clear c3
    have C4 := Lib.hid c4
    clear c4
    clear hv
    (go_wp2_with fail; refine (C1.out _).mono ?_; rintro e w' ⟨rfl, hb⟩; have HB := Lib.hid (bgo HB.out hb); clear hb)
    (go_wp2_with fail; refine (C2.out _).mono ?_; rintro e w' ⟨rfl, rfl⟩)
    (go_wp2_with fail; refine (C3.out _).mono ?_; rintro e w' ⟨rfl, hb⟩; have HB := Lib.hid (bgo HB.out hb); clear hb)
    (go_wp2_with fail; refine (C4.out _).mono ?_; rintro e w' ⟨rfl, rfl⟩)
    go_wp2_with fail
    go_ret
    exact ⟨rfl, HB.out⟩
  case true =>
    rw [hv] at c1 c2 c3 c4 c8 c9
    rw [orNo_true] at c1 c2 c3 c4
    rw [Bool.true_and] at c8 c9
    obtain ⟨hr, hq⟩ := Bool.and_eq_true_iff.1 hv
    have hX := dvB_Dg hr
    have hY := dvB_Dg hq
    simp only [impl_and r q hr hq] at c1
    simp only [impl_or r q hr hq] at c3
    have c2' : ∀ w, Calls Try.prog 40 #[.string r, .string q] w fun e w' => e = .returned (.tuple #[.string (txt 4 (andR (dg r) (dg q))), .bool true]) ∧ w = w' := c2
    have c4' : ∀ w, Calls Try.prog 41 #[.string r, .string q] w fun e w' => e = .returned (.tuple #[.string (txt 4 (orR (dg r) (dg q))), .bool true]) ∧ w = w' := c4
    have dA := dvB_txt (andR_Dg hX hY)
    have dO := dvB_txt (orR_Dg hX hY)
    obtain ⟨R, hR⟩ : ∃ R : Nat → Nat → Bool, R = fun s t => hasb (dg r s) t := ⟨_, rfl⟩
    obtain ⟨Q, hQ⟩ : ∃ Q : Nat → Nat → Bool, Q = fun s t => hasb (dg q s) t := ⟨_, rfl⟩
    have c5 := relates_all hr R (fun s t _ _ => by rw [hR])
    have c6 := relates_all hq Q (fun s t _ _ => by rw [hQ])
    have c7 := relates_all dA (fun s t => R s t && Q s t) (fun s t hs ht => by rw [hR, hQ, dg_and hX hY hs ht])
    have c10 := relates_all dO (fun s t => R s t || Q s t) (fun s t hs ht => by rw [hR, hQ, dg_or hX hY hs ht])
    have c11 := fun w => impl_CountPairs r w
    have c12 := fun w => impl_CountPairs q w
    have c13 := fun w => impl_CountPairs (txt 4 (andR (dg r) (dg q))) w
    have c14 := fun w => impl_CountPairs (txt 4 (orR (dg r) (dg q))) w
    rw [hr, askV_true] at c11
    rw [hq, askV_true] at c12
    rw [dA, askV_true, dg_cntP (andR_Dg hX hY)] at c13
    rw [dO, askV_true, dg_cntP (orR_Dg hX hY)] at c14
    have hsum := cntP_sum hX hY 4 (Nat.le_refl _)
    have g1 := cntP_rng hX 4 (Nat.le_refl _)
    have g2 := cntP_rng hY 4 (Nat.le_refl _)
    have g3 := cntP_rng (andR_Dg hX hY) 4 (Nat.le_refl _)
    have g4 := cntP_rng (orR_Dg hX hY) 4 (Nat.le_refl _)
    have e1 := and_is hr hq
    have e2 := or_is hr hq
    clear dA dO hX hY hr hq hv hR hQ c2 c4
    generalize cntP (dg r) 4 = n1 at *
    generalize cntP (dg q) 4 = n2 at *
    generalize cntP (andR (dg r) (dg q)) 4 = n3 at *
    generalize cntP (orR (dg r) (dg q)) 4 = n4 at *
    generalize txt 4 (andR (dg r) (dg q)) = A at *
    generalize txt 4 (orR (dg r) (dg q)) = O at *
    generalize subB (dg r) (dg q) = sb at *
    obtain ⟨g1, g1'⟩ := g1
    obtain ⟨g2, g2'⟩ := g2
    obtain ⟨g3, g3'⟩ := g3
    obtain ⟨g4, g4'⟩ := g4
    have HS := Lib.hid (show n3 + n4 = n1 + n2 from hsum)
    clear hsum
    have C2 := Lib.hid c2'
    have C4 := Lib.hid c4'
    have E1 := Lib.hid e1
    have E2 := Lib.hid e2
    clear c2' c4' e1 e2
    have C1 := Lib.hid c1
    clear c1
    have C3 := Lib.hid c3
    clear c3
    have C5 := Lib.hid c5
    clear c5
    have C6 := Lib.hid c6
    clear c6
    have C7 := Lib.hid c7
    clear c7
    have C8 := Lib.hid c8
    clear c8
    have C9 := Lib.hid c9
    clear c9
    have C10 := Lib.hid c10
    clear c10
    have C11 := Lib.hid c11
    clear c11
    have C12 := Lib.hid c12
    clear c12
    have C13 := Lib.hid c13
    clear c13
    have C14 := Lib.hid c14
    clear c14
    (go_wp2_with fail; refine (C1.out _).mono ?_; rintro e w' ⟨rfl, hb⟩; have HB := Lib.hid (bgo HB.out hb); clear hb)
    (go_wp2_with fail; refine (C2.out _).mono ?_; rintro e w' ⟨rfl, rfl⟩)
    (go_wp2_with fail; refine (C3.out _).mono ?_; rintro e w' ⟨rfl, hb⟩; have HB := Lib.hid (bgo HB.out hb); clear hb)
    (go_wp2_with fail; refine (C4.out _).mono ?_; rintro e w' ⟨rfl, rfl⟩)
    go_wp2_with fail
    go_loopg [13] 4 (fun gk i wr => ∃ n : Nat, n ≤ 4 ∧ gk = 4 - n ∧ i = .int .i64 n ∧ Below w.heap.size w wr)
    case atStart => exact ⟨0, by omega, rfl, rfl, HB.out⟩
    case round =>
      clear HB
      obtain ⟨n, hn, rfl, rfl, hb⟩ := hrel
      have HB := Lib.hid hb
      clear hb
      by_cases hlt : n < 4
      case pos =>
        have hdn : decide ((n : Int) < 4) = true := decide_eq_true (by omega)
        go_wp2_with fail
        go_loopg [14] 4 (fun gk i wr => ∃ m : Nat, m ≤ 4 ∧ gk = 4 - m ∧ i = .int .i64 m ∧ Below w.heap.size w wr)
        case atStart => exact ⟨0, by omega, rfl, rfl, HB.out⟩
        case round =>
          clear HB
          obtain ⟨m, hm, rfl, rfl, hb⟩ := hrel
          have HB := Lib.hid hb
          clear hb
          by_cases hlt' : m < 4
          case pos =>
            have hdm : decide ((m : Int) < 4) = true := decide_eq_true (by omega)
            have A5 := Lib.hid (C5.out n m hlt hlt')
            have A6 := Lib.hid (C6.out n m hlt hlt')
            have A7 := Lib.hid (C7.out n m hlt hlt')
            have A10 := Lib.hid (C10.out n m hlt hlt')
            generalize R n m = x at *
            generalize Q n m = y at *
            clear C5 C6 C7 C10
            cases x <;> cases y
            all_goals
              (go_wp2_with fail; refine (A5.out _).mono ?_; rintro e w' ⟨rfl, hb⟩; have HB := Lib.hid (bgo HB.out hb); clear hb)
              (go_wp2_with fail; refine (A6.out _).mono ?_; rintro e w' ⟨rfl, hb⟩; have HB := Lib.hid (bgo HB.out hb); clear hb)
              (go_wp2_with fail; refine (A7.out _).mono ?_; rintro e w' ⟨rfl, hb⟩; have HB := Lib.hid (bgo HB.out hb); clear hb)
              (go_wp2_with fail; refine (A10.out _).mono ?_; rintro e w' ⟨rfl, hb⟩; have HB := Lib.hid (bgo HB.out hb); clear hb)
              go_wp2_with fail
              go_roundg (4 - (m + 1))
            all_goals first
              | exact ⟨m + 1, by omega, rfl, by go_num, HB.out⟩
              | omega
          case neg =>
            obtain rfl : m = 4 := by omega
            go_wp2_with fail
            go_roundg (4 - (n + 1))
            case rel => exact ⟨n + 1, by omega, rfl, by go_num, HB.out⟩
            case measure => omega
      case neg =>
        obtain rfl : n = 4 := by omega
        clear C5 C6 C7 C10
        have hS := HS.out
        have e1 := E1.out
        have e2 := E2.out
        cases sb
        case true =>
          obtain rfl : A = r := e1.2 rfl
          obtain rfl : O = q := e2.2 rfl
          clear e1 e2 E1 E2 HS
          (go_wp2_with fail; refine (C8.out _).mono ?_; rintro e w' ⟨rfl, hb⟩; have HB := Lib.hid (bgo HB.out hb); clear hb)
          (go_wp2_with fail; refine (C13.out _).mono ?_; rintro e w' ⟨rfl, hb⟩; have HB := Lib.hid (bgo HB.out hb); clear hb)
          (go_wp2_with fail; refine (C14.out _).mono ?_; rintro e w' ⟨rfl, hb⟩; have HB := Lib.hid (bgo HB.out hb); clear hb)
          (go_wp2_with fail; refine (C11.out _).mono ?_; rintro e w' ⟨rfl, hb⟩; have HB := Lib.hid (bgo HB.out hb); clear hb)
          (go_wp2_with fail; refine (C12.out _).mono ?_; rintro e w' ⟨rfl, hb⟩; have HB := Lib.hid (bgo HB.out hb); clear hb)
          go_wp2_with (go_at_call 42; refine (C9.out _).mono ?_; rintro e w' ⟨rfl, rfl⟩)
          go_ret
          exact ⟨rfl, HB.out⟩
        case false =>
          have n1 : (A.toList == r.toList) = false := by rw [eq_text]; exact decide_eq_false fun h => by cases e1.1 h
          have n2 : (O.toList == q.toList) = false := by rw [eq_text]; exact decide_eq_false fun h => by cases e2.1 h
          clear e1 e2 E1 E2 HS
          (go_wp2_with fail; refine (C8.out _).mono ?_; rintro e w' ⟨rfl, hb⟩; have HB := Lib.hid (bgo HB.out hb); clear hb)
          (go_wp2_with fail; refine (C13.out _).mono ?_; rintro e w' ⟨rfl, hb⟩; have HB := Lib.hid (bgo HB.out hb); clear hb)
          (go_wp2_with fail; refine (C14.out _).mono ?_; rintro e w' ⟨rfl, hb⟩; have HB := Lib.hid (bgo HB.out hb); clear hb)
          (go_wp2_with fail; refine (C11.out _).mono ?_; rintro e w' ⟨rfl, hb⟩; have HB := Lib.hid (bgo HB.out hb); clear hb)
          (go_wp2_with fail; refine (C12.out _).mono ?_; rintro e w' ⟨rfl, hb⟩; have HB := Lib.hid (bgo HB.out hb); clear hb)
          go_wp2_with (go_at_call 42; refine (C9.out _).mono ?_; rintro e w' ⟨rfl, rfl⟩)
          go_ret
          exact ⟨rfl, HB.out⟩
set_option maxRecDepth 100000 in
theorem lifted (os : Os) (started : os.Started) (H : Type) (enc : TypeId × Value → H) :
    ReturnsInHanded {} Try.checked os 7 .any (Rows.fnRelSetsSpec.pre6 enc Try.prog Try.f7 Rows.fnRelSetsRow.domain false) (Rows.fnRelSetsSpec.post enc Try.prog Try.f7 false true false false) := by
  refine returnsInHanded_of_change (C := Try.checked) own started (by kernel_rfl) Try.func7
    (ChangeSpec.witness6 (enc := enc) (C := Try.checked) false ⟨#[], #[.slice none 0 0], []⟩ 8 (by kernel_rfl) (by kernel_rfl) (by kernel_rfl) (by kernel_rfl)) ?_
  intro W base args ds gs before hval0 hW hcnd _
  have hval : ∀ (j : Nat) t v, Try.f7.params[j]? = some t → args[j]? = some v → Value.okWide Try.prog W .any base t v := hval0
  have hW' := hW
  obtain ⟨p, q, hA0, hV, rfl, hfz, hnd⟩ := hW
  have hA : DataW.TrodAll enc Try.prog W 0 (fun _ => true) true Try.f7.params.toList args.toList ds p := hA0
  rw [Try.params7] at hA hval
  obtain ⟨v0, vs0, d0, ds0, p0, q0, hargs, rfl, rfl, h0, r0⟩ := trodAll_cons hA
  obtain ⟨rfl, rfl, rfl⟩ := trodAll_nil r0
  obtain rfl : args = #[v0] := by cases args; simp_all
  obtain ⟨rfl, rfl⟩ := trodVars_none hV
  obtain ⟨a0, len0, cap0, rfl⟩ := okWide_slice Try.underlying22 (hval 0 22 v0 rfl rfl)
  have k0 := h0
  have lt0 : ∀ x ∈ p0, x.block < W.heap.size := by obtain ⟨m, hm⟩ := k0; exact DataW.trod_lt m _ _ _ hm
  obtain ⟨z0, w0⟩ : ∃ zs, IsRow .u8 W a0 len0 cap0 zs := by
    obtain ⟨fuel, hf⟩ := h0
    rcases open_ints Try.underlying22 Try.underlying5 (by kernel_rfl) hf with ⟨hcs, _⟩ | ⟨x, l, c, zs, hcs, _, hl, hm, hz, _, hcell, hwz⟩
    · simp [Value.cells] at hcs
      obtain ⟨rfl, rfl, rfl⟩ := hcs
      exact ⟨[], .inl ⟨rfl, rfl, rfl, rfl⟩⟩
    · simp [Value.cells] at hcs
      obtain ⟨rfl, rfl, rfl⟩ := hcs
      exact ⟨zs, .inr ⟨_, rfl, hl, hm, by simpa using hz, hcell, hwz⟩⟩
  clear hA0 hval0
  refine (walk a0 len0 cap0 z0 W w0).mono fun e W' ⟨he, bel⟩ => ?_
  subst he
  exact ⟨_, rfl, _, _, _, [], _, [], hW', trodAll_mk1 (shut_bool Try.underlying4 _), (trodAll_cons_mk (Below.trod laidOut (by kernel_rfl) (of_decide_eq_true (by kernel_rfl)) k0 bel lt0) trodAll_mk0), rfl, bel.frame _, fun h => by cases h⟩
theorem over : Rows.fnRelSetsRow.holds Try.pinned (OpenSpec.ofChange Rows.fnRelSetsSpec) :=
  OpenClaim.holds_of_wide 7 Try.f7 rfl rfl rfl rfl rfl rfl rfl ⟨rfl, rfl, rfl, rfl, rfl⟩ rfl rfl rfl rfl rfl (by kernel_rfl) Try.func7 (by kernel_rfl)
    (of_decide_eq_true (by kernel_rfl)) (by unfold Func.isWrapper; first | (rw [if_pos (by decide +kernel)]; kernel_rfl) | (rw [if_neg (by decide +kernel)]; exact ⟨rfl, rfl⟩))
    (fun os started H enc _ => lifted os started H enc)
end Go.Proofs.Ytlebkjjknggjfaa.fnRelSets
namespace Go.Proofs.Ytlebkjjknggjfaa
theorem fnRelSets_holds : Rows.FnRelSetsSaid := fnRelSets.over
#print axioms fnRelSets_holds
end Go.Proofs.Ytlebkjjknggjfaa
