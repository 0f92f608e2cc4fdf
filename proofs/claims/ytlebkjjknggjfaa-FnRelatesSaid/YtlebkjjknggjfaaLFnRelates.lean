/-
  For every input the law FnRelates returns true: pairs are counted, functions have one pair for each state, and turned and other relations have the turned and the other pairs. No condition.
-/
import Derived.Test.YtlebkjjknggjfaaRows
import Derived.Test.YtlebkjjknggjfaaA14
import Derived.Test.YtlebkjjknggjfaaB6
import Derived.Test.YtlebkjjknggjfaaRd5
import Derived.Test.YtlebkjjknggjfaaPx
import Derived.WalkKit
import Derived.ProofKit
import Derived.OpenShut
import Derived.ShutString
import Derived.ChangeOld
import Derived.Below
namespace Go.Proofs.Ytlebkjjknggjfaa.fnRelates
open Go.ChangeShapes Go.WideShapes Go.ChangeAt Go.RowKit Go.DC
open Go.ChangeMaps (open_string shut_string)
set_option linter.unusedVariables false
set_option linter.unusedSimpArgs false
set_option maxHeartbeats 400000
theorem own : ownKnob Try.prog.godebug = none := by kernel_rfl
theorem laidOut : laidOutB Try.prog = true := by kernel_rfl
theorem relates_all {r : ByteArray} (hr : dvB 4 r = true) (R : Nat → Nat → Bool) (hR : ∀ s t, s < 4 → t < 4 → hasb (dg r s) t = R s t) : ∀ s t : Nat, s < 4 → t < 4 → ∀ w, Calls Try.prog 23 #[.string r, .int .i64 s, .int .i64 t] w fun e w' => e = .returned (.bool (R s t)) ∧ Below w.heap.size w w' := by
  intro s t hs ht w
  have h := impl_Relates r s t w
  rw [relates_at hr hs ht, hR s t hs ht] at h
  exact h
theorem sv_nat {s : Int} (h : sv s = true) : ∃ n : Nat, n < 4 ∧ s = n := by
  unfold sv at h
  simp at h
  exact ⟨s.toNat, by omega, by omega⟩
theorem relates_turn {r : ByteArray} (hr : dvB 4 r = true) (s t : Int) : relates (txt 4 (turn (dg r))) t s = relates r s t := by
  have hT := dvB_txt (turn_Dg (dg r))
  cases hs : sv s
  · unfold relates; rw [hs]; simp
  cases ht : sv t
  · unfold relates; rw [ht]; simp
  obtain ⟨s, h1, rfl⟩ := sv_nat hs
  obtain ⟨t, h2, rfl⟩ := sv_nat ht
  rw [relates_at hT h2 h1, relates_at hr h1 h2, turn_at h2 h1]
theorem relates_not {r : ByteArray} (hr : dvB 4 r = true) (s t : Int) (h1 : 0 ≤ s) (h2 : s < 4) (h3 : 0 ≤ t) (h4 : t < 4) : relates (txt 4 (fun s => mk 4 fun t => !hasb (dg r s) t)) s t = !relates r s t := by
  obtain ⟨s, rfl⟩ : ∃ n : Nat, s = n := ⟨s.toNat, by omega⟩
  obtain ⟨t, rfl⟩ : ∃ n : Nat, t = n := ⟨t.toNat, by omega⟩
  have hD : Dg 4 (fun s => mk 4 fun t => !hasb (dg r s) t) := fun _ _ => ⟨mk4_ge _, mk4_le _⟩
  have g1 : s < 4 := by omega
  have g2 : t < 4 := by omega
  rw [relates_at (dvB_txt hD) g1 g2, relates_at hr g1 g2, dgt4 hD s g1, hasb_mk _ _ _ (by decide)]
  simp [g2]
set_option maxRecDepth 100000 in
theorem walk (a0 : Option Addr) (len0 cap0 : Nat) (z0 : List Int) (w : World) (w0 : IsRow .u8 w a0 len0 cap0 z0) :
    Calls Try.prog 5 #[.slice a0 len0 cap0] w fun e w' => e = .returned (.bool true) ∧ Below w.heap.size w w' := by
  by_cases hl : (1048576 : Int) < len0
  · clear w0
    go_enter Try.func5, Try.ntmps5
    go_wp2_with fail
    go_ret
    exact ⟨rfl, Below.refl _ _⟩
  have H0 := Lib.hid w0
  clear w0
  go_enter Try.func5, Try.ntmps5
  go_wp2_with fail
  refine (spec_DrawRelates a0 len0 cap0 z0 w H0.out).mono ?_
  rintro e w2 ⟨r, s, t, hz, rfl, hB⟩
  have HB := Lib.hid hB
  clear hB H0
  have c1 := fun w => impl_Relates r s t w
  have c2 := fun w => spec_Relates r s t w (by unfold maxLen; omega)
  have c3 := fun w => impl_RelValid r w
  have c4 := fun w => spec_RelValid r w (by unfold maxLen; omega)
  clear hz
  cases hr : dvB 4 r
  case false =>
    rw [hr] at c3 c4
    have hb : relates r s t = false := by unfold relates; rw [hr]; rfl
    rw [hb] at c1 c2
    have C1 := Lib.hid c1
    clear c1
    have C2 := Lib.hid c2
    clear c2
    have C3 := Lib.hid c3
    clear c3
    have C4 := Lib.hid c4
    clear c4
    clear hr hb
    (go_wp2_with fail; refine (C1.out _).mono ?_; rintro e w' ⟨rfl, hb⟩; have HB := Lib.hid (bgo HB.out hb); clear hb)
    (go_wp2_with fail; refine (C2.out _).mono ?_; rintro e w' ⟨rfl, rfl⟩)
    (go_wp2_with fail; refine (C3.out _).mono ?_; rintro e w' ⟨rfl, hb⟩; have HB := Lib.hid (bgo HB.out hb); clear hb)
    (go_wp2_with fail; refine (C4.out _).mono ?_; rintro e w' ⟨rfl, rfl⟩)
    (go_wp2_with fail; refine (C3.out _).mono ?_; rintro e w' ⟨rfl, hb⟩; have HB := Lib.hid (bgo HB.out hb); clear hb)
    (go_wp2_with fail; refine (C2.out _).mono ?_; rintro e w' ⟨rfl, rfl⟩)
    (go_wp2_with fail; refine (C3.out _).mono ?_; rintro e w' ⟨rfl, hb⟩; have HB := Lib.hid (bgo HB.out hb); clear hb)
    (go_wp2_with fail; refine (C4.out _).mono ?_; rintro e w' ⟨rfl, rfl⟩)
    go_wp2_with fail
    go_ret
    exact ⟨rfl, HB.out⟩
  case true =>
    rw [hr] at c3 c4
    have hX := dvB_Dg hr
    obtain ⟨R, hR⟩ : ∃ R : Nat → Nat → Bool, R = fun s t => hasb (dg r s) t := ⟨_, rfl⟩
    have c5 := relates_all hr R (fun s t _ _ => by rw [hR])
    have c6 := fun w => impl_TurnRel r w
    rw [hr, orNo_true] at c6
    have c7 := fun w => impl_NotRel r w
    rw [hr, orNo_true] at c7
    have c8 := fun w => impl_CountPairs r w
    rw [hr, askV_true] at c8
    have c9 := fun w => impl_IsFunction r w
    rw [hr, Bool.true_and] at c9
    have c10 := fun w => impl_Relates (txt 4 (turn (dg r))) t s w
    rw [relates_turn hr] at c10
    have c11 := fun (h : 0 ≤ s ∧ s < 4 ∧ 0 ≤ t ∧ t < 4) w => impl_Relates (txt 4 (fun s => mk 4 fun t => !hasb (dg r s) t)) s t w
    have c11' : ∀ (h : 0 ≤ s ∧ s < 4 ∧ 0 ≤ t ∧ t < 4) w, Calls Try.prog 23 #[.string (txt 4 (fun s => mk 4 fun t => !hasb (dg r s) t)), .int .i64 s, .int .i64 t] w fun e w' => e = .returned (.bool (!relates r s t)) ∧ Below w.heap.size w w' := by
      intro h w
      have h2 := impl_Relates (txt 4 (fun s => mk 4 fun t => !hasb (dg r s) t)) s t w
      rw [relates_not hr s t h.1 h.2.1 h.2.2.1 h.2.2.2] at h2
      exact h2
    have s1 : ∀ n, cntP (dg r) (n + 1) = cntP (dg r) n + cntS (dg r n) 4 := fun n => rfl
    have s2 : ∀ n, funB (dg r) (n + 1) = (funB (dg r) n && cntS (dg r n) 4 == 1) := fun n => rfl
    have s3 : ∀ n k, n < 4 → k < 4 → cntS (dg r n) (k + 1) = cntS (dg r n) k + if R n k then 1 else 0 := fun n k hn hk => by rw [cntS_step (hX n hn) hk, hR]
    have s4 : ∀ n, n ≤ 4 → 0 ≤ cntP (dg r) n ∧ cntP (dg r) n ≤ 4 * n := fun n hn => cntP_rng hX n hn
    have s5 : ∀ n k, n < 4 → k ≤ 4 → 0 ≤ cntS (dg r n) k ∧ cntS (dg r n) k ≤ k := fun n k hn hk => cntS_rng (hX n hn) k hk
    have s6 : cntP (dg r) 0 = 0 := rfl
    have s7 : funB (dg r) 0 = true := rfl
    have s8 : ∀ n, cntS (dg r n) 0 = 0 := fun _ => rfl
    obtain ⟨N, hN⟩ : ∃ N : Nat → Int, N = fun n => cntP (dg r) n := ⟨_, rfl⟩
    obtain ⟨F, hF⟩ : ∃ F : Nat → Bool, F = fun n => funB (dg r) n := ⟨_, rfl⟩
    obtain ⟨K, hK⟩ : ∃ K : Nat → Nat → Int, K = fun n k => cntS (dg r n) k := ⟨_, rfl⟩
    have S1 := Lib.hid (show ∀ n, N (n + 1) = N n + K n 4 by rw [hN, hK]; exact s1)
    have S2 := Lib.hid (show ∀ n, F (n + 1) = (F n && K n 4 == 1) by rw [hF, hK]; exact s2)
    have S3 := Lib.hid (show ∀ n k, n < 4 → k < 4 → K n (k + 1) = K n k + if R n k then 1 else 0 by rw [hK]; exact s3)
    have S4 := Lib.hid (show ∀ n, n ≤ 4 → 0 ≤ N n ∧ N n ≤ 4 * n by rw [hN]; exact s4)
    have S5 := Lib.hid (show ∀ n k, n < 4 → k ≤ 4 → 0 ≤ K n k ∧ K n k ≤ k by rw [hK]; exact s5)
    have S6 := Lib.hid (show N 0 = 0 by rw [hN]; exact s6)
    have S7 := Lib.hid (show F 0 = true by rw [hF]; exact s7)
    have S8 := Lib.hid (show ∀ n, K n 0 = 0 by rw [hK]; exact s8)
    have c8' : ∀ w, Calls Try.prog 31 #[.string r] w fun e w' => e = .returned (.int .i64 (N 4)) ∧ Below w.heap.size w w' := by rw [hN]; exact c8
    have c9' : ∀ w, Calls Try.prog 32 #[.string r] w fun e w' => e = .returned (.bool (F 4)) ∧ Below w.heap.size w w' := by rw [hF]; exact c9
    clear s1 s2 s3 s4 s5 s6 s7 s8 hN hF hK hR hX hr c8 c9 c11
    generalize relates r s t = is at *
    generalize txt 4 (turn (dg r)) = T at *
    generalize txt 4 (fun s => mk 4 fun t => !hasb (dg r s) t) = U at *
    have C8 := Lib.hid c8'
    have C9 := Lib.hid c9'
    have C11 := Lib.hid c11'
    clear c8' c9' c11'
    have C1 := Lib.hid c1
    clear c1
    have C2 := Lib.hid c2
    clear c2
    have C3 := Lib.hid c3
    clear c3
    have C4 := Lib.hid c4
    clear c4
    have C5 := Lib.hid c5
    clear c5
    have C6 := Lib.hid c6
    clear c6
    have C7 := Lib.hid c7
    clear c7
    have C10 := Lib.hid c10
    clear c10
    (go_wp2_with fail; refine (C1.out _).mono ?_; rintro e w' ⟨rfl, hb⟩; have HB := Lib.hid (bgo HB.out hb); clear hb)
    (go_wp2_with fail; refine (C2.out _).mono ?_; rintro e w' ⟨rfl, rfl⟩)
    (go_wp2_with fail; refine (C3.out _).mono ?_; rintro e w' ⟨rfl, hb⟩; have HB := Lib.hid (bgo HB.out hb); clear hb)
    (go_wp2_with fail; refine (C4.out _).mono ?_; rintro e w' ⟨rfl, rfl⟩)
    (go_wp2_with fail; refine (C3.out _).mono ?_; rintro e w' ⟨rfl, hb⟩; have HB := Lib.hid (bgo HB.out hb); clear hb)
    go_wp2_with fail
    clear C1 C2 C3 C4
    go_loopg [7, 8, 9] 4 (fun gk a b i wr => ∃ n : Nat, n ≤ 4 ∧ gk = 4 - n ∧ i = .int .i64 n ∧ a = .int .i64 (N n) ∧ b = .bool (F n) ∧ Below w.heap.size w wr)
    case atStart => exact ⟨0, by omega, rfl, rfl, by rw [S6.out], by rw [S7.out], HB.out⟩
    case round =>
      clear HB
      obtain ⟨n, hn, rfl, rfl, rfl, rfl, hb⟩ := hrel
      have HB := Lib.hid hb
      clear hb
      by_cases hlt : n < 4
      case pos =>
        have hdn : decide ((n : Int) < 4) = true := decide_eq_true (by omega)
        go_wp2_with fail
        go_loopg [10, 11] 4 (fun gk a i wr => ∃ k : Nat, k ≤ 4 ∧ gk = 4 - k ∧ i = .int .i64 k ∧ a = .int .i64 (K n k) ∧ Below w.heap.size w wr)
        case atStart => exact ⟨0, by omega, rfl, rfl, by rw [S8.out], HB.out⟩
        case round =>
          clear HB
          obtain ⟨k, hk, rfl, rfl, rfl, hb⟩ := hrel
          have HB := Lib.hid hb
          clear hb
          by_cases hlt' : k < 4
          case pos =>
            have hdk : decide ((k : Int) < 4) = true := decide_eq_true (by omega)
            have A5 := Lib.hid (C5.out n k hlt hlt')
            have HX := Lib.hid (S3.out n k hlt hlt')
            obtain ⟨g1, g2⟩ := S5.out n k hlt hk
            generalize K n k = v at *
            generalize R n k = x at *
            cases x
            · (go_wp2_with fail; refine (A5.out _).mono ?_; rintro e w' ⟨rfl, hb⟩; have HB := Lib.hid (bgo HB.out hb); clear hb)
              go_wp2_with fail
              go_roundg (4 - (k + 1))
              case rel => exact ⟨k + 1, by omega, rfl, by go_num, by rw [HX.out]; simp, HB.out⟩
              case measure => omega
            · (go_wp2_with fail; refine (A5.out _).mono ?_; rintro e w' ⟨rfl, hb⟩; have HB := Lib.hid (bgo HB.out hb); clear hb)
              go_wp2_with fail
              go_roundg (4 - (k + 1))
              case rel => exact ⟨k + 1, by omega, rfl, by go_num, by rw [HX.out]; simp, HB.out⟩
              case measure => omega
          case neg =>
            obtain rfl : k = 4 := by omega
            obtain ⟨g1, g2⟩ := S5.out n 4 hlt (by omega)
            obtain ⟨g3, g4⟩ := S4.out n hn
            have HX := Lib.hid (S1.out n)
            have HY := Lib.hid (S2.out n)
            generalize K n 4 = v at *
            generalize N n = u at *
            generalize F n = f at *
            cases f
            · go_wp2_with fail
              go_roundg (4 - (n + 1))
              case rel => exact ⟨n + 1, by omega, rfl, by go_num, by rw [HX.out], by rw [HY.out]; rfl, HB.out⟩
              case measure => omega
            · go_wp2_with fail
              go_roundg (4 - (n + 1))
              case rel => exact ⟨n + 1, by omega, rfl, by go_num, by rw [HX.out], by rw [HY.out]; rfl, HB.out⟩
              case measure => omega
      case neg =>
        obtain rfl : n = 4 := by omega
        clear C5 S1 S2 S3 S4 S5 S6 S7 S8
        generalize N 4 = v at *
        generalize F 4 = f at *
        by_cases h1 : 0 ≤ s
        case neg =>
          clear C11
          (go_wp2_with fail; refine (C6.out _).mono ?_; rintro e w' ⟨rfl, hb⟩; have HB := Lib.hid (bgo HB.out hb); clear hb)
          (go_wp2_with fail; refine (C7.out _).mono ?_; rintro e w' ⟨rfl, hb⟩; have HB := Lib.hid (bgo HB.out hb); clear hb)
          (go_wp2_with fail; refine (C8.out _).mono ?_; rintro e w' ⟨rfl, hb⟩; have HB := Lib.hid (bgo HB.out hb); clear hb)
          (go_wp2_with fail; refine (C9.out _).mono ?_; rintro e w' ⟨rfl, hb⟩; have HB := Lib.hid (bgo HB.out hb); clear hb)
          (go_wp2_with fail; refine (C10.out _).mono ?_; rintro e w' ⟨rfl, hb⟩; have HB := Lib.hid (bgo HB.out hb); clear hb)
          go_wp2_with fail
          go_ret
          exact ⟨rfl, HB.out⟩
        by_cases h2 : s < 4
        case neg =>
          clear C11
          (go_wp2_with fail; refine (C6.out _).mono ?_; rintro e w' ⟨rfl, hb⟩; have HB := Lib.hid (bgo HB.out hb); clear hb)
          (go_wp2_with fail; refine (C7.out _).mono ?_; rintro e w' ⟨rfl, hb⟩; have HB := Lib.hid (bgo HB.out hb); clear hb)
          (go_wp2_with fail; refine (C8.out _).mono ?_; rintro e w' ⟨rfl, hb⟩; have HB := Lib.hid (bgo HB.out hb); clear hb)
          (go_wp2_with fail; refine (C9.out _).mono ?_; rintro e w' ⟨rfl, hb⟩; have HB := Lib.hid (bgo HB.out hb); clear hb)
          (go_wp2_with fail; refine (C10.out _).mono ?_; rintro e w' ⟨rfl, hb⟩; have HB := Lib.hid (bgo HB.out hb); clear hb)
          go_wp2_with fail
          go_ret
          exact ⟨rfl, HB.out⟩
        by_cases h3 : 0 ≤ t
        case neg =>
          clear C11
          (go_wp2_with fail; refine (C6.out _).mono ?_; rintro e w' ⟨rfl, hb⟩; have HB := Lib.hid (bgo HB.out hb); clear hb)
          (go_wp2_with fail; refine (C7.out _).mono ?_; rintro e w' ⟨rfl, hb⟩; have HB := Lib.hid (bgo HB.out hb); clear hb)
          (go_wp2_with fail; refine (C8.out _).mono ?_; rintro e w' ⟨rfl, hb⟩; have HB := Lib.hid (bgo HB.out hb); clear hb)
          (go_wp2_with fail; refine (C9.out _).mono ?_; rintro e w' ⟨rfl, hb⟩; have HB := Lib.hid (bgo HB.out hb); clear hb)
          (go_wp2_with fail; refine (C10.out _).mono ?_; rintro e w' ⟨rfl, hb⟩; have HB := Lib.hid (bgo HB.out hb); clear hb)
          go_wp2_with fail
          go_ret
          exact ⟨rfl, HB.out⟩
        by_cases h4 : t < 4
        case neg =>
          clear C11
          (go_wp2_with fail; refine (C6.out _).mono ?_; rintro e w' ⟨rfl, hb⟩; have HB := Lib.hid (bgo HB.out hb); clear hb)
          (go_wp2_with fail; refine (C7.out _).mono ?_; rintro e w' ⟨rfl, hb⟩; have HB := Lib.hid (bgo HB.out hb); clear hb)
          (go_wp2_with fail; refine (C8.out _).mono ?_; rintro e w' ⟨rfl, hb⟩; have HB := Lib.hid (bgo HB.out hb); clear hb)
          (go_wp2_with fail; refine (C9.out _).mono ?_; rintro e w' ⟨rfl, hb⟩; have HB := Lib.hid (bgo HB.out hb); clear hb)
          (go_wp2_with fail; refine (C10.out _).mono ?_; rintro e w' ⟨rfl, hb⟩; have HB := Lib.hid (bgo HB.out hb); clear hb)
          go_wp2_with fail
          go_ret
          exact ⟨rfl, HB.out⟩
        have A11 := Lib.hid (C11.out ⟨h1, h2, h3, h4⟩)
        clear C11
        (go_wp2_with fail; refine (C6.out _).mono ?_; rintro e w' ⟨rfl, hb⟩; have HB := Lib.hid (bgo HB.out hb); clear hb)
        (go_wp2_with fail; refine (C7.out _).mono ?_; rintro e w' ⟨rfl, hb⟩; have HB := Lib.hid (bgo HB.out hb); clear hb)
        (go_wp2_with fail; refine (C8.out _).mono ?_; rintro e w' ⟨rfl, hb⟩; have HB := Lib.hid (bgo HB.out hb); clear hb)
        (go_wp2_with fail; refine (C9.out _).mono ?_; rintro e w' ⟨rfl, hb⟩; have HB := Lib.hid (bgo HB.out hb); clear hb)
        (go_wp2_with fail; refine (C10.out _).mono ?_; rintro e w' ⟨rfl, hb⟩; have HB := Lib.hid (bgo HB.out hb); clear hb)
        (go_wp2_with fail; refine (A11.out _).mono ?_; rintro e w' ⟨rfl, hb⟩; have HB := Lib.hid (bgo HB.out hb); clear hb)
        go_wp2_with fail
        go_ret
        exact ⟨rfl, HB.out⟩
set_option maxRecDepth 100000 in
theorem lifted (os : Os) (started : os.Started) (H : Type) (enc : TypeId × Value → H) :
    ReturnsInHanded {} Try.checked os 5 .any (Rows.fnRelatesSpec.pre6 enc Try.prog Try.f5 Rows.fnRelatesRow.domain false) (Rows.fnRelatesSpec.post enc Try.prog Try.f5 false true false false) := by
  refine returnsInHanded_of_change (C := Try.checked) own started (by kernel_rfl) Try.func5
    (ChangeSpec.witness6 (enc := enc) (C := Try.checked) false ⟨#[], #[.slice none 0 0], []⟩ 8 (by kernel_rfl) (by kernel_rfl) (by kernel_rfl) (by kernel_rfl)) ?_
  intro W base args ds gs before hval0 hW hcnd _
  have hval : ∀ (j : Nat) t v, Try.f5.params[j]? = some t → args[j]? = some v → Value.okWide Try.prog W .any base t v := hval0
  have hW' := hW
  obtain ⟨p, q, hA0, hV, rfl, hfz, hnd⟩ := hW
  have hA : DataW.TrodAll enc Try.prog W 0 (fun _ => true) true Try.f5.params.toList args.toList ds p := hA0
  rw [Try.params5] at hA hval
  obtain ⟨v0, vs0, d0, ds0, p0, q0, hargs, rfl, rfl, h0, r0⟩ := trodAll_cons hA
  obtain ⟨rfl, rfl, rfl⟩ := trodAll_nil r0
  obtain rfl : args = #[v0] := by cases args; simp_all
  obtain ⟨rfl, rfl⟩ := trodVars_none hV
  obtain ⟨a0, len0, cap0, rfl⟩ := okWide_slice Try.underlying22 (hval 0 22 v0 rfl rfl)
  have k0 := h0
  have lt0 : ∀ x ∈ p0, x.block < W.heap.size := by obtain ⟨m, hm⟩ := k0; exact DataW.trod_lt m _ _ _ hm
  obtain ⟨z0, w0⟩ : ∃ zs, IsRow .u8 W a0 len0 cap0 zs := by
    obtain ⟨fuel, hf⟩ := h0
    rcases open_ints Try.underlying22 Try.underlying5 (by kernel_rfl) hf with ⟨hcs, _⟩ | ⟨x, l, c, zs, hcs, _, hl, hm, hz, _, hcell, hwz⟩
    · simp [Value.cells] at hcs
      obtain ⟨rfl, rfl, rfl⟩ := hcs
      exact ⟨[], .inl ⟨rfl, rfl, rfl, rfl⟩⟩
    · simp [Value.cells] at hcs
      obtain ⟨rfl, rfl, rfl⟩ := hcs
      exact ⟨zs, .inr ⟨_, rfl, hl, hm, by simpa using hz, hcell, hwz⟩⟩
  clear hA0 hval0
  refine (walk a0 len0 cap0 z0 W w0).mono fun e W' ⟨he, bel⟩ => ?_
  subst he
  exact ⟨_, rfl, _, _, _, [], _, [], hW', trodAll_mk1 (shut_bool Try.underlying4 _), (trodAll_cons_mk (Below.trod laidOut (by kernel_rfl) (of_decide_eq_true (by kernel_rfl)) k0 bel lt0) trodAll_mk0), rfl, bel.frame _, fun h => by cases h⟩
theorem over : Rows.fnRelatesRow.holds Try.pinned (OpenSpec.ofChange Rows.fnRelatesSpec) :=
  OpenClaim.holds_of_wide 5 Try.f5 rfl rfl rfl rfl rfl rfl rfl ⟨rfl, rfl, rfl, rfl, rfl⟩ rfl rfl rfl rfl rfl (by kernel_rfl) Try.func5 (by kernel_rfl)
    (of_decide_eq_true (by kernel_rfl)) (by unfold Func.isWrapper; first | (rw [if_pos (by decide +kernel)]; kernel_rfl) | (rw [if_neg (by decide +kernel)]; exact ⟨rfl, rfl⟩))
    (fun os started H enc _ => lifted os started H enc)
end Go.Proofs.Ytlebkjjknggjfaa.fnRelates
namespace Go.Proofs.Ytlebkjjknggjfaa
theorem fnRelates_holds : Rows.FnRelatesSaid := fnRelates.over
#print axioms fnRelates_holds
end Go.Proofs.Ytlebkjjknggjfaa
