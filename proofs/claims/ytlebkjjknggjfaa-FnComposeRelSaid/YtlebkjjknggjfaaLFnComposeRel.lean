/-
  For every input the law FnComposeRel returns true: pairs are composed as told, composition is associative, has a neutral relation and is turned around by turning. No condition.
-/
import Derived.Test.YtlebkjjknggjfaaRows
import Derived.Test.YtlebkjjknggjfaaA14
import Derived.Test.YtlebkjjknggjfaaB6
import Derived.Test.YtlebkjjknggjfaaRd5
import Derived.Test.YtlebkjjknggjfaaPx
import Derived.WalkKit
import Derived.ProofKit
import Derived.OpenShut
import Derived.ShutString
import Derived.ChangeOld
import Derived.Below
namespace Go.Proofs.Ytlebkjjknggjfaa.fnComposeRel
open Go.ChangeShapes Go.WideShapes Go.ChangeAt Go.RowKit Go.DC
open Go.ChangeMaps (open_string shut_string)
set_option linter.unusedVariables false
set_option linter.unusedSimpArgs false
set_option maxHeartbeats 400000
theorem own : ownKnob Try.prog.godebug = none := by kernel_rfl
theorem laidOut : laidOutB Try.prog = true := by kernel_rfl
theorem relates_all {r : ByteArray} (hr : dvB 4 r = true) (R : Nat → Nat → Bool) (hR : ∀ s t, s < 4 → t < 4 → hasb (dg r s) t = R s t) : ∀ s t : Nat, s < 4 → t < 4 → ∀ w, Calls Try.prog 23 #[.string r, .int .i64 s, .int .i64 t] w fun e w' => e = .returned (.bool (R s t)) ∧ Below w.heap.size w w' := by
  intro s t hs ht w
  have h := impl_Relates r s t w
  rw [relates_at hr hs ht, hR s t hs ht] at h
  exact h
set_option maxRecDepth 100000 in
theorem walk (a0 : Option Addr) (len0 cap0 : Nat) (z0 : List Int) (a1 : Option Addr) (len1 cap1 : Nat) (z1 : List Int) (w : World) (w0 : IsRow .u8 w a0 len0 cap0 z0) (w1 : IsRow .u8 w a1 len1 cap1 z1) :
    Calls Try.prog 4 #[.slice a0 len0 cap0, .slice a1 len1 cap1] w fun e w' => e = .returned (.bool true) ∧ Below w.heap.size w w' := by
  by_cases hl : (1048576 : Int) < len0
  · clear w0 w1
    go_enter Try.func4, Try.ntmps4
    go_wp2_with fail
    go_ret
    exact ⟨rfl, Below.refl _ _⟩
  by_cases hl1 : (1048576 : Int) < len1
  · clear w0 w1
    go_enter Try.func4, Try.ntmps4
    go_wp2_with fail
    go_ret
    exact ⟨rfl, Below.refl _ _⟩
  have H0 := Lib.hid w0
  have H1 := Lib.hid w1
  clear w0 w1
  go_enter Try.func4, Try.ntmps4
  go_wp2_with fail
  refine (spec_DrawComposeRel a0 len0 cap0 z0 w H0.out).mono ?_
  rintro e w2 ⟨r, q, hz, hz2, rfl, hB⟩
  have HB := Lib.hid hB
  clear hB H0
  have c1 := fun w => impl_ComposeRel r q w
  have c2 := fun w => spec_ComposeRel r q w (by unfold maxLen; omega) (by unfold maxLen; omega)
  clear hz hz2
  cases hv : (dvB 4 r && dvB 4 q)
  case false =>
    rw [hv] at c1 c2
    rw [orNo_false] at c1 c2
    have C1 := Lib.hid c1
    clear c1
    have C2 := Lib.hid c2
    clear c2
    clear hv
    (go_wp2_with fail; refine (C1.out _).mono ?_; rintro e w' ⟨rfl, hb⟩; have HB := Lib.hid (bgo HB.out hb); clear hb)
    (go_wp2_with fail; refine (C2.out _).mono ?_; rintro e w' ⟨rfl, rfl⟩)
    go_wp2_with fail
    go_ret
    exact ⟨rfl, HB.out⟩
  case true =>
    rw [hv] at c1 c2
    rw [orNo_true] at c1 c2
    obtain ⟨hr, hq⟩ := Bool.and_eq_true_iff.1 hv
    have hX := dvB_Dg hr
    have hY := dvB_Dg hq
    have dK := dvB_txt (thenR_Dg (dg r) hY)
    obtain ⟨R, hR⟩ : ∃ R : Nat → Nat → Bool, R = fun s t => hasb (dg r s) t := ⟨_, rfl⟩
    obtain ⟨Q, hQ⟩ : ∃ Q : Nat → Nat → Bool, Q = fun s t => hasb (dg q s) t := ⟨_, rfl⟩
    have c3 := relates_all hr R (fun s t _ _ => by rw [hR])
    have c4 := relates_all hq Q (fun s t _ _ => by rw [hQ])
    have c5 := relates_all dK (fun s t => midB R Q s t 4) (fun s t hs ht => by rw [hR, hQ, mid_then hY hs ht])
    have c6 := fun w (z : IsRow .u8 w a1 len1 cap1 z1) => spec_DrawTurnRel a1 len1 cap1 z1 w z
    obtain ⟨A, hA⟩ : ∃ A : ByteArray → ByteArray, A = fun d => txt 4 (thenR (dg (txt 4 (thenR (dg r) (dg q)))) (dg d)) := ⟨_, rfl⟩
    obtain ⟨B, hBB⟩ : ∃ B : ByteArray → ByteArray, B = fun d => txt 4 (thenR (dg q) (dg d)) := ⟨_, rfl⟩
    obtain ⟨N, hN⟩ : ∃ N : ByteArray, N = ByteArray.empty := ⟨_, rfl⟩
    have c7 : ∀ d, dvB 4 d = true → ∀ w, Calls Try.prog 14 #[.string (txt 4 (thenR (dg r) (dg q))), .string d] w fun e w' => e = .returned (.tuple #[.string (A d), .bool true]) ∧ Below w.heap.size w w' := by
      intro d h w
      have h7 := impl_ComposeRel (txt 4 (thenR (dg r) (dg q))) d w
      rw [dK, h, Bool.and_self, orNo_true] at h7
      rw [hA]; exact h7
    have c8 : ∀ d, dvB 4 d = true → ∀ w, Calls Try.prog 14 #[.string q, .string d] w fun e w' => e = .returned (.tuple #[.string (B d), .bool true]) ∧ Below w.heap.size w w' := by
      intro d h w
      have h7 := impl_ComposeRel q d w
      rw [hq, h, Bool.and_self, orNo_true] at h7
      rw [hBB]; exact h7
    have c9 : ∀ d, dvB 4 d = true → ∀ w, Calls Try.prog 14 #[.string r, .string (B d)] w fun e w' => e = .returned (.tuple #[.string (A d), .bool true]) ∧ Below w.heap.size w w' := by
      intro d h w
      have h7 := impl_ComposeRel r (txt 4 (thenR (dg q) (dg d))) w
      rw [hr, dvB_txt (thenR_Dg (dg q) (dvB_Dg h)), Bool.and_self, orNo_true, ← cp_assoc hY (dvB_Dg h)] at h7
      rw [hBB, hA]; exact h7
    have c16 : ∀ d, dvB 4 d = false → ∀ w, Calls Try.prog 14 #[.string (txt 4 (thenR (dg r) (dg q))), .string d] w fun e w' => e = .returned (.tuple #[.string N, .bool false]) ∧ Below w.heap.size w w' := by
      intro d h w
      have h7 := impl_ComposeRel (txt 4 (thenR (dg r) (dg q))) d w
      rw [h, Bool.and_false, orNo_false] at h7
      rw [hN]; exact h7
    have c17 : ∀ d, dvB 4 d = false → ∀ w, Calls Try.prog 14 #[.string q, .string d] w fun e w' => e = .returned (.tuple #[.string N, .bool false]) ∧ Below w.heap.size w w' := by
      intro d h w
      have h7 := impl_ComposeRel q d w
      rw [h, Bool.and_false, orNo_false] at h7
      rw [hN]; exact h7
    have c18 : ∀ w, Calls Try.prog 14 #[.string r, .string N] w fun e w' => e = .returned (.tuple #[.string N, .bool false]) ∧ Below w.heap.size w w' := by
      intro w
      have h7 := impl_ComposeRel r N w
      rw [show dvB 4 N = false by rw [hN]; decide, Bool.and_false, orNo_false] at h7
      rw [hN] at h7 ⊢; exact h7
    have c10 := fun w => impl_TurnRel r w
    rw [hr, orNo_true] at c10
    have c11 := fun w => impl_TurnRel q w
    rw [hq, orNo_true] at c11
    have c12 := fun w => impl_TurnRel (txt 4 (thenR (dg r) (dg q))) w
    rw [dK, orNo_true, cp_turn hX hY] at c12
    have c13 := fun w => impl_ComposeRel (txt 4 (turn (dg q))) (txt 4 (turn (dg r))) w
    rw [dvB_txt (turn_Dg (dg q)), dvB_txt (turn_Dg (dg r)), Bool.and_self, orNo_true] at c13
    have c14 := fun w => impl_ComposeRel r ⟨#[49, 50, 52, 56]⟩ w
    rw [id_txt, hr, dvB_txt idR_Dg, Bool.and_self, orNo_true, cp_id hr, ← id_txt] at c14
    clear dK hX hY hr hq hv hR hQ hA hBB hN
    generalize txt 4 (thenR (dg (txt 4 (turn (dg q)))) (dg (txt 4 (turn (dg r))))) = T2 at *
    generalize txt 4 (turn (dg q)) = TQ at *
    generalize txt 4 (turn (dg r)) = TR at *
    generalize txt 4 (thenR (dg r) (dg q)) = K at *
    have C1 := Lib.hid c1
    clear c1
    have C2 := Lib.hid c2
    clear c2
    have C3 := Lib.hid c3
    clear c3
    have C4 := Lib.hid c4
    clear c4
    have C5 := Lib.hid c5
    clear c5
    have C6 := Lib.hid c6
    clear c6
    have C7 := Lib.hid c7
    clear c7
    have C8 := Lib.hid c8
    clear c8
    have C9 := Lib.hid c9
    clear c9
    have C10 := Lib.hid c10
    clear c10
    have C11 := Lib.hid c11
    clear c11
    have C12 := Lib.hid c12
    clear c12
    have C13 := Lib.hid c13
    clear c13
    have C14 := Lib.hid c14
    clear c14
    have C16 := Lib.hid c16
    clear c16
    have C17 := Lib.hid c17
    clear c17
    have C18 := Lib.hid c18
    clear c18
    (go_wp2_with fail; refine (C1.out _).mono ?_; rintro e w' ⟨rfl, hb⟩; have HB := Lib.hid (bgo HB.out hb); clear hb)
    (go_wp2_with fail; refine (C2.out _).mono ?_; rintro e w' ⟨rfl, rfl⟩)
    go_wp2_with fail
    go_loopg [11] 4 (fun gk i wr => ∃ n : Nat, n ≤ 4 ∧ gk = 4 - n ∧ i = .int .i64 n ∧ Below w.heap.size w wr)
    case atStart => exact ⟨0, by omega, rfl, rfl, HB.out⟩
    case round =>
      clear HB
      obtain ⟨n, hn, rfl, rfl, hb⟩ := hrel
      have HB := Lib.hid hb
      clear hb
      by_cases hlt : n < 4
      case pos =>
        have hdn : decide ((n : Int) < 4) = true := decide_eq_true (by omega)
        go_wp2_with fail
        go_loopg [12] 4 (fun gk i wr => ∃ m : Nat, m ≤ 4 ∧ gk = 4 - m ∧ i = .int .i64 m ∧ Below w.heap.size w wr)
        case atStart => exact ⟨0, by omega, rfl, rfl, HB.out⟩
        case round =>
          clear HB
          obtain ⟨m, hm, rfl, rfl, hb⟩ := hrel
          have HB := Lib.hid hb
          clear hb
          by_cases hlt' : m < 4
          case pos =>
            have hdm : decide ((m : Int) < 4) = true := decide_eq_true (by omega)
            go_wp2_with fail
            go_loopg [13, 14] 4 (fun gk o i wr => ∃ k : Nat, k ≤ 4 ∧ gk = 4 - k ∧ i = .int .i64 k ∧ o = .bool (midB R Q n m k) ∧ Below w.heap.size w wr)
            case atStart => exact ⟨0, by omega, rfl, rfl, rfl, HB.out⟩
            case round =>
              clear HB
              obtain ⟨k, hk, rfl, rfl, rfl, hb⟩ := hrel
              have HB := Lib.hid hb
              clear hb
              by_cases hlt'' : k < 4
              case pos =>
                have hdk : decide ((k : Int) < 4) = true := decide_eq_true (by omega)
                have A3 := Lib.hid (C3.out n k hlt hlt'')
                have A4 := Lib.hid (C4.out k m hlt'' hlt')
                have HX := Lib.hid (show midB R Q n m (k + 1) = (midB R Q n m k || (R n k && Q k m)) from rfl)
                generalize midB R Q n m k = v at *
                generalize R n k = x at *
                generalize Q k m = y at *
                cases v
                · cases x
                  · (go_wp2_with fail; refine (A3.out _).mono ?_; rintro e w' ⟨rfl, hb⟩; have HB := Lib.hid (bgo HB.out hb); clear hb)
                    go_wp2_with fail
                    go_roundg (4 - (k + 1))
                    case rel => exact ⟨k + 1, by omega, rfl, by go_num, by rw [HX.out]; rfl, HB.out⟩
                    case measure => omega
                  · (go_wp2_with fail; refine (A3.out _).mono ?_; rintro e w' ⟨rfl, hb⟩; have HB := Lib.hid (bgo HB.out hb); clear hb)
                    (go_wp2_with fail; refine (A4.out _).mono ?_; rintro e w' ⟨rfl, hb⟩; have HB := Lib.hid (bgo HB.out hb); clear hb)
                    go_wp2_with fail
                    go_roundg (4 - (k + 1))
                    case rel => exact ⟨k + 1, by omega, rfl, by go_num, by rw [HX.out]; cases y <;> rfl, HB.out⟩
                    case measure => omega
                · go_wp2_with fail
                  go_roundg (4 - (k + 1))
                  case rel => exact ⟨k + 1, by omega, rfl, by go_num, by rw [HX.out]; rfl, HB.out⟩
                  case measure => omega
              case neg =>
                obtain rfl : k = 4 := by omega
                have A5 := Lib.hid (C5.out n m hlt hlt')
                generalize midB R Q n m 4 = v at *
                (go_wp2_with fail; refine (A5.out _).mono ?_; rintro e w' ⟨rfl, hb⟩; have HB := Lib.hid (bgo HB.out hb); clear hb)
                go_wp2_with fail
                go_roundg (4 - (m + 1))
                case rel => exact ⟨m + 1, by omega, rfl, by go_num, HB.out⟩
                case measure => omega
          case neg =>
            obtain rfl : m = 4 := by omega
            go_wp2_with fail
            go_roundg (4 - (n + 1))
            case rel => exact ⟨n + 1, by omega, rfl, by go_num, HB.out⟩
            case measure => omega
      case neg =>
        obtain rfl : n = 4 := by omega
        go_wp2_with fail
        refine (C6.out _ (Go.Proofs.Ytlebkjjknggjfaa.IsRow.go H1.out HB.out)).mono ?_
        rintro e w3 ⟨d, hz, rfl, hb⟩
        have HB := Lib.hid (bgo HB.out hb)
        clear hb hz H1
        cases hd : dvB 4 d
        case true =>
          have A7 := Lib.hid (C7.out d hd)
          have A8 := Lib.hid (C8.out d hd)
          have A9 := Lib.hid (C9.out d hd)
          clear C7 C8 C9 C16 C17 C18 C6 hd
          generalize A d = ad at *
          generalize B d = bd at *
          (go_wp2_with fail; refine (A7.out _).mono ?_; rintro e w' ⟨rfl, hb⟩; have HB := Lib.hid (bgo HB.out hb); clear hb)
          (go_wp2_with fail; refine (A8.out _).mono ?_; rintro e w' ⟨rfl, hb⟩; have HB := Lib.hid (bgo HB.out hb); clear hb)
          (go_wp2_with fail; refine (A9.out _).mono ?_; rintro e w' ⟨rfl, hb⟩; have HB := Lib.hid (bgo HB.out hb); clear hb)
          (go_wp2_with fail; refine (C10.out _).mono ?_; rintro e w' ⟨rfl, hb⟩; have HB := Lib.hid (bgo HB.out hb); clear hb)
          (go_wp2_with fail; refine (C11.out _).mono ?_; rintro e w' ⟨rfl, hb⟩; have HB := Lib.hid (bgo HB.out hb); clear hb)
          (go_wp2_with fail; refine (C12.out _).mono ?_; rintro e w' ⟨rfl, hb⟩; have HB := Lib.hid (bgo HB.out hb); clear hb)
          (go_wp2_with fail; refine (C13.out _).mono ?_; rintro e w' ⟨rfl, hb⟩; have HB := Lib.hid (bgo HB.out hb); clear hb)
          (go_wp2_with fail; refine (C14.out _).mono ?_; rintro e w' ⟨rfl, hb⟩; have HB := Lib.hid (bgo HB.out hb); clear hb)
          go_wp2_with fail
          go_ret
          exact ⟨rfl, HB.out⟩
        case false =>
          have A7 := Lib.hid (C16.out d hd)
          have A8 := Lib.hid (C17.out d hd)
          clear C7 C8 C9 C16 C17 C6 hd
          (go_wp2_with fail; refine (A7.out _).mono ?_; rintro e w' ⟨rfl, hb⟩; have HB := Lib.hid (bgo HB.out hb); clear hb)
          (go_wp2_with fail; refine (A8.out _).mono ?_; rintro e w' ⟨rfl, hb⟩; have HB := Lib.hid (bgo HB.out hb); clear hb)
          (go_wp2_with fail; refine (C18.out _).mono ?_; rintro e w' ⟨rfl, hb⟩; have HB := Lib.hid (bgo HB.out hb); clear hb)
          (go_wp2_with fail; refine (C10.out _).mono ?_; rintro e w' ⟨rfl, hb⟩; have HB := Lib.hid (bgo HB.out hb); clear hb)
          (go_wp2_with fail; refine (C11.out _).mono ?_; rintro e w' ⟨rfl, hb⟩; have HB := Lib.hid (bgo HB.out hb); clear hb)
          (go_wp2_with fail; refine (C12.out _).mono ?_; rintro e w' ⟨rfl, hb⟩; have HB := Lib.hid (bgo HB.out hb); clear hb)
          (go_wp2_with fail; refine (C13.out _).mono ?_; rintro e w' ⟨rfl, hb⟩; have HB := Lib.hid (bgo HB.out hb); clear hb)
          (go_wp2_with fail; refine (C14.out _).mono ?_; rintro e w' ⟨rfl, hb⟩; have HB := Lib.hid (bgo HB.out hb); clear hb)
          go_wp2_with fail
          go_ret
          exact ⟨rfl, HB.out⟩
set_option maxRecDepth 100000 in
theorem lifted (os : Os) (started : os.Started) (H : Type) (enc : TypeId × Value → H) :
    ReturnsInHanded {} Try.checked os 4 .any (Rows.fnComposeRelSpec.pre6 enc Try.prog Try.f4 Rows.fnComposeRelRow.domain false) (Rows.fnComposeRelSpec.post enc Try.prog Try.f4 false true false false) := by
  refine returnsInHanded_of_change (C := Try.checked) own started (by kernel_rfl) Try.func4
    (ChangeSpec.witness6 (enc := enc) (C := Try.checked) false ⟨#[], #[.slice none 0 0, .slice none 0 0], []⟩ 8 (by kernel_rfl) (by kernel_rfl) (by kernel_rfl) (by kernel_rfl)) ?_
  intro W base args ds gs before hval0 hW hcnd _
  have hval : ∀ (j : Nat) t v, Try.f4.params[j]? = some t → args[j]? = some v → Value.okWide Try.prog W .any base t v := hval0
  have hW' := hW
  obtain ⟨p, q, hA0, hV, rfl, hfz, hnd⟩ := hW
  have hA : DataW.TrodAll enc Try.prog W 0 (fun _ => true) true Try.f4.params.toList args.toList ds p := hA0
  rw [Try.params4] at hA hval
  obtain ⟨v0, vs0, d0, ds0, p0, q0, hargs, rfl, rfl, h0, r0⟩ := trodAll_cons hA
  obtain ⟨v1, vs1, d1, ds1, p1, q1, rfl, rfl, rfl, h1, r1⟩ := trodAll_cons r0
  obtain ⟨rfl, rfl, rfl⟩ := trodAll_nil r1
  obtain rfl : args = #[v0, v1] := by cases args; simp_all
  obtain ⟨rfl, rfl⟩ := trodVars_none hV
  obtain ⟨a0, len0, cap0, rfl⟩ := okWide_slice Try.underlying22 (hval 0 22 v0 rfl rfl)
  have k0 := h0
  have lt0 : ∀ x ∈ p0, x.block < W.heap.size := by obtain ⟨m, hm⟩ := k0; exact DataW.trod_lt m _ _ _ hm
  obtain ⟨z0, w0⟩ : ∃ zs, IsRow .u8 W a0 len0 cap0 zs := by
    obtain ⟨fuel, hf⟩ := h0
    rcases open_ints Try.underlying22 Try.underlying5 (by kernel_rfl) hf with ⟨hcs, _⟩ | ⟨x, l, c, zs, hcs, _, hl, hm, hz, _, hcell, hwz⟩
    · simp [Value.cells] at hcs
      obtain ⟨rfl, rfl, rfl⟩ := hcs
      exact ⟨[], .inl ⟨rfl, rfl, rfl, rfl⟩⟩
    · simp [Value.cells] at hcs
      obtain ⟨rfl, rfl, rfl⟩ := hcs
      exact ⟨zs, .inr ⟨_, rfl, hl, hm, by simpa using hz, hcell, hwz⟩⟩
  obtain ⟨a1, len1, cap1, rfl⟩ := okWide_slice Try.underlying22 (hval 1 22 v1 rfl rfl)
  have k1 := h1
  have lt1 : ∀ x ∈ p1, x.block < W.heap.size := by obtain ⟨m, hm⟩ := k1; exact DataW.trod_lt m _ _ _ hm
  obtain ⟨z1, w1⟩ : ∃ zs, IsRow .u8 W a1 len1 cap1 zs := by
    obtain ⟨fuel, hf⟩ := h1
    rcases open_ints Try.underlying22 Try.underlying5 (by kernel_rfl) hf with ⟨hcs, _⟩ | ⟨x, l, c, zs, hcs, _, hl, hm, hz, _, hcell, hwz⟩
    · simp [Value.cells] at hcs
      obtain ⟨rfl, rfl, rfl⟩ := hcs
      exact ⟨[], .inl ⟨rfl, rfl, rfl, rfl⟩⟩
    · simp [Value.cells] at hcs
      obtain ⟨rfl, rfl, rfl⟩ := hcs
      exact ⟨zs, .inr ⟨_, rfl, hl, hm, by simpa using hz, hcell, hwz⟩⟩
  clear hA0 hval0
  refine (walk a0 len0 cap0 z0 a1 len1 cap1 z1 W w0 w1).mono fun e W' ⟨he, bel⟩ => ?_
  subst he
  exact ⟨_, rfl, _, _, _, [], _, [], hW', trodAll_mk1 (shut_bool Try.underlying4 _), (trodAll_cons_mk (Below.trod laidOut (by kernel_rfl) (of_decide_eq_true (by kernel_rfl)) k0 bel lt0) (trodAll_cons_mk (Below.trod laidOut (by kernel_rfl) (of_decide_eq_true (by kernel_rfl)) k1 bel lt1) trodAll_mk0)), rfl, bel.frame _, fun h => by cases h⟩
theorem over : Rows.fnComposeRelRow.holds Try.pinned (OpenSpec.ofChange Rows.fnComposeRelSpec) :=
  OpenClaim.holds_of_wide 4 Try.f4 rfl rfl rfl rfl rfl rfl rfl ⟨rfl, rfl, rfl, rfl, rfl⟩ rfl rfl rfl rfl rfl (by kernel_rfl) Try.func4 (by kernel_rfl)
    (of_decide_eq_true (by kernel_rfl)) (by unfold Func.isWrapper; first | (rw [if_pos (by decide +kernel)]; kernel_rfl) | (rw [if_neg (by decide +kernel)]; exact ⟨rfl, rfl⟩))
    (fun os started H enc _ => lifted os started H enc)
end Go.Proofs.Ytlebkjjknggjfaa.fnComposeRel
namespace Go.Proofs.Ytlebkjjknggjfaa
theorem fnComposeRel_holds : Rows.FnComposeRelSaid := fnComposeRel.over
#print axioms fnComposeRel_holds
end Go.Proofs.Ytlebkjjknggjfaa
