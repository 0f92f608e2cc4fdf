/-
  For every input the law FnCloseRel returns true: a closure has the pairs that are joined by steps, and is closed. No condition.
-/
import Derived.Test.YtlebkjjknggjfaaRows
import Derived.Test.YtlebkjjknggjfaaA14
import Derived.Test.YtlebkjjknggjfaaA15
import Derived.Test.YtlebkjjknggjfaaB6
import Derived.Test.YtlebkjjknggjfaaRd5
import Derived.Test.YtlebkjjknggjfaaPw
import Derived.WalkKit
import Derived.ProofKit
import Derived.OpenShut
import Derived.ShutString
import Derived.ChangeOld
import Derived.Below
namespace Go.Proofs.Ytlebkjjknggjfaa.fnCloseRel
open Go.ChangeShapes Go.WideShapes Go.ChangeAt Go.RowKit Go.DC
open Go.ChangeMaps (open_string shut_string)
set_option linter.unusedVariables false
set_option linter.unusedSimpArgs false
set_option maxHeartbeats 400000
theorem own : ownKnob Try.prog.godebug = none := by kernel_rfl
theorem laidOut : laidOutB Try.prog = true := by kernel_rfl
theorem walk (a0 : Option Addr) (len0 cap0 : Nat) (z0 : List Int) (w : World) (w0 : IsRow .u8 w a0 len0 cap0 z0) :
    Calls Try.prog 6 #[.slice a0 len0 cap0] w fun e w' => e = .returned (.bool true) ∧ Below w.heap.size w w' := by
  by_cases hl : (1048576 : Int) < len0
  · clear w0
    go_enter Try.func6, Try.ntmps6
    go_wp2_with fail
    go_ret
    exact ⟨rfl, Below.refl _ _⟩
  have H0 := Lib.hid w0
  clear w0
  go_enter Try.func6, Try.ntmps6
  go_wp2_with fail
  refine (spec_DrawCloseRel a0 len0 cap0 z0 w H0.out).mono ?_
  rintro e w2 ⟨r, hz, rfl, hB⟩
  have HB := Lib.hid hB
  clear hB H0
  have c1 := fun w => impl_CloseRel r w
  have c2 := fun w => spec_CloseRel r w (by unfold maxLen; omega)
  clear hz
  cases hr : dvB 4 r
  case false =>
    rw [hr] at c1 c2
    rw [orNo_false] at c1 c2
    have C1 := Lib.hid c1
    clear c1
    have C2 := Lib.hid c2
    clear c2
    clear hr
    (go_wp2_with fail; refine (C1.out _).mono ?_; rintro e w' ⟨rfl, hb⟩; have HB := Lib.hid (bgo HB.out hb); clear hb)
    (go_wp2_with fail; refine (C2.out _).mono ?_; rintro e w' ⟨rfl, rfl⟩)
    go_wp2_with fail
    go_ret
    exact ⟨rfl, HB.out⟩
  case true =>
    rw [hr] at c1 c2
    rw [orNo_true] at c1 c2
    have hX := dvB_Dg hr
    have dk := dvB_txt (clo_Dg hX)
    have ds := fun n => dvB_txt (stp_Dg hX n)
    have di := dvB_txt idR_Dg
    have c3 := fun n w => impl_ComposeRel (txt 4 (stp (dg r) n)) r w
    simp only [ds, hr, Bool.and_self, orNo_true] at c3
    have dt := fun n => dvB_txt (thenR_Dg (dg (txt 4 (stp (dg r) n))) hX)
    have c4 := fun n w => impl_OrRel ⟨#[49, 50, 52, 56]⟩ (txt 4 (thenR (dg (txt 4 (stp (dg r) n))) (dg r))) w
    simp only [id_txt, dt, di, Bool.and_self, orNo_true, impl_or _ _ di (dt _)] at c4
    have e4 : ∀ n, txt 4 (orR (dg (txt 4 idR)) (dg (txt 4 (thenR (dg (txt 4 (stp (dg r) n))) (dg r))))) = txt 4 (stp (dg r) (n + 1)) := fun n => stp_txt hX n
    simp only [e4] at c4
    have c5 := fun w => impl_ComposeRel (txt 4 (clo (dg r))) (txt 4 (clo (dg r))) w
    rw [dk, Bool.and_self, orNo_true, clo_txt_twice hX] at c5
    have c6 := fun w => impl_CloseRel (txt 4 (clo (dg r))) w
    rw [dk, orNo_true, clo_txt_again hX] at c6
    have c7 := fun w => impl_WithinRel r (txt 4 (clo (dg r))) w
    rw [hr, dk, clo_sub hX] at c7
    have hid := id_txt
    have hst : txt 4 (stp (dg r) 0) = txt 4 idR := rfl
    have hfin := clo_steps hX
    obtain ⟨K, hK⟩ : ∃ K, txt 4 (clo (dg r)) = K := ⟨_, rfl⟩
    obtain ⟨S, hS⟩ : ∃ S : Nat → ByteArray, S = fun n => txt 4 (stp (dg r) n) := ⟨_, rfl⟩
    obtain ⟨N, hN⟩ : ∃ N : Nat → ByteArray, N = fun n => txt 4 (thenR (dg (txt 4 (stp (dg r) n))) (dg r)) := ⟨_, rfl⟩
    rw [hK] at c1 c2 c5 c6 c7 hfin
    have c3' : ∀ n w, Calls Try.prog 14 #[.string (S n), .string r] w fun e w' => e = .returned (.tuple #[.string (N n), .bool true]) ∧ Below w.heap.size w w' := by rw [hS, hN]; exact c3
    have c4' : ∀ n w, Calls Try.prog 36 #[.string ⟨#[49, 50, 52, 56]⟩, .string (N n)] w fun e w' => e = .returned (.tuple #[.string (S (n + 1)), .bool true]) ∧ Below w.heap.size w w' := by rw [hS, hN, id_txt]; exact c4
    have H0 : S 0 = ⟨#[49, 50, 52, 56]⟩ := by rw [hS, id_txt]; rfl
    have H4 : S 4 = K := by rw [hfin, hS]
    have C3 := Lib.hid c3'
    have C4 := Lib.hid c4'
    have HS0 := Lib.hid H0
    have HS4 := Lib.hid H4
    clear c3 c4 c3' c4' e4 dt ds dk di hX hr hid hst hfin hK hS hN H0 H4
    have C1 := Lib.hid c1
    clear c1
    have C2 := Lib.hid c2
    clear c2
    have C5 := Lib.hid c5
    clear c5
    have C6 := Lib.hid c6
    clear c6
    have C7 := Lib.hid c7
    clear c7
    (go_wp2_with fail; refine (C1.out _).mono ?_; rintro e w' ⟨rfl, hb⟩; have HB := Lib.hid (bgo HB.out hb); clear hb)
    (go_wp2_with fail; refine (C2.out _).mono ?_; rintro e w' ⟨rfl, rfl⟩)
    go_wp2_with fail
    go_loopg [8, 9] 4 (fun gk s i wr => ∃ n : Nat, n ≤ 4 ∧ gk = 4 - n ∧ i = .int .i64 n ∧ s = .string (S n) ∧ Below w.heap.size w wr)
    case atStart => exact ⟨0, by omega, rfl, rfl, by rw [HS0.out], HB.out⟩
    case round =>
      clear HB
      obtain ⟨n, hn, rfl, rfl, rfl, hb⟩ := hrel
      have HB := Lib.hid hb
      clear hb
      by_cases hlt : n < 4
      case pos =>
        have hdn : decide ((n : Int) < 4) = true := decide_eq_true (by omega)
        go_wp2_with fail
        refine (C3.out n _).mono ?_
        rintro e w' ⟨rfl, hb⟩
        have HB := Lib.hid (bgo HB.out hb)
        clear hb
        go_wp2_with fail
        refine (C4.out n _).mono ?_
        rintro e w' ⟨rfl, hb⟩
        have HB := Lib.hid (bgo HB.out hb)
        clear hb
        go_wp2_with fail
        go_roundg (4 - (n + 1))
        case rel => exact ⟨n + 1, by omega, rfl, by go_num, rfl, HB.out⟩
        case measure => omega
      case neg =>
        obtain rfl : n = 4 := by omega
        rw [HS4.out]
        (go_wp2_with fail; refine (C5.out _).mono ?_; rintro e w' ⟨rfl, hb⟩; have HB := Lib.hid (bgo HB.out hb); clear hb)
        (go_wp2_with fail; refine (C6.out _).mono ?_; rintro e w' ⟨rfl, hb⟩; have HB := Lib.hid (bgo HB.out hb); clear hb)
        (go_wp2_with fail; refine (C7.out _).mono ?_; rintro e w' ⟨rfl, hb⟩; have HB := Lib.hid (bgo HB.out hb); clear hb)
        go_wp2_with fail
        go_ret
        exact ⟨rfl, HB.out⟩
set_option maxRecDepth 100000 in
theorem lifted (os : Os) (started : os.Started) (H : Type) (enc : TypeId × Value → H) :
    ReturnsInHanded {} Try.checked os 6 .any (Rows.fnCloseRelSpec.pre6 enc Try.prog Try.f6 Rows.fnCloseRelRow.domain false) (Rows.fnCloseRelSpec.post enc Try.prog Try.f6 false true false false) := by
  refine returnsInHanded_of_change (C := Try.checked) own started (by kernel_rfl) Try.func6
    (ChangeSpec.witness6 (enc := enc) (C := Try.checked) false ⟨#[], #[.slice none 0 0], []⟩ 8 (by kernel_rfl) (by kernel_rfl) (by kernel_rfl) (by kernel_rfl)) ?_
  intro W base args ds gs before hval0 hW hcnd _
  have hval : ∀ (j : Nat) t v, Try.f6.params[j]? = some t → args[j]? = some v → Value.okWide Try.prog W .any base t v := hval0
  have hW' := hW
  obtain ⟨p, q, hA0, hV, rfl, hfz, hnd⟩ := hW
  have hA : DataW.TrodAll enc Try.prog W 0 (fun _ => true) true Try.f6.params.toList args.toList ds p := hA0
  rw [Try.params6] at hA hval
  obtain ⟨v0, vs0, d0, ds0, p0, q0, hargs, rfl, rfl, h0, r0⟩ := trodAll_cons hA
  obtain ⟨rfl, rfl, rfl⟩ := trodAll_nil r0
  obtain rfl : args = #[v0] := by cases args; simp_all
  obtain ⟨rfl, rfl⟩ := trodVars_none hV
  obtain ⟨a0, len0, cap0, rfl⟩ := okWide_slice Try.underlying22 (hval 0 22 v0 rfl rfl)
  have k0 := h0
  have lt0 : ∀ x ∈ p0, x.block < W.heap.size := by obtain ⟨m, hm⟩ := k0; exact DataW.trod_lt m _ _ _ hm
  obtain ⟨z0, w0⟩ : ∃ zs, IsRow .u8 W a0 len0 cap0 zs := by
    obtain ⟨fuel, hf⟩ := h0
    rcases open_ints Try.underlying22 Try.underlying5 (by kernel_rfl) hf with ⟨hcs, _⟩ | ⟨x, l, c, zs, hcs, _, hl, hm, hz, _, hcell, hwz⟩
    · simp [Value.cells] at hcs
      obtain ⟨rfl, rfl, rfl⟩ := hcs
      exact ⟨[], .inl ⟨rfl, rfl, rfl, rfl⟩⟩
    · simp [Value.cells] at hcs
      obtain ⟨rfl, rfl, rfl⟩ := hcs
      exact ⟨zs, .inr ⟨_, rfl, hl, hm, by simpa using hz, hcell, hwz⟩⟩
  clear hA0 hval0
  refine (walk a0 len0 cap0 z0 W w0).mono fun e W' ⟨he, bel⟩ => ?_
  subst he
  exact ⟨_, rfl, _, _, _, [], _, [], hW', trodAll_mk1 (shut_bool Try.underlying4 _), (trodAll_cons_mk (Below.trod laidOut (by kernel_rfl) (of_decide_eq_true (by kernel_rfl)) k0 bel lt0) trodAll_mk0), rfl, bel.frame _, fun h => by cases h⟩
theorem over : Rows.fnCloseRelRow.holds Try.pinned (OpenSpec.ofChange Rows.fnCloseRelSpec) :=
  OpenClaim.holds_of_wide 6 Try.f6 rfl rfl rfl rfl rfl rfl rfl ⟨rfl, rfl, rfl, rfl, rfl⟩ rfl rfl rfl rfl rfl (by kernel_rfl) Try.func6 (by kernel_rfl)
    (of_decide_eq_true (by kernel_rfl)) (by unfold Func.isWrapper; first | (rw [if_pos (by decide +kernel)]; kernel_rfl) | (rw [if_neg (by decide +kernel)]; exact ⟨rfl, rfl⟩))
    (fun os started H enc _ => lifted os started H enc)
end Go.Proofs.Ytlebkjjknggjfaa.fnCloseRel
namespace Go.Proofs.Ytlebkjjknggjfaa
theorem fnCloseRel_holds : Rows.FnCloseRelSaid := fnCloseRel.over
#print axioms fnCloseRel_holds
end Go.Proofs.Ytlebkjjknggjfaa
