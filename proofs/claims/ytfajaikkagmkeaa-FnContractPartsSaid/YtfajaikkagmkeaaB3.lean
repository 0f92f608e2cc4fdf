/-
  Contracts of the reference's functions on transformers: which texts are transformers, duals, kinds, points.
-/
import Derived.Test.YtfajaikkagmkeaaB1
import Derived.Test.YtfajaikkagmkeaaT
import Derived.Test.YtfajaikkagmkeaaG1
namespace Go.Proofs.Ytfajaikkagmkeaa
open Go.RowKit Go.DC
set_option maxHeartbeats 1000000
set_option linter.unusedVariables false
set_option linter.unusedSimpArgs false

theorem spec_l3Monotone (r : ByteArray) (w : World) (hz : 16 ≤ r.size) :
    Calls Try.prog 175 #[.string r] w fun e w' => e = .returned (.bool (all2B (badM (dg r)))) ∧ w = w' := by
  go_enter Try.func175, Try.ntmps175
  go_wp2_with fail
  go_loopg [3] 16 (fun gk i wr => ∃ n : Nat, n ≤ 16 ∧ gk = 16 - n ∧ i = .int .i64 n ∧ Ok2 (badM (dg r)) n 0 ∧ w = wr)
  case atStart => exact ⟨0, by omega, rfl, rfl, Ok2.zero _, rfl⟩
  case round =>
    obtain ⟨n, hn, rfl, rfl, ho, rfl⟩ := hrel
    have Ho := Lib.hid ho
    clear ho
    by_cases hlt : n < 16
    · have hd : decide ((n : Int) < 16) = true := decide_eq_true (by omega)
      go_wp2_with fail
      go_loopg [4] 16 (fun gk i wr => ∃ m : Nat, m ≤ 16 ∧ gk = 16 - m ∧ i = .int .i64 m ∧ Ok2 (badM (dg r)) n m ∧ w = wr)
      case atStart => exact ⟨0, by omega, rfl, rfl, Ho.out, rfl⟩
      case round =>
        clear Ho
        obtain ⟨m, hm, rfl, rfl, ho, rfl⟩ := hrel
        have Ho := Lib.hid ho
        clear ho
        by_cases hlt' : m < 16
        · cases hg : (bits BinOp.andNot IntKind.i64 (n : Int) (m : Int) == 0)
          case false =>
            have H1 := Lib.hid (show badM (dg r) n m = false by unfold badM; rw [hg]; rfl)
            go_wp2_with (go_at_call 64; refine (spec_l3Value r _ _ (by omega) (by omega)).mono ?_; rintro e w' ⟨rfl, rfl⟩)
            go_roundg (16 - (m + 1))
            case rel => exact ⟨m + 1, by omega, rfl, by go_num, Ho.out.step H1.out, rfl⟩
            case measure => omega
          case true =>
            cases hv : (bits BinOp.andNot IntKind.i64 (dg r n) (dg r m) != 0)
            case false =>
              have H1 := Lib.hid (show badM (dg r) n m = false by unfold badM; rw [hg, hv]; rfl)
              go_wp2_with (go_at_call 64; refine (spec_l3Value r _ _ (by omega) (by omega)).mono ?_; rintro e w' ⟨rfl, rfl⟩)
              go_roundg (16 - (m + 1))
              case rel => exact ⟨m + 1, by omega, rfl, by go_num, Ho.out.step H1.out, rfl⟩
              case measure => omega
            case true =>
              have H1 := Lib.hid (all2_bad (P := badM (dg r)) hlt hlt' (by unfold badM; rw [hg, hv]; rfl))
              go_wp2_with (go_at_call 64; refine (spec_l3Value r _ _ (by omega) (by omega)).mono ?_; rintro e w' ⟨rfl, rfl⟩)
              go_ret
              exact ⟨by rw [H1.out]; rfl, rfl⟩
        · obtain rfl : m = 16 := by omega
          go_wp2_with fail
          go_roundg (16 - (n + 1))
          case rel => exact ⟨n + 1, by omega, rfl, by go_num, Ho.out.next, rfl⟩
          case measure => omega
    · obtain rfl : n = 16 := by omega
      go_wp2_with fail
      go_ret
      exact ⟨by rw [Ho.out.all]; rfl, rfl⟩
theorem spec_MonotoneTable (r : ByteArray) (w : World) (hs : r.size ≤ maxLen) :
    Calls Try.prog 171 #[.string r] w fun e w' => e = .returned (.bool (tvB r)) ∧ w = w' := by
  have hc := fun (w : World) => spec_l2Digits r 16 w hs
  have Hc := Lib.hid hc
  clear hc
  have Ht := Lib.hid (show tvB r = (dvB 16 r && all2B (badM (dg r))) from rfl)
  cases h : dvB 16 r
  case false =>
    go_enter Try.func171, Try.ntmps171
    go_wp2_with (go_at_call 172; refine (Hc.out _).mono ?_; rintro e w' ⟨rfl, rfl⟩)
    go_ret
    exact ⟨by rw [Ht.out, h]; rfl, rfl⟩
  case true =>
    have hz := (dvB_iff.1 h).1
    have hz : 16 ≤ r.size := by omega
    go_enter Try.func171, Try.ntmps171
    go_wp2_with (first | (go_at_call 172; refine (Hc.out _).mono ?_; rintro e w' ⟨rfl, rfl⟩) | (go_at_call 175; refine (spec_l3Monotone _ _ hz).mono ?_; rintro e w' ⟨rfl, rfl⟩))
    go_ret
    exact ⟨by rw [Ht.out, h]; rfl, rfl⟩
theorem spec_TransValid (r : ByteArray) (w : World) (hs : r.size ≤ maxLen) :
    Calls Try.prog 159 #[.string r] w fun e w' => e = .returned (.bool (tvB r)) ∧ w = w' := by
  go_enter Try.func159, Try.ntmps159
  go_wp2_with (go_at_call 171; refine (spec_MonotoneTable _ _ hs).mono ?_; rintro e w' ⟨rfl, rfl⟩)
  go_ret
  exact ⟨rfl, rfl⟩
theorem spec_l3Both (r q : ByteArray) (w : World) (hs : r.size ≤ maxLen) (hq : q.size ≤ maxLen) :
    Calls Try.prog 130 #[.string r, .string q] w fun e w' => e = .returned (.bool (tvB r && tvB q)) ∧ w = w' := by
  cases h : tvB r
  all_goals
    go_enter Try.func130, Try.ntmps130
    go_wp2_with fail
    refine (spec_TransValid _ _ hs).mono ?_
    rintro e w' ⟨rfl, rfl⟩
    rw [h]
    go_wp2_with (go_at_call 159; refine (spec_TransValid _ _ hq).mono ?_; rintro e w' ⟨rfl, rfl⟩)
    go_ret
    exact ⟨by simp, rfl⟩
theorem spec_l3Dual (r : ByteArray) (w : World) (hz : 16 ≤ r.size) (hd : Dg 16 (dg r)) :
    Calls Try.prog 106 #[.string r] w fun e w' => e = .returned (.string (txt 16 (dual (dg r)))) ∧ w = w' := by
  go_enter Try.func106, Try.ntmps106
  go_wp2_with fail
  go_loopg [3, 4] 16 (fun gk o i wr => ∃ n : Nat, n ≤ 16 ∧ gk = 16 - n ∧ i = .int .i64 n ∧ o = .string (txt n (dual (dg r))) ∧ w = wr)
  case atStart => exact ⟨0, by omega, rfl, rfl, rfl, rfl⟩
  case round =>
    obtain ⟨n, hn, rfl, rfl, rfl, rfl⟩ := hrel
    by_cases hlt : n < 16
    · have hadd : ∀ w, (Op.stringOp .add (txt n (dual (dg r))) (dgt (bits BinOp.andNot IntKind.i64 15 (dg r (bits BinOp.andNot IntKind.i64 15 (n : Int)).toNat)))).run Try.prog w = .ok (.string (txt (n + 1) (dual (dg r)))) w := fun w => by
        rw [run_string_add_sum w _ _ (by rw [txt_size]; show n + 1 ≤ _; omega)]
        exact congrArg (fun x => Result.ok (Value.string x) w) (txt_succ n (dual (dg r)))
      have hb := bandn_rng (a := 15) (b := (n : Int)) (by decide) (by decide) (by omega) (by omega)
      have e : bandn 15 (n : Int) = bits BinOp.andNot IntKind.i64 15 n := rfl
      rw [e] at hb
      clear e
      obtain ⟨hb0, hb1⟩ := hb
      have hg : 0 ≤ bits BinOp.andNot IntKind.i64 15 (dg r (bits BinOp.andNot IntKind.i64 15 (n : Int)).toNat) ∧ bits BinOp.andNot IntKind.i64 15 (dg r (bits BinOp.andNot IntKind.i64 15 (n : Int)).toNat) ≤ 15 := dual_Dg hd n hlt
      obtain ⟨hg0, hg1⟩ := hg
      go_wp2_with (first | (go_at_call 64; refine (spec_l3Value r _ _ (by omega) (by omega)).mono ?_; rintro e w' ⟨rfl, rfl⟩) | (go_at_call 142; refine (spec_l2Digit _ _ (by first | assumption | omega) (by first | assumption | omega)).mono ?_; rintro e w' ⟨rfl, rfl⟩))
      go_roundg (16 - (n + 1))
      case rel => exact ⟨n + 1, by omega, rfl, by go_num, rfl, rfl⟩
      case measure => omega
    · obtain rfl : n = 16 := by omega
      go_wp2_with fail
      go_ret
      exact ⟨rfl, rfl⟩
end Go.Proofs.Ytfajaikkagmkeaa
