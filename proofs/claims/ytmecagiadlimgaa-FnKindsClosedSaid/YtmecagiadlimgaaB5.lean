/-
  Contracts of the reference's functions on kinds of transformers: strict and terminating ones, starts, specifications, bounds.
-/
import Derived.Test.YtmecagiadlimgaaB4
import Derived.Test.YtmecagiadlimgaaPQ
import Derived.OwnWalk
namespace Go.Proofs.Ytmecagiadlimgaa
open Go.RowKit Go.DC
set_option maxHeartbeats 1000000
set_option linter.unusedVariables false
set_option linter.unusedSimpArgs false

theorem spec_l1Both (p q : Int) (w : World) :
    Calls Try.prog 102 #[.int .i64 p, .int .i64 q] w fun e w' => e = .returned (.bool (cv p && cv q)) ∧ w = w' := by
  cases h : cv p
  all_goals
    go_enter Try.func102, Try.ntmps102
    go_wp2_with fail
    refine (spec_ConditionValid _ _).mono ?_
    rintro e w' ⟨rfl, rfl⟩
    rw [h]
    go_wp2_with (go_at_call 82; refine (spec_ConditionValid _ _).mono ?_; rintro e w' ⟨rfl, rfl⟩)
    go_ret
    exact ⟨by simp, rfl⟩
theorem spec_IsStrict (r : ByteArray) (w : World) (hr : r.size ≤ maxLen) :
    Calls Try.prog 43 #[.string r] w fun e w' => e = .returned (.bool (tvB r && (dg r 0 == 0))) ∧ w = w' := by
  cases hv : tvB r
  case false =>
    go_enter Try.func43, Try.ntmps43
    go_wp2_with (go_at_call 98; refine (spec_TransValid _ _ hr).mono ?_; rintro e w' ⟨rfl, rfl⟩)
    go_ret
    exact ⟨rfl, rfl⟩
  case true =>
    have hz := tvB_size hv
    have hz : 16 ≤ r.size := by omega
    go_enter Try.func43, Try.ntmps43
    go_wp2_with (first | (go_at_call 98; refine (spec_TransValid _ _ hr).mono ?_; rintro e w' ⟨rfl, rfl⟩) | (go_at_call 101; refine (spec_l3Value _ _ _ (by omega) (by omega)).mono ?_; rintro e w' ⟨rfl, rfl⟩))
    go_ret
    first
      | exact ⟨rfl, rfl⟩
      | exact ⟨by simp, rfl⟩
theorem spec_IsTerminating (r : ByteArray) (w : World) (hr : r.size ≤ maxLen) :
    Calls Try.prog 44 #[.string r] w fun e w' => e = .returned (.bool (tvB r && (dg r 15 == 15))) ∧ w = w' := by
  cases hv : tvB r
  case false =>
    go_enter Try.func44, Try.ntmps44
    go_wp2_with (go_at_call 98; refine (spec_TransValid _ _ hr).mono ?_; rintro e w' ⟨rfl, rfl⟩)
    go_ret
    exact ⟨rfl, rfl⟩
  case true =>
    have hz := tvB_size hv
    have hz : 16 ≤ r.size := by omega
    go_enter Try.func44, Try.ntmps44
    go_wp2_with (first | (go_at_call 98; refine (spec_TransValid _ _ hr).mono ?_; rintro e w' ⟨rfl, rfl⟩) | (go_at_call 101; refine (spec_l3Value _ _ _ (by omega) (by omega)).mono ?_; rintro e w' ⟨rfl, rfl⟩))
    go_ret
    first
      | exact ⟨rfl, rfl⟩
      | exact ⟨by simp, rfl⟩
theorem spec_IsFunctional (r : ByteArray) (w : World) (hr : r.size ≤ maxLen) :
    Calls Try.prog 34 #[.string r] w fun e w' => e = .returned (.bool ((tvB r && conjB (dg r)) && (tvB r && conjB (dg (txt 16 (dual (dg r))))) && (tvB r && (dg r 0 == 0)) && (tvB r && (dg r 15 == 15)))) ∧ w = w' := by
  have c1 := fun w => spec_IsConjunctive r w hr
  have c2 := fun w => spec_IsDisjunctive r w hr
  have c3 := fun w => spec_IsStrict r w hr
  have c4 := fun w => spec_IsTerminating r w hr
  generalize (tvB r && conjB (dg r)) = k1 at *
  generalize (tvB r && conjB (dg (txt 16 (dual (dg r))))) = k2 at *
  generalize (tvB r && (dg r 0 == 0)) = k3 at *
  generalize (tvB r && (dg r 15 == 15)) = k4 at *
  have C1 := Lib.hid c1
  have C2 := Lib.hid c2
  have C3 := Lib.hid c3
  have C4 := Lib.hid c4
  clear c1 c2 c3 c4
  cases k1 <;> cases k2 <;> cases k3 <;> cases k4
  all_goals
    go_enter Try.func34, Try.ntmps34
    go_wp2_with (first | (go_at_call 41; refine (C1.out _).mono ?_; rintro e w' ⟨rfl, rfl⟩) | (go_at_call 42; refine (C2.out _).mono ?_; rintro e w' ⟨rfl, rfl⟩) | (go_at_call 43; refine (C3.out _).mono ?_; rintro e w' ⟨rfl, rfl⟩) | (go_at_call 44; refine (C4.out _).mono ?_; rintro e w' ⟨rfl, rfl⟩))
    go_ret
    exact ⟨rfl, rfl⟩
theorem spec_StartsOf (r : ByteArray) (w : World) (hr : r.size ≤ maxLen) :
    Calls Try.prog 15 #[.string r] w fun e w' => e = .returned (.int .i64 (askV (tvB r && cv 15) (ap (dg r) 15))) ∧ w = w' := by
  go_enter Try.func15, Try.ntmps15
  go_wp2_with (go_at_call 73; refine (spec_ApplyTrans _ _ _ hr).mono ?_; rintro e w' ⟨rfl, rfl⟩)
  go_ret
  exact ⟨rfl, rfl⟩
theorem spec_MiraclesOf (r : ByteArray) (w : World) (hr : r.size ≤ maxLen) :
    Calls Try.prog 16 #[.string r] w fun e w' => e = .returned (.int .i64 (askV (tvB r && cv 0) (ap (dg r) 0))) ∧ w = w' := by
  go_enter Try.func16, Try.ntmps16
  go_wp2_with (go_at_call 73; refine (spec_ApplyTrans _ _ _ hr).mono ?_; rintro e w' ⟨rfl, rfl⟩)
  go_ret
  exact ⟨rfl, rfl⟩
theorem spec_SpecTrans (p : Int) (r : ByteArray) (w : World) (hr : r.size ≤ maxLen) :
    Calls Try.prog 25 #[.int .i64 p, .string r] w fun e w' => e = .returned (.tuple #[.string (orNo (dvB 4 r && cv p) (txt 16 (specD p (dg r)))), .bool (dvB 4 r && cv p)]) ∧ w = w' := by
  cases hp : cv p
  case false =>
    rw [Bool.and_false]
    go_enter Try.func25, Try.ntmps25
    go_wp2_with (go_at_call 82; refine (spec_ConditionValid _ _).mono ?_; rintro e w' ⟨rfl, rfl⟩)
    go_ret2
    exact ⟨rfl, rfl⟩
  case true =>
    obtain ⟨hp0, hp1⟩ := cv_iff.1 hp
    rw [Bool.and_true]
    cases hv : dvB 4 r
    case false =>
      go_enter Try.func25, Try.ntmps25
      go_wp2_with (first | (go_at_call 82; refine (spec_ConditionValid _ _).mono ?_; rintro e w' ⟨rfl, rfl⟩) | (go_at_call 83; refine (spec_RelValid _ _ hr).mono ?_; rintro e w' ⟨rfl, rfl⟩))
      go_ret2
      exact ⟨rfl, rfl⟩
    case true =>
      have hz := (dvB_iff.1 hv).1
      have hz : 4 ≤ r.size := by omega
      have c1 := fun w => spec_l4Spec p r w hp0 hp1 hz
      rw [spec_txt hp0 hp1 (dvB_Dg hv)] at c1
      have C1 := Lib.hid c1
      clear c1
      rw [orNo_true]
      go_enter Try.func25, Try.ntmps25
      go_wp2_with (first | (go_at_call 82; refine (spec_ConditionValid _ _).mono ?_; rintro e w' ⟨rfl, rfl⟩) | (go_at_call 83; refine (spec_RelValid _ _ hr).mono ?_; rintro e w' ⟨rfl, rfl⟩) | (go_at_call 84; refine (C1.out _).mono ?_; rintro e w' ⟨rfl, rfl⟩))
      go_ret2
      exact ⟨rfl, rfl⟩
theorem spec_l4Reach (p q : Int) (w : World) (h0 : 0 ≤ p) (h1 : p ≤ 15) (h2 : 0 ≤ q) (h3 : q ≤ 15) :
    Calls Try.prog 103 #[.int .i64 p, .int .i64 q] w fun e w' => e = .returned (.string (txt 16 (specD p fun _ => q))) ∧ w = w' := by
  have hD : Dg 4 (fun _ : Nat => q) := fun _ _ => ⟨h2, h3⟩
  have c1 := fun w => spec_l4Spec p (txt 4 fun _ => q) w h0 h1 (by rw [txt_size]; exact Nat.le_refl _)
  rw [spec_txt h0 h1 (dg_txt_Dg hD), specD_txt hD] at c1
  have C1 := Lib.hid c1
  have ha : ∀ (n : Nat) (w : World), n ≤ 3 → (Op.stringOp .add (txt n fun _ => q) (dgt q)).run Try.prog w = .ok (.string (txt (n + 1) fun _ => q)) w := fun n w hn => by
    rw [run_string_add_sum w _ _ (by rw [txt_size]; show n + 1 ≤ _; omega)]
    exact congrArg (fun x => Result.ok (Value.string x) w) (txt_succ n (fun _ => q))
  have e1 : (txt 1 fun _ : Nat => q) = dgt q := by rw [← txt_succ 0 (fun _ => q)]; rfl
  have ha1 := fun w => ha 1 w (by decide)
  have ha2 := fun w => ha 2 w (by decide)
  have ha3 := fun w => ha 3 w (by decide)
  rw [e1] at ha1
  clear c1 ha e1 hD
  go_enter Try.func103, Try.ntmps103
  go_wp2_with (first | (go_at_call 124; refine (spec_l2Digit _ _ (by first | assumption | omega) (by first | assumption | omega)).mono ?_; rintro e w' ⟨rfl, rfl⟩) | (go_at_call 84; refine (C1.out _).mono ?_; rintro e w' ⟨rfl, rfl⟩))
  go_ret
  exact ⟨rfl, rfl⟩
theorem spec_ReachTrans (p q : Int) (w : World) :
    Calls Try.prog 48 #[.int .i64 p, .int .i64 q] w fun e w' => e = .returned (.tuple #[.string (orNo (cv p && cv q) (txt 16 (specD p fun _ => q))), .bool (cv p && cv q)]) ∧ w = w' := by
  cases hv : (cv p && cv q)
  case false =>
    go_enter Try.func48, Try.ntmps48
    go_wp2_with (go_at_call 102; refine (spec_l1Both _ _ _).mono ?_; rintro e w' ⟨rfl, rfl⟩)
    go_ret2
    exact ⟨rfl, rfl⟩
  case true =>
    obtain ⟨hp, hq⟩ := Bool.and_eq_true_iff.1 hv
    obtain ⟨h0, h1⟩ := cv_iff.1 hp
    obtain ⟨h2, h3⟩ := cv_iff.1 hq
    rw [orNo_true]
    go_enter Try.func48, Try.ntmps48
    go_wp2_with (first | (go_at_call 102; refine (spec_l1Both _ _ _).mono ?_; rintro e w' ⟨rfl, rfl⟩) | (go_at_call 103; refine (spec_l4Reach _ _ _ h0 h1 h2 h3).mono ?_; rintro e w' ⟨rfl, rfl⟩))
    go_ret2
    exact ⟨rfl, rfl⟩
theorem spec_SpecOf (r : ByteArray) (w : World) (hr : r.size ≤ maxLen) :
    Calls Try.prog 57 #[.string r] w fun e w' => e = .returned (.tuple #[.int .i64 (orZ (tvB r && conjB (dg r)) (dg r 15)), .string (orNo (tvB r && conjB (dg r)) (txt 4 (leadsT (dg r)))), .bool (tvB r && conjB (dg r))]) ∧ w = w' := by
  cases hv : (tvB r && conjB (dg r))
  case false =>
    go_enter Try.func57, Try.ntmps57
    go_wp2_with (go_at_call 41; refine (spec_IsConjunctive _ _ hr).mono ?_; rintro e w' ⟨rfl, rfl⟩)
    go_ret3
    exact ⟨rfl, rfl⟩
  case true =>
    have h := (Bool.and_eq_true_iff.1 hv).1
    have hz := tvB_size h
    have hz : 16 ≤ r.size := by omega
    have hd := tvB_Dg h
    clear h
    rw [orNo_true, orZ_true]
    go_enter Try.func57, Try.ntmps57
    go_wp2_with (first | (go_at_call 41; refine (spec_IsConjunctive _ _ hr).mono ?_; rintro e w' ⟨rfl, rfl⟩) | (go_at_call 101; refine (spec_l3Value _ _ _ (by omega) (by omega)).mono ?_; rintro e w' ⟨rfl, rfl⟩) | (go_at_call 113; refine (spec_l4Rel _ _ hz hd).mono ?_; rintro e w' ⟨rfl, rfl⟩))
    go_ret3
    exact ⟨rfl, rfl⟩
theorem spec_AngelRelOf (r : ByteArray) (w : World) (hr : r.size ≤ maxLen) :
    Calls Try.prog 70 #[.string r] w fun e w' => e = .returned (.tuple #[.string (orNo ((tvB r && conjB (dg (txt 16 (dual (dg r))))) && (tvB r && (dg r 0 == 0))) (txt 4 fun s => mk 4 fun t => hasb (dg r (2 ^ t)) s)), .bool ((tvB r && conjB (dg (txt 16 (dual (dg r))))) && (tvB r && (dg r 0 == 0)))]) ∧ w = w' := by
  have c1 := fun w => spec_IsDisjunctive r w hr
  have c2 := fun w => spec_IsStrict r w hr
  have ht : (tvB r && (dg r 0 == 0)) = true → tvB r = true := fun h => (Bool.and_eq_true_iff.1 h).1
  generalize (tvB r && conjB (dg (txt 16 (dual (dg r))))) = k1 at *
  generalize (tvB r && (dg r 0 == 0)) = k2 at *
  have C1 := Lib.hid c1
  have C2 := Lib.hid c2
  clear c1 c2
  cases k1
  case false =>
    clear ht
    go_enter Try.func70, Try.ntmps70
    go_wp2_with (first | (go_at_call 42; refine (C1.out _).mono ?_; rintro e w' ⟨rfl, rfl⟩))
    go_ret2
    exact ⟨rfl, rfl⟩
  case true =>
    cases k2
    case false =>
      clear ht
      go_enter Try.func70, Try.ntmps70
      go_wp2_with (first | (go_at_call 42; refine (C1.out _).mono ?_; rintro e w' ⟨rfl, rfl⟩) | (go_at_call 43; refine (C2.out _).mono ?_; rintro e w' ⟨rfl, rfl⟩))
      go_ret2
      exact ⟨rfl, rfl⟩
    case true =>
      have h := ht rfl
      have hz := tvB_size h
      have hz : 16 ≤ r.size := by omega
      have hd := tvB_Dg h
      clear h ht
      rw [Bool.true_and, orNo_true]
      go_enter Try.func70, Try.ntmps70
      go_wp2_with (first | (go_at_call 42; refine (C1.out _).mono ?_; rintro e w' ⟨rfl, rfl⟩) | (go_at_call 43; refine (C2.out _).mono ?_; rintro e w' ⟨rfl, rfl⟩))
      clear C1 C2
      go_loopg [4, 5] 4 (fun gk o i wr => ∃ n : Nat, n ≤ 4 ∧ gk = 4 - n ∧ i = .int .i64 n ∧ o = .string (txt n fun s => mk 4 fun t => hasb (dg r (2 ^ t)) s) ∧ w = wr)
      case atStart => exact ⟨0, by omega, rfl, rfl, rfl, rfl⟩
      case round =>
        obtain ⟨n, hn, rfl, rfl, rfl, rfl⟩ := hrel
        by_cases hlt : n < 4
        · have hdn : decide ((n : Int) < 4) = true := decide_eq_true (by omega)
          go_wp2_with fail
          go_loopg [6, 7] 4 (fun gk o i wr => ∃ m : Nat, m ≤ 4 ∧ gk = 4 - m ∧ i = .int .i64 m ∧ o = .int .i64 (mk m fun t => hasb (dg r (2 ^ t)) n) ∧ w = wr)
          case atStart => exact ⟨0, by omega, rfl, rfl, rfl, rfl⟩
          case round =>
            obtain ⟨m, hm, rfl, rfl, rfl, rfl⟩ := hrel
            by_cases hlt' : m < 4
            · have hw := wrap_pow m (by omega)
              have h8 : 2 ^ m < 16 := Nat.pow_lt_pow_right (n := 4) (by decide) hlt'
              obtain ⟨p0, p1, p2⟩ := pow_in hlt'
              obtain ⟨h0, h1⟩ := hd (2 ^ m) h8
              have c3 := fun w => spec_l3Value r ((2 : Int) ^ m) w p0 (by omega)
              rw [p2] at c3
              rw [← hw] at c3
              have C3 := Lib.hid c3
              clear c3 h8 hw p0 p1 p2
              go_wp2_with (first | (go_at_call 101; refine (C3.out _).mono ?_; rintro e w' ⟨rfl, rfl⟩) | (go_at_call 123; refine (spec_l1Has _ _ _ (by omega) (by omega) (by omega) (by omega)).mono ?_; rintro e w' ⟨rfl, rfl⟩))
              · go_roundg (4 - (m + 1))
                case rel => exact ⟨m + 1, by omega, rfl, by go_num, by rw [← mk_yes (f := fun t => hasb (dg r (2 ^ t)) n) (by assumption) (by omega)], rfl⟩
                case measure => omega
              · go_roundg (4 - (m + 1))
                case rel => exact ⟨m + 1, by omega, rfl, by go_num, by rw [← mk_no (f := fun t => hasb (dg r (2 ^ t)) n) (by assumption)], rfl⟩
                case measure => omega
            · obtain rfl : m = 4 := by omega
              have hadd : ∀ w, (Op.stringOp .add (txt n fun s => mk 4 fun t => hasb (dg r (2 ^ t)) s) (dgt (mk 4 fun t => hasb (dg r (2 ^ t)) n))).run Try.prog w = .ok (.string (txt (n + 1) fun s => mk 4 fun t => hasb (dg r (2 ^ t)) s)) w := fun w => by
                rw [run_string_add_sum w _ _ (by rw [txt_size]; show n + 1 ≤ _; omega)]
                exact congrArg (fun x => Result.ok (Value.string x) w) (txt_succ n (fun s => mk 4 fun t => hasb (dg r (2 ^ t)) s))
              have hg0 := mk4_ge fun t => hasb (dg r (2 ^ t)) n
              have hg1 := mk4_le fun t => hasb (dg r (2 ^ t)) n
              go_wp2_with (go_at_call 124; refine (spec_l2Digit _ _ (by first | assumption | omega) (by first | assumption | omega)).mono ?_; rintro e w' ⟨rfl, rfl⟩)
              go_roundg (4 - (n + 1))
              case rel => exact ⟨n + 1, by omega, rfl, by go_num, rfl, rfl⟩
              case measure => omega
        · obtain rfl : n = 4 := by omega
          go_wp2_with fail
          go_ret2
          exact ⟨rfl, rfl⟩
theorem spec_l4Above (r : ByteArray) (w : World) (hz : 16 ≤ r.size) (hd : Dg 16 (dg r)) :
    Calls Try.prog 108 #[.string r] w fun e w' => e = .returned (.string (txt 16 (aboveT (dg r)))) ∧ w = w' := by
  have hL := leadsT_Dg (dg r)
  obtain ⟨h0, h1⟩ := hd 15 (by decide)
  have c1 := fun w => spec_l4Spec (dg r 15) (txt 4 (leadsT (dg r))) w h0 h1 (by rw [txt_size]; exact Nat.le_refl _)
  rw [spec_txt h0 h1 (dg_txt_Dg hL), specD_txt hL] at c1
  have C1 := Lib.hid c1
  clear c1 hL h0 h1
  go_enter Try.func108, Try.ntmps108
  go_wp2_with (first | (go_at_call 101; refine (spec_l3Value _ _ _ (by omega) (by omega)).mono ?_; rintro e w' ⟨rfl, rfl⟩) | (go_at_call 113; refine (spec_l4Rel _ _ hz hd).mono ?_; rintro e w' ⟨rfl, rfl⟩) | (go_at_call 84; refine (C1.out _).mono ?_; rintro e w' ⟨rfl, rfl⟩))
  go_ret
  exact ⟨rfl, rfl⟩
theorem spec_DemonAbove (r : ByteArray) (w : World) (hr : r.size ≤ maxLen) :
    Calls Try.prog 53 #[.string r] w fun e w' => e = .returned (.tuple #[.string (orNo (tvB r) (txt 16 (aboveT (dg r)))), .bool (tvB r)]) ∧ w = w' := by
  cases hv : tvB r
  case false =>
    go_enter Try.func53, Try.ntmps53
    go_wp2_with (go_at_call 98; refine (spec_TransValid _ _ hr).mono ?_; rintro e w' ⟨rfl, rfl⟩)
    go_ret2
    exact ⟨rfl, rfl⟩
  case true =>
    have hz := tvB_size hv
    have hz : 16 ≤ r.size := by omega
    have hd := tvB_Dg hv
    rw [orNo_true]
    go_enter Try.func53, Try.ntmps53
    go_wp2_with (first | (go_at_call 98; refine (spec_TransValid _ _ hr).mono ?_; rintro e w' ⟨rfl, rfl⟩) | (go_at_call 108; refine (spec_l4Above _ _ hz hd).mono ?_; rintro e w' ⟨rfl, rfl⟩))
    go_ret2
    exact ⟨rfl, rfl⟩
theorem spec_AngelBelow (r : ByteArray) (w : World) (hr : r.size ≤ maxLen) :
    Calls Try.prog 55 #[.string r] w fun e w' => e = .returned (.tuple #[.string (orNo (tvB r) (txt 16 (dual (aboveT (dual (dg r)))))), .bool (tvB r)]) ∧ w = w' := by
  cases hv : tvB r
  case false =>
    go_enter Try.func55, Try.ntmps55
    go_wp2_with (go_at_call 98; refine (spec_TransValid _ _ hr).mono ?_; rintro e w' ⟨rfl, rfl⟩)
    go_ret2
    exact ⟨rfl, rfl⟩
  case true =>
    have hz := tvB_size hv
    have hz : 16 ≤ r.size := by omega
    have hd := tvB_Dg hv
    have hD := dual_Dg hd
    have hA := aboveT_Dg hD
    have c1 := fun w => spec_l4Above (txt 16 (dual (dg r))) w (by rw [txt_size]; exact Nat.le_refl _) (dg_txt_Dg hD)
    rw [above_txt hD] at c1
    have c2 := fun w => spec_l3Dual (txt 16 (aboveT (dual (dg r)))) w (by rw [txt_size]; exact Nat.le_refl _) (dg_txt_Dg hA)
    rw [dual_txt hA] at c2
    have c3 := fun w => spec_l3Dual r w hz hd
    have C := Lib.hid (And.intro c1 (And.intro c2 c3))
    clear c1 c2 c3 hA hD
    rw [orNo_true]
    go_enter Try.func55, Try.ntmps55
    go_wp2_with (go_at_call 98; refine (spec_TransValid _ _ hr).mono ?_; rintro e w' ⟨rfl, rfl⟩)
    refine (C.out.2.2 _).mono ?_
    rintro e w' ⟨rfl, rfl⟩
    go_wp2_with (go_at_call 108; refine (C.out.1 _).mono ?_; rintro e w' ⟨rfl, rfl⟩)
    refine (C.out.2.1 _).mono ?_
    rintro e w' ⟨rfl, rfl⟩
    go_wp2_with fail
    go_ret2
    exact ⟨rfl, rfl⟩
end Go.Proofs.Ytmecagiadlimgaa
