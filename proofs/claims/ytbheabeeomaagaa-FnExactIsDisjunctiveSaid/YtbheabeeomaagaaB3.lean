/-
  Contracts of the reference's functions on transformers: which texts are transformers, duals, kinds, points.
-/
import Derived.Test.YtbheabeeomaagaaB1
import Derived.Test.YtbheabeeomaagaaT
import Derived.Test.YtbheabeeomaagaaPT
namespace Go.Proofs.Ytbheabeeomaagaa
open Go.RowKit Go.DC
set_option maxHeartbeats 1000000
set_option linter.unusedVariables false
set_option linter.unusedSimpArgs false

theorem spec_l3Monotone (r : ByteArray) (w : World) (hz : 16 ≤ r.size) :
    Calls Try.prog 103 #[.string r] w fun e w' => e = .returned (.bool (all2B (badM (dg r)))) ∧ w = w' := by
  go_enter Try.func103, Try.ntmps103
  go_wp2_with fail
  go_loopg [3] 16 (fun gk i wr => ∃ n : Nat, n ≤ 16 ∧ gk = 16 - n ∧ i = .int .i64 n ∧ Ok2 (badM (dg r)) n 0 ∧ w = wr)
  case atStart => exact ⟨0, by omega, rfl, rfl, Ok2.zero _, rfl⟩
  case round =>
    obtain ⟨n, hn, rfl, rfl, ho, rfl⟩ := hrel
    have Ho := Lib.hid ho
    clear ho
    by_cases hlt : n < 16
    · have hd : decide ((n : Int) < 16) = true := decide_eq_true (by omega)
      go_wp2_with fail
      go_loopg [4] 16 (fun gk i wr => ∃ m : Nat, m ≤ 16 ∧ gk = 16 - m ∧ i = .int .i64 m ∧ Ok2 (badM (dg r)) n m ∧ w = wr)
      case atStart => exact ⟨0, by omega, rfl, rfl, Ho.out, rfl⟩
      case round =>
        clear Ho
        obtain ⟨m, hm, rfl, rfl, ho, rfl⟩ := hrel
        have Ho := Lib.hid ho
        clear ho
        by_cases hlt' : m < 16
        · cases hg : (bits BinOp.andNot IntKind.i64 (n : Int) (m : Int) == 0)
          case false =>
            have H1 := Lib.hid (show badM (dg r) n m = false by unfold badM; rw [hg]; rfl)
            go_wp2_with (go_at_call 55; refine (spec_l3Value r _ _ (by omega) (by omega)).mono ?_; rintro e w' ⟨rfl, rfl⟩)
            go_roundg (16 - (m + 1))
            case rel => exact ⟨m + 1, by omega, rfl, by go_num, Ho.out.step H1.out, rfl⟩
            case measure => omega
          case true =>
            cases hv : (bits BinOp.andNot IntKind.i64 (dg r n) (dg r m) != 0)
            case false =>
              have H1 := Lib.hid (show badM (dg r) n m = false by unfold badM; rw [hg, hv]; rfl)
              go_wp2_with (go_at_call 55; refine (spec_l3Value r _ _ (by omega) (by omega)).mono ?_; rintro e w' ⟨rfl, rfl⟩)
              go_roundg (16 - (m + 1))
              case rel => exact ⟨m + 1, by omega, rfl, by go_num, Ho.out.step H1.out, rfl⟩
              case measure => omega
            case true =>
              have H1 := Lib.hid (all2_bad (P := badM (dg r)) hlt hlt' (by unfold badM; rw [hg, hv]; rfl))
              go_wp2_with (go_at_call 55; refine (spec_l3Value r _ _ (by omega) (by omega)).mono ?_; rintro e w' ⟨rfl, rfl⟩)
              go_ret
              exact ⟨by rw [H1.out]; rfl, rfl⟩
        · obtain rfl : m = 16 := by omega
          go_wp2_with fail
          go_roundg (16 - (n + 1))
          case rel => exact ⟨n + 1, by omega, rfl, by go_num, Ho.out.next, rfl⟩
          case measure => omega
    · obtain rfl : n = 16 := by omega
      go_wp2_with fail
      go_ret
      exact ⟨by rw [Ho.out.all]; rfl, rfl⟩
theorem spec_l4Conjunctive (r : ByteArray) (w : World) (hz : 16 ≤ r.size) :
    Calls Try.prog 79 #[.string r] w fun e w' => e = .returned (.bool (conjB (dg r))) ∧ w = w' := by
  go_enter Try.func79, Try.ntmps79
  go_wp2_with fail
  go_loopg [3] 16 (fun gk i wr => ∃ n : Nat, n ≤ 16 ∧ gk = 16 - n ∧ i = .int .i64 n ∧ Ok2 (fun p q : Nat => !(dg r (band (p : Int) (q : Int)).toNat == band (dg r p) (dg r q))) n 0 ∧ w = wr)
  case atStart => exact ⟨0, by omega, rfl, rfl, Ok2.zero _, rfl⟩
  case round =>
    obtain ⟨n, hn, rfl, rfl, ho, rfl⟩ := hrel
    have Ho := Lib.hid ho
    clear ho
    by_cases hlt : n < 16
    · have hd : decide ((n : Int) < 16) = true := decide_eq_true (by omega)
      go_wp2_with fail
      go_loopg [4] 16 (fun gk i wr => ∃ m : Nat, m ≤ 16 ∧ gk = 16 - m ∧ i = .int .i64 m ∧ Ok2 (fun p q : Nat => !(dg r (band (p : Int) (q : Int)).toNat == band (dg r p) (dg r q))) n m ∧ w = wr)
      case atStart => exact ⟨0, by omega, rfl, rfl, Ho.out, rfl⟩
      case round =>
        clear Ho
        obtain ⟨m, hm, rfl, rfl, ho, rfl⟩ := hrel
        have Ho := Lib.hid ho
        clear ho
        by_cases hlt' : m < 16
        · have hr := band_rng (a := (n : Int)) (b := (m : Int)) (by omega) (by omega) (by omega) (by omega)
          have e : band (n : Int) (m : Int) = bits BinOp.and IntKind.i64 n m := rfl
          rw [e] at hr
          clear e
          obtain ⟨hr0, hr1⟩ := hr
          cases hv : (dg r (bits BinOp.and IntKind.i64 (n : Int) (m : Int)).toNat != bits BinOp.and IntKind.i64 (dg r n) (dg r m))
          case false =>
            have H1 := Lib.hid (show (fun p q : Nat => !(dg r (band (p : Int) (q : Int)).toNat == band (dg r p) (dg r q))) n m = false from hv)
            go_wp2_with (go_at_call 55; refine (spec_l3Value r _ _ (by omega) (by omega)).mono ?_; rintro e w' ⟨rfl, rfl⟩)
            go_roundg (16 - (m + 1))
            case rel => exact ⟨m + 1, by omega, rfl, by go_num, Ho.out.step H1.out, rfl⟩
            case measure => omega
          case true =>
            have H1 := Lib.hid (all2_bad (P := fun p q : Nat => !(dg r (band (p : Int) (q : Int)).toNat == band (dg r p) (dg r q))) hlt hlt' hv)
            go_wp2_with (go_at_call 55; refine (spec_l3Value r _ _ (by omega) (by omega)).mono ?_; rintro e w' ⟨rfl, rfl⟩)
            go_ret
            exact ⟨by unfold conjB; rw [H1.out]; rfl, rfl⟩
        · obtain rfl : m = 16 := by omega
          go_wp2_with fail
          go_roundg (16 - (n + 1))
          case rel => exact ⟨n + 1, by omega, rfl, by go_num, Ho.out.next, rfl⟩
          case measure => omega
    · obtain rfl : n = 16 := by omega
      go_wp2_with fail
      go_ret
      exact ⟨by unfold conjB; rw [Ho.out.all]; rfl, rfl⟩
theorem spec_MonotoneTable (r : ByteArray) (w : World) (hs : r.size ≤ maxLen) :
    Calls Try.prog 93 #[.string r] w fun e w' => e = .returned (.bool (tvB r)) ∧ w = w' := by
  have hc := fun (w : World) => spec_l2Digits r 16 w hs
  have Hc := Lib.hid hc
  clear hc
  have Ht := Lib.hid (show tvB r = (dvB 16 r && all2B (badM (dg r))) from rfl)
  cases h : dvB 16 r
  case false =>
    go_enter Try.func93, Try.ntmps93
    go_wp2_with (go_at_call 87; refine (Hc.out _).mono ?_; rintro e w' ⟨rfl, rfl⟩)
    go_ret
    exact ⟨by rw [Ht.out, h]; rfl, rfl⟩
  case true =>
    have hz := (dvB_iff.1 h).1
    have hz : 16 ≤ r.size := by omega
    go_enter Try.func93, Try.ntmps93
    go_wp2_with (first | (go_at_call 87; refine (Hc.out _).mono ?_; rintro e w' ⟨rfl, rfl⟩) | (go_at_call 103; refine (spec_l3Monotone _ _ hz).mono ?_; rintro e w' ⟨rfl, rfl⟩))
    go_ret
    exact ⟨by rw [Ht.out, h]; rfl, rfl⟩
theorem spec_TransValid (r : ByteArray) (w : World) (hs : r.size ≤ maxLen) :
    Calls Try.prog 65 #[.string r] w fun e w' => e = .returned (.bool (tvB r)) ∧ w = w' := by
  go_enter Try.func65, Try.ntmps65
  go_wp2_with (go_at_call 93; refine (spec_MonotoneTable _ _ hs).mono ?_; rintro e w' ⟨rfl, rfl⟩)
  go_ret
  exact ⟨rfl, rfl⟩
theorem spec_l7Ready (r : ByteArray) (p : Int) (w : World) (hs : r.size ≤ maxLen) :
    Calls Try.prog 54 #[.string r, .int .i64 p] w fun e w' => e = .returned (.bool (tvB r && cv p)) ∧ w = w' := by
  cases h : tvB r
  all_goals
    go_enter Try.func54, Try.ntmps54
    go_wp2_with fail
    refine (spec_TransValid _ _ hs).mono ?_
    rintro e w' ⟨rfl, rfl⟩
    rw [h]
    go_wp2_with (go_at_call 41; refine (spec_ConditionValid _ _).mono ?_; rintro e w' ⟨rfl, rfl⟩)
    go_ret
    exact ⟨by simp, rfl⟩
theorem spec_l3Dual (r : ByteArray) (w : World) (hz : 16 ≤ r.size) (hd : Dg 16 (dg r)) :
    Calls Try.prog 80 #[.string r] w fun e w' => e = .returned (.string (txt 16 (dual (dg r)))) ∧ w = w' := by
  go_enter Try.func80, Try.ntmps80
  go_wp2_with fail
  go_loopg [3, 4] 16 (fun gk o i wr => ∃ n : Nat, n ≤ 16 ∧ gk = 16 - n ∧ i = .int .i64 n ∧ o = .string (txt n (dual (dg r))) ∧ w = wr)
  case atStart => exact ⟨0, by omega, rfl, rfl, rfl, rfl⟩
  case round =>
    obtain ⟨n, hn, rfl, rfl, rfl, rfl⟩ := hrel
    by_cases hlt : n < 16
    · have hadd : ∀ w, (Op.stringOp .add (txt n (dual (dg r))) (dgt (bits BinOp.andNot IntKind.i64 15 (dg r (bits BinOp.andNot IntKind.i64 15 (n : Int)).toNat)))).run Try.prog w = .ok (.string (txt (n + 1) (dual (dg r)))) w := fun w => by
        rw [run_string_add_sum w _ _ (by rw [txt_size]; show n + 1 ≤ _; omega)]
        exact congrArg (fun x => Result.ok (Value.string x) w) (txt_succ n (dual (dg r)))
      have hb := bandn_rng (a := 15) (b := (n : Int)) (by decide) (by decide) (by omega) (by omega)
      have e : bandn 15 (n : Int) = bits BinOp.andNot IntKind.i64 15 n := rfl
      rw [e] at hb
      clear e
      obtain ⟨hb0, hb1⟩ := hb
      have hg : 0 ≤ bits BinOp.andNot IntKind.i64 15 (dg r (bits BinOp.andNot IntKind.i64 15 (n : Int)).toNat) ∧ bits BinOp.andNot IntKind.i64 15 (dg r (bits BinOp.andNot IntKind.i64 15 (n : Int)).toNat) ≤ 15 := dual_Dg hd n hlt
      obtain ⟨hg0, hg1⟩ := hg
      go_wp2_with (first | (go_at_call 55; refine (spec_l3Value r _ _ (by omega) (by omega)).mono ?_; rintro e w' ⟨rfl, rfl⟩) | (go_at_call 57; refine (spec_l2Digit _ _ (by first | assumption | omega) (by first | assumption | omega)).mono ?_; rintro e w' ⟨rfl, rfl⟩))
      go_roundg (16 - (n + 1))
      case rel => exact ⟨n + 1, by omega, rfl, by go_num, rfl, rfl⟩
      case measure => omega
    · obtain rfl : n = 16 := by omega
      go_wp2_with fail
      go_ret
      exact ⟨rfl, rfl⟩
theorem spec_IsDisjunctive (r : ByteArray) (w : World) (hr : r.size ≤ maxLen) :
    Calls Try.prog 34 #[.string r] w fun e w' => e = .returned (.bool (tvB r && conjB (dg (txt 16 (dual (dg r)))))) ∧ w = w' := by
  cases hv : tvB r
  case false =>
    go_enter Try.func34, Try.ntmps34
    go_wp2_with (go_at_call 65; refine (spec_TransValid _ _ hr).mono ?_; rintro e w' ⟨rfl, rfl⟩)
    go_ret
    exact ⟨rfl, rfl⟩
  case true =>
    have hz := tvB_size hv
    have hz : 16 ≤ r.size := by omega
    have hd := tvB_Dg hv
    have h2 := fun w => spec_l4Conjunctive (txt 16 (dual (dg r))) w (by rw [txt_size]; exact Nat.le_refl _)
    have H2 := Lib.hid h2
    clear h2
    go_enter Try.func34, Try.ntmps34
    go_wp2_with (first | (go_at_call 65; refine (spec_TransValid _ _ hr).mono ?_; rintro e w' ⟨rfl, rfl⟩) | (go_at_call 80; refine (spec_l3Dual _ _ hz hd).mono ?_; rintro e w' ⟨rfl, rfl⟩) | (go_at_call 79; refine (H2.out _).mono ?_; rintro e w' ⟨rfl, rfl⟩))
    go_ret
    exact ⟨rfl, rfl⟩
theorem spec_IsPoint (r : ByteArray) (p : Int) (w : World) (hr : r.size ≤ maxLen) :
    Calls Try.prog 22 #[.string r, .int .i64 p] w fun e w' => e = .returned (.bool ((tvB r && cv p) && (ap (dg r) p == p))) ∧ w = w' := by
  cases hv : (tvB r && cv p)
  case false =>
    go_enter Try.func22, Try.ntmps22
    go_wp2_with (go_at_call 54; refine (spec_l7Ready _ _ _ hr).mono ?_; rintro e w' ⟨rfl, rfl⟩)
    go_ret
    exact ⟨rfl, rfl⟩
  case true =>
    obtain ⟨h1, h2⟩ := Bool.and_eq_true_iff.1 hv
    obtain ⟨hp0, hp1⟩ := cv_iff.1 h2
    have hz := tvB_size h1
    have hz : 16 ≤ r.size := by omega
    have Ha := Lib.hid (show ap (dg r) p = dg r p.toNat from rfl)
    clear h1 h2
    go_enter Try.func22, Try.ntmps22
    go_wp2_with (first | (go_at_call 54; refine (spec_l7Ready _ _ _ hr).mono ?_; rintro e w' ⟨rfl, rfl⟩) | (go_at_call 55; refine (spec_l3Value r _ _ (by omega) (by omega)).mono ?_; rintro e w' ⟨rfl, rfl⟩))
    go_ret
    exact ⟨by rw [Ha.out]; simp, rfl⟩
theorem spec_l7Greatest (r : ByteArray) (o a : Int) (w : World) (hz : 16 ≤ r.size) (hd : Dg 16 (dg r)) (ho0 : 0 ≤ o) (ho1 : o ≤ 15) (ha0 : 0 ≤ a) (ha1 : a ≤ 15) (hT : Mono fun y => band (bor (ap (dg r) y) o) a) :
    Calls Try.prog 66 #[.string r, .int .i64 o, .int .i64 a] w fun e w' => e = .returned (.int .i64 (gp fun y => band (bor (ap (dg r) y) o) a)) ∧ w = w' := by
  have HT := Lib.hid hT
  clear hT
  obtain ⟨T, hTe⟩ : ∃ T : Int → Int, T = fun y => band (bor (ap (dg r) y) o) a := ⟨_, rfl⟩
  have HTe := Lib.hid hTe
  have Hm := Lib.hid (show Mono T by rw [hTe]; exact HT.out)
  rw [← hTe]
  clear hTe HT
  go_enter Try.func66, Try.ntmps66
  go_wp2_with fail
  go_loopg [7, 8] 16 (fun gk yv bv wr => ∃ y b : Int, 0 ≤ y ∧ y ≤ 15 ∧ yv = .int .i64 y ∧ bv = .int .i64 b ∧ bandn (T y) y = 0 ∧ gp T = iter (y.toNat + 1) T y ∧ ((b = -1 ∧ gk = 16) ∨ (y = T b ∧ 0 ≤ b ∧ b ≤ 15 ∧ bandn y b = 0 ∧ gk = b.toNat)) ∧ w = wr)
  case atStart => exact ⟨15, -1, by decide, by decide, rfl, rfl, sub_15 (Hm.out.rng 15 (by decide) (by decide)).1 (Hm.out.rng 15 (by decide) (by decide)).2, rfl, .inl ⟨rfl, rfl⟩, rfl⟩
  case round =>
    obtain ⟨y, b, h0, h1, rfl, rfl, hs, hg, hcase, rfl⟩ := hrel
    have Hs := Lib.hid hs
    have Hg := Lib.hid hg
    have Hcase := Lib.hid hcase
    clear hs hg hcase
    cases he : (b != y)
    case false =>
      have H1 := Lib.hid (show b = y by simpa using he)
      have H2 : T y = y := by
        rcases Hcase.out with ⟨c, _⟩ | ⟨c, _⟩
        · have := H1.out; omega
        · rw [H1.out] at c; exact c.symm
      have H2 := Lib.hid H2
      go_wp2_with fail
      go_ret
      exact ⟨by rw [Hg.out, iter_stop H2.out]; rfl, rfl⟩
    case true =>
      have hne : b ≠ y := by simpa using he
      have hr := Hm.out.rng y h0 h1
      have hl := sub_le hr.1 hr.2 h0 h1 Hs.out
      have hmeas : ∀ g, ((b = -1 ∧ g = 16) ∨ (y = T b ∧ 0 ≤ b ∧ b ≤ 15 ∧ bandn y b = 0 ∧ g = b.toNat)) → y.toNat < g := by
        rintro g (⟨_, rfl⟩ | ⟨_, b0, b1, hsb, rfl⟩)
        · omega
        · have := sub_le h0 h1 b0 b1 hsb; omega
      have Hmeas := Lib.hid (hmeas gk Hcase.out)
      have hv : gp T = iter ((T y).toNat + 1) T (T y) := by
        by_cases e : T y = y
        · rw [e]; exact Hg.out
        · rw [Hg.out]; exact (iter_step Hm.out h0 h1 Hs.out e).1
      have Hv := Lib.hid hv
      have HTy := Lib.hid (show bits BinOp.and IntKind.i64 (bits BinOp.or IntKind.i64 (dg r y.toNat) o) a = T y by rw [HTe.out]; rfl)
      clear hne hr hl hmeas hv
      go_wp2_with (go_at_call 55; refine (spec_l3Value r _ _ (by omega) (by omega)).mono ?_; rintro e w' ⟨rfl, rfl⟩)
      rw [HTy.out]
      have hr := Hm.out.rng y h0 h1
      go_roundg (y.toNat)
      case rel => exact ⟨T y, y, hr.1, hr.2, rfl, rfl, Hm.out.imp _ _ hr.1 hr.2 h0 h1 Hs.out, Hv.out, .inr ⟨rfl, h0, h1, Hs.out, rfl⟩, rfl⟩
      case measure => exact Hmeas.out
theorem spec_GreatestPoint (r : ByteArray) (w : World) (hr : r.size ≤ maxLen) :
    Calls Try.prog 28 #[.string r] w fun e w' => e = .returned (.int .i64 (askV (tvB r) (gp (ap (dg r))))) ∧ w = w' := by
  cases hv : tvB r
  case false =>
    go_enter Try.func28, Try.ntmps28
    go_wp2_with (go_at_call 65; refine (spec_TransValid _ _ hr).mono ?_; rintro e w' ⟨rfl, rfl⟩)
    go_ret
    exact ⟨rfl, rfl⟩
  case true =>
    have hz := tvB_size hv
    have hz : 16 ≤ r.size := by omega
    have hd := tvB_Dg hv
    have hm := tvB_mono hv
    have hc := fun w => spec_l7Greatest r 0 15 w hz hd (by decide) (by decide) (by decide) (by decide) (mono_congr hm fun y h0 h1 => (same_015 (hm.rng y h0 h1).1 (hm.rng y h0 h1).2).symm)
    rw [gp_congr hm fun y h0 h1 => same_015 (hm.rng y h0 h1).1 (hm.rng y h0 h1).2] at hc
    have Hc := Lib.hid hc
    clear hc hm hd hz
    go_enter Try.func28, Try.ntmps28
    go_wp2_with (first | (go_at_call 65; refine (spec_TransValid _ _ hr).mono ?_; rintro e w' ⟨rfl, rfl⟩) | (go_at_call 66; refine (Hc.out _).mono ?_; rintro e w' ⟨rfl, rfl⟩))
    go_ret
    exact ⟨rfl, rfl⟩
end Go.Proofs.Ytbheabeeomaagaa
