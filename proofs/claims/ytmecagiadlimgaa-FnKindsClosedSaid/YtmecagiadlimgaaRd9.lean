/-
  Contracts of the draws of transformers, fourth part: open and paired transformers, and the exported draws.
-/
import Derived.Test.YtmecagiadlimgaaRd8
import Derived.Test.YtmecagiadlimgaaRd5
import Derived.Test.YtmecagiadlimgaaB5
import Derived.OwnWalk
namespace Go.Proofs.Ytmecagiadlimgaa
open Go.RowKit Go.DC
set_option maxHeartbeats 2000000
set_option linter.unusedVariables false
set_option linter.unusedSimpArgs false
theorem spec_l3Open (b p : Nat) (w : World) (hr : Rd w b p) (hp : p ≤ 980000) :
    Calls Try.prog 154 #[.pointer (some ⟨b, 0, none⟩)] w (DrewT b p 43 (fun t => t.size ≤ 20) w) := by
  have HR := Lib.hid hr
  clear hr
  go_enter Try.func154, Try.ntmps154
  go_wp2_with fail
  refine (spec_l3Some b (p) _ HR.out (by omega)).mono ?_
  rintro e w2 ⟨s2, q2, hs, g2q, rfl, hR, hE⟩
  have Hs2 := Lib.hid hs
  have HR2 := Lib.hid hR
  have HE2 := Lib.hid hE
  clear hR hE
  clear hs
  go_wp2_with fail
  refine (spec_l3Bad b (q2) s2 _ HR2.out (by omega)  Hs2.out.size).mono ?_
  rintro e w3 ⟨s3, q3, hs, g3q, rfl, hR, hE⟩
  have Hs3 := Lib.hid hs
  have HR3 := Lib.hid hR
  have HE3 := Lib.hid (HE2.out.trans hE)
  clear hR hE
  clear hs
  go_wp2_with fail
  exact bodyPost_ret (results_tmp rfl _ _ _) rfl ⟨_, q3, Hs3.out, by omega, rfl, HR3.out, HE3.out⟩
/-- Two texts were drawn. -/
def DrewPT (b p q m : Nat) (w : World) (e : Ending) (w' : World) : Prop := ∃ (s t : ByteArray) (p' : Nat), s.size ≤ m ∧ t.size ≤ m ∧ p' ≤ p + q ∧ e = .returned (.tuple #[.string s, .string t]) ∧ Rd w' b p' ∧ Els b w w'
theorem spec_l3Pair (b p : Nat) (w : World) (hr : Rd w b p) (hp : p ≤ 980000) :
    Calls Try.prog 120 #[.pointer (some ⟨b, 0, none⟩)] w (DrewPT b p 100 20 w) := by
  have HR := Lib.hid hr
  clear hr
  go_enter Try.func120, Try.ntmps120
  go_wp2_with fail
  refine (spec_l3Open b (p) _ HR.out (by omega)).mono ?_
  rintro e w2 ⟨s2, q2, hs, g2q, rfl, hR, hE⟩
  have Hs2 := Lib.hid hs
  have HR2 := Lib.hid hR
  have HE2 := Lib.hid hE
  clear hR hE
  clear hs
  go_wp2_with fail
  refine (spec_l3Some b (q2) _ HR2.out (by omega)).mono ?_
  rintro e w3 ⟨s3, q3, hs, g3q, rfl, hR, hE⟩
  have Hs3 := Lib.hid hs
  have HR3 := Lib.hid hR
  have HE3 := Lib.hid (HE2.out.trans hE)
  clear hR hE
  clear hs
  have hv := fun w => spec_TransValid s2 w (by have := Hs2.out; unfold maxLen; omega)
  cases hd : tvB s2
  case false =>
    rw [hd] at hv
    have Hv := Lib.hid hv
    clear hv hd
    (go_wp2_with fail; refine (Hv.out _).mono ?_; rintro e w' ⟨rfl, rfl⟩)
    go_wp2_with fail
    refine (spec_l3Bad b q3 s3 _ HR3.out (by omega) Hs3.out.size).mono ?_
    rintro e w4 ⟨t2, q4, ht2, hq4, rfl, hR4, hE4⟩
    have HR4 := Lib.hid hR4
    have HE4 := Lib.hid (HE3.out.trans hE4)
    have Ht2 := Lib.hid ht2
    clear hR4 hE4 ht2
    go_wp2_with fail
    go_ret2
    exact ⟨_, _, q4, Hs2.out, Ht2.out, by omega, rfl, HR4.out, HE4.out⟩
  case true =>
    rw [hd] at hv
    have Hv := Lib.hid hv
    have Hd := Lib.hid hd
    clear hv hd
    (go_wp2_with fail; refine (Hv.out _).mono ?_; rintro e w' ⟨rfl, rfl⟩)
    go_wp2_with fail
    refine (spec_pick b q3 3 _ HR3.out (by omega) (by omega) (by omega)).mono ?_
    rintro e w4 ⟨k, hk0, hk1, rfl, hR4, hE4⟩
    have HR4 := Lib.hid hR4
    have HE4 := Lib.hid (HE3.out.trans hE4)
    clear hR4 hE4
    cases hk : (k == 0)
    · go_wp2_with fail
      refine (spec_l3Bad b (q3 + 1) s3 _ HR4.out (by omega) Hs3.out.size).mono ?_
      rintro e w5 ⟨t2, q5, ht2, hq5, rfl, hR5, hE5⟩
      have HR5 := Lib.hid hR5
      have HE5 := Lib.hid (HE4.out.trans hE5)
      have Ht2 := Lib.hid ht2
      clear hR5 hE5 ht2
      go_wp2_with fail
      go_ret2
      exact ⟨_, _, q5, Hs2.out, Ht2.out, by omega, rfl, HR5.out, HE5.out⟩
    · have Hj := Lib.hid (fun w => spec_l3Join s2 s3 w (Nat.le_of_eq (tvB_size Hd.out).symm) (tvB_Dg Hd.out) (Nat.le_of_eq Hs3.out.size.symm) Hs3.out.dg)
      (go_wp2_with fail; refine (Hj.out _).mono ?_; rintro e w' ⟨rfl, rfl⟩)
      go_wp2_with fail
      refine (spec_l3Bad b (q3 + 1) _ _ HR4.out (by omega) (txt_size _ _)).mono ?_
      rintro e w5 ⟨t2, q5, ht2, hq5, rfl, hR5, hE5⟩
      have HR5 := Lib.hid hR5
      have HE5 := Lib.hid (HE4.out.trans hE5)
      have Ht2 := Lib.hid ht2
      clear hR5 hE5 ht2
      go_wp2_with fail
      go_ret2
      exact ⟨_, _, q5, Hs2.out, Ht2.out, by omega, rfl, HR5.out, HE5.out⟩
theorem kind4 {k : Int} (h0 : 0 ≤ k) : k = 0 ∨ k = 1 ∨ k = 2 ∨ (¬ k = 0 ∧ ¬ k = 1 ∧ ¬ k = 2) := by omega
theorem spd_Dg {p : Int} (h0 : 0 ≤ p) (h1 : p ≤ 15) (x : Nat → Int) : Dg 16 (thenT (assertT p) (dual (angelT x))) := thenT_Dg (assertT_Dg h0 h1) (dual_Dg (angelT_Dg _ 16))
set_option maxRecDepth 100000 in
theorem spec_l4Some (b p : Nat) (w : World) (hr : Rd w b p) (hp : p ≤ 980000) :
    Calls Try.prog 126 #[.pointer (some ⟨b, 0, none⟩)] w (DrewT b p 42 (IsDg 16) w) := by
  have HR := Lib.hid hr
  clear hr
  go_enter Try.func126, Try.ntmps126
  go_wp2_with fail
  refine (spec_pick b p 5 _ HR.out (by omega) (by omega) (by omega)).mono ?_
  rintro e w1 ⟨kind, hk0, hk1, rfl, hR, hE⟩
  have HR1 := Lib.hid hR
  have HE1 := Lib.hid hE
  clear hR hE HR
  rcases kind4 hk0 with rfl | rfl | rfl | ⟨hn0, hn1, hn2⟩
  · go_wp2_with fail
    refine (spec_pick b (p + 1) 16 _ HR1.out (by omega) (by omega) (by omega)).mono ?_
    rintro e w2 ⟨v2, g2a, g2b, rfl, hR, hE⟩
    have HR2 := Lib.hid hR
    have HE2 := Lib.hid (HE1.out.trans hE)
    clear hR hE
    go_wp2_with fail
    refine (spec_l2Some b (p + 1 + 1) _ HR2.out (by omega)).mono ?_
    rintro e w3 ⟨s3, q3, hs, g3q, rfl, hR, hE⟩
    have Hs3 := Lib.hid hs
    have HR3 := Lib.hid hR
    have HE3 := Lib.hid (HE2.out.trans hE)
    clear hR hE
    clear hs
    go_wp2_with fail
    refine (spec_l4Spec v2 s3 _ g2a (by omega) (by have := Hs3.out.size; omega)).mono ?_
    rintro e w' ⟨rfl, rfl⟩
    go_wp2_with fail
    exact bodyPost_ret (results_tmp rfl _ _ _) rfl ⟨_, q3, ⟨_, spd_Dg g2a (by omega) _, rfl⟩, by omega, rfl, HR3.out, HE3.out⟩
  · go_wp2_with fail
    refine (spec_pick b (p + 1) 16 _ HR1.out (by omega) (by omega) (by omega)).mono ?_
    rintro e w2 ⟨v2, g2a, g2b, rfl, hR, hE⟩
    have HR2 := Lib.hid hR
    have HE2 := Lib.hid (HE1.out.trans hE)
    clear hR hE
    go_wp2_with fail
    refine (spec_l2Some b (p + 1 + 1) _ HR2.out (by omega)).mono ?_
    rintro e w3 ⟨s3, q3, hs, g3q, rfl, hR, hE⟩
    have Hs3 := Lib.hid hs
    have HR3 := Lib.hid hR
    have HE3 := Lib.hid (HE2.out.trans hE)
    clear hR hE
    clear hs
    go_wp2_with fail
    refine (spec_l4Spec v2 s3 _ g2a (by omega) (by have := Hs3.out.size; omega)).mono ?_
    rintro e w' ⟨rfl, rfl⟩
    go_wp2_with fail
    refine (spec_l3Dual _ _ (dgT (spd_Dg g2a (by omega) _)).1 (dgT (spd_Dg g2a (by omega) _)).2).mono ?_
    rintro e w' ⟨rfl, rfl⟩
    go_wp2_with fail
    exact bodyPost_ret (results_tmp rfl _ _ _) rfl ⟨_, q3, ⟨_, dual_Dg (dgT (spd_Dg g2a (by omega) _)).2, rfl⟩, by omega, rfl, HR3.out, HE3.out⟩
  · go_wp2_with fail
    go_loopg [3, 4] 4 (fun gk o i wr => ∃ (n : Nat) (f : Nat → Int), n ≤ 4 ∧ gk = 4 - n ∧ i = .int .i64 n ∧ o = .string (txt n f) ∧ Dg n f ∧ Rd wr b (p + 1 + n) ∧ Els b w wr)
    case atStart => exact ⟨0, fun _ => 0, by omega, rfl, rfl, rfl, Dg_zero 0, HR1.out, HE1.out⟩
    case round =>
      clear HR1 HE1
      obtain ⟨n, f, hn, rfl, rfl, rfl, hf, hr, he⟩ := hrel
      have Hf := Lib.hid hf
      have HR := Lib.hid hr
      have HE := Lib.hid he
      clear hf hr he
      by_cases hlt : n < 4
      case neg =>
        obtain rfl : n = 4 := by omega
        go_wp2_with fail
        refine (spec_l3Angel (txt 4 f) _ (by rw [txt_size]; decide)).mono ?_
        rintro e w' ⟨rfl, rfl⟩
        go_wp2_with fail
        exact bodyPost_ret (results_tmp rfl _ _ _) rfl ⟨_, p + 1 + 4, ⟨_, angelT_Dg _ 16, rfl⟩, by omega, rfl, HR.out, HE.out⟩
      case pos =>
        have hdn : decide ((n : Int) < 4) = true := decide_eq_true (by omega)
        go_wp2_with fail
        refine (spec_pick b (p + 1 + n) 4 _ HR.out (by omega) (by omega) (by omega)).mono ?_
        rintro e w2 ⟨u, hu0, hu1, rfl, hR2, hE2⟩
        obtain ⟨u, rfl⟩ := Int.eq_ofNat_of_zero_le hu0
        have HR2 := Lib.hid hR2
        have HE2 := Lib.hid (HE.out.trans hE2)
        have hs := pow_small (v := (u : Int)) hu0 hu1
        rw [Int.toNat_natCast] at hs
        have Hadd := Lib.hid (fun w => drew_add (P := Try.prog) n f (wrap64 (2 ^ u)) (by omega) w)
        have HD := Lib.hid (Dg_upd Hf.out hs.1 hs.2)
        obtain ⟨hs0, hs1⟩ := hs
        clear hR2 hE2 HR HE
        go_wp2_with fail
        generalize wrap64 (2 ^ u) = V at *
        refine (spec_l2Digit V _ hs0 hs1).mono ?_
        rintro e w' ⟨rfl, rfl⟩
        have hadd := Hadd.out
        go_wp2_with fail
        go_roundg (4 - (n + 1))
        case rel => exact ⟨n + 1, _, by omega, rfl, by go_num, rfl, HD.out, HR2.out, HE2.out⟩
        case measure => omega
  · go_wp2_with fail
    refine (spec_l3Some b (p + 1) _ HR1.out (by omega)).mono ?_
    rintro e w2 ⟨s2, q2, hs, g2q, rfl, hR, hE⟩
    have Hs2 := Lib.hid hs
    have HR2 := Lib.hid hR
    have HE2 := Lib.hid (HE1.out.trans hE)
    clear hR hE
    clear hs
    go_wp2_with fail
    exact bodyPost_ret (results_tmp rfl _ _ _) rfl ⟨_, q2, Hs2.out, by omega, rfl, HR2.out, HE2.out⟩
theorem spec_l4Open (b p : Nat) (w : World) (hr : Rd w b p) (hp : p ≤ 980000) :
    Calls Try.prog 71 #[.pointer (some ⟨b, 0, none⟩)] w (DrewT b p 45 (fun t => t.size ≤ 20) w) := by
  have HR := Lib.hid hr
  clear hr
  go_enter Try.func71, Try.ntmps71
  go_wp2_with fail
  refine (spec_l4Some b (p) _ HR.out (by omega)).mono ?_
  rintro e w2 ⟨s2, q2, hs, g2q, rfl, hR, hE⟩
  have Hs2 := Lib.hid hs
  have HR2 := Lib.hid hR
  have HE2 := Lib.hid hE
  clear hR hE
  clear hs
  go_wp2_with fail
  refine (spec_l3Bad b (q2) s2 _ HR2.out (by omega)  Hs2.out.size).mono ?_
  rintro e w3 ⟨s3, q3, hs, g3q, rfl, hR, hE⟩
  have Hs3 := Lib.hid hs
  have HR3 := Lib.hid hR
  have HE3 := Lib.hid (HE2.out.trans hE)
  clear hR hE
  clear hs
  go_wp2_with fail
  exact bodyPost_ret (results_tmp rfl _ _ _) rfl ⟨_, q3, Hs3.out, by omega, rfl, HR3.out, HE3.out⟩
/-- Two numbers were drawn. -/
def DrewII (b p q : Nat) (w : World) (e : Ending) (w' : World) : Prop := ∃ (n k : Int) (p' : Nat), p' ≤ p + q ∧ e = .returned (.tuple #[.int .i64 n, .int .i64 k]) ∧ Rd w' b p' ∧ Els b w w'
theorem spec_l1Two (b p : Nat) (w : World) (hr : Rd w b p) (hp : p ≤ 980000) :
    Calls Try.prog 105 #[.pointer (some ⟨b, 0, none⟩)] w (DrewII b p 6 w) := by
  have HR := Lib.hid hr
  clear hr
  go_enter Try.func105, Try.ntmps105
  go_wp2_with fail
  refine (spec_l1Some b p _ HR.out (by omega)).mono ?_
  rintro e w1 ⟨x, rfl, hR, hE⟩
  have HR1 := Lib.hid hR
  have HE1 := Lib.hid hE
  clear hR hE HR
  go_wp2_with fail
  refine (spec_l1Some b (p + 2) _ HR1.out (by omega)).mono ?_
  rintro e w2 ⟨y, rfl, hR, hE⟩
  have HR2 := Lib.hid hR
  have HE2 := Lib.hid (HE1.out.trans hE)
  clear hR hE HR1 HE1
  go_wp2_with fail
  refine (spec_pick b (p + 2 + 2) 3 _ HR2.out (by omega) (by omega) (by omega)).mono ?_
  rintro e w3 ⟨k, hk0, hk1, rfl, hR, hE⟩
  have HR3 := Lib.hid hR
  have HE3 := Lib.hid (HE2.out.trans hE)
  clear hR hE HR2 HE2
  have hb := fun w => spec_l1Both x y w
  generalize (cv x && cv y) = c at *
  have Hb := Lib.hid hb
  clear hb
  cases hk : (k == 0)
  · go_wp2_with fail
    go_ret2
    exact ⟨_, _, _, by omega, rfl, HR3.out, HE3.out⟩
  · cases c
    all_goals
      (go_wp2_with fail; refine (Hb.out _).mono ?_; rintro e w' ⟨rfl, rfl⟩)
      go_wp2_with fail
      go_ret2
      exact ⟨_, _, _, by omega, rfl, HR3.out, HE3.out⟩
theorem spec_DrawIsConjunctive (a : Option Addr) (len cap : Nat) (zs : List Int) (w : World) (h : IsRow .u8 w a len cap zs) :
    Calls Try.prog 40 #[.slice a len cap] w (Drawn1 20 w) := by
  go_enter Try.func40, Try.ntmps40
  go_wp2_with fail
  refine (spec_l14Open a len cap zs w h).mono ?_
  rintro e w1 ⟨b, hb, rfl, hR, hB⟩
  have HR := Lib.hid hR
  have HB := Lib.hid hB
  clear hR hB h
  go_wp2_with fail
  refine (spec_l4Open b 0 _ HR.out (by omega)).mono ?_
  rintro e w2 ⟨s, q, hs, hq, rfl, hR2, hE2⟩
  have Hs := Lib.hid hs
  have HB2 := Lib.hid (HB.out.trans (hE2.below hb HB.out.size))
  clear hR2 hE2 hs HB HR
  go_wp2_with fail
  go_ret
  exact ⟨_, Hs.out, rfl, HB2.out⟩
theorem spec_DrawIsStrict (a : Option Addr) (len cap : Nat) (zs : List Int) (w : World) (h : IsRow .u8 w a len cap zs) :
    Calls Try.prog 46 #[.slice a len cap] w (Drawn1 20 w) := by
  go_enter Try.func46, Try.ntmps46
  go_wp2_with fail
  refine (spec_l14Open a len cap zs w h).mono ?_
  rintro e w1 ⟨b, hb, rfl, hR, hB⟩
  have HR := Lib.hid hR
  have HB := Lib.hid hB
  clear hR hB h
  go_wp2_with fail
  refine (spec_l4Open b 0 _ HR.out (by omega)).mono ?_
  rintro e w2 ⟨s, q, hs, hq, rfl, hR2, hE2⟩
  have Hs := Lib.hid hs
  have HB2 := Lib.hid (HB.out.trans (hE2.below hb HB.out.size))
  clear hR2 hE2 hs HB HR
  go_wp2_with fail
  go_ret
  exact ⟨_, Hs.out, rfl, HB2.out⟩
theorem spec_DrawIsFunctional (a : Option Addr) (len cap : Nat) (zs : List Int) (w : World) (h : IsRow .u8 w a len cap zs) :
    Calls Try.prog 32 #[.slice a len cap] w (Drawn1 20 w) := by
  go_enter Try.func32, Try.ntmps32
  go_wp2_with fail
  refine (spec_l14Open a len cap zs w h).mono ?_
  rintro e w1 ⟨b, hb, rfl, hR, hB⟩
  have HR := Lib.hid hR
  have HB := Lib.hid hB
  clear hR hB h
  go_wp2_with fail
  refine (spec_l4Open b 0 _ HR.out (by omega)).mono ?_
  rintro e w2 ⟨s, q, hs, hq, rfl, hR2, hE2⟩
  have Hs := Lib.hid hs
  have HB2 := Lib.hid (HB.out.trans (hE2.below hb HB.out.size))
  clear hR2 hE2 hs HB HR
  go_wp2_with fail
  go_ret
  exact ⟨_, Hs.out, rfl, HB2.out⟩
theorem spec_DrawStartsOf (a : Option Addr) (len cap : Nat) (zs : List Int) (w : World) (h : IsRow .u8 w a len cap zs) :
    Calls Try.prog 12 #[.slice a len cap] w (Drawn1 20 w) := by
  go_enter Try.func12, Try.ntmps12
  go_wp2_with fail
  refine (spec_l14Open a len cap zs w h).mono ?_
  rintro e w1 ⟨b, hb, rfl, hR, hB⟩
  have HR := Lib.hid hR
  have HB := Lib.hid hB
  clear hR hB h
  go_wp2_with fail
  refine (spec_l4Open b 0 _ HR.out (by omega)).mono ?_
  rintro e w2 ⟨s, q, hs, hq, rfl, hR2, hE2⟩
  have Hs := Lib.hid hs
  have HB2 := Lib.hid (HB.out.trans (hE2.below hb HB.out.size))
  clear hR2 hE2 hs HB HR
  go_wp2_with fail
  go_ret
  exact ⟨_, Hs.out, rfl, HB2.out⟩
theorem spec_DrawDemonAbove (a : Option Addr) (len cap : Nat) (zs : List Int) (w : World) (h : IsRow .u8 w a len cap zs) :
    Calls Try.prog 51 #[.slice a len cap] w (Drawn1 20 w) := by
  go_enter Try.func51, Try.ntmps51
  go_wp2_with fail
  refine (spec_l14Open a len cap zs w h).mono ?_
  rintro e w1 ⟨b, hb, rfl, hR, hB⟩
  have HR := Lib.hid hR
  have HB := Lib.hid hB
  clear hR hB h
  go_wp2_with fail
  refine (spec_l4Open b 0 _ HR.out (by omega)).mono ?_
  rintro e w2 ⟨s, q, hs, hq, rfl, hR2, hE2⟩
  have Hs := Lib.hid hs
  have HB2 := Lib.hid (HB.out.trans (hE2.below hb HB.out.size))
  clear hR2 hE2 hs HB HR
  go_wp2_with fail
  go_ret
  exact ⟨_, Hs.out, rfl, HB2.out⟩
theorem spec_DrawSpecOf (a : Option Addr) (len cap : Nat) (zs : List Int) (w : World) (h : IsRow .u8 w a len cap zs) :
    Calls Try.prog 56 #[.slice a len cap] w (Drawn1 20 w) := by
  go_enter Try.func56, Try.ntmps56
  go_wp2_with fail
  refine (spec_l14Open a len cap zs w h).mono ?_
  rintro e w1 ⟨b, hb, rfl, hR, hB⟩
  have HR := Lib.hid hR
  have HB := Lib.hid hB
  clear hR hB h
  go_wp2_with fail
  refine (spec_pick b 0 4 _ HR.out (by omega) (by omega) (by omega)).mono ?_
  rintro e w2 ⟨k, hk0, hk1, rfl, hR2, hE2⟩
  have HR2 := Lib.hid hR2
  have HB2 := Lib.hid (HB.out.trans (hE2.below hb HB.out.size))
  clear hR2 hE2 HB HR
  by_cases hk : 0 < k
  · go_wp2_with fail
    refine (spec_pick b 1 16 _ HR2.out (by omega) (by omega) (by omega)).mono ?_
    rintro e w3 ⟨c, hc0, hc1, rfl, hR3, hE3⟩
    have HR3 := Lib.hid hR3
    have HB3 := Lib.hid (HB2.out.trans (hE3.below hb HB2.out.size))
    clear hR3 hE3 HB2 HR2
    go_wp2_with fail
    refine (spec_l2Some b 2 _ HR3.out (by omega)).mono ?_
    rintro e w4 ⟨s, q, hs, hq, rfl, hR4, hE4⟩
    have Hs := Lib.hid hs
    have HB4 := Lib.hid (HB3.out.trans (hE4.below hb HB3.out.size))
    clear hR4 hE4 hs HB3 HR3
    go_wp2_with fail
    refine (spec_l4Spec c s _ hc0 (by omega) (by have := Hs.out.size; omega)).mono ?_
    rintro e w' ⟨rfl, rfl⟩
    go_wp2_with fail
    go_ret
    exact ⟨_, by rw [txt_size]; decide, rfl, HB4.out⟩
  · go_wp2_with fail
    refine (spec_l4Open b 1 _ HR2.out (by omega)).mono ?_
    rintro e w3 ⟨s, q, hs, hq, rfl, hR3, hE3⟩
    have Hs := Lib.hid hs
    have HB3 := Lib.hid (HB2.out.trans (hE3.below hb HB2.out.size))
    clear hR3 hE3 hs HB2 HR2
    go_wp2_with fail
    go_ret
    exact ⟨_, Hs.out, rfl, HB3.out⟩
theorem spec_DrawAngelRelOf (a : Option Addr) (len cap : Nat) (zs : List Int) (w : World) (h : IsRow .u8 w a len cap zs) :
    Calls Try.prog 68 #[.slice a len cap] w (Drawn1 20 w) := by
  go_enter Try.func68, Try.ntmps68
  go_wp2_with fail
  refine (spec_l14Open a len cap zs w h).mono ?_
  rintro e w1 ⟨b, hb, rfl, hR, hB⟩
  have HR := Lib.hid hR
  have HB := Lib.hid hB
  clear hR hB h
  go_wp2_with fail
  refine (spec_pick b 0 4 _ HR.out (by omega) (by omega) (by omega)).mono ?_
  rintro e w2 ⟨k, hk0, hk1, rfl, hR2, hE2⟩
  have HR2 := Lib.hid hR2
  have HB2 := Lib.hid (HB.out.trans (hE2.below hb HB.out.size))
  clear hR2 hE2 HB HR
  by_cases hk : 0 < k
  · go_wp2_with fail
    refine (spec_l2Some b 1 _ HR2.out (by omega)).mono ?_
    rintro e w4 ⟨s, q, hs, hq, rfl, hR4, hE4⟩
    have Hs := Lib.hid hs
    have HB4 := Lib.hid (HB2.out.trans (hE4.below hb HB2.out.size))
    clear hR4 hE4 hs HB2 HR2
    go_wp2_with fail
    refine (spec_l3Angel s _ (by have := Hs.out.size; omega)).mono ?_
    rintro e w' ⟨rfl, rfl⟩
    go_wp2_with fail
    go_ret
    exact ⟨_, by rw [txt_size]; decide, rfl, HB4.out⟩
  · go_wp2_with fail
    refine (spec_l4Open b 1 _ HR2.out (by omega)).mono ?_
    rintro e w3 ⟨s, q, hs, hq, rfl, hR3, hE3⟩
    have Hs := Lib.hid hs
    have HB3 := Lib.hid (HB2.out.trans (hE3.below hb HB2.out.size))
    clear hR3 hE3 hs HB2 HR2
    go_wp2_with fail
    go_ret
    exact ⟨_, Hs.out, rfl, HB3.out⟩
/-- Two numbers were drawn. -/
def DrawnII (w : World) (e : Ending) (w' : World) : Prop := ∃ n k : Int, e = .returned (.tuple #[.int .i64 n, .int .i64 k]) ∧ Below w.heap.size w w'
theorem spec_DrawReachTrans (a : Option Addr) (len cap : Nat) (zs : List Int) (w : World) (h : IsRow .u8 w a len cap zs) :
    Calls Try.prog 50 #[.slice a len cap] w (DrawnII w) := by
  go_enter Try.func50, Try.ntmps50
  go_wp2_with fail
  refine (spec_l14Open a len cap zs w h).mono ?_
  rintro e w1 ⟨b, hb, rfl, hR, hB⟩
  have HR := Lib.hid hR
  have HB := Lib.hid hB
  clear hR hB h
  go_wp2_with fail
  refine (spec_l1Two b 0 _ HR.out (by omega)).mono ?_
  rintro e w2 ⟨n, k, q, hq, rfl, hR2, hE2⟩
  have HB2 := Lib.hid (HB.out.trans (hE2.below hb HB.out.size))
  clear hR2 hE2 HB HR
  go_wp2_with fail
  go_ret2
  exact ⟨_, _, rfl, HB2.out⟩
theorem spec_DrawRefinesTrans (a : Option Addr) (len cap : Nat) (zs : List Int) (w : World) (h : IsRow .u8 w a len cap zs) :
    Calls Try.prog 65 #[.slice a len cap] w (Drawn2 20 w) := by
  go_enter Try.func65, Try.ntmps65
  go_wp2_with fail
  refine (spec_l14Open a len cap zs w h).mono ?_
  rintro e w1 ⟨b, hb, rfl, hR, hB⟩
  have HR := Lib.hid hR
  have HB := Lib.hid hB
  clear hR hB h
  go_wp2_with fail
  refine (spec_l3Pair b 0 _ HR.out (by omega)).mono ?_
  rintro e w2 ⟨s, t, q, hs, ht, hq, rfl, hR2, hE2⟩
  have Hs := Lib.hid hs
  have Ht := Lib.hid ht
  have HB2 := Lib.hid (HB.out.trans (hE2.below hb HB.out.size))
  clear hR2 hE2 hs ht HB HR
  go_wp2_with fail
  go_ret2
  exact ⟨_, _, Hs.out, Ht.out, rfl, HB2.out⟩
/-- A number and a text were drawn. -/
def DrawnIT (m : Nat) (w : World) (e : Ending) (w' : World) : Prop := ∃ (n : Int) (s : ByteArray), s.size ≤ m ∧ e = .returned (.tuple #[.int .i64 n, .string s]) ∧ Below w.heap.size w w'
theorem spec_DrawSpecTrans (a : Option Addr) (len cap : Nat) (zs : List Int) (w : World) (h : IsRow .u8 w a len cap zs) :
    Calls Try.prog 23 #[.slice a len cap] w (DrawnIT 5 w) := by
  go_enter Try.func23, Try.ntmps23
  go_wp2_with fail
  refine (spec_l14Open a len cap zs w h).mono ?_
  rintro e w1 ⟨b, hb, rfl, hR, hB⟩
  have HR := Lib.hid hR
  have HB := Lib.hid hB
  clear hR hB h
  go_wp2_with fail
  refine (spec_l1Some b 0 _ HR.out (by omega)).mono ?_
  rintro e w2 ⟨n, rfl, hR2, hE2⟩
  have HR2 := Lib.hid hR2
  have HB2 := Lib.hid (HB.out.trans (hE2.below hb HB.out.size))
  clear hR2 hE2 HB HR
  go_wp2_with fail
  refine (spec_l2Open b 2 _ HR2.out (by omega)).mono ?_
  rintro e w3 ⟨s, q, hs, hq, rfl, hR3, hE3⟩
  have Hs := Lib.hid hs
  have HB3 := Lib.hid (HB2.out.trans (hE3.below hb HB2.out.size))
  clear hR3 hE3 hs HB2 HR2
  go_wp2_with fail
  go_ret2
  exact ⟨_, _, Hs.out, rfl, HB3.out⟩
end Go.Proofs.Ytmecagiadlimgaa
