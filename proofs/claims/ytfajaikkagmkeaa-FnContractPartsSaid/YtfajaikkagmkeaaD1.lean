/-
  Contracts of the reference's functions that find where contracts end.
-/
import Derived.Test.YtfajaikkagmkeaaB1
import Derived.Test.YtfajaikkagmkeaaG2
import Derived.OwnWalk
namespace Go.Proofs.Ytfajaikkagmkeaa
open Go.RowKit Go.DC
set_option maxHeartbeats 2000000
set_option linter.unusedVariables false
set_option linter.unusedSimpArgs false

theorem byte_no {o n : UInt8} (h : ¬ o = n) : ((o.toNat : Int) == (n.toNat : Int)) = false := by
  rw [byte_eq]; simpa using h
theorem spec_l5Skip (c : ByteArray) (hc : c.size ≤ 200) (q d : Nat) (hd : d ≤ 4) (hq : q ≤ c.size) (w : World) :
    Calls Try.prog 160 #[.string c, .int .i64 q, .int .i64 d] w fun e w' => e = .returned (.int .i64 (sk c q d)) ∧ w = w' := by
  by_cases h : q + d ≤ c.size
  case neg =>
    have hs : sk c q d = -1 := by unfold sk; rw [if_neg (fun h' => h h'.1)]
    rw [hs]
    clear hs
    go_enter Try.func160, Try.ntmps160
    go_wp2_with fail
    go_ret
    exact ⟨rfl, rfl⟩
  case pos =>
    have hsl : ∀ w, (Instr.slice 9 (.string c) (some (.int .i64 q)) (some (.int .i64 ((q : Int) + d))) none).run Try.prog w = .ok (.string (c.extract q (q + d))) w := fun w => by
      go_simp
      rw [if_pos ⟨by omega, by omega⟩, if_pos (by omega), show ((q : Int) + d).toNat = q + d by omega]
    have hv := fun w => spec_l2Digits (c.extract q (q + d)) d w (by rw [ByteArray.size_extract]; unfold maxLen; omega)
    rw [dvB_sub h] at hv
    cases hx : hxs ((c.data.toList.drop q).take d)
    all_goals
      rw [hx] at hv
      have Hv := Lib.hid hv
      have Hx := Lib.hid hx
      clear hv hx
      go_enter Try.func160, Try.ntmps160
      go_wp2_with fail
      refine (Hv.out _).mono ?_
      rintro e w' ⟨rfl, rfl⟩
      go_wp2_with fail
      go_ret
      exact ⟨by unfold sk; rw [Hx.out]; simp [h], rfl⟩
theorem shp_no {o : UInt8} (h115 : ¬ o = 115) (h97 : ¬ o = 97) (h109 : ¬ o = 109) (h33 : ¬ o = 33) (h63 : ¬ o = 63) (h65 : ¬ o = 65) (h68 : ¬ o = 68) (h59 : ¬ o = 59) (h38 : ¬ o = 38) (h124 : ¬ o = 124) (h105 : ¬ o = 105) (h119 : ¬ o = 119) (h42 : ¬ o = 42) (h43 : ¬ o = 43) : shp o = none := by
  simp [shp, h115, h97, h109, h33, h63, h65, h68, h59, h38, h124, h105, h119, h42, h43]
/-- A place where a contract may begin: -1, or a place with fewer than n bytes behind it. -/
def Spot (c : ByteArray) (n : Nat) (p : Int) : Prop := p = -1 ∨ (0 ≤ p ∧ p ≤ c.size ∧ (c.size : Int) - p < n)
theorem Spot.sk {c : ByteArray} {n q d : Nat} (h : (c.size : Int) - q < n) : Spot c n (sk c q d) := by
  rcases sk_rng c q d with h1 | ⟨h1, h2⟩
  · exact .inl h1
  · exact .inr (by rw [h1]; omega)
theorem Spot.pe {c : ByteArray} {n : Nat} {p : Int} (h : Spot c n p) : Spot c n (pe c p) := by
  rcases h with rfl | ⟨h0, h1, h2⟩
  · exact .inl rfl
  · obtain ⟨q, rfl⟩ := Int.eq_ofNat_of_zero_le h0
    rcases pe_rng (c := c) (p := q) (by omega) with h3 | ⟨h3, h4⟩
    · exact .inl h3
    · exact .inr (by omega)
theorem spec_l5End (c : ByteArray) (hc : c.size ≤ 200) (n : Nat) : ∀ (p : Int) (w : World), Spot c n p →
    Calls Try.prog 133 #[.string c, .int .i64 p] w fun e w' => e = .returned (.int .i64 (pe c p)) ∧ w = w' := by
  induction n with
  | zero =>
    intro p w h
    rcases h with rfl | h
    · go_enter Try.func133, Try.ntmps133
      go_wp2_with fail
      go_ret
      exact ⟨rfl, rfl⟩
    · exact absurd h (by omega)
  | succ n ih =>
    intro p w h
    rcases h with rfl | ⟨h0, h1, h2⟩
    · go_enter Try.func133, Try.ntmps133
      go_wp2_with fail
      go_ret
      exact ⟨rfl, rfl⟩
    obtain ⟨p, rfl⟩ := Int.eq_ofNat_of_zero_le h0
    have Ih := Lib.hid ih
    clear ih h0
    by_cases hlt : p < c.size
    case neg =>
      have Ho := Lib.hid (pe_out (c := c) (p := p) (by omega))
      go_enter Try.func133, Try.ntmps133
      go_wp2_with fail
      go_ret
      exact ⟨by rw [Ho.out]; rfl, rfl⟩
    have Hsp := Lib.hid (show (c.size : Int) - ((p + 1 : Nat) : Int) < n by omega)
    have Hp := Lib.hid hlt
    have hlt' : (p : Int) < c.size := by omega
    have hpc : p ≤ c.size := by omega
    by_cases h115 : c[p] = 115
    · have Hs := Lib.hid (pe_step0 hlt (d := 0) ((congrArg shp h115).trans rfl))
      have n115 : ((c[p].toNat : Int) == (115 : Int)) = true := by rw [h115]; rfl
      clear h115
      go_enter Try.func133, Try.ntmps133
      go_wp2_with fail
      go_ret
      exact ⟨by rw [Hs.out, sk_zero (by omega)]; try rfl, rfl⟩
    by_cases h97 : c[p] = 97
    · have Hs := Lib.hid (pe_step0 hlt (d := 0) ((congrArg shp h97).trans rfl))
      have n115 : ((c[p].toNat : Int) == (115 : Int)) = false := by rw [h97]; rfl
      have n97 : ((c[p].toNat : Int) == (97 : Int)) = true := by rw [h97]; rfl
      clear h115 h97
      go_enter Try.func133, Try.ntmps133
      go_wp2_with fail
      go_ret
      exact ⟨by rw [Hs.out, sk_zero (by omega)]; try rfl, rfl⟩
    by_cases h109 : c[p] = 109
    · have Hs := Lib.hid (pe_step0 hlt (d := 0) ((congrArg shp h109).trans rfl))
      have n115 : ((c[p].toNat : Int) == (115 : Int)) = false := by rw [h109]; rfl
      have n97 : ((c[p].toNat : Int) == (97 : Int)) = false := by rw [h109]; rfl
      have n109 : ((c[p].toNat : Int) == (109 : Int)) = true := by rw [h109]; rfl
      clear h115 h97 h109
      go_enter Try.func133, Try.ntmps133
      go_wp2_with fail
      go_ret
      exact ⟨by rw [Hs.out, sk_zero (by omega)]; try rfl, rfl⟩
    by_cases h33 : c[p] = 33
    · have Hs := Lib.hid (pe_step0 hlt (d := 1) ((congrArg shp h33).trans rfl))
      have n115 : ((c[p].toNat : Int) == (115 : Int)) = false := by rw [h33]; rfl
      have n97 : ((c[p].toNat : Int) == (97 : Int)) = false := by rw [h33]; rfl
      have n109 : ((c[p].toNat : Int) == (109 : Int)) = false := by rw [h33]; rfl
      have n33 : ((c[p].toNat : Int) == (33 : Int)) = true := by rw [h33]; rfl
      clear h115 h97 h109 h33
      go_enter Try.func133, Try.ntmps133
      go_wp2_with fail
      refine (spec_l5Skip c hc (p + 1) 1 (by omega) (by omega) _).mono ?_
      rintro e w' ⟨rfl, rfl⟩
      go_wp2_with fail
      go_ret
      exact ⟨by rw [Hs.out]; rfl, rfl⟩
    by_cases h63 : c[p] = 63
    · have Hs := Lib.hid (pe_step0 hlt (d := 1) ((congrArg shp h63).trans rfl))
      have n115 : ((c[p].toNat : Int) == (115 : Int)) = false := by rw [h63]; rfl
      have n97 : ((c[p].toNat : Int) == (97 : Int)) = false := by rw [h63]; rfl
      have n109 : ((c[p].toNat : Int) == (109 : Int)) = false := by rw [h63]; rfl
      have n33 : ((c[p].toNat : Int) == (33 : Int)) = false := by rw [h63]; rfl
      have n63 : ((c[p].toNat : Int) == (63 : Int)) = true := by rw [h63]; rfl
      clear h115 h97 h109 h33 h63
      go_enter Try.func133, Try.ntmps133
      go_wp2_with fail
      refine (spec_l5Skip c hc (p + 1) 1 (by omega) (by omega) _).mono ?_
      rintro e w' ⟨rfl, rfl⟩
      go_wp2_with fail
      go_ret
      exact ⟨by rw [Hs.out]; rfl, rfl⟩
    by_cases h65 : c[p] = 65
    · have Hs := Lib.hid (pe_step0 hlt (d := 4) ((congrArg shp h65).trans rfl))
      have n115 : ((c[p].toNat : Int) == (115 : Int)) = false := by rw [h65]; rfl
      have n97 : ((c[p].toNat : Int) == (97 : Int)) = false := by rw [h65]; rfl
      have n109 : ((c[p].toNat : Int) == (109 : Int)) = false := by rw [h65]; rfl
      have n33 : ((c[p].toNat : Int) == (33 : Int)) = false := by rw [h65]; rfl
      have n63 : ((c[p].toNat : Int) == (63 : Int)) = false := by rw [h65]; rfl
      have n65 : ((c[p].toNat : Int) == (65 : Int)) = true := by rw [h65]; rfl
      clear h115 h97 h109 h33 h63 h65
      go_enter Try.func133, Try.ntmps133
      go_wp2_with fail
      refine (spec_l5Skip c hc (p + 1) 4 (by omega) (by omega) _).mono ?_
      rintro e w' ⟨rfl, rfl⟩
      go_wp2_with fail
      go_ret
      exact ⟨by rw [Hs.out]; rfl, rfl⟩
    by_cases h68 : c[p] = 68
    · have Hs := Lib.hid (pe_step0 hlt (d := 4) ((congrArg shp h68).trans rfl))
      have n115 : ((c[p].toNat : Int) == (115 : Int)) = false := by rw [h68]; rfl
      have n97 : ((c[p].toNat : Int) == (97 : Int)) = false := by rw [h68]; rfl
      have n109 : ((c[p].toNat : Int) == (109 : Int)) = false := by rw [h68]; rfl
      have n33 : ((c[p].toNat : Int) == (33 : Int)) = false := by rw [h68]; rfl
      have n63 : ((c[p].toNat : Int) == (63 : Int)) = false := by rw [h68]; rfl
      have n65 : ((c[p].toNat : Int) == (65 : Int)) = false := by rw [h68]; rfl
      have n68 : ((c[p].toNat : Int) == (68 : Int)) = true := by rw [h68]; rfl
      clear h115 h97 h109 h33 h63 h65 h68
      go_enter Try.func133, Try.ntmps133
      go_wp2_with fail
      refine (spec_l5Skip c hc (p + 1) 4 (by omega) (by omega) _).mono ?_
      rintro e w' ⟨rfl, rfl⟩
      go_wp2_with fail
      go_ret
      exact ⟨by rw [Hs.out]; rfl, rfl⟩
    by_cases h59 : c[p] = 59
    · have Hs := Lib.hid (pe_step2 hlt (d := 0) ((congrArg shp h59).trans rfl))
      have n115 : ((c[p].toNat : Int) == (115 : Int)) = false := by rw [h59]; rfl
      have n97 : ((c[p].toNat : Int) == (97 : Int)) = false := by rw [h59]; rfl
      have n109 : ((c[p].toNat : Int) == (109 : Int)) = false := by rw [h59]; rfl
      have n33 : ((c[p].toNat : Int) == (33 : Int)) = false := by rw [h59]; rfl
      have n63 : ((c[p].toNat : Int) == (63 : Int)) = false := by rw [h59]; rfl
      have n65 : ((c[p].toNat : Int) == (65 : Int)) = false := by rw [h59]; rfl
      have n68 : ((c[p].toNat : Int) == (68 : Int)) = false := by rw [h59]; rfl
      have n59 : ((c[p].toNat : Int) == (59 : Int)) = true := by rw [h59]; rfl
      clear h115 h97 h109 h33 h63 h65 h68 h59
      go_enter Try.func133, Try.ntmps133
      go_wp2_with fail
      refine (Ih.out ((p + 1 : Nat) : Int) _ (.inr ⟨by omega, by omega, Hsp.out⟩)).mono ?_
      rintro e w' ⟨rfl, rfl⟩
      go_wp2_with fail
      refine (Ih.out (pe c ((p + 1 : Nat) : Int)) _ (Spot.pe (.inr ⟨by omega, by omega, Hsp.out⟩))).mono ?_
      rintro e w' ⟨rfl, rfl⟩
      go_wp2_with fail
      go_ret
      exact ⟨by rw [Hs.out, sk_zero (by omega)]; try rfl, rfl⟩
    by_cases h38 : c[p] = 38
    · have Hs := Lib.hid (pe_step2 hlt (d := 0) ((congrArg shp h38).trans rfl))
      have n115 : ((c[p].toNat : Int) == (115 : Int)) = false := by rw [h38]; rfl
      have n97 : ((c[p].toNat : Int) == (97 : Int)) = false := by rw [h38]; rfl
      have n109 : ((c[p].toNat : Int) == (109 : Int)) = false := by rw [h38]; rfl
      have n33 : ((c[p].toNat : Int) == (33 : Int)) = false := by rw [h38]; rfl
      have n63 : ((c[p].toNat : Int) == (63 : Int)) = false := by rw [h38]; rfl
      have n65 : ((c[p].toNat : Int) == (65 : Int)) = false := by rw [h38]; rfl
      have n68 : ((c[p].toNat : Int) == (68 : Int)) = false := by rw [h38]; rfl
      have n59 : ((c[p].toNat : Int) == (59 : Int)) = false := by rw [h38]; rfl
      have n38 : ((c[p].toNat : Int) == (38 : Int)) = true := by rw [h38]; rfl
      clear h115 h97 h109 h33 h63 h65 h68 h59 h38
      go_enter Try.func133, Try.ntmps133
      go_wp2_with fail
      refine (Ih.out ((p + 1 : Nat) : Int) _ (.inr ⟨by omega, by omega, Hsp.out⟩)).mono ?_
      rintro e w' ⟨rfl, rfl⟩
      go_wp2_with fail
      refine (Ih.out (pe c ((p + 1 : Nat) : Int)) _ (Spot.pe (.inr ⟨by omega, by omega, Hsp.out⟩))).mono ?_
      rintro e w' ⟨rfl, rfl⟩
      go_wp2_with fail
      go_ret
      exact ⟨by rw [Hs.out, sk_zero (by omega)]; try rfl, rfl⟩
    by_cases h124 : c[p] = 124
    · have Hs := Lib.hid (pe_step2 hlt (d := 0) ((congrArg shp h124).trans rfl))
      have n115 : ((c[p].toNat : Int) == (115 : Int)) = false := by rw [h124]; rfl
      have n97 : ((c[p].toNat : Int) == (97 : Int)) = false := by rw [h124]; rfl
      have n109 : ((c[p].toNat : Int) == (109 : Int)) = false := by rw [h124]; rfl
      have n33 : ((c[p].toNat : Int) == (33 : Int)) = false := by rw [h124]; rfl
      have n63 : ((c[p].toNat : Int) == (63 : Int)) = false := by rw [h124]; rfl
      have n65 : ((c[p].toNat : Int) == (65 : Int)) = false := by rw [h124]; rfl
      have n68 : ((c[p].toNat : Int) == (68 : Int)) = false := by rw [h124]; rfl
      have n59 : ((c[p].toNat : Int) == (59 : Int)) = false := by rw [h124]; rfl
      have n38 : ((c[p].toNat : Int) == (38 : Int)) = false := by rw [h124]; rfl
      have n124 : ((c[p].toNat : Int) == (124 : Int)) = true := by rw [h124]; rfl
      clear h115 h97 h109 h33 h63 h65 h68 h59 h38 h124
      go_enter Try.func133, Try.ntmps133
      go_wp2_with fail
      refine (Ih.out ((p + 1 : Nat) : Int) _ (.inr ⟨by omega, by omega, Hsp.out⟩)).mono ?_
      rintro e w' ⟨rfl, rfl⟩
      go_wp2_with fail
      refine (Ih.out (pe c ((p + 1 : Nat) : Int)) _ (Spot.pe (.inr ⟨by omega, by omega, Hsp.out⟩))).mono ?_
      rintro e w' ⟨rfl, rfl⟩
      go_wp2_with fail
      go_ret
      exact ⟨by rw [Hs.out, sk_zero (by omega)]; try rfl, rfl⟩
    by_cases h105 : c[p] = 105
    · have Hs := Lib.hid (pe_step2 hlt (d := 1) ((congrArg shp h105).trans rfl))
      have n115 : ((c[p].toNat : Int) == (115 : Int)) = false := by rw [h105]; rfl
      have n97 : ((c[p].toNat : Int) == (97 : Int)) = false := by rw [h105]; rfl
      have n109 : ((c[p].toNat : Int) == (109 : Int)) = false := by rw [h105]; rfl
      have n33 : ((c[p].toNat : Int) == (33 : Int)) = false := by rw [h105]; rfl
      have n63 : ((c[p].toNat : Int) == (63 : Int)) = false := by rw [h105]; rfl
      have n65 : ((c[p].toNat : Int) == (65 : Int)) = false := by rw [h105]; rfl
      have n68 : ((c[p].toNat : Int) == (68 : Int)) = false := by rw [h105]; rfl
      have n59 : ((c[p].toNat : Int) == (59 : Int)) = false := by rw [h105]; rfl
      have n38 : ((c[p].toNat : Int) == (38 : Int)) = false := by rw [h105]; rfl
      have n124 : ((c[p].toNat : Int) == (124 : Int)) = false := by rw [h105]; rfl
      have n105 : ((c[p].toNat : Int) == (105 : Int)) = true := by rw [h105]; rfl
      clear h115 h97 h109 h33 h63 h65 h68 h59 h38 h124 h105
      go_enter Try.func133, Try.ntmps133
      go_wp2_with fail
      refine (spec_l5Skip c hc (p + 1) 1 (by omega) (by omega) _).mono ?_
      rintro e w' ⟨rfl, rfl⟩
      go_wp2_with fail
      refine (Ih.out (sk c (p + 1) 1) _ (Spot.sk Hsp.out)).mono ?_
      rintro e w' ⟨rfl, rfl⟩
      go_wp2_with fail
      refine (Ih.out (pe c (sk c (p + 1) 1)) _ (Spot.pe (Spot.sk Hsp.out))).mono ?_
      rintro e w' ⟨rfl, rfl⟩
      go_wp2_with fail
      go_ret
      exact ⟨by rw [Hs.out]; rfl, rfl⟩
    by_cases h119 : c[p] = 119
    · have Hs := Lib.hid (pe_step1 hlt (d := 1) ((congrArg shp h119).trans rfl))
      have n115 : ((c[p].toNat : Int) == (115 : Int)) = false := by rw [h119]; rfl
      have n97 : ((c[p].toNat : Int) == (97 : Int)) = false := by rw [h119]; rfl
      have n109 : ((c[p].toNat : Int) == (109 : Int)) = false := by rw [h119]; rfl
      have n33 : ((c[p].toNat : Int) == (33 : Int)) = false := by rw [h119]; rfl
      have n63 : ((c[p].toNat : Int) == (63 : Int)) = false := by rw [h119]; rfl
      have n65 : ((c[p].toNat : Int) == (65 : Int)) = false := by rw [h119]; rfl
      have n68 : ((c[p].toNat : Int) == (68 : Int)) = false := by rw [h119]; rfl
      have n59 : ((c[p].toNat : Int) == (59 : Int)) = false := by rw [h119]; rfl
      have n38 : ((c[p].toNat : Int) == (38 : Int)) = false := by rw [h119]; rfl
      have n124 : ((c[p].toNat : Int) == (124 : Int)) = false := by rw [h119]; rfl
      have n105 : ((c[p].toNat : Int) == (105 : Int)) = false := by rw [h119]; rfl
      have n119 : ((c[p].toNat : Int) == (119 : Int)) = true := by rw [h119]; rfl
      clear h115 h97 h109 h33 h63 h65 h68 h59 h38 h124 h105 h119
      go_enter Try.func133, Try.ntmps133
      go_wp2_with fail
      refine (spec_l5Skip c hc (p + 1) 1 (by omega) (by omega) _).mono ?_
      rintro e w' ⟨rfl, rfl⟩
      go_wp2_with fail
      refine (Ih.out (sk c (p + 1) 1) _ (Spot.sk Hsp.out)).mono ?_
      rintro e w' ⟨rfl, rfl⟩
      go_wp2_with fail
      go_ret
      exact ⟨by rw [Hs.out]; rfl, rfl⟩
    by_cases h42 : c[p] = 42
    · have Hs := Lib.hid (pe_step1 hlt (d := 0) ((congrArg shp h42).trans rfl))
      have n115 : ((c[p].toNat : Int) == (115 : Int)) = false := by rw [h42]; rfl
      have n97 : ((c[p].toNat : Int) == (97 : Int)) = false := by rw [h42]; rfl
      have n109 : ((c[p].toNat : Int) == (109 : Int)) = false := by rw [h42]; rfl
      have n33 : ((c[p].toNat : Int) == (33 : Int)) = false := by rw [h42]; rfl
      have n63 : ((c[p].toNat : Int) == (63 : Int)) = false := by rw [h42]; rfl
      have n65 : ((c[p].toNat : Int) == (65 : Int)) = false := by rw [h42]; rfl
      have n68 : ((c[p].toNat : Int) == (68 : Int)) = false := by rw [h42]; rfl
      have n59 : ((c[p].toNat : Int) == (59 : Int)) = false := by rw [h42]; rfl
      have n38 : ((c[p].toNat : Int) == (38 : Int)) = false := by rw [h42]; rfl
      have n124 : ((c[p].toNat : Int) == (124 : Int)) = false := by rw [h42]; rfl
      have n105 : ((c[p].toNat : Int) == (105 : Int)) = false := by rw [h42]; rfl
      have n119 : ((c[p].toNat : Int) == (119 : Int)) = false := by rw [h42]; rfl
      have n42 : ((c[p].toNat : Int) == (42 : Int)) = true := by rw [h42]; rfl
      clear h115 h97 h109 h33 h63 h65 h68 h59 h38 h124 h105 h119 h42
      go_enter Try.func133, Try.ntmps133
      go_wp2_with fail
      refine (Ih.out ((p + 1 : Nat) : Int) _ (.inr ⟨by omega, by omega, Hsp.out⟩)).mono ?_
      rintro e w' ⟨rfl, rfl⟩
      go_wp2_with fail
      go_ret
      exact ⟨by rw [Hs.out, sk_zero (by omega)]; try rfl, rfl⟩
    by_cases h43 : c[p] = 43
    · have Hs := Lib.hid (pe_step1 hlt (d := 0) ((congrArg shp h43).trans rfl))
      have n115 : ((c[p].toNat : Int) == (115 : Int)) = false := by rw [h43]; rfl
      have n97 : ((c[p].toNat : Int) == (97 : Int)) = false := by rw [h43]; rfl
      have n109 : ((c[p].toNat : Int) == (109 : Int)) = false := by rw [h43]; rfl
      have n33 : ((c[p].toNat : Int) == (33 : Int)) = false := by rw [h43]; rfl
      have n63 : ((c[p].toNat : Int) == (63 : Int)) = false := by rw [h43]; rfl
      have n65 : ((c[p].toNat : Int) == (65 : Int)) = false := by rw [h43]; rfl
      have n68 : ((c[p].toNat : Int) == (68 : Int)) = false := by rw [h43]; rfl
      have n59 : ((c[p].toNat : Int) == (59 : Int)) = false := by rw [h43]; rfl
      have n38 : ((c[p].toNat : Int) == (38 : Int)) = false := by rw [h43]; rfl
      have n124 : ((c[p].toNat : Int) == (124 : Int)) = false := by rw [h43]; rfl
      have n105 : ((c[p].toNat : Int) == (105 : Int)) = false := by rw [h43]; rfl
      have n119 : ((c[p].toNat : Int) == (119 : Int)) = false := by rw [h43]; rfl
      have n42 : ((c[p].toNat : Int) == (42 : Int)) = false := by rw [h43]; rfl
      have n43 : ((c[p].toNat : Int) == (43 : Int)) = true := by rw [h43]; rfl
      clear h115 h97 h109 h33 h63 h65 h68 h59 h38 h124 h105 h119 h42 h43
      go_enter Try.func133, Try.ntmps133
      go_wp2_with fail
      refine (Ih.out ((p + 1 : Nat) : Int) _ (.inr ⟨by omega, by omega, Hsp.out⟩)).mono ?_
      rintro e w' ⟨rfl, rfl⟩
      go_wp2_with fail
      go_ret
      exact ⟨by rw [Hs.out, sk_zero (by omega)]; try rfl, rfl⟩
    have Hs := Lib.hid (pe_none hlt (shp_no h115 h97 h109 h33 h63 h65 h68 h59 h38 h124 h105 h119 h42 h43))
    have n115 : ((c[p].toNat : Int) == (115 : Int)) = false := byte_no h115
    have n97 : ((c[p].toNat : Int) == (97 : Int)) = false := byte_no h97
    have n109 : ((c[p].toNat : Int) == (109 : Int)) = false := byte_no h109
    have n33 : ((c[p].toNat : Int) == (33 : Int)) = false := byte_no h33
    have n63 : ((c[p].toNat : Int) == (63 : Int)) = false := byte_no h63
    have n65 : ((c[p].toNat : Int) == (65 : Int)) = false := byte_no h65
    have n68 : ((c[p].toNat : Int) == (68 : Int)) = false := byte_no h68
    have n59 : ((c[p].toNat : Int) == (59 : Int)) = false := byte_no h59
    have n38 : ((c[p].toNat : Int) == (38 : Int)) = false := byte_no h38
    have n124 : ((c[p].toNat : Int) == (124 : Int)) = false := byte_no h124
    have n105 : ((c[p].toNat : Int) == (105 : Int)) = false := byte_no h105
    have n119 : ((c[p].toNat : Int) == (119 : Int)) = false := byte_no h119
    have n42 : ((c[p].toNat : Int) == (42 : Int)) = false := byte_no h42
    have n43 : ((c[p].toNat : Int) == (43 : Int)) = false := byte_no h43
    clear h115 h97 h109 h33 h63 h65 h68 h59 h38 h124 h105 h119 h42 h43
    go_enter Try.func133, Try.ntmps133
    go_wp2_with fail
    go_ret
    exact ⟨by rw [Hs.out]; rfl, rfl⟩
theorem spec_ContractValid (c : ByteArray) (w : World) (hm : c.size ≤ maxLen) :
    Calls Try.prog 81 #[.string c] w fun e w' => e = .returned (.bool (cto c).isSome) ∧ w = w' := by
  unfold maxLen at hm
  have hv := pe_valid c
  by_cases hc : c.size ≤ 200
  case neg =>
    have hd : decide ((c.size : Int) ≤ 200) = false := by simp; omega
    rw [← hv, decide_eq_false hc]
    clear hv
    go_enter Try.func81, Try.ntmps81
    go_wp2_with fail
    go_ret
    exact ⟨rfl, rfl⟩
  case pos =>
    have hd : decide ((c.size : Int) ≤ 200) = true := by simp; omega
    have he := spec_l5End c hc (c.size + 1) 0 w (.inr ⟨by omega, by omega, by omega⟩)
    rw [decide_eq_true hc, Bool.true_and] at hv
    rw [← hv]
    generalize pe c 0 = v at *
    have He := Lib.hid he
    clear hv he
    go_enter Try.func81, Try.ntmps81
    go_wp2_with fail
    refine He.out.mono ?_
    rintro e w' ⟨rfl, rfl⟩
    go_wp2_with fail
    go_ret
    exact ⟨rfl, rfl⟩
end Go.Proofs.Ytfajaikkagmkeaa
