/-
  Contracts of the reference's functions that count statements.
-/
import Derived.Test.YtfajaikkagmkeaaD2
namespace Go.Proofs.Ytfajaikkagmkeaa
open Go.RowKit Go.DC
set_option maxHeartbeats 1000000
set_option linter.unusedVariables false
set_option linter.unusedSimpArgs false

theorem spec_SizeOfContract (c : ByteArray) (w : World) (hm : c.size ≤ maxLen) :
    Calls Try.prog 55 #[.string c] w fun e w' => e = .returned (.int .i64 (ctv c (-1) (cnt anyOps))) ∧ Below w.heap.size w w' := by
  have hv := fun w => spec_ContractValid c w hm
  cases hc : cto c with
  | none =>
    rw [hc] at hv
    have Hv := Lib.hid hv
    have Hn := Lib.hid hc
    clear hv hc
    go_enter Try.func55, Try.ntmps55
    go_wp2_with fail
    refine (Hv.out _).mono ?_
    rintro e w' ⟨rfl, rfl⟩
    go_wp2_with fail
    go_ret
    exact ⟨by rw [ctv_none _ _ Hn.out]; rfl, Below.refl _ _⟩
  | some t =>
    rw [hc] at hv
    have Hv := Lib.hid hv
    have Hn := Lib.hid hc
    have Ht := Lib.hid (cto_some.1 hc)
    have hl2 := Nat.le_trans (lets_len t) (cto_some.1 hc).2.2
    have Hw := Lib.hid (cto_some.1 hc).2
    obtain rfl := (cto_some.1 hc).1
    clear hv hc hm
    go_enter Try.func55, Try.ntmps55
    go_wp2_with fail
    refine (Hv.out _).mono ?_
    rintro e w' ⟨rfl, rfl⟩
    go_wp2_with fail
    refine (spec_l5Letters 200 (Nat.le_refl _) t _ Hw.out.1 Hw.out.2).mono ?_
    rintro e w3 ⟨rfl, hb3⟩
    have Hb3 := Lib.hid hb3
    clear hb3
    have hlen3 := bts_size (lets t)
    go_wp2_with fail
    go_ret
    exact ⟨by rw [ctv_some _ _ Hn.out]; first | rfl | (rw [cnt_any Hw.out.1]; rfl), Hb3.out⟩
theorem spec_HasLoops (c : ByteArray) (w : World) (hm : c.size ≤ maxLen) :
    Calls Try.prog 95 #[.string c] w fun e w' => e = .returned (.bool (ctv c false fun t => decide (0 < cnt [119, 42, 43] t))) ∧ Below w.heap.size w w' := by
  have hv := fun w => spec_ContractValid c w hm
  cases hc : cto c with
  | none =>
    rw [hc] at hv
    have Hv := Lib.hid hv
    have Hn := Lib.hid hc
    clear hv hc
    go_enter Try.func95, Try.ntmps95
    go_wp2_with fail
    refine (Hv.out _).mono ?_
    rintro e w' ⟨rfl, rfl⟩
    go_wp2_with fail
    go_ret
    exact ⟨by rw [ctv_none _ _ Hn.out]; rfl, Below.refl _ _⟩
  | some t =>
    rw [hc] at hv
    have Hv := Lib.hid hv
    have Hn := Lib.hid hc
    have Ht := Lib.hid (cto_some.1 hc)
    have hl2 := Nat.le_trans (lets_len t) (cto_some.1 hc).2.2
    have Hw := Lib.hid (cto_some.1 hc).2
    obtain rfl := (cto_some.1 hc).1
    clear hv hc hm
    go_enter Try.func95, Try.ntmps95
    go_wp2_with fail
    refine (Hv.out _).mono ?_
    rintro e w' ⟨rfl, rfl⟩
    go_wp2_with fail
    refine (spec_l5Letters 200 (Nat.le_refl _) t _ Hw.out.1 Hw.out.2).mono ?_
    rintro e w3 ⟨rfl, hb3⟩
    have Hb3 := Lib.hid hb3
    clear hb3
    go_wp2_with fail
    refine (spec_l5Any (bts (lets t)) ⟨#[119, 42, 43]⟩ _ (by rw [bts_size]; unfold maxLen; omega) (by decide)).mono ?_
    rintro e w' ⟨rfl, rfl⟩
    rw [bts_list, any_cnt]
    go_wp2_with fail
    go_ret
    exact ⟨by rw [ctv_some _ _ Hn.out]; first | rfl | (rw [cnt_any Hw.out.1]; rfl), Hb3.out⟩
theorem spec_ChoosesIn (c : ByteArray) (w : World) (hm : c.size ≤ maxLen) :
    Calls Try.prog 44 #[.string c] w fun e w' => e = .returned (.tuple #[.bool (ctv c false fun t => decide (0 < cnt [65, 124, 43] t)), .bool (ctv c false fun t => decide (0 < cnt [68, 38, 42] t))]) ∧ Below w.heap.size w w' := by
  have hv := fun w => spec_ContractValid c w hm
  cases hc : cto c with
  | none =>
    rw [hc] at hv
    have Hv := Lib.hid hv
    have Hn := Lib.hid hc
    clear hv hc
    go_enter Try.func44, Try.ntmps44
    go_wp2_with fail
    refine (Hv.out _).mono ?_
    rintro e w' ⟨rfl, rfl⟩
    go_wp2_with fail
    go_ret2
    exact ⟨by rw [ctv_none _ _ Hn.out]; rw [ctv_none _ _ Hn.out]; rfl, Below.refl _ _⟩
  | some t =>
    rw [hc] at hv
    have Hv := Lib.hid hv
    have Hn := Lib.hid hc
    have Ht := Lib.hid (cto_some.1 hc)
    have hl2 := Nat.le_trans (lets_len t) (cto_some.1 hc).2.2
    have Hw := Lib.hid (cto_some.1 hc).2
    obtain rfl := (cto_some.1 hc).1
    clear hv hc hm
    go_enter Try.func44, Try.ntmps44
    go_wp2_with fail
    refine (Hv.out _).mono ?_
    rintro e w' ⟨rfl, rfl⟩
    go_wp2_with fail
    refine (spec_l5Letters 200 (Nat.le_refl _) t _ Hw.out.1 Hw.out.2).mono ?_
    rintro e w3 ⟨rfl, hb3⟩
    have Hb3 := Lib.hid hb3
    clear hb3
    go_wp2_with fail
    refine (spec_l5Any (bts (lets t)) ⟨#[65, 124, 43]⟩ _ (by rw [bts_size]; unfold maxLen; omega) (by decide)).mono ?_
    rintro e w' ⟨rfl, rfl⟩
    rw [bts_list, any_cnt]
    go_wp2_with fail
    refine (spec_l5Letters 200 (Nat.le_refl _) t _ Hw.out.1 Hw.out.2).mono ?_
    rintro e w4 ⟨rfl, hb4⟩
    have Hb4 := Lib.hid (bgo Hb3.out hb4)
    clear hb4
    go_wp2_with fail
    refine (spec_l5Any (bts (lets t)) ⟨#[68, 38, 42]⟩ _ (by rw [bts_size]; unfold maxLen; omega) (by decide)).mono ?_
    rintro e w' ⟨rfl, rfl⟩
    rw [bts_list, any_cnt]
    go_wp2_with fail
    go_ret2
    exact ⟨by rw [ctv_some _ _ Hn.out]; rw [ctv_some _ _ Hn.out]; first | rfl | (rw [cnt_any Hw.out.1]; rfl), Hb4.out⟩
end Go.Proofs.Ytfajaikkagmkeaa
