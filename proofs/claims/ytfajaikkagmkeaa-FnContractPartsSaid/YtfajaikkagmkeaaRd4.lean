/-
  Contracts of the draws of relations.
-/
import Derived.Test.YtfajaikkagmkeaaRd3
import Derived.Test.YtfajaikkagmkeaaB1
import Derived.Test.YtfajaikkagmkeaaG1
namespace Go.Proofs.Ytfajaikkagmkeaa
open Go.RowKit Go.DC
set_option maxHeartbeats 1000000
set_option linter.unusedVariables false
set_option linter.unusedSimpArgs false

/-- A text that is so was drawn, by at most q draws. -/
def DrewT (b p q : Nat) (P : ByteArray → Prop) (w : World) (e : Ending) (w' : World) : Prop := ∃ (s : ByteArray) (p' : Nat), P s ∧ p' ≤ p + q ∧ e = .returned (.string s) ∧ Rd w' b p' ∧ Els b w w'
/-- A text of n digits. -/
def IsDg (n : Nat) (s : ByteArray) : Prop := ∃ f, Dg n f ∧ s = txt n f
theorem IsDg.size {n : Nat} {s : ByteArray} (h : IsDg n s) : s.size = n := by obtain ⟨f, _, rfl⟩ := h; exact txt_size _ _
theorem IsDg.dg {n : Nat} {s : ByteArray} (h : IsDg n s) : Dg n (dg s) := by obtain ⟨f, hf, rfl⟩ := h; exact dg_txt_Dg hf
theorem IsDg.dv {n : Nat} {s : ByteArray} (h : IsDg n s) : dvB n s = true := by obtain ⟨f, hf, rfl⟩ := h; exact dvB_txt hf
theorem IsDg.of {n : Nat} {s : ByteArray} (h : dvB n s = true) : IsDg n s := ⟨DC.dg s, dvB_Dg h, (txt_dg h).symm⟩
theorem txt_upd (n : Nat) (f : Nat → Int) (v : Int) : txt n (upd f n v) = txt n f := txt_congr fun i hi => by unfold upd; rw [if_neg (by omega)]
theorem Dg_upd {n : Nat} {f : Nat → Int} (h : Dg n f) {v : Int} (h0 : 0 ≤ v) (h1 : v ≤ 15) : Dg (n + 1) (upd f n v) := fun i hi => by
  unfold upd
  split
  · exact ⟨h0, h1⟩
  · exact h i (by omega)
theorem drew_add (n : Nat) (f : Nat → Int) (v : Int) (hn : n < 100) (w : World) {P : Program} : (Op.stringOp .add (txt n f) (dgt v)).run P w = .ok (.string (txt (n + 1) (upd f n v))) w := by
  rw [run_string_add_sum w _ _ (by rw [txt_size]; show n + 1 ≤ _; omega)]
  have := txt_succ n (upd f n v)
  rw [txt_upd, show upd f n v n = v from upd_same f n v] at this
  exact congrArg (fun x => Result.ok (Value.string x) w) this
theorem and_small {a b : Int} (h0 : 0 ≤ a) (h1 : a ≤ 15) (h2 : 0 ≤ b) (h3 : b ≤ 15) : 0 ≤ bits BinOp.and IntKind.i64 a b ∧ bits BinOp.and IntKind.i64 a b ≤ 15 := band_rng h0 h1 h2 h3
theorem pow_small {v : Int} (h0 : 0 ≤ v) (h1 : v < 4) : 0 ≤ wrap64 (2 ^ v.toNat) ∧ wrap64 (2 ^ v.toNat) ≤ 15 := by
  rw [wrap_pow _ (by omega)]
  have : ∀ n : Fin 4, (0 : Int) ≤ 2 ^ n.val ∧ (2 : Int) ^ n.val ≤ 15 := by decide
  exact this ⟨v.toNat, by omega⟩
theorem spec_l2Some (b p : Nat) (w : World) (hr : Rd w b p) (hp : p ≤ 999000) :
    Calls Try.prog 143 #[.pointer (some ⟨b, 0, none⟩)] w (DrewT b p 9 (IsDg 4) w) := by
  go_enter Try.func143, Try.ntmps143
  go_wp2_with fail
  refine (spec_pick b p 4 _ hr (by omega) (by omega) (by omega)).mono ?_
  rintro e w1 ⟨kind, hk0, hk1, rfl, hR, hE⟩
  have HR := Lib.hid hR
  have HE := Lib.hid hE
  clear hR hE hr
  have h1 : (kind == 0) = true ∨ ((kind == 0) = false ∧ (kind == 1) = true) ∨ ((kind == 0) = false ∧ (kind == 1) = false) := by
    by_cases h : kind = 0
    · exact .inl (by simpa using h)
    · by_cases h2 : kind = 1
      · exact .inr (.inl ⟨by simpa using h, by simpa using h2⟩)
      · exact .inr (.inr ⟨by simpa using h, by simpa using h2⟩)
  have Hk := Lib.hid h1
  clear h1
  go_wp2_with fail
  go_loopg [3, 5] 4 (fun gk o i wr => ∃ (n : Nat) (f : Nat → Int) (q : Nat), n ≤ 4 ∧ gk = 4 - n ∧ i = .int .i64 n ∧ o = .string (txt n f) ∧ Dg n f ∧ q ≤ p + 1 + 2 * n ∧ Rd wr b q ∧ Els b w wr)
  case atStart => exact ⟨0, fun _ => 0, p + 1, by omega, rfl, rfl, rfl, Dg_zero 0, by omega, HR.out, HE.out⟩
  case round =>
    clear HR HE
    obtain ⟨n, f, q, hn, rfl, rfl, rfl, hf, hq, hr, he⟩ := hrel
    have Hf := Lib.hid hf
    have HR := Lib.hid hr
    have HE := Lib.hid he
    clear hf hr he
    by_cases hlt : n < 4
    case neg =>
      obtain rfl : n = 4 := by omega
      go_wp2_with fail
      exact bodyPost_ret (results_tmp rfl _ _ _) rfl ⟨_, q, ⟨f, Hf.out, rfl⟩, by omega, rfl, HR.out, HE.out⟩
    case pos =>
      have hdn : decide ((n : Int) < 4) = true := decide_eq_true (by omega)
      go_wp2_with fail
      refine (spec_pick b q 16 _ HR.out (by omega) (by omega) (by omega)).mono ?_
      rintro e w2 ⟨v, hv0, hv1, rfl, hR2, hE2⟩
      have HR2 := Lib.hid hR2
      have HE2 := Lib.hid (HE.out.trans hE2)
      clear hR2 hE2
      rcases Hk.out with hk | ⟨hk, hk'⟩ | ⟨hk, hk'⟩
      · go_wp2_with fail
        refine (spec_pick b (q + 1) 4 _ HR2.out (by omega) (by omega) (by omega)).mono ?_
        rintro e w3 ⟨u, hu0, hu1, rfl, hR3, hE3⟩
        obtain ⟨u, rfl⟩ := Int.eq_ofNat_of_zero_le hu0
        have HR3 := Lib.hid hR3
        have HE3 := Lib.hid (HE2.out.trans hE3)
        have hs := pow_small (v := (u : Int)) hu0 hu1
        rw [Int.toNat_natCast] at hs
        have Hadd := Lib.hid (fun w => drew_add (P := Try.prog) n f (wrap64 (2 ^ u)) (by omega) w)
        have HD := Lib.hid (Dg_upd Hf.out hs.1 hs.2)
        obtain ⟨hs0, hs1⟩ := hs
        clear hR3 hE3
        go_wp2_with fail
        generalize wrap64 (2 ^ u) = V at *
        refine (spec_l2Digit V _ hs0 hs1).mono ?_
        rintro e w' ⟨rfl, rfl⟩
        have hadd := Hadd.out
        go_wp2_with fail
        go_roundg (4 - (n + 1))
        case rel => exact ⟨n + 1, _, q + 1 + 1, by omega, rfl, by go_num, rfl, HD.out, by omega, HR3.out, HE3.out⟩
        case measure => omega
      · go_wp2_with fail
        refine (spec_pick b (q + 1) 16 _ HR2.out (by omega) (by omega) (by omega)).mono ?_
        rintro e w3 ⟨u, hu0, hu1, rfl, hR3, hE3⟩
        have HR3 := Lib.hid hR3
        have HE3 := Lib.hid (HE2.out.trans hE3)
        have hs := and_small hv0 (show v ≤ 15 by omega) hu0 (show u ≤ 15 by omega)
        have Hadd := Lib.hid (fun w => drew_add (P := Try.prog) n f (bits BinOp.and IntKind.i64 v u) (by omega) w)
        have HD := Lib.hid (Dg_upd Hf.out hs.1 hs.2)
        obtain ⟨hs0, hs1⟩ := hs
        clear hR3 hE3
        go_wp2_with fail
        generalize bits BinOp.and IntKind.i64 v u = V at *
        refine (spec_l2Digit V _ hs0 hs1).mono ?_
        rintro e w' ⟨rfl, rfl⟩
        have hadd := Hadd.out
        go_wp2_with fail
        go_roundg (4 - (n + 1))
        case rel => exact ⟨n + 1, _, q + 1 + 1, by omega, rfl, by go_num, rfl, HD.out, by omega, HR3.out, HE3.out⟩
        case measure => omega
      · have hs1 : v ≤ 15 := by omega
        have Hadd := Lib.hid (fun w => drew_add (P := Try.prog) n f v (by omega) w)
        have HD := Lib.hid (Dg_upd Hf.out hv0 hs1)
        go_wp2_with fail
        refine (spec_l2Digit v _ hv0 hs1).mono ?_
        rintro e w' ⟨rfl, rfl⟩
        have hadd := Hadd.out
        go_wp2_with fail
        go_roundg (4 - (n + 1))
        case rel => exact ⟨n + 1, _, q + 1, by omega, rfl, by go_num, rfl, HD.out, by omega, HR2.out, HE2.out⟩
        case measure => omega
end Go.Proofs.Ytfajaikkagmkeaa
