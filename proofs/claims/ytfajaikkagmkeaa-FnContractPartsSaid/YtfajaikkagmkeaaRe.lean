/-
  Contracts of the draws of contracts.
-/
import Derived.Test.YtfajaikkagmkeaaRd7
import Derived.Test.YtfajaikkagmkeaaRd5
namespace Go.Proofs.Ytfajaikkagmkeaa
open Go.RowKit Go.DC
set_option maxHeartbeats 2000000
set_option linter.unusedVariables false
set_option linter.unusedSimpArgs false
/-- A text of a list, by one draw. -/
theorem spec_ofx (b p c n : Nat) (f : Nat → ByteArray) (w : World) (hr : Rd w b p) (hp : p ≤ 1000000) (hn : 1 ≤ n) (hn2 : n ≤ 1000000) (hl : Texts w c n f) (hc : c ≠ b) :
    Calls Try.prog 141 #[.pointer (some ⟨b, 0, none⟩), .slice (some ⟨c, 0, none⟩) n n] w (DrewT b p 1 (fun s => ∃ i, i < n ∧ s = f i) w) := by
  have Hl := Lib.hid hl
  have Hc := Lib.hid hc
  clear hl hc
  go_enter Try.func141, Try.ntmps141
  go_wp2_with fail
  refine (spec_pick b p n _ hr hp (by omega) (by omega)).mono ?_
  rintro e w' ⟨v, h0, h1, rfl, hR, hE⟩
  have HR := Lib.hid hR
  have HE := Lib.hid hE
  have hcell := (Hl.out.els hE Hc.out).2 v.toNat (by omega)
  clear hR hE hr
  go_wp2_with fail
  exact bodyPost_ret (results_tmp rfl _ _ _) rfl ⟨_, p + 1, ⟨v.toNat, by omega, rfl⟩, by omega, rfl, HR.out, HE.out⟩
/-- How long a drawn contract is, and how many draws it takes. -/
def md : Nat → Nat
  | 0 => 5
  | d + 1 => 2 * md d + 2
def qd : Nat → Nat
  | 0 => 12
  | d + 1 => 2 * qd d + 3
theorem md3 : ∀ d, d ≤ 3 → 5 ≤ md d ∧ md d ≤ 54 ∧ 12 ≤ qd d ∧ qd d ≤ 117 := by decide
/-- A contract's text. -/
def IsC (m : Nat) (s : ByteArray) : Prop := 1 ≤ s.size ∧ s.size ≤ m
theorem IsC.add {m k j : Nat} {s t : ByteArray} (hs : s.size = j) (ht : IsC m t) (h : j + m ≤ k) : IsC k (s ++ t) := by
  unfold IsC at *; rw [ByteArray.size_append]; omega
theorem cat2 {P : Program} (x y : ByteArray) (h : x.size + y.size ≤ 1000) (w : World) : (Op.stringOp .add x y).run P w = .ok (.string (x ++ y)) w := run_string_add_sum w x y (by omega)
theorem one_size (b : UInt8) : (ByteArray.mk #[b]).size = 1 := rfl
theorem dgt_size (n : Int) : (dgt n).size = 1 := rfl
/-- The letters of a text alone. -/
def lone : List ByteArray := [⟨#[115]⟩, ⟨#[97]⟩, ⟨#[109]⟩, ⟨#[115]⟩]
def stars : List ByteArray := [⟨#[42]⟩, ⟨#[43]⟩]
theorem lone_size : ∀ i, i < 4 → (tx lone i).size = 1 := by decide
theorem stars_size : ∀ i, i < 2 → (tx stars i).size = 1 := by decide
theorem kind6 {k : Int} (h0 : 0 ≤ k) : k = 0 ∨ k = 1 ∨ k = 2 ∨ k = 3 ∨ k = 4 ∨ (¬ k = 0 ∧ ¬ k = 1 ∧ ¬ k = 2 ∧ ¬ k = 3 ∧ ¬ k = 4) := by omega
set_option maxRecDepth 100000 in
theorem spec_l5Draw : ∀ (d : Nat), d ≤ 3 → ∀ (loops : Bool) (D : Int) (b p : Nat) (w : World), D = d → Rd w b p → p + 2 * qd d ≤ 900000 →
    Calls Try.prog 94 #[.pointer (some ⟨b, 0, none⟩), .int .i64 D, .bool loops] w (DrewT b p (qd d) (IsC (md d)) w) := by
  intro d
  induction d with
  | zero =>
    intro _ loops D b p w hD hr hp
    have hq := md3 0 (by decide)
    have hd0 : decide (D ≤ 0) = true := decide_eq_true (by omega)
    have hp' : p ≤ 900000 := by omega
    clear hD hp
    have HR := Lib.hid hr
    clear hr
    go_enter Try.func94, Try.ntmps94
    go_wp2_with fail
    refine (spec_pick b p 16 _ HR.out (by omega) (by omega) (by omega)).mono ?_
    rintro e w1 ⟨k, hk0, hk1, rfl, hR, hE⟩
    have HR1 := Lib.hid hR
    have HE1 := Lib.hid hE
    clear hR hE HR
    go_wp2_with fail
    refine (spec_pick b (p + 1) 16 _ HR1.out (by omega) (by omega) (by omega)).mono ?_
    rintro e w2 ⟨v, hv0, hv1, rfl, hR, hE⟩
    have HR2 := Lib.hid hR
    have HE2 := Lib.hid (HE1.out.trans hE)
    clear hR hE HR1 HE1
    have hv15 : v ≤ 15 := by omega
    go_wp2_with fail
    refine (spec_l2Digit v _ hv0 hv15).mono ?_
    rintro e w' ⟨rfl, rfl⟩
    have Hdz := Lib.hid (dgt_size v)
    generalize dgt v = dv at *
    clear hv0 hv1 hv15
    go_wp2_with fail
    refine (spec_pick b (p + 1 + 1) 8 _ HR2.out (by omega) (by omega) (by omega)).mono ?_
    rintro e w3 ⟨kd, hkd0, hkd1, rfl, hR, hE⟩
    have HR3 := Lib.hid hR
    have HE3 := Lib.hid (HE2.out.trans hE)
    clear hR hE HR2 HE2
    have HQ := Lib.hid hq
    rcases kind6 hkd0 with rfl | rfl | rfl | rfl | rfl | ⟨n0, n1, n2, n3, n4⟩
    · have Ht := Lib.hid (Texts.new w3 9 lone)
      have Hb := Lib.hid HR3.out.lt
      have HR4 := Lib.hid (HR3.out.below (ba1 w3 (.cells (lone.map Value.string).toArray 9)))
      have HE4 := Lib.hid (HE3.out.alloc (.cells (lone.map Value.string).toArray 9))
      clear HR3 HE3
      go_wp2_with fail
      refine (spec_ofx b (p + 1 + 1 + 1) w3.heap.size 4 (tx lone) _ HR4.out (by omega) (by omega) (by omega) Ht.out (by have := Hb.out; omega)).mono ?_
      rintro e w4 ⟨s, q, ⟨i, hi, rfl⟩, hq4, rfl, hR, hE⟩
      have HR5 := Lib.hid hR
      have HE5 := Lib.hid (HE4.out.trans hE)
      have Hs := Lib.hid (lone_size i hi)
      clear hR hE
      generalize tx lone i = s at *
      go_wp2_with fail
      exact bodyPost_ret (results_tmp rfl _ _ _) rfl ⟨_, q, ⟨Nat.le_of_eq Hs.out.symm, by have := Hs.out; have := HQ.out; omega⟩, by have := HQ.out; omega, rfl, HR5.out, HE5.out⟩
    · have ha := fun w => cat2 (P := Try.prog) ⟨#[33]⟩ dv (by have := Hdz.out; rw [one_size]; omega) w
      have Hs := Lib.hid (IsC.add (one_size 33) (⟨Nat.le_of_eq Hdz.out.symm, Nat.le_of_eq Hdz.out⟩ : IsC 1 dv) (show 1 + 1 ≤ md (0) by have := HQ.out; omega))
      go_wp2_with fail
      exact bodyPost_ret (results_tmp rfl _ _ _) rfl ⟨_, p + 1 + 1 + 1, Hs.out, by have := HQ.out; omega, rfl, HR3.out, HE3.out⟩
    · have ha := fun w => cat2 (P := Try.prog) ⟨#[63]⟩ dv (by have := Hdz.out; rw [one_size]; omega) w
      have Hs := Lib.hid (IsC.add (one_size 63) (⟨Nat.le_of_eq Hdz.out.symm, Nat.le_of_eq Hdz.out⟩ : IsC 1 dv) (show 1 + 1 ≤ md (0) by have := HQ.out; omega))
      go_wp2_with fail
      exact bodyPost_ret (results_tmp rfl _ _ _) rfl ⟨_, p + 1 + 1 + 1, Hs.out, by have := HQ.out; omega, rfl, HR3.out, HE3.out⟩
    · skip
      go_wp2_with fail
      refine (spec_l2Some b (p + 1 + 1 + 1) _ HR3.out (by omega)).mono ?_
      rintro e w4 ⟨s, q, hs, hq4, rfl, hR, hE⟩
      have HR5 := Lib.hid hR
      have HE5 := Lib.hid (HE3.out.trans hE)
      have hsz := hs.size
      have ha := fun w => cat2 (P := Try.prog) ⟨#[65]⟩ s (by rw [one_size]; omega) w
      have Hs := Lib.hid (IsC.add (one_size 65) (⟨by omega, Nat.le_of_eq hsz⟩ : IsC 4 s) (show 1 + 4 ≤ md (0) by have := HQ.out; omega))
      clear hR hE hs hsz
      go_wp2_with fail
      exact bodyPost_ret (results_tmp rfl _ _ _) rfl ⟨_, q, Hs.out, by have := HQ.out; omega, rfl, HR5.out, HE5.out⟩
    · skip
      go_wp2_with fail
      refine (spec_l2Some b (p + 1 + 1 + 1) _ HR3.out (by omega)).mono ?_
      rintro e w4 ⟨s, q, hs, hq4, rfl, hR, hE⟩
      have HR5 := Lib.hid hR
      have HE5 := Lib.hid (HE3.out.trans hE)
      have hsz := hs.size
      have ha := fun w => cat2 (P := Try.prog) ⟨#[65]⟩ s (by rw [one_size]; omega) w
      have Hs := Lib.hid (IsC.add (one_size 65) (⟨by omega, Nat.le_of_eq hsz⟩ : IsC 4 s) (show 1 + 4 ≤ md (0) by have := HQ.out; omega))
      clear hR hE hs hsz
      go_wp2_with fail
      exact bodyPost_ret (results_tmp rfl _ _ _) rfl ⟨_, q, Hs.out, by have := HQ.out; omega, rfl, HR5.out, HE5.out⟩
    · have e0 : (kd == 0) = false := beq_eq_false_iff_ne.2 n0
      have e1 : (kd == 1) = false := beq_eq_false_iff_ne.2 n1
      have e2 : (kd == 2) = false := beq_eq_false_iff_ne.2 n2
      have e3 : (kd == 3) = false := beq_eq_false_iff_ne.2 n3
      have e4 : (kd == 4) = false := beq_eq_false_iff_ne.2 n4
      clear n0 n1 n2 n3 n4
      go_wp2_with fail
      refine (spec_l2Some b (p + 1 + 1 + 1) _ HR3.out (by omega)).mono ?_
      rintro e w4 ⟨s, q, hs, hq4, rfl, hR, hE⟩
      have HR5 := Lib.hid hR
      have HE5 := Lib.hid (HE3.out.trans hE)
      have hsz := hs.size
      have ha := fun w => cat2 (P := Try.prog) ⟨#[68]⟩ s (by rw [one_size]; omega) w
      have Hs := Lib.hid (IsC.add (one_size 68) (⟨by omega, Nat.le_of_eq hsz⟩ : IsC 4 s) (show 1 + 4 ≤ md (0) by have := HQ.out; omega))
      clear hR hE hs hsz
      go_wp2_with fail
      exact bodyPost_ret (results_tmp rfl _ _ _) rfl ⟨_, q, Hs.out, by have := HQ.out; omega, rfl, HR5.out, HE5.out⟩
  | succ d ih =>
    intro hd3 loops D b p w hD hr hp
    have hq := md3 (d + 1) hd3
    have hq' := md3 d (by omega)
    have hqe : qd (d + 1) = 2 * qd d + 3 := rfl
    have hpp : p + 4 * qd d + 6 ≤ 900000 := by omega
    have hp' : p ≤ 900000 := by omega
    clear hp
    have hme : md (d + 1) = 2 * md d + 2 := rfl
    have Ih := Lib.hid (ih (by omega))
    clear ih
    have hd0 : decide (D ≤ 0) = false := decide_eq_false (by omega)
    have hDl : 1 ≤ D := by omega
    have hDh : D ≤ 3 := by omega
    have HD1 := Lib.hid (show D - 1 = (d : Int) by omega)
    clear hD
    have HR := Lib.hid hr
    clear hr
    go_enter Try.func94, Try.ntmps94
    go_wp2_with fail
    refine (spec_pick b p 16 _ HR.out (by omega) (by omega) (by omega)).mono ?_
    rintro e w1 ⟨k, hk0, hk1, rfl, hR, hE⟩
    have HR1 := Lib.hid hR
    have HE1 := Lib.hid hE
    clear hR hE HR
    go_wp2_with fail
    refine (spec_pick b (p + 1) 16 _ HR1.out (by omega) (by omega) (by omega)).mono ?_
    rintro e w2 ⟨v, hv0, hv1, rfl, hR, hE⟩
    have HR2 := Lib.hid hR
    have HE2 := Lib.hid (HE1.out.trans hE)
    clear hR hE HR1 HE1
    have hv15 : v ≤ 15 := by omega
    go_wp2_with fail
    refine (spec_l2Digit v _ hv0 hv15).mono ?_
    rintro e w' ⟨rfl, rfl⟩
    have Hdz := Lib.hid (dgt_size v)
    generalize dgt v = dv at *
    clear hv0 hv1 hv15
    by_cases hk3 : k < 3
    case pos =>
      have hk : decide (k < 3) = true := decide_eq_true hk3
      go_wp2_with fail
      refine (spec_pick b (p + 1 + 1) 8 _ HR2.out (by omega) (by omega) (by omega)).mono ?_
      rintro e w3 ⟨kd, hkd0, hkd1, rfl, hR, hE⟩
      have HR3 := Lib.hid hR
      have HE3 := Lib.hid (HE2.out.trans hE)
      clear hR hE HR2 HE2
      have HQ := Lib.hid hq
      rcases kind6 hkd0 with rfl | rfl | rfl | rfl | rfl | ⟨n0, n1, n2, n3, n4⟩
      · have Ht := Lib.hid (Texts.new w3 9 lone)
        have Hb := Lib.hid HR3.out.lt
        have HR4 := Lib.hid (HR3.out.below (ba1 w3 (.cells (lone.map Value.string).toArray 9)))
        have HE4 := Lib.hid (HE3.out.alloc (.cells (lone.map Value.string).toArray 9))
        clear HR3 HE3
        go_wp2_with fail
        refine (spec_ofx b (p + 1 + 1 + 1) w3.heap.size 4 (tx lone) _ HR4.out (by omega) (by omega) (by omega) Ht.out (by have := Hb.out; omega)).mono ?_
        rintro e w4 ⟨s, q, ⟨i, hi, rfl⟩, hq4, rfl, hR, hE⟩
        have HR5 := Lib.hid hR
        have HE5 := Lib.hid (HE4.out.trans hE)
        have Hs := Lib.hid (lone_size i hi)
        clear hR hE
        generalize tx lone i = s at *
        go_wp2_with fail
        exact bodyPost_ret (results_tmp rfl _ _ _) rfl ⟨_, q, ⟨Nat.le_of_eq Hs.out.symm, by have := Hs.out; have := HQ.out; omega⟩, by have := HQ.out; omega, rfl, HR5.out, HE5.out⟩
      · have ha := fun w => cat2 (P := Try.prog) ⟨#[33]⟩ dv (by have := Hdz.out; rw [one_size]; omega) w
        have Hs := Lib.hid (IsC.add (one_size 33) (⟨Nat.le_of_eq Hdz.out.symm, Nat.le_of_eq Hdz.out⟩ : IsC 1 dv) (show 1 + 1 ≤ md (d + 1) by have := HQ.out; omega))
        go_wp2_with fail
        exact bodyPost_ret (results_tmp rfl _ _ _) rfl ⟨_, p + 1 + 1 + 1, Hs.out, by have := HQ.out; omega, rfl, HR3.out, HE3.out⟩
      · have ha := fun w => cat2 (P := Try.prog) ⟨#[63]⟩ dv (by have := Hdz.out; rw [one_size]; omega) w
        have Hs := Lib.hid (IsC.add (one_size 63) (⟨Nat.le_of_eq Hdz.out.symm, Nat.le_of_eq Hdz.out⟩ : IsC 1 dv) (show 1 + 1 ≤ md (d + 1) by have := HQ.out; omega))
        go_wp2_with fail
        exact bodyPost_ret (results_tmp rfl _ _ _) rfl ⟨_, p + 1 + 1 + 1, Hs.out, by have := HQ.out; omega, rfl, HR3.out, HE3.out⟩
      · skip
        go_wp2_with fail
        refine (spec_l2Some b (p + 1 + 1 + 1) _ HR3.out (by omega)).mono ?_
        rintro e w4 ⟨s, q, hs, hq4, rfl, hR, hE⟩
        have HR5 := Lib.hid hR
        have HE5 := Lib.hid (HE3.out.trans hE)
        have hsz := hs.size
        have ha := fun w => cat2 (P := Try.prog) ⟨#[65]⟩ s (by rw [one_size]; omega) w
        have Hs := Lib.hid (IsC.add (one_size 65) (⟨by omega, Nat.le_of_eq hsz⟩ : IsC 4 s) (show 1 + 4 ≤ md (d + 1) by have := HQ.out; omega))
        clear hR hE hs hsz
        go_wp2_with fail
        exact bodyPost_ret (results_tmp rfl _ _ _) rfl ⟨_, q, Hs.out, by have := HQ.out; omega, rfl, HR5.out, HE5.out⟩
      · skip
        go_wp2_with fail
        refine (spec_l2Some b (p + 1 + 1 + 1) _ HR3.out (by omega)).mono ?_
        rintro e w4 ⟨s, q, hs, hq4, rfl, hR, hE⟩
        have HR5 := Lib.hid hR
        have HE5 := Lib.hid (HE3.out.trans hE)
        have hsz := hs.size
        have ha := fun w => cat2 (P := Try.prog) ⟨#[65]⟩ s (by rw [one_size]; omega) w
        have Hs := Lib.hid (IsC.add (one_size 65) (⟨by omega, Nat.le_of_eq hsz⟩ : IsC 4 s) (show 1 + 4 ≤ md (d + 1) by have := HQ.out; omega))
        clear hR hE hs hsz
        go_wp2_with fail
        exact bodyPost_ret (results_tmp rfl _ _ _) rfl ⟨_, q, Hs.out, by have := HQ.out; omega, rfl, HR5.out, HE5.out⟩
      · have e0 : (kd == 0) = false := beq_eq_false_iff_ne.2 n0
        have e1 : (kd == 1) = false := beq_eq_false_iff_ne.2 n1
        have e2 : (kd == 2) = false := beq_eq_false_iff_ne.2 n2
        have e3 : (kd == 3) = false := beq_eq_false_iff_ne.2 n3
        have e4 : (kd == 4) = false := beq_eq_false_iff_ne.2 n4
        clear n0 n1 n2 n3 n4
        go_wp2_with fail
        refine (spec_l2Some b (p + 1 + 1 + 1) _ HR3.out (by omega)).mono ?_
        rintro e w4 ⟨s, q, hs, hq4, rfl, hR, hE⟩
        have HR5 := Lib.hid hR
        have HE5 := Lib.hid (HE3.out.trans hE)
        have hsz := hs.size
        have ha := fun w => cat2 (P := Try.prog) ⟨#[68]⟩ s (by rw [one_size]; omega) w
        have Hs := Lib.hid (IsC.add (one_size 68) (⟨by omega, Nat.le_of_eq hsz⟩ : IsC 4 s) (show 1 + 4 ≤ md (d + 1) by have := HQ.out; omega))
        clear hR hE hs hsz
        go_wp2_with fail
        exact bodyPost_ret (results_tmp rfl _ _ _) rfl ⟨_, q, Hs.out, by have := HQ.out; omega, rfl, HR5.out, HE5.out⟩
    case neg =>
      have hk : decide (k < 3) = false := decide_eq_false hk3
      by_cases hk7 : k < 7
      case pos =>
        have hkk : decide (k < 7) = true := decide_eq_true hk7
        have HQ := Lib.hid (⟨hq, hq', hqe, hme⟩ : (5 ≤ md (d + 1) ∧ md (d + 1) ≤ 54 ∧ 12 ≤ qd (d + 1) ∧ qd (d + 1) ≤ 117) ∧ (5 ≤ md d ∧ md d ≤ 54 ∧ 12 ≤ qd d ∧ qd d ≤ 117) ∧ qd (d + 1) = 2 * qd d + 3 ∧ md (d + 1) = 2 * md d + 2)
        clear hqe hme
        go_wp2_with fail
        refine (Ih.out loops (D - 1) b (p + 1 + 1) _ HD1.out HR2.out (by omega)).mono ?_
        rintro e w3 ⟨s, q3, hs, hq3, rfl, hR, hE⟩
        have HR3 := Lib.hid hR
        have HE3 := Lib.hid (HE2.out.trans hE)
        obtain ⟨g3a, g3b⟩ := hs
        clear hR hE HR2 HE2
        have ha1 := fun w => cat2 (P := Try.prog) ((⟨#[59]⟩ : ByteArray)) (s) (by simp only [ByteArray.size_append, one_size, Hdz.out]; omega) w
        go_wp2_with fail
        refine (Ih.out loops (D - 1) b (q3) _ HD1.out HR3.out (by omega)).mono ?_
        rintro e w4 ⟨u, q4, hu, hq4, rfl, hR, hE⟩
        have HR4 := Lib.hid hR
        have HE4 := Lib.hid (HE3.out.trans hE)
        obtain ⟨g4a, g4b⟩ := hu
        clear hR hE HR3 HE3
        have ha2 := fun w => cat2 (P := Try.prog) ((⟨#[59]⟩ : ByteArray) ++ s) (u) (by simp only [ByteArray.size_append, one_size, Hdz.out]; omega) w
        go_wp2_with fail
        exact bodyPost_ret (results_tmp rfl _ _ _) rfl ⟨_, q4, ⟨by simp only [ByteArray.size_append, one_size, Hdz.out]; omega, by simp only [ByteArray.size_append, one_size, Hdz.out]; have := HQ.out; omega⟩, by have := HQ.out; omega, rfl, HR4.out, HE4.out⟩
      case neg =>
        have hk7' : decide (k < 7) = false := decide_eq_false hk7
        by_cases hk9 : k < 9
        case pos =>
          have hkk : decide (k < 9) = true := decide_eq_true hk9
          have HQ := Lib.hid (⟨hq, hq', hqe, hme⟩ : (5 ≤ md (d + 1) ∧ md (d + 1) ≤ 54 ∧ 12 ≤ qd (d + 1) ∧ qd (d + 1) ≤ 117) ∧ (5 ≤ md d ∧ md d ≤ 54 ∧ 12 ≤ qd d ∧ qd d ≤ 117) ∧ qd (d + 1) = 2 * qd d + 3 ∧ md (d + 1) = 2 * md d + 2)
          clear hqe hme
          go_wp2_with fail
          refine (Ih.out loops (D - 1) b (p + 1 + 1) _ HD1.out HR2.out (by omega)).mono ?_
          rintro e w3 ⟨s, q3, hs, hq3, rfl, hR, hE⟩
          have HR3 := Lib.hid hR
          have HE3 := Lib.hid (HE2.out.trans hE)
          obtain ⟨g3a, g3b⟩ := hs
          clear hR hE HR2 HE2
          have ha1 := fun w => cat2 (P := Try.prog) ((⟨#[38]⟩ : ByteArray)) (s) (by simp only [ByteArray.size_append, one_size, Hdz.out]; omega) w
          go_wp2_with fail
          refine (Ih.out loops (D - 1) b (q3) _ HD1.out HR3.out (by omega)).mono ?_
          rintro e w4 ⟨u, q4, hu, hq4, rfl, hR, hE⟩
          have HR4 := Lib.hid hR
          have HE4 := Lib.hid (HE3.out.trans hE)
          obtain ⟨g4a, g4b⟩ := hu
          clear hR hE HR3 HE3
          have ha2 := fun w => cat2 (P := Try.prog) ((⟨#[38]⟩ : ByteArray) ++ s) (u) (by simp only [ByteArray.size_append, one_size, Hdz.out]; omega) w
          go_wp2_with fail
          exact bodyPost_ret (results_tmp rfl _ _ _) rfl ⟨_, q4, ⟨by simp only [ByteArray.size_append, one_size, Hdz.out]; omega, by simp only [ByteArray.size_append, one_size, Hdz.out]; have := HQ.out; omega⟩, by have := HQ.out; omega, rfl, HR4.out, HE4.out⟩
        case neg =>
          have hk9' : decide (k < 9) = false := decide_eq_false hk9
          by_cases hk11 : k < 11
          case pos =>
            have hkk : decide (k < 11) = true := decide_eq_true hk11
            have HQ := Lib.hid (⟨hq, hq', hqe, hme⟩ : (5 ≤ md (d + 1) ∧ md (d + 1) ≤ 54 ∧ 12 ≤ qd (d + 1) ∧ qd (d + 1) ≤ 117) ∧ (5 ≤ md d ∧ md d ≤ 54 ∧ 12 ≤ qd d ∧ qd d ≤ 117) ∧ qd (d + 1) = 2 * qd d + 3 ∧ md (d + 1) = 2 * md d + 2)
            clear hqe hme
            go_wp2_with fail
            refine (Ih.out loops (D - 1) b (p + 1 + 1) _ HD1.out HR2.out (by omega)).mono ?_
            rintro e w3 ⟨s, q3, hs, hq3, rfl, hR, hE⟩
            have HR3 := Lib.hid hR
            have HE3 := Lib.hid (HE2.out.trans hE)
            obtain ⟨g3a, g3b⟩ := hs
            clear hR hE HR2 HE2
            have ha1 := fun w => cat2 (P := Try.prog) ((⟨#[124]⟩ : ByteArray)) (s) (by simp only [ByteArray.size_append, one_size, Hdz.out]; omega) w
            go_wp2_with fail
            refine (Ih.out loops (D - 1) b (q3) _ HD1.out HR3.out (by omega)).mono ?_
            rintro e w4 ⟨u, q4, hu, hq4, rfl, hR, hE⟩
            have HR4 := Lib.hid hR
            have HE4 := Lib.hid (HE3.out.trans hE)
            obtain ⟨g4a, g4b⟩ := hu
            clear hR hE HR3 HE3
            have ha2 := fun w => cat2 (P := Try.prog) ((⟨#[124]⟩ : ByteArray) ++ s) (u) (by simp only [ByteArray.size_append, one_size, Hdz.out]; omega) w
            go_wp2_with fail
            exact bodyPost_ret (results_tmp rfl _ _ _) rfl ⟨_, q4, ⟨by simp only [ByteArray.size_append, one_size, Hdz.out]; omega, by simp only [ByteArray.size_append, one_size, Hdz.out]; have := HQ.out; omega⟩, by have := HQ.out; omega, rfl, HR4.out, HE4.out⟩
          case neg =>
            have hk11' : decide (k < 11) = false := decide_eq_false hk11
            by_cases hk13 : k < 13
            case pos =>
              have hkk : decide (k < 13) = true := decide_eq_true hk13
              have HQ := Lib.hid (⟨hq, hq', hqe, hme⟩ : (5 ≤ md (d + 1) ∧ md (d + 1) ≤ 54 ∧ 12 ≤ qd (d + 1) ∧ qd (d + 1) ≤ 117) ∧ (5 ≤ md d ∧ md d ≤ 54 ∧ 12 ≤ qd d ∧ qd d ≤ 117) ∧ qd (d + 1) = 2 * qd d + 3 ∧ md (d + 1) = 2 * md d + 2)
              clear hqe hme
              go_wp2_with fail
              refine (Ih.out loops (D - 1) b (p + 1 + 1) _ HD1.out HR2.out (by omega)).mono ?_
              rintro e w3 ⟨s, q3, hs, hq3, rfl, hR, hE⟩
              have HR3 := Lib.hid hR
              have HE3 := Lib.hid (HE2.out.trans hE)
              obtain ⟨g3a, g3b⟩ := hs
              clear hR hE HR2 HE2
              have ha1 := fun w => cat2 (P := Try.prog) ((⟨#[105]⟩ : ByteArray)) (dv) (by simp only [ByteArray.size_append, one_size, Hdz.out]; omega) w
              have ha2 := fun w => cat2 (P := Try.prog) ((⟨#[105]⟩ : ByteArray) ++ dv) (s) (by simp only [ByteArray.size_append, one_size, Hdz.out]; omega) w
              go_wp2_with fail
              refine (Ih.out loops (D - 1) b (q3) _ HD1.out HR3.out (by omega)).mono ?_
              rintro e w4 ⟨u, q4, hu, hq4, rfl, hR, hE⟩
              have HR4 := Lib.hid hR
              have HE4 := Lib.hid (HE3.out.trans hE)
              obtain ⟨g4a, g4b⟩ := hu
              clear hR hE HR3 HE3
              have ha3 := fun w => cat2 (P := Try.prog) ((⟨#[105]⟩ : ByteArray) ++ dv ++ s) (u) (by simp only [ByteArray.size_append, one_size, Hdz.out]; omega) w
              go_wp2_with fail
              exact bodyPost_ret (results_tmp rfl _ _ _) rfl ⟨_, q4, ⟨by simp only [ByteArray.size_append, one_size, Hdz.out]; omega, by simp only [ByteArray.size_append, one_size, Hdz.out]; have := HQ.out; omega⟩, by have := HQ.out; omega, rfl, HR4.out, HE4.out⟩
            case neg =>
              have hk13' : decide (k < 13) = false := decide_eq_false hk13
              cases loops
              case false =>
                have HQ := Lib.hid (⟨hq, hq', hqe, hme⟩ : (5 ≤ md (d + 1) ∧ md (d + 1) ≤ 54 ∧ 12 ≤ qd (d + 1) ∧ qd (d + 1) ≤ 117) ∧ (5 ≤ md d ∧ md d ≤ 54 ∧ 12 ≤ qd d ∧ qd d ≤ 117) ∧ qd (d + 1) = 2 * qd d + 3 ∧ md (d + 1) = 2 * md d + 2)
                clear hqe hme
                go_wp2_with fail
                refine (Ih.out false (D - 1) b (p + 1 + 1) _ HD1.out HR2.out (by omega)).mono ?_
                rintro e w3 ⟨s, q3, hs, hq3, rfl, hR, hE⟩
                have HR3 := Lib.hid hR
                have HE3 := Lib.hid (HE2.out.trans hE)
                obtain ⟨g3a, g3b⟩ := hs
                clear hR hE HR2 HE2
                have ha1 := fun w => cat2 (P := Try.prog) ((⟨#[105]⟩ : ByteArray)) (dv) (by simp only [ByteArray.size_append, one_size, Hdz.out]; omega) w
                have ha2 := fun w => cat2 (P := Try.prog) ((⟨#[105]⟩ : ByteArray) ++ dv) (s) (by simp only [ByteArray.size_append, one_size, Hdz.out]; omega) w
                go_wp2_with fail
                refine (Ih.out false (D - 1) b (q3) _ HD1.out HR3.out (by omega)).mono ?_
                rintro e w4 ⟨u, q4, hu, hq4, rfl, hR, hE⟩
                have HR4 := Lib.hid hR
                have HE4 := Lib.hid (HE3.out.trans hE)
                obtain ⟨g4a, g4b⟩ := hu
                clear hR hE HR3 HE3
                have ha3 := fun w => cat2 (P := Try.prog) ((⟨#[105]⟩ : ByteArray) ++ dv ++ s) (u) (by simp only [ByteArray.size_append, one_size, Hdz.out]; omega) w
                go_wp2_with fail
                exact bodyPost_ret (results_tmp rfl _ _ _) rfl ⟨_, q4, ⟨by simp only [ByteArray.size_append, one_size, Hdz.out]; omega, by simp only [ByteArray.size_append, one_size, Hdz.out]; have := HQ.out; omega⟩, by have := HQ.out; omega, rfl, HR4.out, HE4.out⟩
              case true =>
                by_cases hk14 : k < 14
                case pos =>
                  have hkk : decide (k < 14) = true := decide_eq_true hk14
                  have HQ := Lib.hid (⟨hq, hq', hqe, hme⟩ : (5 ≤ md (d + 1) ∧ md (d + 1) ≤ 54 ∧ 12 ≤ qd (d + 1) ∧ qd (d + 1) ≤ 117) ∧ (5 ≤ md d ∧ md d ≤ 54 ∧ 12 ≤ qd d ∧ qd d ≤ 117) ∧ qd (d + 1) = 2 * qd d + 3 ∧ md (d + 1) = 2 * md d + 2)
                  clear hqe hme
                  have ha1 := fun w => cat2 (P := Try.prog) ((⟨#[119]⟩ : ByteArray)) (dv) (by simp only [ByteArray.size_append, one_size, Hdz.out]; omega) w
                  go_wp2_with fail
                  refine (Ih.out true (D - 1) b (p + 1 + 1) _ HD1.out HR2.out (by omega)).mono ?_
                  rintro e w3 ⟨s, q3, hs, hq3, rfl, hR, hE⟩
                  have HR3 := Lib.hid hR
                  have HE3 := Lib.hid (HE2.out.trans hE)
                  obtain ⟨g3a, g3b⟩ := hs
                  clear hR hE HR2 HE2
                  have ha2 := fun w => cat2 (P := Try.prog) ((⟨#[119]⟩ : ByteArray) ++ dv) (s) (by simp only [ByteArray.size_append, one_size, Hdz.out]; omega) w
                  go_wp2_with fail
                  exact bodyPost_ret (results_tmp rfl _ _ _) rfl ⟨_, q3, ⟨by simp only [ByteArray.size_append, one_size, Hdz.out]; omega, by simp only [ByteArray.size_append, one_size, Hdz.out]; have := HQ.out; omega⟩, by have := HQ.out; omega, rfl, HR3.out, HE3.out⟩
                case neg =>
                  have hkk : decide (k < 14) = false := decide_eq_false hk14
                  have HQ := Lib.hid (⟨hq, hq', hqe, hme⟩ : (5 ≤ md (d + 1) ∧ md (d + 1) ≤ 54 ∧ 12 ≤ qd (d + 1) ∧ qd (d + 1) ≤ 117) ∧ (5 ≤ md d ∧ md d ≤ 54 ∧ 12 ≤ qd d ∧ qd d ≤ 117) ∧ qd (d + 1) = 2 * qd d + 3 ∧ md (d + 1) = 2 * md d + 2)
                  clear hqe hme
                  have Ht := Lib.hid (Texts.new w2 9 stars)
                  have Hb := Lib.hid HR2.out.lt
                  have HR4 := Lib.hid (HR2.out.below (ba1 w2 (.cells (stars.map Value.string).toArray 9)))
                  have HE4 := Lib.hid (HE2.out.alloc (.cells (stars.map Value.string).toArray 9))
                  clear HR2 HE2
                  go_wp2_with fail
                  refine (spec_ofx b (p + 1 + 1) w2.heap.size 2 (tx stars) _ HR4.out (by omega) (by omega) (by omega) Ht.out (by have := Hb.out; omega)).mono ?_
                  rintro e w5 ⟨u, q5, ⟨i, hi, rfl⟩, hq5, rfl, hR, hE⟩
                  have HR5 := Lib.hid hR
                  have HE5 := Lib.hid (HE4.out.trans hE)
                  have Hs := Lib.hid (stars_size i hi)
                  clear hR hE HR4 HE4 Ht
                  generalize tx stars i = u at *
                  go_wp2_with fail
                  refine (Ih.out true (D - 1) b (q5) _ HD1.out HR5.out (by omega)).mono ?_
                  rintro e w6 ⟨s, q6, hs, hq6, rfl, hR, hE⟩
                  have HR6 := Lib.hid hR
                  have HE6 := Lib.hid (HE5.out.trans hE)
                  obtain ⟨g6a, g6b⟩ := hs
                  clear hR hE HR5 HE5
                  have ha1 := fun w => cat2 (P := Try.prog) u s (by have := Hs.out; omega) w
                  go_wp2_with fail
                  exact bodyPost_ret (results_tmp rfl _ _ _) rfl ⟨_, q6, ⟨by simp only [ByteArray.size_append, one_size, Hdz.out, Hs.out]; omega, by simp only [ByteArray.size_append, one_size, Hdz.out, Hs.out]; have := HQ.out; omega⟩, by have := HQ.out; omega, rfl, HR6.out, HE6.out⟩
theorem spec_l5Some (b p : Nat) (w : World) (hr : Rd w b p) (hp : p ≤ 800000) :
    Calls Try.prog 129 #[.pointer (some ⟨b, 0, none⟩)] w (DrewT b p 119 (IsC 54) w) := by
  have HR := Lib.hid hr
  clear hr
  go_enter Try.func129, Try.ntmps129
  go_wp2_with fail
  refine (spec_pick b p 3 _ HR.out (by omega) (by omega) (by omega)).mono ?_
  rintro e w1 ⟨k, hk0, hk1, rfl, hR, hE⟩
  have HR1 := Lib.hid hR
  have HE1 := Lib.hid hE
  clear hR hE HR
  obtain ⟨k, rfl⟩ := Int.eq_ofNat_of_zero_le hk0
  have hk3 : k < 3 := by omega
  go_wp2_with fail
  refine (spec_pick b (p + 1) 2 _ HR1.out (by omega) (by omega) (by omega)).mono ?_
  rintro e w2 ⟨v, hv0, hv1, rfl, hR, hE⟩
  have HR2 := Lib.hid hR
  have HE2 := Lib.hid (HE1.out.trans hE)
  clear hR hE HR1 HE1
  generalize hlo : (v == 0) = loops at *
  go_wp2_with fail
  refine (spec_l5Draw (1 + k) (by omega) loops (1 + (k : Int)) b (p + 1 + 1) _ (by omega) HR2.out (by have := md3 (1 + k) (by omega); omega)).mono ?_
  rintro e w3 ⟨s, q, ⟨h1, h2⟩, hq, rfl, hR, hE⟩
  have HR3 := Lib.hid hR
  have HE3 := Lib.hid (HE2.out.trans hE)
  have Hm := Lib.hid (md3 (1 + k) (by omega))
  clear hR hE HR2 HE2
  go_wp2_with fail
  exact bodyPost_ret (results_tmp rfl _ _ _) rfl ⟨s, q, ⟨h1, by have := Hm.out; omega⟩, by have := Hm.out; omega, rfl, HR3.out, HE3.out⟩
/-- The letters that spoil a contract. -/
def spoilC : List ByteArray := [⟨#[122]⟩, ⟨#[48]⟩, ⟨#[59]⟩, ⟨#[65]⟩]
def moreC : List ByteArray := [⟨#[115]⟩, ⟨#[48]⟩, ⟨#[32]⟩]
theorem ex_low' (s : ByteArray) (k : Nat) (h : k ≤ s.size) : (s.extract 0 k).size = k := by rw [ByteArray.size_extract]; omega
theorem ex_high' (s : ByteArray) (k : Nat) (h : k ≤ s.size) : (s.extract k s.size).size = s.size - k := by rw [ByteArray.size_extract]; omega
set_option maxRecDepth 100000 in
theorem spec_l5Bad (b p m : Nat) (s : ByteArray) (w : World) (hr : Rd w b p) (hp : p ≤ 999000) (hs : IsC m s) (hm : m ≤ 500) :
    Calls Try.prog 93 #[.pointer (some ⟨b, 0, none⟩), .string s] w (DrewT b p 3 (fun t => t.size ≤ m + 1) w) := by
  obtain ⟨hs1, hs2⟩ := hs
  have hs' : (1 : Int) ≤ s.size := by omega
  have Hs := Lib.hid (show 1 ≤ s.size ∧ s.size ≤ 500 by omega)
  have Hz0 := Lib.hid (show s.size ≤ m + 1 by omega)
  have Hz1 := Lib.hid (show (s.extract 0 (s.size - 1)).size ≤ m + 1 by rw [ByteArray.size_extract]; omega)
  have HM := Lib.hid hs2
  go_enter Try.func93, Try.ntmps93
  go_wp2_with fail
  refine (spec_pick b p 30 _ hr (by omega) (by omega) (by omega)).mono ?_
  rintro e w1 ⟨kind, hk0, hk1, rfl, hR, hE⟩
  have HR := Lib.hid hR
  have HE := Lib.hid hE
  clear hR hE hr
  rcases (show kind = 0 ∨ kind = 1 ∨ kind = 2 ∨ (¬ kind = 0 ∧ ¬ kind = 1 ∧ ¬ kind = 2) by omega) with rfl | rfl | rfl | ⟨n0, n1, n2⟩
  · have Ht := Lib.hid (Texts.new w1 9 moreC)
    have Hb := Lib.hid HR.out.lt
    have HR4 := Lib.hid (HR.out.below (ba1 w1 (.cells (moreC.map Value.string).toArray 9)))
    have HE4 := Lib.hid (HE.out.alloc (.cells (moreC.map Value.string).toArray 9))
    clear HR HE
    go_wp2_with fail
    refine (spec_of b (p + 1) w1.heap.size 3 1 (tx moreC) _ HR4.out (by omega) (by omega) (by omega) Ht.out (by have := Hb.out; omega) (tx_size (l := moreC) (by decide))).mono ?_
    rintro e w4 ⟨u, hu, rfl, hR, hE⟩
    have HR5 := Lib.hid hR
    have HE5 := Lib.hid (HE4.out.trans hE)
    have ha := fun w => cat2 (P := Try.prog) s u (by have := Hs.out; omega) w
    have Hz := Lib.hid (show (s ++ u).size ≤ m + 1 by rw [ByteArray.size_append]; omega)
    clear hR hE hu
    go_wp2_with fail
    exact bodyPost_ret (results_tmp rfl _ _ _) rfl ⟨_, p + 1 + 1, Hz.out, by omega, rfl, HR5.out, HE5.out⟩
  · have hsub : ((s.size : Int) - 1).toNat = s.size - 1 := by omega
    go_wp2_with fail
    exact bodyPost_ret (results_tmp rfl _ _ _) rfl ⟨_, p + 1, by first | exact Hz1.out | (rw [hsub]; exact Hz1.out), by omega, rfl, HR.out, HE.out⟩
  · go_wp2_with fail
    refine (spec_pick b (p + 1) s.size _ HR.out (by omega) (by omega) (by omega)).mono ?_
    rintro e w2 ⟨k, hc0, hc1, rfl, hR2, hE2⟩
    obtain ⟨k, rfl⟩ := Int.eq_ofNat_of_zero_le hc0
    have hks : k < s.size := by omega
    have HR2 := Lib.hid hR2
    have HE2 := Lib.hid (HE.out.trans hE2)
    clear hR2 hE2 HR HE
    go_wp2_with fail
    refine wp_region_held_drew (S := fun w' => ∃ q, q ≤ p + 3 ∧ Rd w' b q ∧ Els b w w') (by kernel_rfl) ⟨p + 2, by omega, HR2.out, HE2.out.drewN 1⟩ (fun hH => ?_)
    refine wpAnyH_take (i := 0) (v := .string s) rfl (by kernel_rfl) (by kernel_rfl) (by kernel_rfl) (fun _ _ _ h => h) (Or.inl ⟨by rfl, by intro w hw; clear hw; go_simp⟩) hH ?_
    simp only [Act.put, List.setIfInBounds_toArray, List.set_cons_zero, List.set_cons_succ, List.getElem_toArray, List.getElem_cons_succ, List.getElem_cons_zero, getElem?_pos]
    refine wpAnyH_take (i := 1) (v := .int .i64 k) rfl (by kernel_rfl) (by kernel_rfl) (by kernel_rfl) (fun _ _ _ h => h) (Or.inl ⟨by rfl, by intro w hw; clear hw; go_simp⟩) hH ?_
    simp only [Act.put, List.setIfInBounds_toArray, List.set_cons_zero, List.set_cons_succ, List.getElem_toArray, List.getElem_cons_succ, List.getElem_cons_zero, getElem?_pos]
    refine wpAnyH_take (i := 2) (v := .string (s.extract 0 k)) rfl (by kernel_rfl) (by kernel_rfl) (by kernel_rfl) (fun _ _ _ h => h) (Or.inl ⟨by rfl, by intro w hw; clear hw; go_simp; exact fun h => absurd h (by have := Hs.out; omega)⟩) hH ?_
    simp only [Act.put, List.setIfInBounds_toArray, List.set_cons_zero, List.set_cons_succ, List.getElem_toArray, List.getElem_cons_succ, List.getElem_cons_zero, getElem?_pos]
    refine wpAnyH_take (i := 3) (v := .pointer (some ⟨b, 0, none⟩)) rfl (by kernel_rfl) (by kernel_rfl) (by kernel_rfl) (fun _ _ _ h => h) (Or.inl ⟨by rfl, by intro w hw; clear hw; go_simp⟩) hH ?_
    simp only [Act.put, List.setIfInBounds_toArray, List.set_cons_zero, List.set_cons_succ, List.getElem_toArray, List.getElem_cons_succ, List.getElem_cons_zero, getElem?_pos]
    refine wpAnyH_take (i := 7) (v := .string s) rfl (by kernel_rfl) (by kernel_rfl) (by kernel_rfl) (fun _ _ _ h => h) (Or.inl ⟨by rfl, by intro w hw; clear hw; go_simp⟩) hH ?_
    simp only [Act.put, List.setIfInBounds_toArray, List.set_cons_zero, List.set_cons_succ, List.getElem_toArray, List.getElem_cons_succ, List.getElem_cons_zero, getElem?_pos]
    refine wpAnyH_take (i := 8) (v := .int .i64 k) rfl (by kernel_rfl) (by kernel_rfl) (by kernel_rfl) (fun _ _ _ h => h) (Or.inl ⟨by rfl, by intro w hw; clear hw; go_simp⟩) hH ?_
    simp only [Act.put, List.setIfInBounds_toArray, List.set_cons_zero, List.set_cons_succ, List.getElem_toArray, List.getElem_cons_succ, List.getElem_cons_zero, getElem?_pos]
    refine wpAnyH_take (i := 9) (v := .int .i64 ((k : Int) + 1)) rfl (by kernel_rfl) (by kernel_rfl) (by kernel_rfl) (fun _ _ _ h => h) (Or.inl ⟨by rfl, by intro w hw; clear hw; go_simp; exact IntWalk.i64_in _ (by omega)⟩) hH ?_
    simp only [Act.put, List.setIfInBounds_toArray, List.set_cons_zero, List.set_cons_succ, List.getElem_toArray, List.getElem_cons_succ, List.getElem_cons_zero, getElem?_pos]
    refine wpAnyH_take (i := 10) (v := .string (s.extract (k + 1) s.size)) rfl (by kernel_rfl) (by kernel_rfl) (by kernel_rfl) (fun _ _ _ h => h) (Or.inl ⟨by rfl, by intro w hw; clear hw; go_simp; exact fun h => absurd (h (by omega)) (by have := Hs.out; omega)⟩) hH ?_
    simp only [Act.put, List.setIfInBounds_toArray, List.set_cons_zero, List.set_cons_succ, List.getElem_toArray, List.getElem_cons_succ, List.getElem_cons_zero, getElem?_pos]
    have hb := HR2.out.lt
    have HN := Lib.hid (show Texts (w2.drew.alloc (.cells #[.string ⟨#[122]⟩, .string ⟨#[48]⟩, .string ⟨#[59]⟩, .string ⟨#[65]⟩] 9)) w2.drew.heap.size 4 (tx spoilC) from Texts.new w2.drew 9 spoilC)
    have HR3 := Lib.hid (show Rd (w2.drew.alloc (.cells #[.string ⟨#[122]⟩, .string ⟨#[48]⟩, .string ⟨#[59]⟩, .string ⟨#[65]⟩] 9)) b (p + 1 + 1) from Rd.below (w := w2.drew) HR2.out (ba1 _ _))
    have HE3 := Lib.hid (show Els b w (w2.drew.alloc (.cells #[.string ⟨#[122]⟩, .string ⟨#[48]⟩, .string ⟨#[59]⟩, .string ⟨#[65]⟩] 9)) from (HE2.out.drewN 1).alloc _)
    refine wpAnyH_ready (rs := [4]) (by kernel_rfl) (by simp) (AllReadyH.cons rfl (fun K hK => ?_) AllReadyH.nil)
    refine makeOp (v := .slice (some ⟨w2.drew.heap.size, 0, none⟩) 4 4) (w' := w2.drew.alloc (.cells #[.string ⟨#[122]⟩, .string ⟨#[48]⟩, .string ⟨#[59]⟩, .string ⟨#[65]⟩] 9)) (by rfl) (by go_simp) ?_
    refine hK.out _ _ ⟨p + 2, by omega, HR3.out, HE3.out⟩ (fun hH2 => ?_)
    clear hK K
    simp only [Act.put, List.setIfInBounds_toArray, List.set_cons_zero, List.set_cons_succ, List.getElem_toArray, List.getElem_cons_succ, List.getElem_cons_zero, getElem?_pos]
    generalize hw3 : w2.drew.alloc (.cells #[.string ⟨#[122]⟩, .string ⟨#[48]⟩, .string ⟨#[59]⟩, .string ⟨#[65]⟩] 9) = w3 at *
    have hc4 := Lib.hid (show w2.drew.heap.size ≠ b from fun e => by have : b < w2.drew.heap.size := hb; omega)
    generalize w2.drew.heap.size = c at *
    refine wpAnyH_ready (rs := [5]) (by kernel_rfl) (by simp) (AllReadyH.cons rfl (fun K hK => ?_) AllReadyH.nil)
    refine callOp (by rfl) (by go_simp) ((spec_of b (p + 2) c 4 1 (tx spoilC) w3 HR3.out (by omega) (by omega) (by omega) HN.out hc4.out (tx_size (l := spoilC) (by decide))).mono ?_)
    rintro e w4 ⟨u, hu, rfl, hR4, hE4⟩
    have HR4 := Lib.hid hR4
    have HE4 := Lib.hid (HE3.out.trans hE4)
    have Hu := Lib.hid hu
    clear hR4 hE4 hu
    refine ⟨_, rfl, hK.out _ _ ⟨p + 3, by omega, HR4.out, HE4.out⟩ (fun hH3 => ?_)⟩
    clear hK K
    simp only [Act.put, List.setIfInBounds_toArray, List.set_cons_zero, List.set_cons_succ, List.getElem_toArray, List.getElem_cons_succ, List.getElem_cons_zero, getElem?_pos]
    have Hl := Lib.hid (ex_low' s k (by have := Hs.out; omega))
    have Hh := Lib.hid (ex_high' s (k + 1) (by have := Hs.out; omega))
    have Hz4 := Lib.hid (show ((s.extract 0 k ++ u) ++ s.extract (k + 1) s.size).size ≤ m + 1 by rw [ByteArray.size_append, ByteArray.size_append, Hl.out, Hh.out]; have := Hs.out; have := Hu.out; have := HM.out; omega)
    refine wpAnyH_take (i := 6) (v := .string (s.extract 0 k ++ u)) rfl (by kernel_rfl) (by kernel_rfl) (by kernel_rfl) (fun _ _ _ h => h) (Or.inl ⟨by rfl, by intro w hw; clear hw; go_simp; have := Hs.out; have := Hu.out; omega⟩) hH3 ?_
    simp only [Act.put, List.setIfInBounds_toArray, List.set_cons_zero, List.set_cons_succ, List.getElem_toArray, List.getElem_cons_succ, List.getElem_cons_zero, getElem?_pos]
    refine wpAnyH_take (i := 11) (v := .string ((s.extract 0 k ++ u) ++ s.extract (k + 1) s.size)) rfl (by kernel_rfl) (by kernel_rfl) (by kernel_rfl) (fun _ _ _ h => h) (Or.inl ⟨by rfl, by intro w hw; clear hw; go_simp; have := Hs.out; have := Hu.out; omega⟩) hH3 ?_
    simp only [Act.put, List.setIfInBounds_toArray, List.set_cons_zero, List.set_cons_succ, List.getElem_toArray, List.getElem_cons_succ, List.getElem_cons_zero, getElem?_pos]
    refine wpAnyH_take (i := 12) (v := .string ((s.extract 0 k ++ u) ++ s.extract (k + 1) s.size)) rfl (by kernel_rfl) (by kernel_rfl) (by kernel_rfl) (fun _ _ _ h => h) (Or.inl ⟨by rfl, by intro w hw; clear hw; go_simp⟩) hH3 ?_
    simp only [Act.put, List.setIfInBounds_toArray, List.set_cons_zero, List.set_cons_succ, List.getElem_toArray, List.getElem_cons_succ, List.getElem_cons_zero, getElem?_pos]
    refine wpAnyH_done (by kernel_rfl) ?_ _
    go_wp2_with fail
    exact bodyPost_ret (results_tmp rfl _ _ _) rfl ⟨_, p + 3, Hz4.out, by omega, rfl, HR4.out, HE4.out⟩
  · have e0 : (kind == 0) = false := beq_eq_false_iff_ne.2 n0
    have e1 : (kind == 1) = false := beq_eq_false_iff_ne.2 n1
    have e2 : (kind == 2) = false := beq_eq_false_iff_ne.2 n2
    clear n0 n1 n2
    go_wp2_with fail
    exact bodyPost_ret (results_tmp rfl _ _ _) rfl ⟨_, p + 1, Hz0.out, by omega, rfl, HR.out, HE.out⟩
theorem spec_l5Open (b p : Nat) (w : World) (hr : Rd w b p) (hp : p ≤ 800000) :
    Calls Try.prog 78 #[.pointer (some ⟨b, 0, none⟩)] w (DrewT b p 122 (fun t => t.size ≤ 55) w) := by
  have HR := Lib.hid hr
  clear hr
  go_enter Try.func78, Try.ntmps78
  go_wp2_with fail
  refine (spec_l5Some b p _ HR.out (by omega)).mono ?_
  rintro e w1 ⟨s, q, hs, hq, rfl, hR, hE⟩
  have HR1 := Lib.hid hR
  have HE1 := Lib.hid hE
  have Hs := Lib.hid hs
  clear hR hE HR hs
  go_wp2_with fail
  refine (spec_l5Bad b q 54 s _ HR1.out (by omega) Hs.out (by omega)).mono ?_
  rintro e w2 ⟨t, q2, ht, hq2, rfl, hR, hE⟩
  have HR2 := Lib.hid hR
  have HE2 := Lib.hid (HE1.out.trans hE)
  have Ht := Lib.hid ht
  clear hR hE ht
  go_wp2_with fail
  exact bodyPost_ret (results_tmp rfl _ _ _) rfl ⟨t, q2, Ht.out, by omega, rfl, HR2.out, HE2.out⟩
theorem spec_l6Contract (b p : Nat) (w : World) (hr : Rd w b p) (hp : p ≤ 800000) :
    Calls Try.prog 58 #[.pointer (some ⟨b, 0, none⟩)] w (DrewT b p 122 (fun t => t.size ≤ 55) w) := by
  have HR := Lib.hid hr
  clear hr
  go_enter Try.func58, Try.ntmps58
  go_wp2_with fail
  refine (spec_pick b p 2 _ HR.out (by omega) (by omega) (by omega)).mono ?_
  rintro e w1 ⟨k, hk0, hk1, rfl, hR, hE⟩
  have HR1 := Lib.hid hR
  have HE1 := Lib.hid hE
  clear hR hE HR
  obtain ⟨k, rfl⟩ := Int.eq_ofNat_of_zero_le hk0
  have hk3 : k < 2 := by omega
  go_wp2_with fail
  refine (spec_l5Draw (1 + k) (by omega) false (1 + (k : Int)) b (p + 1) _ (by omega) HR1.out (by have := md3 (1 + k) (by omega); omega)).mono ?_
  rintro e w3 ⟨s, q, ⟨h1, h2⟩, hq, rfl, hR, hE⟩
  have HR3 := Lib.hid hR
  have HE3 := Lib.hid (HE1.out.trans hE)
  have hmd := md3 (1 + k) (by omega)
  have hs54 : IsC 54 s := ⟨h1, by omega⟩
  have Hs := Lib.hid hs54
  have hq' : q ≤ p + 118 := by omega
  clear hR hE HR1 HE1 h1 h2 hmd hs54 hq
  go_wp2_with fail
  refine (spec_l5Bad b q 54 s _ HR3.out (by omega) Hs.out (by omega)).mono ?_
  rintro e w2 ⟨t, q2, ht, hq2, rfl, hR, hE⟩
  have HR2 := Lib.hid hR
  have HE2 := Lib.hid (HE3.out.trans hE)
  have Ht := Lib.hid ht
  clear hR hE ht
  go_wp2_with fail
  exact bodyPost_ret (results_tmp rfl _ _ _) rfl ⟨t, q2, Ht.out, by omega, rfl, HR2.out, HE2.out⟩
/-- Two texts were drawn. -/
def DrewPC (b p q m : Nat) (w : World) (e : Ending) (w' : World) : Prop := ∃ (s t : ByteArray) (p' : Nat), s.size ≤ m ∧ t.size ≤ m ∧ p' ≤ p + q ∧ e = .returned (.tuple #[.string s, .string t]) ∧ Rd w' b p' ∧ Els b w w'
theorem spec_l5Pair (b p : Nat) (w : World) (hr : Rd w b p) (hp : p ≤ 700000) :
    Calls Try.prog 74 #[.pointer (some ⟨b, 0, none⟩)] w (DrewPC b p 300 110 w) := by
  have HR := Lib.hid hr
  clear hr
  go_enter Try.func74, Try.ntmps74
  go_wp2_with fail
  refine (spec_l5Open b p _ HR.out (by omega)).mono ?_
  rintro e w1 ⟨c, q, hs, hq, rfl, hR, hE⟩
  have HR1 := Lib.hid hR
  have HE1 := Lib.hid hE
  have Hc := Lib.hid hs
  clear hR hE HR hs
  go_wp2_with fail
  refine (spec_l5Some b q _ HR1.out (by omega)).mono ?_
  rintro e w2 ⟨d, q2, hs, hq2, rfl, hR, hE⟩
  have HR2 := Lib.hid hR
  have HE2 := Lib.hid (HE1.out.trans hE)
  have Hd := Lib.hid hs
  have Hd2 := Lib.hid hs.2
  clear hR hE HR1 HE1 hs
  go_wp2_with fail
  refine (spec_pick b q2 6 _ HR2.out (by omega) (by omega) (by omega)).mono ?_
  rintro e w3 ⟨k, hk0, hk1, rfl, hR, hE⟩
  have HR3 := Lib.hid hR
  have HE3 := Lib.hid (HE2.out.trans hE)
  clear hR hE HR2 HE2
  rcases (show k = 0 ∨ k = 1 ∨ k = 2 ∨ (¬ k = 0 ∧ ¬ k = 1 ∧ ¬ k = 2) by omega) with rfl | rfl | rfl | ⟨n0, n1, n2⟩
  · have ha1 := fun w => cat2 (P := Try.prog) (⟨#[124]⟩ : ByteArray) c (by rw [one_size]; have := Hc.out; omega) w
    have ha2 := fun w => cat2 (P := Try.prog) ((⟨#[124]⟩ : ByteArray) ++ c) d (by rw [ByteArray.size_append, one_size]; have := Hc.out; have := Hd2.out; omega) w
    go_wp2_with fail
    go_ret2
    exact ⟨_, _, q2 + 1, by have := Hc.out; omega, by rw [ByteArray.size_append, ByteArray.size_append, one_size]; have := Hc.out; have := Hd2.out; omega, by omega, rfl, HR3.out, HE3.out⟩
  · have ha1 := fun w => cat2 (P := Try.prog) (⟨#[38]⟩ : ByteArray) c (by rw [one_size]; have := Hc.out; omega) w
    have ha2 := fun w => cat2 (P := Try.prog) ((⟨#[38]⟩ : ByteArray) ++ c) d (by rw [ByteArray.size_append, one_size]; have := Hc.out; have := Hd2.out; omega) w
    go_wp2_with fail
    go_ret2
    exact ⟨_, _, q2 + 1, by rw [ByteArray.size_append, ByteArray.size_append, one_size]; have := Hc.out; have := Hd2.out; omega, by have := Hc.out; omega, by omega, rfl, HR3.out, HE3.out⟩
  · have ha1 := fun w => cat2 (P := Try.prog) (⟨#[59, 115]⟩ : ByteArray) c (by show 2 + c.size ≤ 1000; have := Hc.out; omega) w
    go_wp2_with fail
    go_ret2
    exact ⟨_, _, q2 + 1, by have := Hc.out; omega, by rw [ByteArray.size_append]; show 2 + c.size ≤ 110; have := Hc.out; omega, by omega, rfl, HR3.out, HE3.out⟩
  · have e0 : (k == 0) = false := beq_eq_false_iff_ne.2 n0
    have e1 : (k == 1) = false := beq_eq_false_iff_ne.2 n1
    have e2 : (k == 2) = false := beq_eq_false_iff_ne.2 n2
    clear n0 n1 n2
    go_wp2_with fail
    refine (spec_l5Bad b (q2 + 1) 54 d _ HR3.out (by omega) Hd.out (by omega)).mono ?_
    rintro e w4 ⟨t, q4, ht, hq4, rfl, hR, hE⟩
    have HR4 := Lib.hid hR
    have HE4 := Lib.hid (HE3.out.trans hE)
    have Ht := Lib.hid ht
    clear hR hE ht
    go_wp2_with fail
    go_ret2
    exact ⟨_, _, q4, by have := Hc.out; omega, by have := Ht.out; omega, by omega, rfl, HR4.out, HE4.out⟩
theorem spec_DrawTransOfContract (a : Option Addr) (len cap : Nat) (zs : List Int) (w : World) (h : IsRow .u8 w a len cap zs) :
    Calls Try.prog 28 #[.slice a len cap] w (Drawn1 55 w) := by
  go_enter Try.func28, Try.ntmps28
  go_wp2_with fail
  refine (spec_l14Open a len cap zs w h).mono ?_
  rintro e w1 ⟨b, hb, rfl, hR, hB⟩
  have HR := Lib.hid hR
  have HB := Lib.hid hB
  clear hR hB h
  go_wp2_with fail
  refine (spec_l5Open b 0 _ HR.out (by omega)).mono ?_
  rintro e w2 ⟨s, q, hs, hq, rfl, hR2, hE2⟩
  have Hs := Lib.hid hs
  have HB2 := Lib.hid (HB.out.trans (hE2.below hb HB.out.size))
  clear hR2 hE2 hs HB HR
  go_wp2_with fail
  go_ret
  exact ⟨_, Hs.out, rfl, HB2.out⟩
theorem spec_DrawPartsOfContract (a : Option Addr) (len cap : Nat) (zs : List Int) (w : World) (h : IsRow .u8 w a len cap zs) :
    Calls Try.prog 52 #[.slice a len cap] w (Drawn1 55 w) := by
  go_enter Try.func52, Try.ntmps52
  go_wp2_with fail
  refine (spec_l14Open a len cap zs w h).mono ?_
  rintro e w1 ⟨b, hb, rfl, hR, hB⟩
  have HR := Lib.hid hR
  have HB := Lib.hid hB
  clear hR hB h
  go_wp2_with fail
  refine (spec_l5Open b 0 _ HR.out (by omega)).mono ?_
  rintro e w2 ⟨s, q, hs, hq, rfl, hR2, hE2⟩
  have Hs := Lib.hid hs
  have HB2 := Lib.hid (HB.out.trans (hE2.below hb HB.out.size))
  clear hR2 hE2 hs HB HR
  go_wp2_with fail
  go_ret
  exact ⟨_, Hs.out, rfl, HB2.out⟩
theorem spec_DrawHasLoops (a : Option Addr) (len cap : Nat) (zs : List Int) (w : World) (h : IsRow .u8 w a len cap zs) :
    Calls Try.prog 24 #[.slice a len cap] w (Drawn1 55 w) := by
  go_enter Try.func24, Try.ntmps24
  go_wp2_with fail
  refine (spec_l14Open a len cap zs w h).mono ?_
  rintro e w1 ⟨b, hb, rfl, hR, hB⟩
  have HR := Lib.hid hR
  have HB := Lib.hid hB
  clear hR hB h
  go_wp2_with fail
  refine (spec_l5Open b 0 _ HR.out (by omega)).mono ?_
  rintro e w2 ⟨s, q, hs, hq, rfl, hR2, hE2⟩
  have Hs := Lib.hid hs
  have HB2 := Lib.hid (HB.out.trans (hE2.below hb HB.out.size))
  clear hR2 hE2 hs HB HR
  go_wp2_with fail
  go_ret
  exact ⟨_, Hs.out, rfl, HB2.out⟩
theorem spec_DrawChoosesIn (a : Option Addr) (len cap : Nat) (zs : List Int) (w : World) (h : IsRow .u8 w a len cap zs) :
    Calls Try.prog 42 #[.slice a len cap] w (Drawn1 55 w) := by
  go_enter Try.func42, Try.ntmps42
  go_wp2_with fail
  refine (spec_l14Open a len cap zs w h).mono ?_
  rintro e w1 ⟨b, hb, rfl, hR, hB⟩
  have HR := Lib.hid hR
  have HB := Lib.hid hB
  clear hR hB h
  go_wp2_with fail
  refine (spec_l5Open b 0 _ HR.out (by omega)).mono ?_
  rintro e w2 ⟨s, q, hs, hq, rfl, hR2, hE2⟩
  have Hs := Lib.hid hs
  have HB2 := Lib.hid (HB.out.trans (hE2.below hb HB.out.size))
  clear hR2 hE2 hs HB HR
  go_wp2_with fail
  go_ret
  exact ⟨_, Hs.out, rfl, HB2.out⟩
theorem spec_DrawDualContract (a : Option Addr) (len cap : Nat) (zs : List Int) (w : World) (h : IsRow .u8 w a len cap zs) :
    Calls Try.prog 47 #[.slice a len cap] w (Drawn1 55 w) := by
  go_enter Try.func47, Try.ntmps47
  go_wp2_with fail
  refine (spec_l14Open a len cap zs w h).mono ?_
  rintro e w1 ⟨b, hb, rfl, hR, hB⟩
  have HR := Lib.hid hR
  have HB := Lib.hid hB
  clear hR hB h
  go_wp2_with fail
  refine (spec_pick b 0 4 _ HR.out (by omega) (by omega) (by omega)).mono ?_
  rintro e w2 ⟨k, hk0, hk1, rfl, hR, hE⟩
  have HR1 := Lib.hid hR
  have HE1 := Lib.hid hE
  clear hR hE HR
  cases hk : (k == 0)
  · go_wp2_with fail
    refine (spec_pick b (0 + 1) 3 _ HR1.out (by omega) (by omega) (by omega)).mono ?_
    rintro e w3 ⟨k2, hc0, hc1, rfl, hR, hE⟩
    have HR2 := Lib.hid hR
    have HE2 := Lib.hid (HE1.out.trans hE)
    clear hR hE HR1 HE1
    obtain ⟨k2, rfl⟩ := Int.eq_ofNat_of_zero_le hc0
    have hk3 : k2 < 3 := by omega
    go_wp2_with fail
    refine (spec_l5Draw (1 + k2) (by omega) false (1 + (k2 : Int)) b (0 + 1 + 1) _ (by omega) HR2.out (by have := md3 (1 + k2) (by omega); omega)).mono ?_
    rintro e w4 ⟨s, q, ⟨h1, h2⟩, hq, rfl, hR, hE⟩
    have HR3 := Lib.hid hR
    have HE3 := Lib.hid (HE2.out.trans hE)
    have hmd := md3 (1 + k2) (by omega)
    have hs54 : IsC 54 s := ⟨h1, by omega⟩
    have Hs := Lib.hid hs54
    have hq' : q ≤ 119 := by omega
    clear hR hE HR2 HE2 h1 h2 hmd hs54 hq
    go_wp2_with fail
    refine (spec_l5Bad b q 54 s _ HR3.out (by omega) Hs.out (by omega)).mono ?_
    rintro e w5 ⟨t, q2, ht, hq2, rfl, hR, hE⟩
    have HB2 := Lib.hid (HB.out.trans ((HE3.out.trans hE).below hb HB.out.size))
    have Ht := Lib.hid ht
    clear hR hE ht
    go_wp2_with fail
    go_ret
    exact ⟨_, Ht.out, rfl, HB2.out⟩
  · go_wp2_with fail
    refine (spec_l5Open b (0 + 1) _ HR1.out (by omega)).mono ?_
    rintro e w3 ⟨s, q, hs, hq, rfl, hR2, hE2⟩
    have Hs := Lib.hid hs
    have HB2 := Lib.hid (HB.out.trans ((HE1.out.trans hE2).below hb HB.out.size))
    clear hR2 hE2 hs HB HR1
    go_wp2_with fail
    go_ret
    exact ⟨_, Hs.out, rfl, HB2.out⟩
theorem spec_DrawRefinesContract (a : Option Addr) (len cap : Nat) (zs : List Int) (w : World) (h : IsRow .u8 w a len cap zs) :
    Calls Try.prog 21 #[.slice a len cap] w (Drawn2 110 w) := by
  go_enter Try.func21, Try.ntmps21
  go_wp2_with fail
  refine (spec_l14Open a len cap zs w h).mono ?_
  rintro e w1 ⟨b, hb, rfl, hR, hB⟩
  have HR := Lib.hid hR
  have HB := Lib.hid hB
  clear hR hB h
  go_wp2_with fail
  refine (spec_l5Pair b 0 _ HR.out (by omega)).mono ?_
  rintro e w2 ⟨s, t, q, hs, ht, hq, rfl, hR2, hE2⟩
  have Hs := Lib.hid hs
  have Ht := Lib.hid ht
  have HB2 := Lib.hid (HB.out.trans (hE2.below hb HB.out.size))
  clear hR2 hE2 hs ht HB HR
  go_wp2_with fail
  go_ret2
  exact ⟨_, _, Hs.out, Ht.out, rfl, HB2.out⟩
theorem spec_DrawNeedsBefore (a : Option Addr) (len cap : Nat) (zs : List Int) (w : World) (h : IsRow .u8 w a len cap zs) :
    Calls Try.prog 38 #[.slice a len cap] w (DrawnTI 55 w) := by
  go_enter Try.func38, Try.ntmps38
  go_wp2_with fail
  refine (spec_l14Open a len cap zs w h).mono ?_
  rintro e w1 ⟨b, hb, rfl, hR, hB⟩
  have HR := Lib.hid hR
  have HB := Lib.hid hB
  clear hR hB h
  go_wp2_with fail
  refine (spec_l5Open b 0 _ HR.out (by omega)).mono ?_
  rintro e w2 ⟨s, q, hs, hq, rfl, hR, hE⟩
  have Hs := Lib.hid hs
  have HR1 := Lib.hid hR
  have HE1 := Lib.hid hE
  clear hR hE hs HR
  go_wp2_with fail
  refine (spec_l1Some b q _ HR1.out (by omega)).mono ?_
  rintro e w3 ⟨v, rfl, hR, hE⟩
  have HB2 := Lib.hid (HB.out.trans ((HE1.out.trans hE).below hb HB.out.size))
  clear hR hE HR1 HE1
  go_wp2_with fail
  go_ret2
  exact ⟨_, _, Hs.out, rfl, HB2.out⟩
theorem spec_DrawAngelWins (a : Option Addr) (len cap : Nat) (zs : List Int) (w : World) (h : IsRow .u8 w a len cap zs) :
    Calls Try.prog 11 #[.slice a len cap] w (DrawnTII 55 w) := by
  go_enter Try.func11, Try.ntmps11
  go_wp2_with fail
  refine (spec_l14Open a len cap zs w h).mono ?_
  rintro e w1 ⟨b, hb, rfl, hR, hB⟩
  have HR := Lib.hid hR
  have HB := Lib.hid hB
  clear hR hB h
  go_wp2_with fail
  refine (spec_l6Contract b 0 _ HR.out (by omega)).mono ?_
  rintro e w2 ⟨s, q, hs, hq, rfl, hR, hE⟩
  have Hs := Lib.hid hs
  have HR1 := Lib.hid hR
  have HE1 := Lib.hid hE
  clear hR hE hs HR
  go_wp2_with fail
  refine (spec_l1Spot b q _ HR1.out (by omega)).mono ?_
  rintro e w3 ⟨v, rfl, hR, hE⟩
  have HR2 := Lib.hid hR
  have HE2 := Lib.hid (HE1.out.trans hE)
  clear hR hE HR1 HE1
  go_wp2_with fail
  refine (spec_l1Some b (q + 2) _ HR2.out (by omega)).mono ?_
  rintro e w4 ⟨u, rfl, hR, hE⟩
  have HB2 := Lib.hid (HB.out.trans ((HE2.out.trans hE).below hb HB.out.size))
  clear hR hE HR2 HE2
  go_wp2_with fail
  go_ret3
  exact ⟨_, _, _, Hs.out, rfl, HB2.out⟩
end Go.Proofs.Ytfajaikkagmkeaa
