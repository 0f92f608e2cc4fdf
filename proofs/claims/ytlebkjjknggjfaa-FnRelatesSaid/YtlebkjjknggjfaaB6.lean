/-
  Contracts of the reference's functions for the laws on relations.
-/
import Derived.Test.YtlebkjjknggjfaaB2
import Derived.Test.YtlebkjjknggjfaaPv
namespace Go.Proofs.Ytlebkjjknggjfaa
open Go.RowKit Go.DC
set_option maxHeartbeats 1000000
set_option linter.unusedVariables false
set_option linter.unusedSimpArgs false

theorem spec_TestRel (p : Int) (w : World) :
    Calls Try.prog 12 #[.int .i64 p] w fun e w' => e = .returned (.tuple #[.string (orNo (cv p) (txt 4 (testR p))), .bool (cv p)]) ∧ w = w' := by
  rw [eq_test]
  have cp := fun w => spec_ConditionValid p w
  cases hp : cv p
  all_goals
    rw [hp] at cp
    have Cp := Lib.hid cp
    clear cp
  · clear hp
    go_enter Try.func12, Try.ntmps12
    go_wp2_with fail
    refine (Cp.out _).mono ?_
    rintro e w' ⟨rfl, rfl⟩
    go_wp2_with fail
    go_ret2
    exact ⟨rfl, rfl⟩
  · obtain ⟨h0, h1⟩ := cv_iff.1 hp
    rw [orNo_true]
    clear hp
    go_enter Try.func12, Try.ntmps12
    go_wp2_with fail
    refine (Cp.out _).mono ?_
    rintro e w' ⟨rfl, rfl⟩
    go_wp2_with fail
    go_loopg [4, 5] 4 (fun gk o i wr => ∃ n : Nat, n ≤ 4 ∧ gk = 4 - n ∧ i = .int .i64 n ∧ o = .string (txt n fun s => band p (2 ^ s)) ∧ w = wr)
    case atStart => exact ⟨0, by omega, rfl, rfl, rfl, rfl⟩
    case round =>
      obtain ⟨n, hn, rfl, rfl, rfl, rfl⟩ := hrel
      by_cases hlt : n < 4
      · have hadd : ∀ w, (Op.stringOp .add (txt n fun s => band p (2 ^ s)) (dgt (bits BinOp.and IntKind.i64 p (wrap64 (2 ^ n))))).run Try.prog w = .ok (.string (txt (n + 1) fun s => band p (2 ^ s))) w := fun w => by
          rw [run_string_add_sum w _ _ (by rw [txt_size]; show n + 1 ≤ _; omega), wrap_pow n (by omega)]
          exact congrArg (fun x => Result.ok (Value.string x) w) (txt_succ n fun s => band p (2 ^ s))
        have hg : 0 ≤ bits BinOp.and IntKind.i64 p (wrap64 (2 ^ n)) ∧ bits BinOp.and IntKind.i64 p (wrap64 (2 ^ n)) ≤ 15 := by rw [wrap_pow n (by omega)]; exact band_rng h0 h1 (idR_cv hlt).1 (idR_cv hlt).2
        obtain ⟨hg0, hg1⟩ := hg
        go_wp2_with (go_at_call 56; refine (spec_l2Digit _ _ (by first | assumption | omega) (by first | assumption | omega)).mono ?_; rintro e w' ⟨rfl, rfl⟩)
        go_roundg (4 - (n + 1))
        case rel => exact ⟨n + 1, by omega, rfl, by go_num, rfl, rfl⟩
        case measure => omega
      · obtain rfl : n = 4 := by omega
        go_wp2_with fail
        go_ret2
        exact ⟨rfl, rfl⟩
theorem spec_DiamondOf (r : ByteArray) (p : Int) (w : World) (hr : r.size ≤ maxLen) :
    Calls Try.prog 46 #[.string r, .int .i64 p] w fun e w' => e = .returned (.int .i64 (askV (dvB 4 r && cv p) (dia (dg r) p))) ∧ w = w' := by
  have hc := fun w => spec_l2Ready r p w hr
  cases hv : (dvB 4 r && cv p)
  all_goals
    rw [hv] at hc
    have Hc := Lib.hid hc
    clear hc
  · clear hv
    go_enter Try.func46, Try.ntmps46
    go_wp2_with fail
    refine (Hc.out _).mono ?_
    rintro e w' ⟨rfl, rfl⟩
    go_wp2_with fail
    go_ret
    exact ⟨rfl, rfl⟩
  · have Hd := Lib.hid (fun w => spec_l2Diamond r p w (Nat.le_of_eq (dvB_iff.1 (Bool.and_eq_true_iff.1 hv).1).1.symm))
    clear hv
    go_enter Try.func46, Try.ntmps46
    go_wp2_with fail
    refine (Hc.out _).mono ?_
    rintro e w' ⟨rfl, rfl⟩
    go_wp2_with fail
    refine (Hd.out _).mono ?_
    rintro e w' ⟨rfl, rfl⟩
    go_wp2_with fail
    go_ret
    exact ⟨rfl, rfl⟩
theorem spec_l2Box (r : ByteArray) (p : Int) (w : World) (hr : dvB 4 r = true) (hp : Cv p) :
    Calls Try.prog 88 #[.string r, .int .i64 p] w fun e w' => e = .returned (.int .i64 (boxR (dg r) p)) ∧ w = w' := by
  have hb := box_eq (dvB_Dg hr) hp.1 hp.2
  have hd := fun w => spec_l2Diamond r (bandn 15 p) w (Nat.le_of_eq (dvB_iff.1 hr).1.symm)
  rw [hb]
  have Hd := Lib.hid hd
  clear hb hd hr
  go_enter Try.func88, Try.ntmps88
  go_wp2_with fail
  refine (Hd.out _).mono ?_
  rintro e w' ⟨rfl, rfl⟩
  go_wp2_with fail
  go_ret
  exact ⟨rfl, rfl⟩
theorem spec_BoxOf (r : ByteArray) (p : Int) (w : World) (hr : r.size ≤ maxLen) :
    Calls Try.prog 47 #[.string r, .int .i64 p] w fun e w' => e = .returned (.int .i64 (askV (dvB 4 r && cv p) (boxR (dg r) p))) ∧ w = w' := by
  have hc := fun w => spec_l2Ready r p w hr
  cases hv : (dvB 4 r && cv p)
  all_goals
    rw [hv] at hc
    have Hc := Lib.hid hc
    clear hc
  · clear hv
    go_enter Try.func47, Try.ntmps47
    go_wp2_with fail
    refine (Hc.out _).mono ?_
    rintro e w' ⟨rfl, rfl⟩
    go_wp2_with fail
    go_ret
    exact ⟨rfl, rfl⟩
  · obtain ⟨h1, h2⟩ := Bool.and_eq_true_iff.1 hv
    have Hd := Lib.hid (fun w => spec_l2Box r p w h1 (cv_iff.1 h2))
    clear hv h1 h2
    go_enter Try.func47, Try.ntmps47
    go_wp2_with fail
    refine (Hc.out _).mono ?_
    rintro e w' ⟨rfl, rfl⟩
    go_wp2_with fail
    refine (Hd.out _).mono ?_
    rintro e w' ⟨rfl, rfl⟩
    go_wp2_with fail
    go_ret
    exact ⟨rfl, rfl⟩
theorem spec_WithinRel (r q : ByteArray) (w : World) (hr : r.size ≤ maxLen) (hq : q.size ≤ maxLen) :
    Calls Try.prog 42 #[.string r, .string q] w fun e w' => e = .returned (.bool ((dvB 4 r && dvB 4 q) && subB (dg r) (dg q))) ∧ w = w' := by
  have hc := fun w => spec_l2Two r q w hr hq
  cases hv : (dvB 4 r && dvB 4 q)
  all_goals
    rw [hv] at hc
    have Hc := Lib.hid hc
    clear hc
  · clear hv
    go_enter Try.func42, Try.ntmps42
    go_wp2_with fail
    refine (Hc.out _).mono ?_
    rintro e w' ⟨rfl, rfl⟩
    go_wp2_with fail
    go_ret
    exact ⟨rfl, rfl⟩
  · obtain ⟨h1, h2⟩ := Bool.and_eq_true_iff.1 hv
    have ho := fun w => spec_l2Or r q w (Nat.le_of_eq (dvB_iff.1 h1).1.symm) (dvB_Dg h1) (Nat.le_of_eq (dvB_iff.1 h2).1.symm) (dvB_Dg h2)
    have hfin := sub_or (dvB_Dg h1) h2
    rw [← eq_text] at hfin
    have Ho := Lib.hid ho
    have Hfin := Lib.hid hfin
    clear hv h1 h2 ho hfin
    go_enter Try.func42, Try.ntmps42
    go_wp2_with fail
    refine (Hc.out _).mono ?_
    rintro e w' ⟨rfl, rfl⟩
    go_wp2_with fail
    refine (Ho.out _).mono ?_
    rintro e w' ⟨rfl, rfl⟩
    go_wp2_with fail
    go_ret
    exact ⟨by rw [← Hfin.out]; rfl, rfl⟩
/-- What the reference has after k turns, and what it had before. -/
def clT (x : Nat → Int) (k : Nat) : ByteArray := txt 4 (pw (withId x) (2 ^ k))
def clB (x : Nat → Int) : Nat → ByteArray
  | 0 => ByteArray.empty
  | k + 1 => clT x k
theorem clT_Dg {x : Nat → Int} (hx : Dg 4 x) (k : Nat) : Dg 4 (pw (withId x) (2 ^ k)) := pw_Dg (withId_Dg hx) _
theorem clT_step {x : Nat → Int} (hx : Dg 4 x) (k : Nat) : txt 4 (fun s => bor (dg (clT x k) s) (dg (txt 4 (thenR (dg (clT x k)) (dg (clT x k)))) s)) = clT x (k + 1) := txt_congr fun s hs => by
  have hd := clT_Dg hx k
  have he : ∀ s, s < 4 → dg (clT x k) s = pw (withId x) (2 ^ k) s := fun s hs => dg_txt hd hs
  have hd2 : Dg 4 (dg (clT x k)) := fun i hi => by rw [he i hi]; exact hd i hi
  rw [dg_txt (thenR_Dg _ hd2) hs, he s hs, thenR_congr he he s hs, pw_or (withId_refl hx) (withId_Dg hx) _ hs]
  congr 1
  rw [Nat.pow_succ]; omega
theorem clT_done {x : Nat → Int} (hx : Dg 4 x) {k : Nat} (h : clB x k = clT x k) : clT x k = txt 4 (clo x) := by
  cases k with
  | zero =>
    have := congrArg ByteArray.size h
    rw [show clB x 0 = ByteArray.empty from rfl, show (clT x 0).size = 4 from txt_size _ _] at this
    exact absurd this (by decide)
  | succ k =>
    have hi := txt_inj (clT_Dg hx k) (clT_Dg hx (k + 1)) h
    rw [← h]
    exact txt_congr (pw_done (withId_refl hx) (withId_Dg hx) (Nat.one_le_two_pow) fun s hs => by rw [hi s hs]; congr 1; rw [Nat.pow_succ]; omega)
theorem clT_more {x : Nat → Int} (hx : Dg 4 x) {k : Nat} (hk : k ≤ 3) (h : clB x k ≠ clT x k) : k + 1 ≤ 3 := by
  refine Classical.byContradiction fun hn => h ?_
  obtain rfl : k = 3 := by omega
  exact txt_congr fun s hs => pw_ge (withId_refl hx) (withId_Dg hx) hs (by decide) (by decide)
theorem spec_CloseRel (r : ByteArray) (w : World) (hr : r.size ≤ maxLen) :
    Calls Try.prog 35 #[.string r] w fun e w' => e = .returned (.tuple #[.string (orNo (dvB 4 r) (txt 4 (clo (dg r)))), .bool (dvB 4 r)]) ∧ w = w' := by
  have hc := fun w => spec_RelValid r w hr
  cases hv : dvB 4 r
  all_goals
    rw [hv] at hc
    have Hc := Lib.hid hc
    clear hc
  · clear hv
    go_enter Try.func35, Try.ntmps35
    go_wp2_with fail
    refine (Hc.out _).mono ?_
    rintro e w' ⟨rfl, rfl⟩
    go_wp2_with fail
    go_ret2
    exact ⟨rfl, rfl⟩
  · rw [orNo_true]
    have hD := dvB_Dg hv
    have h4 := Nat.le_of_eq (dvB_iff.1 hv).1.symm
    have hid4 : Dg 4 (dg ⟨#[49, 50, 52, 56]⟩) := by rw [id_txt]; exact dg_txt_Dg idR_Dg
    have ho := fun w => spec_l2Or r ⟨#[49, 50, 52, 56]⟩ w h4 hD (by decide) hid4
    have e0 : txt 4 (fun s => bor (dg r s) (dg ⟨#[49, 50, 52, 56]⟩ s)) = clT (dg r) 0 := by
      rw [id_txt]
      exact txt_congr fun s hs => by rw [dg_txt idR_Dg hs]; exact (pw_one (withId_Dg hD) s hs).symm
    rw [e0] at ho
    have Ho := Lib.hid ho
    have hsz : ∀ k, 4 ≤ (clT (dg r) k).size := fun k => Nat.le_of_eq (txt_size _ _).symm
    have hdk : ∀ k, Dg 4 (dg (clT (dg r) k)) := fun k => dg_txt_Dg (clT_Dg hD k)
    have Hcm := Lib.hid (fun k w => spec_l2Compose (clT (dg r) k) (clT (dg r) k) w (hsz k) (hdk k) (hsz k) (hdk k))
    have hor := fun k w => spec_l2Or (clT (dg r) k) (txt 4 (thenR (dg (clT (dg r) k)) (dg (clT (dg r) k)))) w (hsz k) (hdk k) (Nat.le_of_eq (txt_size _ _).symm) (dg_txt_Dg (thenR_Dg _ (hdk k)))
    simp only [clT_step hD] at hor
    have Hor := Lib.hid hor
    have Hdone := Lib.hid (fun k (h : clB (dg r) k = clT (dg r) k) => clT_done hD h)
    have Hmore := Lib.hid (fun k (hk : k ≤ 3) (h : clB (dg r) k ≠ clT (dg r) k) => clT_more hD hk h)
    clear hv hD h4 hid4 ho e0 hsz hdk hor
    go_enter Try.func35, Try.ntmps35
    go_wp2_with fail
    refine (Hc.out _).mono ?_
    rintro e w' ⟨rfl, rfl⟩
    go_wp2_with fail
    refine (Ho.out _).mono ?_
    rintro e w' ⟨rfl, rfl⟩
    go_wp2_with fail
    go_loopg [4, 5] 3 (fun gk o b wr => ∃ k : Nat, k ≤ 3 ∧ gk = 3 - k ∧ o = .string (clT (dg r) k) ∧ b = .string (clB (dg r) k) ∧ w = wr)
    case atStart => exact ⟨0, by omega, rfl, rfl, rfl, rfl⟩
    case round =>
      obtain ⟨k, hk, rfl, rfl, rfl, rfl⟩ := hrel
      by_cases he : clB (dg r) k = clT (dg r) k
      · have Hfin := Lib.hid (Hdone.out k he)
        have hb : ((clB (dg r) k).toList == (clT (dg r) k).toList) = true := by rw [he]; simp
        clear he
        go_wp2_with fail
        go_ret2
        exact ⟨by rw [← Hfin.out]; rfl, rfl⟩
      · have Hk := Lib.hid (Hmore.out k hk he)
        have hb : ((clB (dg r) k).toList == (clT (dg r) k).toList) = false := by rw [eq_text]; exact decide_eq_false he
        clear he
        go_wp2_with fail
        refine (Hcm.out k _).mono ?_
        rintro e w' ⟨rfl, rfl⟩
        go_wp2_with fail
        refine (Hor.out k _).mono ?_
        rintro e w' ⟨rfl, rfl⟩
        go_wp2_with fail
        go_roundg (3 - (k + 1))
        case rel => exact ⟨k + 1, Hk.out, rfl, rfl, rfl, rfl⟩
        case measure => have := Hk.out; omega
end Go.Proofs.Ytlebkjjknggjfaa
