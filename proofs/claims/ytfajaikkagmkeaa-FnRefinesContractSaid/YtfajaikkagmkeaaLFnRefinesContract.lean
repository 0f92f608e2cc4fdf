/-
  For every input the law FnRefinesContract returns true: if a contract is refined by another one, so are sequences, choices and loops with it in its place; two contracts that refine each other are equal. No condition.
-/
import Derived.Test.YtfajaikkagmkeaaRows
import Derived.Test.YtfajaikkagmkeaaG3
import Derived.Test.YtfajaikkagmkeaaA16
import Derived.Test.YtfajaikkagmkeaaA17
import Derived.Test.YtfajaikkagmkeaaC6
import Derived.Test.YtfajaikkagmkeaaD6
import Derived.Test.YtfajaikkagmkeaaRe
import Derived.WalkKit
import Derived.ProofKit
import Derived.OpenShut
import Derived.ShutString
import Derived.ChangeOld
import Derived.Below
namespace Go.Proofs.Ytfajaikkagmkeaa.fnRefinesContract
open Go.ChangeShapes Go.WideShapes Go.ChangeAt Go.RowKit Go.DC
open Go.ChangeMaps (open_string shut_string)
set_option linter.unusedVariables false
set_option linter.unusedSimpArgs false
set_option maxHeartbeats 400000
theorem own : ownKnob Try.prog.godebug = none := by kernel_rfl
theorem laidOut : laidOutB Try.prog = true := by kernel_rfl
set_option maxHeartbeats 4000000 in
set_option maxRecDepth 100000 in
theorem walk (a0 : Option Addr) (len0 cap0 : Nat) (z0 : List Int) (a1 : Option Addr) (len1 cap1 : Nat) (z1 : List Int) (w : World) (w0 : IsRow .u8 w a0 len0 cap0 z0) (w1 : IsRow .u8 w a1 len1 cap1 z1) :
    Calls Try.prog 4 #[.slice a0 len0 cap0, .slice a1 len1 cap1] w fun e w' => e = .returned (.bool true) ∧ Below w.heap.size w w' := by
  by_cases hl : (1048576 : Int) < len0
  · clear w0 w1
    go_enter Try.func4, Try.ntmps4
    go_wp2_with fail
    go_ret
    exact ⟨rfl, Below.refl _ _⟩
  by_cases hl1 : (1048576 : Int) < len1
  · clear w0 w1
    go_enter Try.func4, Try.ntmps4
    go_wp2_with fail
    go_ret
    exact ⟨rfl, Below.refl _ _⟩
  have H0 := Lib.hid w0
  have H1 := Lib.hid w1
  clear w0 w1
  go_enter Try.func4, Try.ntmps4
  go_wp2_with fail
  refine (spec_DrawRefinesContract a0 len0 cap0 z0 w H0.out).mono ?_
  rintro e w2 ⟨c, d, hz, hz2, rfl, hB⟩
  have HB := Lib.hid hB
  clear hB H0
  have hm : c.size ≤ maxLen := by unfold maxLen; omega
  have hm2 : d.size ≤ maxLen := by unfold maxLen; omega
  have c1 := fun w => impl_RefinesContract c d w hm hm2
  have c2 := fun w => spec_RefinesContract c d w hm hm2
  have c3 := fun w => impl_ContractValid c w hm
  have c4 := fun w => impl_ContractValid d w hm2
  cases hc : cto c with
  | none =>
    simp only [ctv_none _ _ hc] at c1 c2
    have c3 : ∀ w, Calls Try.prog 14 #[.string c] w fun e w' => e = .returned (.bool false) ∧ Below w.heap.size w w' := fun w => by have h := c3 w; rw [hc] at h; exact h
    have C1 := Lib.hid c1
    clear c1
    have C2 := Lib.hid c2
    clear c2
    have C3 := Lib.hid c3
    clear c3
    clear hc hm hm2 H1 c4
    (go_wp2_with fail; refine (C1.out _).mono ?_; rintro e w' ⟨rfl, hb⟩; have HB := Lib.hid (bgo HB.out hb); clear hb)
    (go_wp2_with fail; refine (C2.out _).mono ?_; rintro e w' ⟨rfl, hb⟩; have HB := Lib.hid (bgo HB.out hb); clear hb)
    (go_wp2_with fail; refine (C3.out _).mono ?_; rintro e w' ⟨rfl, hb⟩; have HB := Lib.hid (bgo HB.out hb); clear hb)
    (go_wp2_with fail; refine (C2.out _).mono ?_; rintro e w' ⟨rfl, hb⟩; have HB := Lib.hid (bgo HB.out hb); clear hb)
    go_wp2_with fail
    go_ret
    exact ⟨rfl, HB.out⟩
  | some t =>
    simp only [ctv_some _ _ hc] at c1 c2
    have c3 : ∀ w, Calls Try.prog 14 #[.string c] w fun e w' => e = .returned (.bool true) ∧ Below w.heap.size w w' := fun w => by have h := c3 w; rw [hc] at h; exact h
    cases hd : cto d with
    | none =>
      simp only [ctv_none _ _ hd] at c1 c2
      have c4 : ∀ w, Calls Try.prog 14 #[.string d] w fun e w' => e = .returned (.bool false) ∧ Below w.heap.size w w' := fun w => by have h := c4 w; rw [hd] at h; exact h
      have C1 := Lib.hid c1
      clear c1
      have C2 := Lib.hid c2
      clear c2
      have C3 := Lib.hid c3
      clear c3
      have C4 := Lib.hid c4
      clear c4
      clear hc hd hm hm2 H1
      (go_wp2_with fail; refine (C1.out _).mono ?_; rintro e w' ⟨rfl, hb⟩; have HB := Lib.hid (bgo HB.out hb); clear hb)
      (go_wp2_with fail; refine (C2.out _).mono ?_; rintro e w' ⟨rfl, hb⟩; have HB := Lib.hid (bgo HB.out hb); clear hb)
      (go_wp2_with fail; refine (C3.out _).mono ?_; rintro e w' ⟨rfl, hb⟩; have HB := Lib.hid (bgo HB.out hb); clear hb)
      (go_wp2_with fail; refine (C4.out _).mono ?_; rintro e w' ⟨rfl, hb⟩; have HB := Lib.hid (bgo HB.out hb); clear hb)
      (go_wp2_with fail; refine (C2.out _).mono ?_; rintro e w' ⟨rfl, hb⟩; have HB := Lib.hid (bgo HB.out hb); clear hb)
      go_wp2_with fail
      go_ret
      exact ⟨rfl, HB.out⟩
    | some u =>
      simp only [ctv_some _ _ hd] at c1 c2
      have c4 : ∀ w, Calls Try.prog 14 #[.string d] w fun e w' => e = .returned (.bool true) ∧ Below w.heap.size w w' := fun w => by have h := c4 w; rw [hd] at h; exact h
      obtain ⟨hcb, hw, h200⟩ := cto_some.1 hc
      obtain ⟨hdb, hw2, h202⟩ := cto_some.1 hd
      have c5 := fun w => laws_dcTrans c w hm
      simp only [ctv_some _ _ hc] at c5
      have c6 := fun w => laws_dcTrans d w hm2
      simp only [ctv_some _ _ hd] at c6
      have c7 := fun w => impl_RefinesTrans (txt 16 (tr t)) (txt 16 (tr u)) w
      rw [tvB_txt (tr_Tr hw), tvB_txt (tr_Tr hw2), refB_txt (tr_Tr hw).dg (tr_Tr hw2).dg, Bool.and_self, Bool.true_and] at c7
      have c8 := fun w => impl_EqualContracts c d w hm hm2
      simp only [ctv_some _ _ hc, ctv_some _ _ hd, eq_ref hw hw2] at c8
      have c9 := fun w => impl_RefinesContract d c w hm2 hm
      simp only [ctv_some _ _ hc, ctv_some _ _ hd] at c9
      clear hc hd
      generalize refB (tr u) (tr t) = r2 at *
      have c10 := fun w h => spec_DrawHasLoops a1 len1 cap1 z1 w h
      have h53 : hxs [53] = true := by decide +kernel
      have h54 : hxs [54] = true := by decide +kernel
      have hsz : t.tx.length ≤ 110 := by rw [hcb, Ct.bytes_size] at hz; exact hz
      have hsz2 : u.tx.length ≤ 110 := by rw [hdb, Ct.bytes_size] at hz2; exact hz2
      cases hr : refB (tr t) (tr u)
      case false =>
        rw [hr] at c1 c2 c7 c8
        rw [Bool.false_and] at c8
        clear hr h53 h54 hsz hsz2 hcb hdb hw hw2 h200 h202
        generalize txt 16 (tr t) = T at *
        generalize txt 16 (tr u) = U at *
        have C1 := Lib.hid c1
        clear c1
        have C2 := Lib.hid c2
        clear c2
        have C3 := Lib.hid c3
        clear c3
        have C4 := Lib.hid c4
        clear c4
        have C5 := Lib.hid c5
        clear c5
        have C6 := Lib.hid c6
        clear c6
        have C7 := Lib.hid c7
        clear c7
        have C8 := Lib.hid c8
        clear c8
        have C9 := Lib.hid c9
        clear c9
        have C10 := Lib.hid c10
        clear c10
        (go_wp2_with fail; refine (C1.out _).mono ?_; rintro e w' ⟨rfl, hb⟩; have HB := Lib.hid (bgo HB.out hb); clear hb)
        (go_wp2_with fail; refine (C2.out _).mono ?_; rintro e w' ⟨rfl, hb⟩; have HB := Lib.hid (bgo HB.out hb); clear hb)
        (go_wp2_with fail; refine (C3.out _).mono ?_; rintro e w' ⟨rfl, hb⟩; have HB := Lib.hid (bgo HB.out hb); clear hb)
        (go_wp2_with fail; refine (C4.out _).mono ?_; rintro e w' ⟨rfl, hb⟩; have HB := Lib.hid (bgo HB.out hb); clear hb)
        go_wp2_with fail
        refine (C10.out _ (Go.Proofs.Ytfajaikkagmkeaa.IsRow.go H1.out HB.out)).mono ?_
        rintro e w4 ⟨x, hz3, rfl, hb⟩
        have HB := Lib.hid (bgo HB.out hb)
        clear hb
        (go_wp2_with fail; refine (C5.out _).mono ?_; rintro e w' ⟨rfl, hb⟩; have HB := Lib.hid (bgo HB.out hb); clear hb)
        (go_wp2_with fail; refine (C6.out _).mono ?_; rintro e w' ⟨rfl, hb⟩; have HB := Lib.hid (bgo HB.out hb); clear hb)
        (go_wp2_with fail; refine (C7.out _).mono ?_; rintro e w' ⟨rfl, hb⟩; have HB := Lib.hid (bgo HB.out hb); clear hb)
        (go_wp2_with fail; refine (C8.out _).mono ?_; rintro e w' ⟨rfl, hb⟩; have HB := Lib.hid (bgo HB.out hb); clear hb)
        go_wp2_with fail
        go_ret
        exact ⟨rfl, HB.out⟩
      case true =>
        rw [hr] at c1 c2 c7 c8
        rw [Bool.true_and] at c8
        subst hcb hdb
        have elw1 : (⟨#[119, 54]⟩ : ByteArray) ++ t.bytes = (Ct.u 119 [54] t).bytes := by show bts ([119, 54]) ++ bts (t.tx) = _; simp only [bts_app, bytes_bts]; simp [Ct.tx]
        have elw2 : (⟨#[119, 54]⟩ : ByteArray) ++ u.bytes = (Ct.u 119 [54] u).bytes := by show bts ([119, 54]) ++ bts (u.tx) = _; simp only [bts_app, bytes_bts]; simp [Ct.tx]
        have c11 := fun w => impl_RefinesContract (Ct.u 119 [54] t).bytes (Ct.u 119 [54] u).bytes w (by rw [Ct.bytes_size]; unfold maxLen; simp [Ct.tx] <;> omega) (by rw [Ct.bytes_size]; unfold maxLen; simp [Ct.tx] <;> omega)
        rw [ctv_of (wf_u' rfl h54 hw) (by simp [Ct.tx] <;> omega), ctv_of (wf_u' rfl h54 hw2) (by simp [Ct.tx] <;> omega), ref_w hw hw2 hr h54, ← elw1, ← elw2] at c11
        have eld1 : (⟨#[42]⟩ : ByteArray) ++ t.bytes = (Ct.u 42 [] t).bytes := by show bts ([42]) ++ bts (t.tx) = _; simp only [bts_app, bytes_bts]; simp [Ct.tx]
        have eld2 : (⟨#[42]⟩ : ByteArray) ++ u.bytes = (Ct.u 42 [] u).bytes := by show bts ([42]) ++ bts (u.tx) = _; simp only [bts_app, bytes_bts]; simp [Ct.tx]
        have c12 := fun w => impl_RefinesContract (Ct.u 42 [] t).bytes (Ct.u 42 [] u).bytes w (by rw [Ct.bytes_size]; unfold maxLen; simp [Ct.tx] <;> omega) (by rw [Ct.bytes_size]; unfold maxLen; simp [Ct.tx] <;> omega)
        rw [ctv_of (wf_u' rfl rfl hw) (by simp [Ct.tx] <;> omega), ctv_of (wf_u' rfl rfl hw2) (by simp [Ct.tx] <;> omega), ref_d hw hw2 hr, ← eld1, ← eld2] at c12
        have ela1 : (⟨#[43]⟩ : ByteArray) ++ t.bytes = (Ct.u 43 [] t).bytes := by show bts ([43]) ++ bts (t.tx) = _; simp only [bts_app, bytes_bts]; simp [Ct.tx]
        have ela2 : (⟨#[43]⟩ : ByteArray) ++ u.bytes = (Ct.u 43 [] u).bytes := by show bts ([43]) ++ bts (u.tx) = _; simp only [bts_app, bytes_bts]; simp [Ct.tx]
        have c13 := fun w => impl_RefinesContract (Ct.u 43 [] t).bytes (Ct.u 43 [] u).bytes w (by rw [Ct.bytes_size]; unfold maxLen; simp [Ct.tx] <;> omega) (by rw [Ct.bytes_size]; unfold maxLen; simp [Ct.tx] <;> omega)
        rw [ctv_of (wf_u' rfl rfl hw) (by simp [Ct.tx] <;> omega), ctv_of (wf_u' rfl rfl hw2) (by simp [Ct.tx] <;> omega), ref_a hw hw2 hr, ← ela1, ← ela2] at c13
        have C1 := Lib.hid c1
        clear c1
        have C2 := Lib.hid c2
        clear c2
        have C3 := Lib.hid c3
        clear c3
        have C4 := Lib.hid c4
        clear c4
        have C5 := Lib.hid c5
        clear c5
        have C6 := Lib.hid c6
        clear c6
        have C7 := Lib.hid c7
        clear c7
        have C8 := Lib.hid c8
        clear c8
        have C9 := Lib.hid c9
        clear c9
        have C10 := Lib.hid c10
        clear c10
        have C11 := Lib.hid c11
        clear c11
        have C12 := Lib.hid c12
        clear c12
        have C13 := Lib.hid c13
        clear c13
        clear elw1 elw2 eld1 eld2 ela1 ela2
        (go_wp2_with fail; refine (C1.out _).mono ?_; rintro e w' ⟨rfl, hb⟩; have HB := Lib.hid (bgo HB.out hb); clear hb)
        (go_wp2_with fail; refine (C2.out _).mono ?_; rintro e w' ⟨rfl, hb⟩; have HB := Lib.hid (bgo HB.out hb); clear hb)
        (go_wp2_with fail; refine (C3.out _).mono ?_; rintro e w' ⟨rfl, hb⟩; have HB := Lib.hid (bgo HB.out hb); clear hb)
        (go_wp2_with fail; refine (C4.out _).mono ?_; rintro e w' ⟨rfl, hb⟩; have HB := Lib.hid (bgo HB.out hb); clear hb)
        go_wp2_with fail
        refine (C10.out _ (Go.Proofs.Ytfajaikkagmkeaa.IsRow.go H1.out HB.out)).mono ?_
        rintro e w4 ⟨x, hz3, rfl, hb⟩
        have HB := Lib.hid (bgo HB.out hb)
        clear hb H1
        have hm3 : x.size ≤ maxLen := by unfold maxLen; omega
        have c14 := fun w => impl_ContractValid x w hm3
        cases hx : cto x with
        | none =>
          have c14 : ∀ w, Calls Try.prog 14 #[.string x] w fun e w' => e = .returned (.bool false) ∧ Below w.heap.size w w' := fun w => by have h := c14 w; rw [hx] at h; exact h
          have C14 := Lib.hid c14
          clear c14
          clear hx hm3 h53 h54 hw hw2 h200 h202 hr
          generalize txt 16 (tr t) = T at *
          generalize txt 16 (tr u) = U at *
          (go_wp2_with fail; refine (C14.out _).mono ?_; rintro e w' ⟨rfl, hb⟩; have HB := Lib.hid (bgo HB.out hb); clear hb)
          (go_wp2_with fail; refine (C11.out _).mono ?_; rintro e w' ⟨rfl, hb⟩; have HB := Lib.hid (bgo HB.out hb); clear hb)
          (go_wp2_with fail; refine (C12.out _).mono ?_; rintro e w' ⟨rfl, hb⟩; have HB := Lib.hid (bgo HB.out hb); clear hb)
          (go_wp2_with fail; refine (C13.out _).mono ?_; rintro e w' ⟨rfl, hb⟩; have HB := Lib.hid (bgo HB.out hb); clear hb)
          (go_wp2_with fail; refine (C5.out _).mono ?_; rintro e w' ⟨rfl, hb⟩; have HB := Lib.hid (bgo HB.out hb); clear hb)
          (go_wp2_with fail; refine (C6.out _).mono ?_; rintro e w' ⟨rfl, hb⟩; have HB := Lib.hid (bgo HB.out hb); clear hb)
          (go_wp2_with fail; refine (C7.out _).mono ?_; rintro e w' ⟨rfl, hb⟩; have HB := Lib.hid (bgo HB.out hb); clear hb)
          (go_wp2_with fail; refine (C8.out _).mono ?_; rintro e w' ⟨rfl, hb⟩; have HB := Lib.hid (bgo HB.out hb); clear hb)
          (go_wp2_with fail; refine (C9.out _).mono ?_; rintro e w' ⟨rfl, hb⟩; have HB := Lib.hid (bgo HB.out hb); clear hb)
          go_wp2_with fail
          go_ret
          exact ⟨rfl, HB.out⟩
        | some v =>
          have c14 : ∀ w, Calls Try.prog 14 #[.string x] w fun e w' => e = .returned (.bool true) ∧ Below w.heap.size w w' := fun w => by have h := c14 w; rw [hx] at h; exact h
          obtain ⟨hxb, hw3, h203⟩ := cto_some.1 hx
          subst hxb
          have C14 := Lib.hid c14
          clear c14
          clear hx
          by_cases hlt : t.bytes.size + u.bytes.size + v.bytes.size < 190
          case neg =>
            have hd3 : decide ((t.bytes.size : Int) + u.bytes.size + v.bytes.size < 190) = false := decide_eq_false (by omega)
            clear hm3 h53 h54 hw hw2 hw3 h200 h202 h203 hr hsz hsz2
            generalize txt 16 (tr t) = T at *
            generalize txt 16 (tr u) = U at *
            (go_wp2_with fail; refine (C14.out _).mono ?_; rintro e w' ⟨rfl, hb⟩; have HB := Lib.hid (bgo HB.out hb); clear hb)
            (go_wp2_with fail; refine (C11.out _).mono ?_; rintro e w' ⟨rfl, hb⟩; have HB := Lib.hid (bgo HB.out hb); clear hb)
            (go_wp2_with fail; refine (C12.out _).mono ?_; rintro e w' ⟨rfl, hb⟩; have HB := Lib.hid (bgo HB.out hb); clear hb)
            (go_wp2_with fail; refine (C13.out _).mono ?_; rintro e w' ⟨rfl, hb⟩; have HB := Lib.hid (bgo HB.out hb); clear hb)
            (go_wp2_with fail; refine (C5.out _).mono ?_; rintro e w' ⟨rfl, hb⟩; have HB := Lib.hid (bgo HB.out hb); clear hb)
            (go_wp2_with fail; refine (C6.out _).mono ?_; rintro e w' ⟨rfl, hb⟩; have HB := Lib.hid (bgo HB.out hb); clear hb)
            (go_wp2_with fail; refine (C7.out _).mono ?_; rintro e w' ⟨rfl, hb⟩; have HB := Lib.hid (bgo HB.out hb); clear hb)
            (go_wp2_with fail; refine (C8.out _).mono ?_; rintro e w' ⟨rfl, hb⟩; have HB := Lib.hid (bgo HB.out hb); clear hb)
            (go_wp2_with fail; refine (C9.out _).mono ?_; rintro e w' ⟨rfl, hb⟩; have HB := Lib.hid (bgo HB.out hb); clear hb)
            go_wp2_with fail
            go_ret
            exact ⟨rfl, HB.out⟩
          case pos =>
            have hd3 : decide ((t.bytes.size : Int) + u.bytes.size + v.bytes.size < 190) = true := decide_eq_true (by omega)
            have hl3 : t.tx.length + u.tx.length + v.tx.length < 190 := by rw [Ct.bytes_size, Ct.bytes_size, Ct.bytes_size] at hlt; exact hlt
            have es11 : (⟨#[59]⟩ : ByteArray) ++ t.bytes ++ v.bytes = (Ct.b 59 [] t v).bytes := by show bts ([59]) ++ bts (t.tx) ++ bts (v.tx) = _; simp only [bts_app, bytes_bts]; simp [Ct.tx]
            have es12 : (⟨#[59]⟩ : ByteArray) ++ u.bytes ++ v.bytes = (Ct.b 59 [] u v).bytes := by show bts ([59]) ++ bts (u.tx) ++ bts (v.tx) = _; simp only [bts_app, bytes_bts]; simp [Ct.tx]
            have c15 := fun w => impl_RefinesContract (Ct.b 59 [] t v).bytes (Ct.b 59 [] u v).bytes w (by rw [Ct.bytes_size]; unfold maxLen; simp [Ct.tx] <;> omega) (by rw [Ct.bytes_size]; unfold maxLen; simp [Ct.tx] <;> omega)
            rw [ctv_of (wf_b' rfl rfl hw hw3) (by simp [Ct.tx] <;> omega), ctv_of (wf_b' rfl rfl hw2 hw3) (by simp [Ct.tx] <;> omega), ref_seq1 hw hw2 hw3 hr [] [], ← es11, ← es12] at c15
            have es21 : (⟨#[59]⟩ : ByteArray) ++ v.bytes ++ t.bytes = (Ct.b 59 [] v t).bytes := by show bts ([59]) ++ bts (v.tx) ++ bts (t.tx) = _; simp only [bts_app, bytes_bts]; simp [Ct.tx]
            have es22 : (⟨#[59]⟩ : ByteArray) ++ v.bytes ++ u.bytes = (Ct.b 59 [] v u).bytes := by show bts ([59]) ++ bts (v.tx) ++ bts (u.tx) = _; simp only [bts_app, bytes_bts]; simp [Ct.tx]
            have c16 := fun w => impl_RefinesContract (Ct.b 59 [] v t).bytes (Ct.b 59 [] v u).bytes w (by rw [Ct.bytes_size]; unfold maxLen; simp [Ct.tx] <;> omega) (by rw [Ct.bytes_size]; unfold maxLen; simp [Ct.tx] <;> omega)
            rw [ctv_of (wf_b' rfl rfl hw3 hw) (by simp [Ct.tx] <;> omega), ctv_of (wf_b' rfl rfl hw3 hw2) (by simp [Ct.tx] <;> omega), ref_seq2 hw hw2 hw3 hr [] [], ← es21, ← es22] at c16
            have ede1 : (⟨#[38]⟩ : ByteArray) ++ t.bytes ++ v.bytes = (Ct.b 38 [] t v).bytes := by show bts ([38]) ++ bts (t.tx) ++ bts (v.tx) = _; simp only [bts_app, bytes_bts]; simp [Ct.tx]
            have ede2 : (⟨#[38]⟩ : ByteArray) ++ u.bytes ++ v.bytes = (Ct.b 38 [] u v).bytes := by show bts ([38]) ++ bts (u.tx) ++ bts (v.tx) = _; simp only [bts_app, bytes_bts]; simp [Ct.tx]
            have c17 := fun w => impl_RefinesContract (Ct.b 38 [] t v).bytes (Ct.b 38 [] u v).bytes w (by rw [Ct.bytes_size]; unfold maxLen; simp [Ct.tx] <;> omega) (by rw [Ct.bytes_size]; unfold maxLen; simp [Ct.tx] <;> omega)
            rw [ctv_of (wf_b' rfl rfl hw hw3) (by simp [Ct.tx] <;> omega), ctv_of (wf_b' rfl rfl hw2 hw3) (by simp [Ct.tx] <;> omega), ref_dem hw hw2 hw3 hr [] [], ← ede1, ← ede2] at c17
            have ean1 : (⟨#[124]⟩ : ByteArray) ++ t.bytes ++ v.bytes = (Ct.b 124 [] t v).bytes := by show bts ([124]) ++ bts (t.tx) ++ bts (v.tx) = _; simp only [bts_app, bytes_bts]; simp [Ct.tx]
            have ean2 : (⟨#[124]⟩ : ByteArray) ++ u.bytes ++ v.bytes = (Ct.b 124 [] u v).bytes := by show bts ([124]) ++ bts (u.tx) ++ bts (v.tx) = _; simp only [bts_app, bytes_bts]; simp [Ct.tx]
            have c18 := fun w => impl_RefinesContract (Ct.b 124 [] t v).bytes (Ct.b 124 [] u v).bytes w (by rw [Ct.bytes_size]; unfold maxLen; simp [Ct.tx] <;> omega) (by rw [Ct.bytes_size]; unfold maxLen; simp [Ct.tx] <;> omega)
            rw [ctv_of (wf_b' rfl rfl hw hw3) (by simp [Ct.tx] <;> omega), ctv_of (wf_b' rfl rfl hw2 hw3) (by simp [Ct.tx] <;> omega), ref_ang hw hw2 hw3 hr [] [], ← ean1, ← ean2] at c18
            have eif1 : (⟨#[105, 53]⟩ : ByteArray) ++ t.bytes ++ v.bytes = (Ct.b 105 [53] t v).bytes := by show bts ([105, 53]) ++ bts (t.tx) ++ bts (v.tx) = _; simp only [bts_app, bytes_bts]; simp [Ct.tx]
            have eif2 : (⟨#[105, 53]⟩ : ByteArray) ++ u.bytes ++ v.bytes = (Ct.b 105 [53] u v).bytes := by show bts ([105, 53]) ++ bts (u.tx) ++ bts (v.tx) = _; simp only [bts_app, bytes_bts]; simp [Ct.tx]
            have c19 := fun w => impl_RefinesContract (Ct.b 105 [53] t v).bytes (Ct.b 105 [53] u v).bytes w (by rw [Ct.bytes_size]; unfold maxLen; simp [Ct.tx] <;> omega) (by rw [Ct.bytes_size]; unfold maxLen; simp [Ct.tx] <;> omega)
            rw [ctv_of (wf_b' rfl h53 hw hw3) (by simp [Ct.tx] <;> omega), ctv_of (wf_b' rfl h53 hw2 hw3) (by simp [Ct.tx] <;> omega), ref_if hw hw2 hw3 hr h53, ← eif1, ← eif2] at c19
            have C15 := Lib.hid c15
            clear c15
            have C16 := Lib.hid c16
            clear c16
            have C17 := Lib.hid c17
            clear c17
            have C18 := Lib.hid c18
            clear c18
            have C19 := Lib.hid c19
            clear c19
            clear es11 es12 es21 es22 ede1 ede2 ean1 ean2 eif1 eif2 hm3 h53 h54 hw hw2 hw3 h200 h202 h203 hr hsz hsz2 hl3 hlt
            generalize txt 16 (tr t) = T at *
            generalize txt 16 (tr u) = U at *
            (go_wp2_with fail; refine (C14.out _).mono ?_; rintro e w' ⟨rfl, hb⟩; have HB := Lib.hid (bgo HB.out hb); clear hb)
            (go_wp2_with fail; refine (C15.out _).mono ?_; rintro e w' ⟨rfl, hb⟩; have HB := Lib.hid (bgo HB.out hb); clear hb)
            (go_wp2_with fail; refine (C16.out _).mono ?_; rintro e w' ⟨rfl, hb⟩; have HB := Lib.hid (bgo HB.out hb); clear hb)
            (go_wp2_with fail; refine (C17.out _).mono ?_; rintro e w' ⟨rfl, hb⟩; have HB := Lib.hid (bgo HB.out hb); clear hb)
            (go_wp2_with fail; refine (C18.out _).mono ?_; rintro e w' ⟨rfl, hb⟩; have HB := Lib.hid (bgo HB.out hb); clear hb)
            (go_wp2_with fail; refine (C19.out _).mono ?_; rintro e w' ⟨rfl, hb⟩; have HB := Lib.hid (bgo HB.out hb); clear hb)
            (go_wp2_with fail; refine (C11.out _).mono ?_; rintro e w' ⟨rfl, hb⟩; have HB := Lib.hid (bgo HB.out hb); clear hb)
            (go_wp2_with fail; refine (C12.out _).mono ?_; rintro e w' ⟨rfl, hb⟩; have HB := Lib.hid (bgo HB.out hb); clear hb)
            (go_wp2_with fail; refine (C13.out _).mono ?_; rintro e w' ⟨rfl, hb⟩; have HB := Lib.hid (bgo HB.out hb); clear hb)
            (go_wp2_with fail; refine (C5.out _).mono ?_; rintro e w' ⟨rfl, hb⟩; have HB := Lib.hid (bgo HB.out hb); clear hb)
            (go_wp2_with fail; refine (C6.out _).mono ?_; rintro e w' ⟨rfl, hb⟩; have HB := Lib.hid (bgo HB.out hb); clear hb)
            (go_wp2_with fail; refine (C7.out _).mono ?_; rintro e w' ⟨rfl, hb⟩; have HB := Lib.hid (bgo HB.out hb); clear hb)
            (go_wp2_with fail; refine (C8.out _).mono ?_; rintro e w' ⟨rfl, hb⟩; have HB := Lib.hid (bgo HB.out hb); clear hb)
            (go_wp2_with fail; refine (C9.out _).mono ?_; rintro e w' ⟨rfl, hb⟩; have HB := Lib.hid (bgo HB.out hb); clear hb)
            go_wp2_with fail
            go_ret
            exact ⟨rfl, HB.out⟩
set_option maxRecDepth 100000 in
theorem lifted (os : Os) (started : os.Started) (H : Type) (enc : TypeId × Value → H) :
    ReturnsInHanded {} Try.checked os 4 .any (Rows.fnRefinesContractSpec.pre6 enc Try.prog Try.f4 Rows.fnRefinesContractRow.domain false) (Rows.fnRefinesContractSpec.post enc Try.prog Try.f4 false true false false) := by
  refine returnsInHanded_of_change (C := Try.checked) own started (by kernel_rfl) Try.func4
    (ChangeSpec.witness6 (enc := enc) (C := Try.checked) false ⟨#[], #[.slice none 0 0, .slice none 0 0], []⟩ 8 (by kernel_rfl) (by kernel_rfl) (by kernel_rfl) (by kernel_rfl)) ?_
  intro W base args ds gs before hval0 hW hcnd _
  have hval : ∀ (j : Nat) t v, Try.f4.params[j]? = some t → args[j]? = some v → Value.okWide Try.prog W .any base t v := hval0
  have hW' := hW
  obtain ⟨p, q, hA0, hV, rfl, hfz, hnd⟩ := hW
  have hA : DataW.TrodAll enc Try.prog W 0 (fun _ => true) true Try.f4.params.toList args.toList ds p := hA0
  rw [Try.params4] at hA hval
  obtain ⟨v0, vs0, d0, ds0, p0, q0, hargs, rfl, rfl, h0, r0⟩ := trodAll_cons hA
  obtain ⟨v1, vs1, d1, ds1, p1, q1, rfl, rfl, rfl, h1, r1⟩ := trodAll_cons r0
  obtain ⟨rfl, rfl, rfl⟩ := trodAll_nil r1
  obtain rfl : args = #[v0, v1] := by cases args; simp_all
  obtain ⟨rfl, rfl⟩ := trodVars_none hV
  obtain ⟨a0, len0, cap0, rfl⟩ := okWide_slice Try.underlying22 (hval 0 22 v0 rfl rfl)
  have k0 := h0
  have lt0 : ∀ x ∈ p0, x.block < W.heap.size := by obtain ⟨m, hm⟩ := k0; exact DataW.trod_lt m _ _ _ hm
  obtain ⟨z0, w0⟩ : ∃ zs, IsRow .u8 W a0 len0 cap0 zs := by
    obtain ⟨fuel, hf⟩ := h0
    rcases open_ints Try.underlying22 Try.underlying5 (by kernel_rfl) hf with ⟨hcs, _⟩ | ⟨x, l, c, zs, hcs, _, hl, hm, hz, _, hcell, hwz⟩
    · simp [Value.cells] at hcs
      obtain ⟨rfl, rfl, rfl⟩ := hcs
      exact ⟨[], .inl ⟨rfl, rfl, rfl, rfl⟩⟩
    · simp [Value.cells] at hcs
      obtain ⟨rfl, rfl, rfl⟩ := hcs
      exact ⟨zs, .inr ⟨_, rfl, hl, hm, by simpa using hz, hcell, hwz⟩⟩
  obtain ⟨a1, len1, cap1, rfl⟩ := okWide_slice Try.underlying22 (hval 1 22 v1 rfl rfl)
  have k1 := h1
  have lt1 : ∀ x ∈ p1, x.block < W.heap.size := by obtain ⟨m, hm⟩ := k1; exact DataW.trod_lt m _ _ _ hm
  obtain ⟨z1, w1⟩ : ∃ zs, IsRow .u8 W a1 len1 cap1 zs := by
    obtain ⟨fuel, hf⟩ := h1
    rcases open_ints Try.underlying22 Try.underlying5 (by kernel_rfl) hf with ⟨hcs, _⟩ | ⟨x, l, c, zs, hcs, _, hl, hm, hz, _, hcell, hwz⟩
    · simp [Value.cells] at hcs
      obtain ⟨rfl, rfl, rfl⟩ := hcs
      exact ⟨[], .inl ⟨rfl, rfl, rfl, rfl⟩⟩
    · simp [Value.cells] at hcs
      obtain ⟨rfl, rfl, rfl⟩ := hcs
      exact ⟨zs, .inr ⟨_, rfl, hl, hm, by simpa using hz, hcell, hwz⟩⟩
  clear hA0 hval0
  refine (walk a0 len0 cap0 z0 a1 len1 cap1 z1 W w0 w1).mono fun e W' ⟨he, bel⟩ => ?_
  subst he
  exact ⟨_, rfl, _, _, _, [], _, [], hW', trodAll_mk1 (shut_bool Try.underlying4 _), (trodAll_cons_mk (Below.trod laidOut (by kernel_rfl) (of_decide_eq_true (by kernel_rfl)) k0 bel lt0) (trodAll_cons_mk (Below.trod laidOut (by kernel_rfl) (of_decide_eq_true (by kernel_rfl)) k1 bel lt1) trodAll_mk0)), rfl, bel.frame _, fun h => by cases h⟩
theorem over : Rows.fnRefinesContractRow.holds Try.pinned (OpenSpec.ofChange Rows.fnRefinesContractSpec) :=
  OpenClaim.holds_of_wide 4 Try.f4 rfl rfl rfl rfl rfl rfl rfl ⟨rfl, rfl, rfl, rfl, rfl⟩ rfl rfl rfl rfl rfl (by kernel_rfl) Try.func4 (by kernel_rfl)
    (of_decide_eq_true (by kernel_rfl)) (by unfold Func.isWrapper; first | (rw [if_pos (by decide +kernel)]; kernel_rfl) | (rw [if_neg (by decide +kernel)]; exact ⟨rfl, rfl⟩))
    (fun os started H enc _ => lifted os started H enc)
end Go.Proofs.Ytfajaikkagmkeaa.fnRefinesContract
namespace Go.Proofs.Ytfajaikkagmkeaa
theorem fnRefinesContract_holds : Rows.FnRefinesContractSaid := fnRefinesContract.over
#print axioms fnRefinesContract_holds
end Go.Proofs.Ytfajaikkagmkeaa
