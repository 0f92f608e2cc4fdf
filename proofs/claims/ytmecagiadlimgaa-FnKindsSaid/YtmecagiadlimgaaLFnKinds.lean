/-
  For every input the law FnKinds returns true: a transformer is conjunctive or disjunctive exactly if it goes through and, or through or, and the dual is of the dual kind. No condition.
-/
import Derived.Test.YtmecagiadlimgaaRows
import Derived.Test.YtmecagiadlimgaaA14
import Derived.Test.YtmecagiadlimgaaA16
import Derived.Test.YtmecagiadlimgaaB5
import Derived.Test.YtmecagiadlimgaaRd9
import Derived.Test.YtmecagiadlimgaaQb
import Derived.WalkKit
import Derived.ProofKit
import Derived.OpenShut
import Derived.ShutString
import Derived.ChangeOld
import Derived.Below
namespace Go.Proofs.Ytmecagiadlimgaa.fnKinds
open Go.ChangeShapes Go.WideShapes Go.ChangeAt Go.RowKit Go.DC
open Go.ChangeMaps (open_string shut_string)
set_option linter.unusedVariables false
set_option linter.unusedSimpArgs false
set_option maxHeartbeats 400000
theorem own : ownKnob Try.prog.godebug = none := by kernel_rfl
theorem laidOut : laidOutB Try.prog = true := by kernel_rfl
/-- The first m numbers all have it. -/
def rowOk (Q : Nat → Bool) : Nat → Bool
  | 0 => true
  | m + 1 => rowOk Q m && Q m
/-- The first n rows have it whole. -/
def allOk (Q : Nat → Nat → Bool) : Nat → Bool
  | 0 => true
  | n + 1 => allOk Q n && rowOk (Q n) 16
theorem rowOk_all (Q : Nat → Bool) : ∀ m, rowOk Q m = (List.range m).all Q
  | 0 => rfl
  | m + 1 => by rw [rowOk, rowOk_all Q m, List.range_succ, List.all_append]; simp
theorem allOk_all (Q : Nat → Nat → Bool) : ∀ n, allOk Q n = (List.range n).all fun p => (List.range 16).all (Q p)
  | 0 => rfl
  | n + 1 => by rw [allOk, allOk_all Q n, rowOk_all, List.range_succ (n := n), List.all_append]; simp
theorem allOk_conj (x : Nat → Int) : allOk (fun p q => ap x (band p q) == band (ap x p) (ap x q)) 16 = conjB x := by
  rw [allOk_all]; unfold conjB all2B
  simp only [Bool.not_not, ap_nat]; rfl
theorem allOk_disj (x : Nat → Int) : allOk (fun p q => ap x (bor p q) == bor (ap x p) (ap x q)) 16 = disjB x := by
  rw [allOk_all]; unfold disjB all2B
  simp only [Bool.not_not, ap_nat]; rfl
theorem disj_dual {x : Nat → Int} (h : Tr x) : disjB (dual x) = conjB x := by
  rw [← conj_dual h.dual.dg]
  exact conjB_congr fun i hi => by
    have := dual_dual h (Cv.nat hi)
    rwa [ap_nat, ap_nat] at this
theorem compl_zero {a : Int} (ha : Cv a) : (bandn 15 a == 0) = (a == 15) := by
  have h : ∀ m : Fin 16, (bandn 15 (m.val : Int) == 0) = ((m.val : Int) == 15) := by decide +kernel
  exact cond_all (P := fun a => (bandn 15 a == 0) = (a == 15)) h ha.1 ha.2
theorem compl_full {a : Int} (ha : Cv a) : (bandn 15 a == 15) = (a == 0) := by
  have h : ∀ m : Fin 16, (bandn 15 (m.val : Int) == 15) = ((m.val : Int) == 0) := by decide +kernel
  exact cond_all (P := fun a => (bandn 15 a == 15) = (a == 0)) h ha.1 ha.2
set_option maxHeartbeats 4000000 in
set_option maxRecDepth 100000 in
theorem walk (a0 : Option Addr) (len0 cap0 : Nat) (z0 : List Int) (w : World) (w0 : IsRow .u8 w a0 len0 cap0 z0) :
    Calls Try.prog 6 #[.slice a0 len0 cap0] w fun e w' => e = .returned (.bool true) ∧ Below w.heap.size w w' := by
  by_cases hl : (1048576 : Int) < len0
  · clear w0
    go_enter Try.func6, Try.ntmps6
    go_wp2_with fail
    go_ret
    exact ⟨rfl, Below.refl _ _⟩
  have H0 := Lib.hid w0
  clear w0
  go_enter Try.func6, Try.ntmps6
  go_wp2_with fail
  refine (spec_DrawIsConjunctive a0 len0 cap0 z0 w H0.out).mono ?_
  rintro e w2 ⟨t, hz, rfl, hB⟩
  have HB := Lib.hid hB
  clear hB H0
  have c1 := fun w => impl_IsConjunctive t w
  have c2 := fun w => impl_IsDisjunctive t w
  have c3 := fun w => impl_IsStrict t w
  have c4 := fun w => impl_IsTerminating t w
  have c5 := fun w => spec_IsConjunctive t w (by unfold maxLen; omega)
  have c6 := fun w => spec_IsDisjunctive t w (by unfold maxLen; omega)
  have c7 := fun w => spec_IsStrict t w (by unfold maxLen; omega)
  have c8 := fun w => spec_IsTerminating t w (by unfold maxLen; omega)
  have c9 := fun w => impl_IsFunctional t w
  have c10 := fun w => spec_IsFunctional t w (by unfold maxLen; omega)
  have c11 := fun w => impl_TransValid t w
  rw [← eq_disj] at c6 c10
  clear hz
  cases ht : tvB t
  case false =>
    simp only [ht, Bool.false_and] at c1 c2 c3 c4 c5 c6 c7 c8 c9 c10 c11
    have C1 := Lib.hid c1
    clear c1
    have C2 := Lib.hid c2
    clear c2
    have C3 := Lib.hid c3
    clear c3
    have C4 := Lib.hid c4
    clear c4
    have C5 := Lib.hid c5
    clear c5
    have C6 := Lib.hid c6
    clear c6
    have C7 := Lib.hid c7
    clear c7
    have C8 := Lib.hid c8
    clear c8
    have C9 := Lib.hid c9
    clear c9
    have C10 := Lib.hid c10
    clear c10
    have C11 := Lib.hid c11
    clear c11
    clear ht
    (go_wp2_with fail; refine (C1.out _).mono ?_; rintro e w' ⟨rfl, hb⟩; have HB := Lib.hid (bgo HB.out hb); clear hb)
    (go_wp2_with fail; refine (C2.out _).mono ?_; rintro e w' ⟨rfl, hb⟩; have HB := Lib.hid (bgo HB.out hb); clear hb)
    (go_wp2_with fail; refine (C3.out _).mono ?_; rintro e w' ⟨rfl, hb⟩; have HB := Lib.hid (bgo HB.out hb); clear hb)
    (go_wp2_with fail; refine (C4.out _).mono ?_; rintro e w' ⟨rfl, hb⟩; have HB := Lib.hid (bgo HB.out hb); clear hb)
    (go_wp2_with fail; refine (C5.out _).mono ?_; rintro e w' ⟨rfl, rfl⟩)
    (go_wp2_with fail; refine (C6.out _).mono ?_; rintro e w' ⟨rfl, rfl⟩)
    (go_wp2_with fail; refine (C7.out _).mono ?_; rintro e w' ⟨rfl, rfl⟩)
    (go_wp2_with fail; refine (C8.out _).mono ?_; rintro e w' ⟨rfl, rfl⟩)
    (go_wp2_with fail; refine (C9.out _).mono ?_; rintro e w' ⟨rfl, hb⟩; have HB := Lib.hid (bgo HB.out hb); clear hb)
    (go_wp2_with fail; refine (C10.out _).mono ?_; rintro e w' ⟨rfl, rfl⟩)
    (go_wp2_with fail; refine (C11.out _).mono ?_; rintro e w' ⟨rfl, hb⟩; have HB := Lib.hid (bgo HB.out hb); clear hb)
    (go_wp2_with fail; refine (C9.out _).mono ?_; rintro e w' ⟨rfl, hb⟩; have HB := Lib.hid (bgo HB.out hb); clear hb)
    go_wp2_with fail
    go_ret
    exact ⟨rfl, HB.out⟩
  case true =>
    simp only [ht, Bool.true_and] at c1 c2 c3 c4 c5 c6 c7 c8 c9 c10 c11
    have hT := tvB_Tr ht
    have c12 := fun w => laws_dcDual t w
    rw [ht, orNo_true] at c12
    have hU := tvB_txt hT.dual
    have hDD := dual_Dg hT.dg
    have h15 : Cv (dg t 15) := hT.cv Cv.c15
    have h0 : Cv (dg t 0) := hT.cv Cv.c0
    have c13 := fun w => impl_IsConjunctive (txt 16 (dual (dg t))) w
    rw [hU, Bool.true_and, conjB_congr (dgt16 hDD), conj_dual hT.dg] at c13
    have c14 := fun w => impl_IsDisjunctive (txt 16 (dual (dg t))) w
    rw [hU, Bool.true_and, disjB_congr (dgt16 hDD), disj_dual hT] at c14
    have c15 := fun w => impl_IsStrict (txt 16 (dual (dg t))) w
    rw [hU, Bool.true_and, show dg (txt 16 (dual (dg t))) 0 = bandn 15 (dg t 15) from st_dual0 hT, compl_zero h15] at c15
    have c16 := fun w => impl_IsTerminating (txt 16 (dual (dg t))) w
    rw [hU, Bool.true_and, show dg (txt 16 (dual (dg t))) 15 = bandn 15 (dg t 0) from st_dual15 hT, compl_full h0] at c16
    obtain ⟨X, hX⟩ : ∃ X : Int → Int, X = fun q => ap (dg t) q := ⟨_, rfl⟩
    have c17 : ∀ q : Int, Cv q → ∀ w, Calls Try.prog 17 #[.string t, .int .i64 q] w fun e w' => e = .returned (.int .i64 (X q)) ∧ Below w.heap.size w w' := by
      intro q hq w
      have h := impl_ApplyTrans t q w
      rw [ht, cv_iff.2 hq, Bool.and_self, askV_true] at h
      rw [hX]; exact h
    have c18 : ∀ a b : Int, Cv a → Cv b → ∀ w, Calls Try.prog 26 #[.int .i64 a, .int .i64 b] w fun e w' => e = .returned (.int .i64 (band a b)) ∧ w = w' := by
      intro a b ha hb w
      have h := impl_AndCondition a b w
      rw [cv_iff.2 ha, cv_iff.2 hb, Bool.and_self, askV_true] at h
      exact h
    have c19 : ∀ a b : Int, Cv a → Cv b → ∀ w, Calls Try.prog 45 #[.int .i64 a, .int .i64 b] w fun e w' => e = .returned (.int .i64 (bor a b)) ∧ w = w' := by
      intro a b ha hb w
      have h := impl_OrCondition a b w
      rw [cv_iff.2 ha, cv_iff.2 hb, Bool.and_self, askV_true] at h
      exact h
    have hXc : ∀ q : Int, Cv q → Cv (X q) := fun q hq => by rw [hX]; exact hT.cv hq
    obtain ⟨P, hP⟩ : ∃ P : Nat → Nat → Bool, P = fun (p q : Nat) => (X (band (p : Int) (q : Int)) == band (X (p : Int)) (X (q : Int))) := ⟨_, rfl⟩
    obtain ⟨Q, hQ⟩ : ∃ Q : Nat → Nat → Bool, Q = fun (p q : Nat) => (X (bor (p : Int) (q : Int)) == bor (X (p : Int)) (X (q : Int))) := ⟨_, rfl⟩
    have eP : allOk P 16 = conjB (dg t) := by rw [hP, hX]; exact allOk_conj _
    have eQ : allOk Q 16 = disjB (dg t) := by rw [hQ, hX]; exact allOk_disj _
    rw [← eP] at c1 c5 c9 c10 c14
    rw [← eQ] at c2 c6 c9 c10 c13
    have HXc := Lib.hid hXc
    have HP := Lib.hid hP
    have HQ := Lib.hid hQ
    clear h15 h0 hDD hU hT ht hX eP eQ hXc hP hQ
    generalize txt 16 (dual (dg t)) = U at *
    generalize (dg t 0 == 0) = S at *
    generalize (dg t 15 == 15) = E at *
    obtain ⟨A, hA⟩ : ∃ A, allOk P 16 = A := ⟨_, rfl⟩
    obtain ⟨B, hB⟩ : ∃ B, allOk Q 16 = B := ⟨_, rfl⟩
    rw [hA] at c1 c5 c9 c10 c14
    rw [hB] at c2 c6 c9 c10 c13
    have HA := Lib.hid hA
    have HQB := Lib.hid hB
    clear hA hB
    have C1 := Lib.hid c1
    clear c1
    have C2 := Lib.hid c2
    clear c2
    have C3 := Lib.hid c3
    clear c3
    have C4 := Lib.hid c4
    clear c4
    have C5 := Lib.hid c5
    clear c5
    have C6 := Lib.hid c6
    clear c6
    have C7 := Lib.hid c7
    clear c7
    have C8 := Lib.hid c8
    clear c8
    have C9 := Lib.hid c9
    clear c9
    have C10 := Lib.hid c10
    clear c10
    have C11 := Lib.hid c11
    clear c11
    have C12 := Lib.hid c12
    clear c12
    have C13 := Lib.hid c13
    clear c13
    have C14 := Lib.hid c14
    clear c14
    have C15 := Lib.hid c15
    clear c15
    have C16 := Lib.hid c16
    clear c16
    have C17 := Lib.hid c17
    clear c17
    have C18 := Lib.hid c18
    clear c18
    have C19 := Lib.hid c19
    clear c19
    (go_wp2_with fail; refine (C1.out _).mono ?_; rintro e w' ⟨rfl, hb⟩; have HB := Lib.hid (bgo HB.out hb); clear hb)
    (go_wp2_with fail; refine (C2.out _).mono ?_; rintro e w' ⟨rfl, hb⟩; have HB := Lib.hid (bgo HB.out hb); clear hb)
    (go_wp2_with fail; refine (C3.out _).mono ?_; rintro e w' ⟨rfl, hb⟩; have HB := Lib.hid (bgo HB.out hb); clear hb)
    (go_wp2_with fail; refine (C4.out _).mono ?_; rintro e w' ⟨rfl, hb⟩; have HB := Lib.hid (bgo HB.out hb); clear hb)
    (go_wp2_with fail; refine (C5.out _).mono ?_; rintro e w' ⟨rfl, rfl⟩)
    (go_wp2_with fail; refine (C6.out _).mono ?_; rintro e w' ⟨rfl, rfl⟩)
    (go_wp2_with fail; refine (C7.out _).mono ?_; rintro e w' ⟨rfl, rfl⟩)
    (go_wp2_with fail; refine (C8.out _).mono ?_; rintro e w' ⟨rfl, rfl⟩)
    (go_wp2_with fail; refine (C9.out _).mono ?_; rintro e w' ⟨rfl, hb⟩; have HB := Lib.hid (bgo HB.out hb); clear hb)
    (go_wp2_with fail; refine (C10.out _).mono ?_; rintro e w' ⟨rfl, rfl⟩)
    (go_wp2_with fail; refine (C11.out _).mono ?_; rintro e w' ⟨rfl, hb⟩; have HB := Lib.hid (bgo HB.out hb); clear hb)
    (go_wp2_with fail; refine (C12.out _).mono ?_; rintro e w' ⟨rfl, hb⟩; have HB := Lib.hid (bgo HB.out hb); clear hb)
    go_wp2_with fail
    go_loopg [9, 10, 11] 16 (fun gk a o i wr => ∃ n : Nat, n ≤ 16 ∧ gk = 16 - n ∧ i = .int .i64 n ∧ a = .bool (allOk P n) ∧ o = .bool (allOk Q n) ∧ Below w.heap.size w wr)
    case atStart => exact ⟨0, by omega, rfl, rfl, rfl, rfl, HB.out⟩
    case round =>
      clear HB
      obtain ⟨n, hn, rfl, rfl, rfl, rfl, hb⟩ := hrel
      have HB := Lib.hid hb
      clear hb
      by_cases hlt : n < 16
      case pos =>
        have hdn : decide ((n : Int) < 16) = true := decide_eq_true (by omega)
        clear C1 C2 C3 C4 C5 C6 C7 C8 C9 C10 C11 C12 C13 C14 C15 C16 HA HQB
        obtain ⟨fa, hfa⟩ : ∃ fa : Nat → Bool, fa = fun m => allOk P n && rowOk (P n) m := ⟨_, rfl⟩
        obtain ⟨fo, hfo⟩ : ∃ fo : Nat → Bool, fo = fun m => allOk Q n && rowOk (Q n) m := ⟨_, rfl⟩
        have a0' : allOk P n = fa 0 := by rw [hfa]; simp [rowOk]
        have o0' : allOk Q n = fo 0 := by rw [hfo]; simp [rowOk]
        have a16 : allOk P (n + 1) = fa 16 := by rw [hfa]; rfl
        have o16 : allOk Q (n + 1) = fo 16 := by rw [hfo]; rfl
        have aS : ∀ m, fa (m + 1) = (fa m && P n m) := fun m => by rw [hfa]; simp [rowOk, Bool.and_assoc]
        have oS : ∀ m, fo (m + 1) = (fo m && Q n m) := fun m => by rw [hfo]; simp [rowOk, Bool.and_assoc]
        have HaS := Lib.hid aS
        have HoS := Lib.hid oS
        have Ha16 := Lib.hid a16
        have Ho16 := Lib.hid o16
        rw [a0', o0']
        clear hfa hfo a0' o0' a16 o16 aS oS
        go_wp2_with fail
        go_loopg [9, 10, 12] 16 (fun gk a o i wr => ∃ m : Nat, m ≤ 16 ∧ gk = 16 - m ∧ i = .int .i64 m ∧ a = .bool (fa m) ∧ o = .bool (fo m) ∧ Below w.heap.size w wr)
        case atStart => exact ⟨0, by omega, rfl, rfl, rfl, rfl, HB.out⟩
        case round =>
          clear HB
          obtain ⟨m, hm, rfl, rfl, rfl, rfl, hb⟩ := hrel
          have HB := Lib.hid hb
          clear hb
          by_cases hlt' : m < 16
          case pos =>
            have hdm : decide ((m : Int) < 16) = true := decide_eq_true (by omega)
            have cn := Cv.nat hlt
            have cm := Cv.nat hlt'
            have A1 := Lib.hid (C17.out n cn)
            have A2 := Lib.hid (C17.out m cm)
            have A3 := Lib.hid (C18.out n m cn cm)
            have A4 := Lib.hid (C17.out _ (cn.and cm))
            have A5 := Lib.hid (C18.out _ _ (HXc.out n cn) (HXc.out m cm))
            have A6 := Lib.hid (C19.out n m cn cm)
            have A7 := Lib.hid (C17.out _ (cn.or cm))
            have A8 := Lib.hid (C19.out _ _ (HXc.out n cn) (HXc.out m cm))
            have eP : (X (band n m) == band (X n) (X m)) = P n m := by rw [HP.out]
            have eQ : (X (bor n m) == bor (X n) (X m)) = Q n m := by rw [HQ.out]
            have ha := HaS.out m
            have ho := HoS.out m
            clear C17 C18 C19 HXc HP HQ cn cm HaS HoS
            generalize X (band n m) = x1 at *
            generalize band (X n) (X m) = x2 at *
            generalize X (bor n m) = x3 at *
            generalize bor (X n) (X m) = x4 at *
            generalize X n = xn at *
            generalize X m = xm at *
            generalize band (n : Int) m = b1 at *
            generalize bor (n : Int) m = b2 at *
            generalize P n m = pv at *
            generalize Q n m = qv at *
            have HeA := Lib.hid ha
            have HeO := Lib.hid ho
            clear ha ho
            generalize fa m = fam at *
            generalize fo m = fom at *
            cases fam <;> cases fom
            case false.false =>
              clear eP eQ
              (go_wp2_with fail; refine (A1.out _).mono ?_; rintro e w' ⟨rfl, hb⟩; have HB := Lib.hid (bgo HB.out hb); clear hb)
              (go_wp2_with fail; refine (A2.out _).mono ?_; rintro e w' ⟨rfl, hb⟩; have HB := Lib.hid (bgo HB.out hb); clear hb)
              go_wp2_with fail
              go_roundg (16 - (m + 1))
              case rel => exact ⟨m + 1, by omega, rfl, by go_num, congrArg Value.bool HeA.out.symm, congrArg Value.bool HeO.out.symm, HB.out⟩
              case measure => omega
            case false.true =>
              clear eP
              (go_wp2_with fail; refine (A1.out _).mono ?_; rintro e w' ⟨rfl, hb⟩; have HB := Lib.hid (bgo HB.out hb); clear hb)
              (go_wp2_with fail; refine (A2.out _).mono ?_; rintro e w' ⟨rfl, hb⟩; have HB := Lib.hid (bgo HB.out hb); clear hb)
              (go_wp2_with fail; refine (A6.out _).mono ?_; rintro e w' ⟨rfl, rfl⟩)
              (go_wp2_with fail; refine (A7.out _).mono ?_; rintro e w' ⟨rfl, hb⟩; have HB := Lib.hid (bgo HB.out hb); clear hb)
              (go_wp2_with fail; refine (A8.out _).mono ?_; rintro e w' ⟨rfl, rfl⟩)
              go_wp2_with fail
              go_roundg (16 - (m + 1))
              case rel => exact ⟨m + 1, by omega, rfl, by go_num, congrArg Value.bool HeA.out.symm, congrArg Value.bool HeO.out.symm, HB.out⟩
              case measure => omega
            case true.false =>
              clear eQ
              (go_wp2_with fail; refine (A1.out _).mono ?_; rintro e w' ⟨rfl, hb⟩; have HB := Lib.hid (bgo HB.out hb); clear hb)
              (go_wp2_with fail; refine (A2.out _).mono ?_; rintro e w' ⟨rfl, hb⟩; have HB := Lib.hid (bgo HB.out hb); clear hb)
              (go_wp2_with fail; refine (A3.out _).mono ?_; rintro e w' ⟨rfl, rfl⟩)
              (go_wp2_with fail; refine (A4.out _).mono ?_; rintro e w' ⟨rfl, hb⟩; have HB := Lib.hid (bgo HB.out hb); clear hb)
              (go_wp2_with fail; refine (A5.out _).mono ?_; rintro e w' ⟨rfl, rfl⟩)
              go_wp2_with fail
              go_roundg (16 - (m + 1))
              case rel => exact ⟨m + 1, by omega, rfl, by go_num, congrArg Value.bool HeA.out.symm, congrArg Value.bool HeO.out.symm, HB.out⟩
              case measure => omega
            case true.true =>
              (go_wp2_with fail; refine (A1.out _).mono ?_; rintro e w' ⟨rfl, hb⟩; have HB := Lib.hid (bgo HB.out hb); clear hb)
              (go_wp2_with fail; refine (A2.out _).mono ?_; rintro e w' ⟨rfl, hb⟩; have HB := Lib.hid (bgo HB.out hb); clear hb)
              (go_wp2_with fail; refine (A3.out _).mono ?_; rintro e w' ⟨rfl, rfl⟩)
              (go_wp2_with fail; refine (A4.out _).mono ?_; rintro e w' ⟨rfl, hb⟩; have HB := Lib.hid (bgo HB.out hb); clear hb)
              (go_wp2_with fail; refine (A5.out _).mono ?_; rintro e w' ⟨rfl, rfl⟩)
              (go_wp2_with fail; refine (A6.out _).mono ?_; rintro e w' ⟨rfl, rfl⟩)
              (go_wp2_with fail; refine (A7.out _).mono ?_; rintro e w' ⟨rfl, hb⟩; have HB := Lib.hid (bgo HB.out hb); clear hb)
              (go_wp2_with fail; refine (A8.out _).mono ?_; rintro e w' ⟨rfl, rfl⟩)
              go_wp2_with fail
              go_roundg (16 - (m + 1))
              case rel => exact ⟨m + 1, by omega, rfl, by go_num, congrArg Value.bool HeA.out.symm, congrArg Value.bool HeO.out.symm, HB.out⟩
              case measure => omega
          case neg =>
            obtain rfl : m = 16 := by omega
            rw [← Ha16.out, ← Ho16.out]
            go_wp2_with fail
            go_roundg (16 - (n + 1))
            case rel => exact ⟨n + 1, by omega, rfl, by go_num, rfl, rfl, HB.out⟩
            case measure => omega
      case neg =>
        obtain rfl : n = 16 := by omega
        clear C17 C18 C19 HXc HP HQ
        rw [HA.out, HQB.out]
        clear HA HQB
        cases A <;> cases B <;> cases S <;> cases E
        all_goals
          (go_wp2_with fail; refine (C13.out _).mono ?_; rintro e w' ⟨rfl, hb⟩; have HB := Lib.hid (bgo HB.out hb); clear hb)
          (go_wp2_with fail; refine (C14.out _).mono ?_; rintro e w' ⟨rfl, hb⟩; have HB := Lib.hid (bgo HB.out hb); clear hb)
          (go_wp2_with fail; refine (C15.out _).mono ?_; rintro e w' ⟨rfl, hb⟩; have HB := Lib.hid (bgo HB.out hb); clear hb)
          (go_wp2_with fail; refine (C16.out _).mono ?_; rintro e w' ⟨rfl, hb⟩; have HB := Lib.hid (bgo HB.out hb); clear hb)
          (go_wp2_with fail; refine (C9.out _).mono ?_; rintro e w' ⟨rfl, hb⟩; have HB := Lib.hid (bgo HB.out hb); clear hb)
          go_wp2_with fail
          go_ret
          exact ⟨rfl, HB.out⟩
set_option maxRecDepth 100000 in
theorem lifted (os : Os) (started : os.Started) (H : Type) (enc : TypeId × Value → H) :
    ReturnsInHanded {} Try.checked os 6 .any (Rows.fnKindsSpec.pre6 enc Try.prog Try.f6 Rows.fnKindsRow.domain false) (Rows.fnKindsSpec.post enc Try.prog Try.f6 false true false false) := by
  refine returnsInHanded_of_change (C := Try.checked) own started (by kernel_rfl) Try.func6
    (ChangeSpec.witness6 (enc := enc) (C := Try.checked) false ⟨#[], #[.slice none 0 0], []⟩ 8 (by kernel_rfl) (by kernel_rfl) (by kernel_rfl) (by kernel_rfl)) ?_
  intro W base args ds gs before hval0 hW hcnd _
  have hval : ∀ (j : Nat) t v, Try.f6.params[j]? = some t → args[j]? = some v → Value.okWide Try.prog W .any base t v := hval0
  have hW' := hW
  obtain ⟨p, q, hA0, hV, rfl, hfz, hnd⟩ := hW
  have hA : DataW.TrodAll enc Try.prog W 0 (fun _ => true) true Try.f6.params.toList args.toList ds p := hA0
  rw [Try.params6] at hA hval
  obtain ⟨v0, vs0, d0, ds0, p0, q0, hargs, rfl, rfl, h0, r0⟩ := trodAll_cons hA
  obtain ⟨rfl, rfl, rfl⟩ := trodAll_nil r0
  obtain rfl : args = #[v0] := by cases args; simp_all
  obtain ⟨rfl, rfl⟩ := trodVars_none hV
  obtain ⟨a0, len0, cap0, rfl⟩ := okWide_slice Try.underlying22 (hval 0 22 v0 rfl rfl)
  have k0 := h0
  have lt0 : ∀ x ∈ p0, x.block < W.heap.size := by obtain ⟨m, hm⟩ := k0; exact DataW.trod_lt m _ _ _ hm
  obtain ⟨z0, w0⟩ : ∃ zs, IsRow .u8 W a0 len0 cap0 zs := by
    obtain ⟨fuel, hf⟩ := h0
    rcases open_ints Try.underlying22 Try.underlying5 (by kernel_rfl) hf with ⟨hcs, _⟩ | ⟨x, l, c, zs, hcs, _, hl, hm, hz, _, hcell, hwz⟩
    · simp [Value.cells] at hcs
      obtain ⟨rfl, rfl, rfl⟩ := hcs
      exact ⟨[], .inl ⟨rfl, rfl, rfl, rfl⟩⟩
    · simp [Value.cells] at hcs
      obtain ⟨rfl, rfl, rfl⟩ := hcs
      exact ⟨zs, .inr ⟨_, rfl, hl, hm, by simpa using hz, hcell, hwz⟩⟩
  clear hA0 hval0
  refine (walk a0 len0 cap0 z0 W w0).mono fun e W' ⟨he, bel⟩ => ?_
  subst he
  exact ⟨_, rfl, _, _, _, [], _, [], hW', trodAll_mk1 (shut_bool Try.underlying4 _), (trodAll_cons_mk (Below.trod laidOut (by kernel_rfl) (of_decide_eq_true (by kernel_rfl)) k0 bel lt0) trodAll_mk0), rfl, bel.frame _, fun h => by cases h⟩
theorem over : Rows.fnKindsRow.holds Try.pinned (OpenSpec.ofChange Rows.fnKindsSpec) :=
  OpenClaim.holds_of_wide 6 Try.f6 rfl rfl rfl rfl rfl rfl rfl ⟨rfl, rfl, rfl, rfl, rfl⟩ rfl rfl rfl rfl rfl (by kernel_rfl) Try.func6 (by kernel_rfl)
    (of_decide_eq_true (by kernel_rfl)) (by unfold Func.isWrapper; first | (rw [if_pos (by decide +kernel)]; kernel_rfl) | (rw [if_neg (by decide +kernel)]; exact ⟨rfl, rfl⟩))
    (fun os started H enc _ => lifted os started H enc)
end Go.Proofs.Ytmecagiadlimgaa.fnKinds
namespace Go.Proofs.Ytmecagiadlimgaa
theorem fnKinds_holds : Rows.FnKindsSaid := fnKinds.over
#print axioms fnKinds_holds
end Go.Proofs.Ytmecagiadlimgaa
