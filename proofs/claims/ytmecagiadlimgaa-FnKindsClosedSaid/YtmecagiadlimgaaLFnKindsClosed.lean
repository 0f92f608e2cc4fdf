/-
  For every input the law FnKindsClosed returns true: sequences keep all kinds, demonic choices conjunctive and angelic ones disjunctive transformers, and both keep strict ones. No condition.
-/
import Derived.Test.YtmecagiadlimgaaRows
import Derived.Test.YtmecagiadlimgaaCu
import Derived.Test.YtmecagiadlimgaaA14
import Derived.Test.YtmecagiadlimgaaA16
import Derived.Test.YtmecagiadlimgaaB5
import Derived.Test.YtmecagiadlimgaaRd9
import Derived.Test.YtmecagiadlimgaaQb
import Derived.WalkKit
import Derived.ProofKit
import Derived.OpenShut
import Derived.ShutString
import Derived.ChangeOld
import Derived.Below
namespace Go.Proofs.Ytmecagiadlimgaa.fnKindsClosed
open Go.ChangeShapes Go.WideShapes Go.ChangeAt Go.RowKit Go.DC
open Go.ChangeMaps (open_string shut_string)
set_option linter.unusedVariables false
set_option linter.unusedSimpArgs false
set_option maxHeartbeats 400000
theorem own : ownKnob Try.prog.godebug = none := by kernel_rfl
theorem laidOut : laidOutB Try.prog = true := by kernel_rfl
theorem band_zero : band 0 0 = 0 := by decide
theorem bor_zero : bor 0 0 = 0 := by decide
set_option maxHeartbeats 4000000 in
set_option maxRecDepth 100000 in
theorem walk (a0 : Option Addr) (len0 cap0 : Nat) (z0 : List Int) (a1 : Option Addr) (len1 cap1 : Nat) (z1 : List Int) (w : World) (w0 : IsRow .u8 w a0 len0 cap0 z0) (w1 : IsRow .u8 w a1 len1 cap1 z1) :
    Calls Try.prog 5 #[.slice a0 len0 cap0, .slice a1 len1 cap1] w fun e w' => e = .returned (.bool true) ∧ Below w.heap.size w w' := by
  by_cases hl : (1048576 : Int) < len0
  · clear w0 w1
    go_enter Try.func5, Try.ntmps5
    go_wp2_with fail
    go_ret
    exact ⟨rfl, Below.refl _ _⟩
  by_cases hl1 : (1048576 : Int) < len1
  · clear w0 w1
    go_enter Try.func5, Try.ntmps5
    go_wp2_with fail
    go_ret
    exact ⟨rfl, Below.refl _ _⟩
  have H0 := Lib.hid w0
  have H1 := Lib.hid w1
  clear w0 w1
  go_enter Try.func5, Try.ntmps5
  go_wp2_with fail
  refine (spec_DrawIsFunctional a0 len0 cap0 z0 w H0.out).mono ?_
  rintro e w2 ⟨t, hz, rfl, hB⟩
  have HB := Lib.hid hB
  clear hB H0
  have c1 := fun w => impl_IsFunctional t w
  have c2 := fun w => spec_IsFunctional t w (by unfold maxLen; omega)
  have c3 := fun w => impl_TransValid t w
  rw [← eq_disj] at c2
  clear hz
  go_wp2_with fail
  refine (spec_DrawIsFunctional a1 len1 cap1 z1 _ (Go.Proofs.Ytmecagiadlimgaa.IsRow.go H1.out HB.out)).mono ?_
  rintro e w3 ⟨u, hz, rfl, hb⟩
  have HB := Lib.hid (bgo HB.out hb)
  clear hb hz H1
  have c4 := fun w => impl_TransValid u w
  cases ht : tvB t
  case false =>
    simp only [ht, Bool.false_and] at c1 c2 c3
    have C1 := Lib.hid c1
    clear c1
    have C2 := Lib.hid c2
    clear c2
    have C3 := Lib.hid c3
    clear c3
    clear ht c4
    (go_wp2_with fail; refine (C1.out _).mono ?_; rintro e w' ⟨rfl, hb⟩; have HB := Lib.hid (bgo HB.out hb); clear hb)
    (go_wp2_with fail; refine (C2.out _).mono ?_; rintro e w' ⟨rfl, rfl⟩)
    (go_wp2_with fail; refine (C3.out _).mono ?_; rintro e w' ⟨rfl, hb⟩; have HB := Lib.hid (bgo HB.out hb); clear hb)
    (go_wp2_with fail; refine (C1.out _).mono ?_; rintro e w' ⟨rfl, hb⟩; have HB := Lib.hid (bgo HB.out hb); clear hb)
    (go_wp2_with fail; refine (C2.out _).mono ?_; rintro e w' ⟨rfl, rfl⟩)
    go_wp2_with fail
    go_ret
    exact ⟨rfl, HB.out⟩
  case true =>
    simp only [ht, Bool.true_and] at c1 c2 c3
    cases hu : tvB u
    case false =>
      rw [hu] at c4
      have C1 := Lib.hid c1
      clear c1
      have C2 := Lib.hid c2
      clear c2
      have C3 := Lib.hid c3
      clear c3
      have C4 := Lib.hid c4
      clear c4
      clear ht hu
      generalize (conjB (dg t) && disjB (dg t) && (dg t 0 == 0) && (dg t 15 == 15)) = f at *
      (go_wp2_with fail; refine (C1.out _).mono ?_; rintro e w' ⟨rfl, hb⟩; have HB := Lib.hid (bgo HB.out hb); clear hb)
      (go_wp2_with fail; refine (C2.out _).mono ?_; rintro e w' ⟨rfl, rfl⟩)
      (go_wp2_with fail; refine (C3.out _).mono ?_; rintro e w' ⟨rfl, hb⟩; have HB := Lib.hid (bgo HB.out hb); clear hb)
      (go_wp2_with fail; refine (C4.out _).mono ?_; rintro e w' ⟨rfl, hb⟩; have HB := Lib.hid (bgo HB.out hb); clear hb)
      (go_wp2_with fail; refine (C1.out _).mono ?_; rintro e w' ⟨rfl, hb⟩; have HB := Lib.hid (bgo HB.out hb); clear hb)
      (go_wp2_with fail; refine (C2.out _).mono ?_; rintro e w' ⟨rfl, rfl⟩)
      go_wp2_with fail
      go_ret
      exact ⟨rfl, HB.out⟩
    case true =>
      rw [hu] at c4
      have hT := tvB_Tr ht
      have hU := tvB_Tr hu
      have dV := tvB_txt (hT.then hU)
      have dM := tvB_txt (hT.meet hU)
      have dJ := tvB_txt (hT.join hU)
      have c5 := fun w => laws_dcThen t u w
      have c6 := fun w => laws_dcMeet t u w
      have c7 := fun w => laws_dcJoin t u w
      rw [ht, hu, Bool.and_self, orNo_true] at c5 c6 c7
      have c8 := fun w => impl_IsConjunctive t w
      rw [ht, Bool.true_and] at c8
      have c9 := fun w => impl_IsConjunctive u w
      rw [hu, Bool.true_and] at c9
      have c10 := fun w => impl_IsConjunctive (txt 16 (thenT (dg t) (dg u))) w
      rw [dV, Bool.true_and, conjB_congr (dgt16 (hT.then hU).dg)] at c10
      have c11 := fun w => impl_IsConjunctive (txt 16 (meetT (dg t) (dg u))) w
      rw [dM, Bool.true_and, conjB_congr (dgt16 (hT.meet hU).dg)] at c11
      have c12 := fun w => impl_IsDisjunctive t w
      rw [ht, Bool.true_and] at c12
      have c13 := fun w => impl_IsDisjunctive u w
      rw [hu, Bool.true_and] at c13
      have c14 := fun w => impl_IsDisjunctive (txt 16 (thenT (dg t) (dg u))) w
      rw [dV, Bool.true_and, disjB_congr (dgt16 (hT.then hU).dg)] at c14
      have c15 := fun w => impl_IsDisjunctive (txt 16 (joinT (dg t) (dg u))) w
      rw [dJ, Bool.true_and, disjB_congr (dgt16 (hT.join hU).dg)] at c15
      have c16 := fun w => impl_IsStrict t w
      rw [ht, Bool.true_and] at c16
      have c17 := fun w => impl_IsStrict u w
      rw [hu, Bool.true_and] at c17
      have c18 := fun w => impl_IsStrict (txt 16 (thenT (dg t) (dg u))) w
      rw [dV, Bool.true_and, dgt16 (hT.then hU).dg 0 (by decide)] at c18
      have c19 := fun w => impl_IsStrict (txt 16 (meetT (dg t) (dg u))) w
      rw [dM, Bool.true_and, dgt16 (hT.meet hU).dg 0 (by decide)] at c19
      have c20 := fun w => impl_IsStrict (txt 16 (joinT (dg t) (dg u))) w
      rw [dJ, Bool.true_and, dgt16 (hT.join hU).dg 0 (by decide)] at c20
      have c21 := fun w => impl_IsTerminating t w
      rw [ht, Bool.true_and] at c21
      have c22 := fun w => impl_IsTerminating u w
      rw [hu, Bool.true_and] at c22
      have c23 := fun w => impl_IsTerminating (txt 16 (thenT (dg t) (dg u))) w
      rw [dV, Bool.true_and, dgt16 (hT.then hU).dg 15 (by decide)] at c23
      have c24 := fun w => impl_IsFunctional u w
      rw [hu, Bool.true_and, Bool.true_and, Bool.true_and, Bool.true_and] at c24
      have c25 := fun w => impl_IsFunctional (txt 16 (thenT (dg t) (dg u))) w
      rw [dV, Bool.true_and, Bool.true_and, Bool.true_and, Bool.true_and, conjB_congr (dgt16 (hT.then hU).dg), disjB_congr (dgt16 (hT.then hU).dg), dgt16 (hT.then hU).dg 0 (by decide), dgt16 (hT.then hU).dg 15 (by decide)] at c25
      have f1 : conjB (dg t) = true → conjB (dg u) = true → conjB (thenT (dg t) (dg u)) = true ∧ conjB (meetT (dg t) (dg u)) = true := fun h1 h2 => ⟨conj_then hT hU h1 h2, conj_meet hT hU h1 h2⟩
      have f2 : disjB (dg t) = true → disjB (dg u) = true → disjB (thenT (dg t) (dg u)) = true ∧ disjB (joinT (dg t) (dg u)) = true := fun h1 h2 => ⟨disj_then hT hU h1 h2, disj_join hT hU h1 h2⟩
      have f3 : (dg t 0 == 0) = true → (dg u 0 == 0) = true → (thenT (dg t) (dg u) 0 == 0) = true ∧ (meetT (dg t) (dg u) 0 == 0) = true ∧ (joinT (dg t) (dg u) 0 == 0) = true := fun h1 h2 => by
        have e1 := beq_iff_eq.1 h1
        have e2 := beq_iff_eq.1 h2
        unfold thenT meetT joinT
        rw [e1, e2, show (0 : Int).toNat = 0 from rfl, e1, band_zero, bor_zero]
        exact ⟨rfl, rfl, rfl⟩
      have f4 : (dg t 15 == 15) = true → (dg u 15 == 15) = true → (thenT (dg t) (dg u) 15 == 15) = true := fun h1 h2 => by
        have e1 := beq_iff_eq.1 h1
        have e2 := beq_iff_eq.1 h2
        unfold thenT
        rw [e2, show (15 : Int).toNat = 15 from rfl, e1]; rfl
      clear dV dM dJ hT hU ht hu
      generalize txt 16 (thenT (dg t) (dg u)) = V at *
      generalize txt 16 (meetT (dg t) (dg u)) = M at *
      generalize txt 16 (joinT (dg t) (dg u)) = J at *
      generalize conjB (thenT (dg t) (dg u)) = cv at *
      generalize conjB (meetT (dg t) (dg u)) = cm at *
      generalize disjB (thenT (dg t) (dg u)) = dv at *
      generalize disjB (joinT (dg t) (dg u)) = dj at *
      generalize (thenT (dg t) (dg u) 0 == 0) = sv at *
      generalize (meetT (dg t) (dg u) 0 == 0) = sm at *
      generalize (joinT (dg t) (dg u) 0 == 0) = sj at *
      generalize (thenT (dg t) (dg u) 15 == 15) = ev at *
      generalize conjB (dg t) = ct at *
      generalize conjB (dg u) = cu at *
      generalize disjB (dg t) = dt at *
      generalize disjB (dg u) = du at *
      generalize (dg t 0 == 0) = st at *
      generalize (dg u 0 == 0) = su at *
      generalize (dg t 15 == 15) = et at *
      generalize (dg u 15 == 15) = eu at *
      have hF : (ct && dt && st && et) = true → (cu && du && su && eu) = true → (cv && dv && sv && ev) = true := fun h1 h2 => by
        simp only [Bool.and_eq_true] at h1 h2
        rw [(f1 h1.1.1.1 h2.1.1.1).1, (f2 h1.1.1.2 h2.1.1.2).1, (f3 h1.1.2 h2.1.2).1, f4 h1.2 h2.2]; rfl
      generalize (ct && dt && st && et) = ft at *
      generalize (cu && du && su && eu) = fu at *
      generalize (cv && dv && sv && ev) = fv at *
      have F1 := Lib.hid f1
      have F2 := Lib.hid f2
      have F3 := Lib.hid f3
      have F4 := Lib.hid f4
      have F5 := Lib.hid hF
      clear f1 f2 f3 f4 hF
      have C1 := Lib.hid c1
      clear c1
      have C2 := Lib.hid c2
      clear c2
      have C3 := Lib.hid c3
      clear c3
      have C4 := Lib.hid c4
      clear c4
      have C5 := Lib.hid c5
      clear c5
      have C6 := Lib.hid c6
      clear c6
      have C7 := Lib.hid c7
      clear c7
      have C8 := Lib.hid c8
      clear c8
      have C9 := Lib.hid c9
      clear c9
      have C10 := Lib.hid c10
      clear c10
      have C11 := Lib.hid c11
      clear c11
      have C12 := Lib.hid c12
      clear c12
      have C13 := Lib.hid c13
      clear c13
      have C14 := Lib.hid c14
      clear c14
      have C15 := Lib.hid c15
      clear c15
      have C16 := Lib.hid c16
      clear c16
      have C17 := Lib.hid c17
      clear c17
      have C18 := Lib.hid c18
      clear c18
      have C19 := Lib.hid c19
      clear c19
      have C20 := Lib.hid c20
      clear c20
      have C21 := Lib.hid c21
      clear c21
      have C22 := Lib.hid c22
      clear c22
      have C23 := Lib.hid c23
      clear c23
      have C24 := Lib.hid c24
      clear c24
      have C25 := Lib.hid c25
      clear c25
      (go_wp2_with fail; refine (C1.out _).mono ?_; rintro e w' ⟨rfl, hb⟩; have HB := Lib.hid (bgo HB.out hb); clear hb)
      (go_wp2_with fail; refine (C2.out _).mono ?_; rintro e w' ⟨rfl, rfl⟩)
      (go_wp2_with fail; refine (C3.out _).mono ?_; rintro e w' ⟨rfl, hb⟩; have HB := Lib.hid (bgo HB.out hb); clear hb)
      (go_wp2_with fail; refine (C4.out _).mono ?_; rintro e w' ⟨rfl, hb⟩; have HB := Lib.hid (bgo HB.out hb); clear hb)
      (go_wp2_with fail; refine (C5.out _).mono ?_; rintro e w' ⟨rfl, hb⟩; have HB := Lib.hid (bgo HB.out hb); clear hb)
      go_upto_region 8 with fail
      go_cut [62] (fun c wx => c = .bool false ∧ Below w.heap.size w wx)
      case first =>
        cases ct
        · (go_wp2_with fail; refine (C8.out _).mono ?_; rintro e w' ⟨rfl, hb⟩; have HB := Lib.hid (bgo HB.out hb); clear hb)
          go_wp2_with fail
          go_meet
          exact ⟨rfl, HB.out⟩
        · cases cu
          · (go_wp2_with fail; refine (C8.out _).mono ?_; rintro e w' ⟨rfl, hb⟩; have HB := Lib.hid (bgo HB.out hb); clear hb)
            (go_wp2_with fail; refine (C9.out _).mono ?_; rintro e w' ⟨rfl, hb⟩; have HB := Lib.hid (bgo HB.out hb); clear hb)
            go_wp2_with fail
            go_meet
            exact ⟨rfl, HB.out⟩
          · obtain ⟨h1, h2⟩ := F1.out rfl rfl
            subst h1 h2
            (go_wp2_with fail; refine (C8.out _).mono ?_; rintro e w' ⟨rfl, hb⟩; have HB := Lib.hid (bgo HB.out hb); clear hb)
            (go_wp2_with fail; refine (C9.out _).mono ?_; rintro e w' ⟨rfl, hb⟩; have HB := Lib.hid (bgo HB.out hb); clear hb)
            (go_wp2_with fail; refine (C10.out _).mono ?_; rintro e w' ⟨rfl, hb⟩; have HB := Lib.hid (bgo HB.out hb); clear hb)
            (go_wp2_with fail; refine (C6.out _).mono ?_; rintro e w' ⟨rfl, hb⟩; have HB := Lib.hid (bgo HB.out hb); clear hb)
            (go_wp2_with fail; refine (C11.out _).mono ?_; rintro e w' ⟨rfl, hb⟩; have HB := Lib.hid (bgo HB.out hb); clear hb)
            go_wp2_with fail
            go_meet
            exact ⟨rfl, HB.out⟩
      case rest =>
        clear HB C8 C9 C10 C11 F1
        obtain ⟨rfl, hb⟩ := hcut
        have HB := Lib.hid hb
        clear hb
        go_upto_region 10 with fail
        go_cut [80] (fun c wx => c = .bool false ∧ Below w.heap.size w wx)
        case first =>
          cases dt
          · (go_wp2_with fail; refine (C12.out _).mono ?_; rintro e w' ⟨rfl, hb⟩; have HB := Lib.hid (bgo HB.out hb); clear hb)
            go_wp2_with fail
            go_meet
            exact ⟨rfl, HB.out⟩
          · cases du
            · (go_wp2_with fail; refine (C12.out _).mono ?_; rintro e w' ⟨rfl, hb⟩; have HB := Lib.hid (bgo HB.out hb); clear hb)
              (go_wp2_with fail; refine (C13.out _).mono ?_; rintro e w' ⟨rfl, hb⟩; have HB := Lib.hid (bgo HB.out hb); clear hb)
              go_wp2_with fail
              go_meet
              exact ⟨rfl, HB.out⟩
            · obtain ⟨h1, h2⟩ := F2.out rfl rfl
              subst h1 h2
              (go_wp2_with fail; refine (C12.out _).mono ?_; rintro e w' ⟨rfl, hb⟩; have HB := Lib.hid (bgo HB.out hb); clear hb)
              (go_wp2_with fail; refine (C13.out _).mono ?_; rintro e w' ⟨rfl, hb⟩; have HB := Lib.hid (bgo HB.out hb); clear hb)
              (go_wp2_with fail; refine (C14.out _).mono ?_; rintro e w' ⟨rfl, hb⟩; have HB := Lib.hid (bgo HB.out hb); clear hb)
              (go_wp2_with fail; refine (C7.out _).mono ?_; rintro e w' ⟨rfl, hb⟩; have HB := Lib.hid (bgo HB.out hb); clear hb)
              (go_wp2_with fail; refine (C15.out _).mono ?_; rintro e w' ⟨rfl, hb⟩; have HB := Lib.hid (bgo HB.out hb); clear hb)
              go_wp2_with fail
              go_meet
              exact ⟨rfl, HB.out⟩
        case rest =>
          clear HB C12 C13 C14 C15 F2
          obtain ⟨rfl, hb⟩ := hcut
          have HB := Lib.hid hb
          clear hb
          go_upto_region 12 with fail
          go_cut [8] (fun c wx => c = .bool (st && su) ∧ Below w.heap.size w wx)
          case first =>
            cases st
            · (go_wp2_with fail; refine (C16.out _).mono ?_; rintro e w' ⟨rfl, hb⟩; have HB := Lib.hid (bgo HB.out hb); clear hb)
              go_wp2_with fail
              go_meet
              exact ⟨rfl, HB.out⟩
            · (go_wp2_with fail; refine (C16.out _).mono ?_; rintro e w' ⟨rfl, hb⟩; have HB := Lib.hid (bgo HB.out hb); clear hb)
              (go_wp2_with fail; refine (C17.out _).mono ?_; rintro e w' ⟨rfl, hb⟩; have HB := Lib.hid (bgo HB.out hb); clear hb)
              go_wp2_with fail
              go_meet
              exact ⟨rfl, HB.out⟩
          case rest =>
            clear HB C16 C17
            obtain ⟨rfl, hb⟩ := hcut
            have HB := Lib.hid hb
            clear hb
            have G3 := Lib.hid (show (st && su) = true → sv = true ∧ sm = true ∧ sj = true from fun h => F3.out (Bool.and_eq_true_iff.1 h).1 (Bool.and_eq_true_iff.1 h).2)
            clear F3
            generalize (st && su) = S at *
            go_upto_region 13 with fail
            go_cut [9] (fun c wx => c = .bool (et && eu) ∧ Below w.heap.size w wx)
            case first =>
              cases et
              · (go_wp2_with fail; refine (C21.out _).mono ?_; rintro e w' ⟨rfl, hb⟩; have HB := Lib.hid (bgo HB.out hb); clear hb)
                go_wp2_with fail
                go_meet
                exact ⟨rfl, HB.out⟩
              · (go_wp2_with fail; refine (C21.out _).mono ?_; rintro e w' ⟨rfl, hb⟩; have HB := Lib.hid (bgo HB.out hb); clear hb)
                (go_wp2_with fail; refine (C22.out _).mono ?_; rintro e w' ⟨rfl, hb⟩; have HB := Lib.hid (bgo HB.out hb); clear hb)
                go_wp2_with fail
                go_meet
                exact ⟨rfl, HB.out⟩
            case rest =>
              clear HB C21 C22
              obtain ⟨rfl, hb⟩ := hcut
              have HB := Lib.hid hb
              clear hb
              have G4 := Lib.hid (show (et && eu) = true → ev = true from fun h => F4.out (Bool.and_eq_true_iff.1 h).1 (Bool.and_eq_true_iff.1 h).2)
              clear F4
              generalize (et && eu) = E at *
              cases S
              · skip
                cases E
                · skip
                  cases ft
                  · skip
                    (go_wp2_with fail; refine (C1.out _).mono ?_; rintro e w' ⟨rfl, hb⟩; have HB := Lib.hid (bgo HB.out hb); clear hb)
                    go_wp2_with fail
                    go_ret
                    exact ⟨rfl, HB.out⟩
                  · cases fu
                    · skip
                      (go_wp2_with fail; refine (C1.out _).mono ?_; rintro e w' ⟨rfl, hb⟩; have HB := Lib.hid (bgo HB.out hb); clear hb)
                      (go_wp2_with fail; refine (C24.out _).mono ?_; rintro e w' ⟨rfl, hb⟩; have HB := Lib.hid (bgo HB.out hb); clear hb)
                      go_wp2_with fail
                      go_ret
                      exact ⟨rfl, HB.out⟩
                    · have h5 := F5.out rfl rfl
                      subst h5
                      (go_wp2_with fail; refine (C1.out _).mono ?_; rintro e w' ⟨rfl, hb⟩; have HB := Lib.hid (bgo HB.out hb); clear hb)
                      (go_wp2_with fail; refine (C24.out _).mono ?_; rintro e w' ⟨rfl, hb⟩; have HB := Lib.hid (bgo HB.out hb); clear hb)
                      (go_wp2_with fail; refine (C25.out _).mono ?_; rintro e w' ⟨rfl, hb⟩; have HB := Lib.hid (bgo HB.out hb); clear hb)
                      go_wp2_with fail
                      go_ret
                      exact ⟨rfl, HB.out⟩
                · have h4 := G4.out rfl
                  subst h4
                  cases ft
                  · skip
                    (go_wp2_with fail; refine (C23.out _).mono ?_; rintro e w' ⟨rfl, hb⟩; have HB := Lib.hid (bgo HB.out hb); clear hb)
                    (go_wp2_with fail; refine (C1.out _).mono ?_; rintro e w' ⟨rfl, hb⟩; have HB := Lib.hid (bgo HB.out hb); clear hb)
                    go_wp2_with fail
                    go_ret
                    exact ⟨rfl, HB.out⟩
                  · cases fu
                    · skip
                      (go_wp2_with fail; refine (C23.out _).mono ?_; rintro e w' ⟨rfl, hb⟩; have HB := Lib.hid (bgo HB.out hb); clear hb)
                      (go_wp2_with fail; refine (C1.out _).mono ?_; rintro e w' ⟨rfl, hb⟩; have HB := Lib.hid (bgo HB.out hb); clear hb)
                      (go_wp2_with fail; refine (C24.out _).mono ?_; rintro e w' ⟨rfl, hb⟩; have HB := Lib.hid (bgo HB.out hb); clear hb)
                      go_wp2_with fail
                      go_ret
                      exact ⟨rfl, HB.out⟩
                    · have h5 := F5.out rfl rfl
                      subst h5
                      (go_wp2_with fail; refine (C23.out _).mono ?_; rintro e w' ⟨rfl, hb⟩; have HB := Lib.hid (bgo HB.out hb); clear hb)
                      (go_wp2_with fail; refine (C1.out _).mono ?_; rintro e w' ⟨rfl, hb⟩; have HB := Lib.hid (bgo HB.out hb); clear hb)
                      (go_wp2_with fail; refine (C24.out _).mono ?_; rintro e w' ⟨rfl, hb⟩; have HB := Lib.hid (bgo HB.out hb); clear hb)
                      (go_wp2_with fail; refine (C25.out _).mono ?_; rintro e w' ⟨rfl, hb⟩; have HB := Lib.hid (bgo HB.out hb); clear hb)
                      go_wp2_with fail
                      go_ret
                      exact ⟨rfl, HB.out⟩
              · obtain ⟨h1, h2, h3⟩ := G3.out rfl
                subst h1 h2 h3
                cases E
                · skip
                  cases ft
                  · skip
                    (go_wp2_with fail; refine (C18.out _).mono ?_; rintro e w' ⟨rfl, hb⟩; have HB := Lib.hid (bgo HB.out hb); clear hb)
                    (go_wp2_with fail; refine (C6.out _).mono ?_; rintro e w' ⟨rfl, hb⟩; have HB := Lib.hid (bgo HB.out hb); clear hb)
                    (go_wp2_with fail; refine (C19.out _).mono ?_; rintro e w' ⟨rfl, hb⟩; have HB := Lib.hid (bgo HB.out hb); clear hb)
                    (go_wp2_with fail; refine (C7.out _).mono ?_; rintro e w' ⟨rfl, hb⟩; have HB := Lib.hid (bgo HB.out hb); clear hb)
                    (go_wp2_with fail; refine (C20.out _).mono ?_; rintro e w' ⟨rfl, hb⟩; have HB := Lib.hid (bgo HB.out hb); clear hb)
                    (go_wp2_with fail; refine (C1.out _).mono ?_; rintro e w' ⟨rfl, hb⟩; have HB := Lib.hid (bgo HB.out hb); clear hb)
                    go_wp2_with fail
                    go_ret
                    exact ⟨rfl, HB.out⟩
                  · cases fu
                    · skip
                      (go_wp2_with fail; refine (C18.out _).mono ?_; rintro e w' ⟨rfl, hb⟩; have HB := Lib.hid (bgo HB.out hb); clear hb)
                      (go_wp2_with fail; refine (C6.out _).mono ?_; rintro e w' ⟨rfl, hb⟩; have HB := Lib.hid (bgo HB.out hb); clear hb)
                      (go_wp2_with fail; refine (C19.out _).mono ?_; rintro e w' ⟨rfl, hb⟩; have HB := Lib.hid (bgo HB.out hb); clear hb)
                      (go_wp2_with fail; refine (C7.out _).mono ?_; rintro e w' ⟨rfl, hb⟩; have HB := Lib.hid (bgo HB.out hb); clear hb)
                      (go_wp2_with fail; refine (C20.out _).mono ?_; rintro e w' ⟨rfl, hb⟩; have HB := Lib.hid (bgo HB.out hb); clear hb)
                      (go_wp2_with fail; refine (C1.out _).mono ?_; rintro e w' ⟨rfl, hb⟩; have HB := Lib.hid (bgo HB.out hb); clear hb)
                      (go_wp2_with fail; refine (C24.out _).mono ?_; rintro e w' ⟨rfl, hb⟩; have HB := Lib.hid (bgo HB.out hb); clear hb)
                      go_wp2_with fail
                      go_ret
                      exact ⟨rfl, HB.out⟩
                    · have h5 := F5.out rfl rfl
                      subst h5
                      (go_wp2_with fail; refine (C18.out _).mono ?_; rintro e w' ⟨rfl, hb⟩; have HB := Lib.hid (bgo HB.out hb); clear hb)
                      (go_wp2_with fail; refine (C6.out _).mono ?_; rintro e w' ⟨rfl, hb⟩; have HB := Lib.hid (bgo HB.out hb); clear hb)
                      (go_wp2_with fail; refine (C19.out _).mono ?_; rintro e w' ⟨rfl, hb⟩; have HB := Lib.hid (bgo HB.out hb); clear hb)
                      (go_wp2_with fail; refine (C7.out _).mono ?_; rintro e w' ⟨rfl, hb⟩; have HB := Lib.hid (bgo HB.out hb); clear hb)
                      (go_wp2_with fail; refine (C20.out _).mono ?_; rintro e w' ⟨rfl, hb⟩; have HB := Lib.hid (bgo HB.out hb); clear hb)
                      (go_wp2_with fail; refine (C1.out _).mono ?_; rintro e w' ⟨rfl, hb⟩; have HB := Lib.hid (bgo HB.out hb); clear hb)
                      (go_wp2_with fail; refine (C24.out _).mono ?_; rintro e w' ⟨rfl, hb⟩; have HB := Lib.hid (bgo HB.out hb); clear hb)
                      (go_wp2_with fail; refine (C25.out _).mono ?_; rintro e w' ⟨rfl, hb⟩; have HB := Lib.hid (bgo HB.out hb); clear hb)
                      go_wp2_with fail
                      go_ret
                      exact ⟨rfl, HB.out⟩
                · have h4 := G4.out rfl
                  subst h4
                  cases ft
                  · skip
                    (go_wp2_with fail; refine (C18.out _).mono ?_; rintro e w' ⟨rfl, hb⟩; have HB := Lib.hid (bgo HB.out hb); clear hb)
                    (go_wp2_with fail; refine (C6.out _).mono ?_; rintro e w' ⟨rfl, hb⟩; have HB := Lib.hid (bgo HB.out hb); clear hb)
                    (go_wp2_with fail; refine (C19.out _).mono ?_; rintro e w' ⟨rfl, hb⟩; have HB := Lib.hid (bgo HB.out hb); clear hb)
                    (go_wp2_with fail; refine (C7.out _).mono ?_; rintro e w' ⟨rfl, hb⟩; have HB := Lib.hid (bgo HB.out hb); clear hb)
                    (go_wp2_with fail; refine (C20.out _).mono ?_; rintro e w' ⟨rfl, hb⟩; have HB := Lib.hid (bgo HB.out hb); clear hb)
                    (go_wp2_with fail; refine (C23.out _).mono ?_; rintro e w' ⟨rfl, hb⟩; have HB := Lib.hid (bgo HB.out hb); clear hb)
                    (go_wp2_with fail; refine (C1.out _).mono ?_; rintro e w' ⟨rfl, hb⟩; have HB := Lib.hid (bgo HB.out hb); clear hb)
                    go_wp2_with fail
                    go_ret
                    exact ⟨rfl, HB.out⟩
                  · cases fu
                    · skip
                      (go_wp2_with fail; refine (C18.out _).mono ?_; rintro e w' ⟨rfl, hb⟩; have HB := Lib.hid (bgo HB.out hb); clear hb)
                      (go_wp2_with fail; refine (C6.out _).mono ?_; rintro e w' ⟨rfl, hb⟩; have HB := Lib.hid (bgo HB.out hb); clear hb)
                      (go_wp2_with fail; refine (C19.out _).mono ?_; rintro e w' ⟨rfl, hb⟩; have HB := Lib.hid (bgo HB.out hb); clear hb)
                      (go_wp2_with fail; refine (C7.out _).mono ?_; rintro e w' ⟨rfl, hb⟩; have HB := Lib.hid (bgo HB.out hb); clear hb)
                      (go_wp2_with fail; refine (C20.out _).mono ?_; rintro e w' ⟨rfl, hb⟩; have HB := Lib.hid (bgo HB.out hb); clear hb)
                      (go_wp2_with fail; refine (C23.out _).mono ?_; rintro e w' ⟨rfl, hb⟩; have HB := Lib.hid (bgo HB.out hb); clear hb)
                      (go_wp2_with fail; refine (C1.out _).mono ?_; rintro e w' ⟨rfl, hb⟩; have HB := Lib.hid (bgo HB.out hb); clear hb)
                      (go_wp2_with fail; refine (C24.out _).mono ?_; rintro e w' ⟨rfl, hb⟩; have HB := Lib.hid (bgo HB.out hb); clear hb)
                      go_wp2_with fail
                      go_ret
                      exact ⟨rfl, HB.out⟩
                    · have h5 := F5.out rfl rfl
                      subst h5
                      (go_wp2_with fail; refine (C18.out _).mono ?_; rintro e w' ⟨rfl, hb⟩; have HB := Lib.hid (bgo HB.out hb); clear hb)
                      (go_wp2_with fail; refine (C6.out _).mono ?_; rintro e w' ⟨rfl, hb⟩; have HB := Lib.hid (bgo HB.out hb); clear hb)
                      (go_wp2_with fail; refine (C19.out _).mono ?_; rintro e w' ⟨rfl, hb⟩; have HB := Lib.hid (bgo HB.out hb); clear hb)
                      (go_wp2_with fail; refine (C7.out _).mono ?_; rintro e w' ⟨rfl, hb⟩; have HB := Lib.hid (bgo HB.out hb); clear hb)
                      (go_wp2_with fail; refine (C20.out _).mono ?_; rintro e w' ⟨rfl, hb⟩; have HB := Lib.hid (bgo HB.out hb); clear hb)
                      (go_wp2_with fail; refine (C23.out _).mono ?_; rintro e w' ⟨rfl, hb⟩; have HB := Lib.hid (bgo HB.out hb); clear hb)
                      (go_wp2_with fail; refine (C1.out _).mono ?_; rintro e w' ⟨rfl, hb⟩; have HB := Lib.hid (bgo HB.out hb); clear hb)
                      (go_wp2_with fail; refine (C24.out _).mono ?_; rintro e w' ⟨rfl, hb⟩; have HB := Lib.hid (bgo HB.out hb); clear hb)
                      (go_wp2_with fail; refine (C25.out _).mono ?_; rintro e w' ⟨rfl, hb⟩; have HB := Lib.hid (bgo HB.out hb); clear hb)
                      go_wp2_with fail
                      go_ret
                      exact ⟨rfl, HB.out⟩
set_option maxRecDepth 100000 in
theorem lifted (os : Os) (started : os.Started) (H : Type) (enc : TypeId × Value → H) :
    ReturnsInHanded {} Try.checked os 5 .any (Rows.fnKindsClosedSpec.pre6 enc Try.prog Try.f5 Rows.fnKindsClosedRow.domain false) (Rows.fnKindsClosedSpec.post enc Try.prog Try.f5 false true false false) := by
  refine returnsInHanded_of_change (C := Try.checked) own started (by kernel_rfl) Try.func5
    (ChangeSpec.witness6 (enc := enc) (C := Try.checked) false ⟨#[], #[.slice none 0 0, .slice none 0 0], []⟩ 8 (by kernel_rfl) (by kernel_rfl) (by kernel_rfl) (by kernel_rfl)) ?_
  intro W base args ds gs before hval0 hW hcnd _
  have hval : ∀ (j : Nat) t v, Try.f5.params[j]? = some t → args[j]? = some v → Value.okWide Try.prog W .any base t v := hval0
  have hW' := hW
  obtain ⟨p, q, hA0, hV, rfl, hfz, hnd⟩ := hW
  have hA : DataW.TrodAll enc Try.prog W 0 (fun _ => true) true Try.f5.params.toList args.toList ds p := hA0
  rw [Try.params5] at hA hval
  obtain ⟨v0, vs0, d0, ds0, p0, q0, hargs, rfl, rfl, h0, r0⟩ := trodAll_cons hA
  obtain ⟨v1, vs1, d1, ds1, p1, q1, rfl, rfl, rfl, h1, r1⟩ := trodAll_cons r0
  obtain ⟨rfl, rfl, rfl⟩ := trodAll_nil r1
  obtain rfl : args = #[v0, v1] := by cases args; simp_all
  obtain ⟨rfl, rfl⟩ := trodVars_none hV
  obtain ⟨a0, len0, cap0, rfl⟩ := okWide_slice Try.underlying22 (hval 0 22 v0 rfl rfl)
  have k0 := h0
  have lt0 : ∀ x ∈ p0, x.block < W.heap.size := by obtain ⟨m, hm⟩ := k0; exact DataW.trod_lt m _ _ _ hm
  obtain ⟨z0, w0⟩ : ∃ zs, IsRow .u8 W a0 len0 cap0 zs := by
    obtain ⟨fuel, hf⟩ := h0
    rcases open_ints Try.underlying22 Try.underlying5 (by kernel_rfl) hf with ⟨hcs, _⟩ | ⟨x, l, c, zs, hcs, _, hl, hm, hz, _, hcell, hwz⟩
    · simp [Value.cells] at hcs
      obtain ⟨rfl, rfl, rfl⟩ := hcs
      exact ⟨[], .inl ⟨rfl, rfl, rfl, rfl⟩⟩
    · simp [Value.cells] at hcs
      obtain ⟨rfl, rfl, rfl⟩ := hcs
      exact ⟨zs, .inr ⟨_, rfl, hl, hm, by simpa using hz, hcell, hwz⟩⟩
  obtain ⟨a1, len1, cap1, rfl⟩ := okWide_slice Try.underlying22 (hval 1 22 v1 rfl rfl)
  have k1 := h1
  have lt1 : ∀ x ∈ p1, x.block < W.heap.size := by obtain ⟨m, hm⟩ := k1; exact DataW.trod_lt m _ _ _ hm
  obtain ⟨z1, w1⟩ : ∃ zs, IsRow .u8 W a1 len1 cap1 zs := by
    obtain ⟨fuel, hf⟩ := h1
    rcases open_ints Try.underlying22 Try.underlying5 (by kernel_rfl) hf with ⟨hcs, _⟩ | ⟨x, l, c, zs, hcs, _, hl, hm, hz, _, hcell, hwz⟩
    · simp [Value.cells] at hcs
      obtain ⟨rfl, rfl, rfl⟩ := hcs
      exact ⟨[], .inl ⟨rfl, rfl, rfl, rfl⟩⟩
    · simp [Value.cells] at hcs
      obtain ⟨rfl, rfl, rfl⟩ := hcs
      exact ⟨zs, .inr ⟨_, rfl, hl, hm, by simpa using hz, hcell, hwz⟩⟩
  clear hA0 hval0
  refine (walk a0 len0 cap0 z0 a1 len1 cap1 z1 W w0 w1).mono fun e W' ⟨he, bel⟩ => ?_
  subst he
  exact ⟨_, rfl, _, _, _, [], _, [], hW', trodAll_mk1 (shut_bool Try.underlying4 _), (trodAll_cons_mk (Below.trod laidOut (by kernel_rfl) (of_decide_eq_true (by kernel_rfl)) k0 bel lt0) (trodAll_cons_mk (Below.trod laidOut (by kernel_rfl) (of_decide_eq_true (by kernel_rfl)) k1 bel lt1) trodAll_mk0)), rfl, bel.frame _, fun h => by cases h⟩
theorem over : Rows.fnKindsClosedRow.holds Try.pinned (OpenSpec.ofChange Rows.fnKindsClosedSpec) :=
  OpenClaim.holds_of_wide 5 Try.f5 rfl rfl rfl rfl rfl rfl rfl ⟨rfl, rfl, rfl, rfl, rfl⟩ rfl rfl rfl rfl rfl (by kernel_rfl) Try.func5 (by kernel_rfl)
    (of_decide_eq_true (by kernel_rfl)) (by unfold Func.isWrapper; first | (rw [if_pos (by decide +kernel)]; kernel_rfl) | (rw [if_neg (by decide +kernel)]; exact ⟨rfl, rfl⟩))
    (fun os started H enc _ => lifted os started H enc)
end Go.Proofs.Ytmecagiadlimgaa.fnKindsClosed
namespace Go.Proofs.Ytmecagiadlimgaa
theorem fnKindsClosed_holds : Rows.FnKindsClosedSaid := fnKindsClosed.over
#print axioms fnKindsClosed_holds
end Go.Proofs.Ytmecagiadlimgaa
