/-
  For every input the law FnImages returns true: images and boxes are adjoint, diamonds are images of the turned relation, and boxes are dual to diamonds. No condition.
-/
import Derived.Test.YtlebkjjknggjfaaRows
import Derived.Test.YtlebkjjknggjfaaA14
import Derived.Test.YtlebkjjknggjfaaB6
import Derived.Test.YtlebkjjknggjfaaRd5
import Derived.Test.YtlebkjjknggjfaaPx
import Derived.Test.YtlebkjjknggjfaaPR
import Derived.WalkKit
import Derived.ProofKit
import Derived.OpenShut
import Derived.ShutString
import Derived.ChangeOld
import Derived.Below
namespace Go.Proofs.Ytlebkjjknggjfaa.fnImages
open Go.ChangeShapes Go.WideShapes Go.ChangeAt Go.RowKit Go.DC
open Go.ChangeMaps (open_string shut_string)
set_option linter.unusedVariables false
set_option linter.unusedSimpArgs false
set_option maxHeartbeats 400000
theorem own : ownKnob Try.prog.godebug = none := by kernel_rfl
theorem laidOut : laidOutB Try.prog = true := by kernel_rfl
theorem relates_all {r : ByteArray} (hr : dvB 4 r = true) (R : Nat → Nat → Bool) (hR : ∀ s t, s < 4 → t < 4 → hasb (dg r s) t = R s t) : ∀ s t : Nat, s < 4 → t < 4 → ∀ w, Calls Try.prog 23 #[.string r, .int .i64 s, .int .i64 t] w fun e w' => e = .returned (.bool (R s t)) ∧ Below w.heap.size w w' := by
  intro s t hs ht w
  have h := impl_Relates r s t w
  rw [relates_at hr hs ht, hR s t hs ht] at h
  exact h
theorem hasState_at {p : Int} (hp : Cv p) {s : Nat} (hs : s < 4) : hasState p s = hasb p s := by
  unfold hasState; rw [cv_iff.2 hp, sv_at hs]; rfl
theorem has_all {p : Int} (hp : Cv p) (P : Nat → Bool) (hP : ∀ s, s < 4 → hasb p s = P s) : ∀ s : Nat, s < 4 → ∀ w, Calls Try.prog 48 #[.int .i64 p, .int .i64 s] w fun e w' => e = .returned (.bool (P s)) ∧ w = w' := by
  intro s hs w
  have h := impl_HasState p s w
  rw [hasState_at hp hs, hP s hs] at h
  exact h
set_option maxRecDepth 100000 in
theorem walk (a0 : Option Addr) (len0 cap0 : Nat) (z0 : List Int) (a1 : Option Addr) (len1 cap1 : Nat) (z1 : List Int) (w : World) (w0 : IsRow .u8 w a0 len0 cap0 z0) (w1 : IsRow .u8 w a1 len1 cap1 z1) :
    Calls Try.prog 9 #[.slice a0 len0 cap0, .slice a1 len1 cap1] w fun e w' => e = .returned (.bool true) ∧ Below w.heap.size w w' := by
  by_cases hl : (1048576 : Int) < len0
  · clear w0 w1
    go_enter Try.func9, Try.ntmps9
    go_wp2_with fail
    go_ret
    exact ⟨rfl, Below.refl _ _⟩
  by_cases hl1 : (1048576 : Int) < len1
  · clear w0 w1
    go_enter Try.func9, Try.ntmps9
    go_wp2_with fail
    go_ret
    exact ⟨rfl, Below.refl _ _⟩
  have H0 := Lib.hid w0
  clear w0 w1
  go_enter Try.func9, Try.ntmps9
  go_wp2_with fail
  refine (spec_DrawImageOf a0 len0 cap0 z0 w H0.out).mono ?_
  rintro e w2 ⟨r, p, hz, rfl, hB⟩
  have HB := Lib.hid hB
  clear hB H0
  have c1 := fun w => impl_ImageOf r p w
  have c2 := fun w => impl_DiamondOf r p w
  have c3 := fun w => impl_BoxOf r p w
  have c4 := fun w => spec_ImageOf r p w (by unfold maxLen; omega)
  have c5 := fun w => spec_DiamondOf r p w (by unfold maxLen; omega)
  have c6 := fun w => spec_BoxOf r p w (by unfold maxLen; omega)
  rw [← eq_image] at c4
  clear hz
  cases hv : (dvB 4 r && cv p)
  case false =>
    rw [hv] at c1 c2 c3 c4 c5 c6
    rw [askV_false] at c1 c2 c3 c4 c5 c6
    have C1 := Lib.hid c1
    clear c1
    have C2 := Lib.hid c2
    clear c2
    have C3 := Lib.hid c3
    clear c3
    have C4 := Lib.hid c4
    clear c4
    have C5 := Lib.hid c5
    clear c5
    have C6 := Lib.hid c6
    clear c6
    clear hv
    (go_wp2_with fail; refine (C1.out _).mono ?_; rintro e w' ⟨rfl, hb⟩; have HB := Lib.hid (bgo HB.out hb); clear hb)
    (go_wp2_with fail; refine (C2.out _).mono ?_; rintro e w' ⟨rfl, hb⟩; have HB := Lib.hid (bgo HB.out hb); clear hb)
    (go_wp2_with fail; refine (C3.out _).mono ?_; rintro e w' ⟨rfl, hb⟩; have HB := Lib.hid (bgo HB.out hb); clear hb)
    (go_wp2_with fail; refine (C4.out _).mono ?_; rintro e w' ⟨rfl, rfl⟩)
    (go_wp2_with fail; refine (C5.out _).mono ?_; rintro e w' ⟨rfl, rfl⟩)
    (go_wp2_with fail; refine (C6.out _).mono ?_; rintro e w' ⟨rfl, rfl⟩)
    (go_wp2_with fail; refine (C4.out _).mono ?_; rintro e w' ⟨rfl, rfl⟩)
    (go_wp2_with fail; refine (C5.out _).mono ?_; rintro e w' ⟨rfl, rfl⟩)
    (go_wp2_with fail; refine (C6.out _).mono ?_; rintro e w' ⟨rfl, rfl⟩)
    go_wp2_with fail
    go_ret
    exact ⟨rfl, HB.out⟩
  case true =>
    rw [hv] at c1 c2 c3 c4 c5 c6
    rw [askV_true] at c1 c2 c3 c4 c5 c6
    obtain ⟨hr, hp⟩ := Bool.and_eq_true_iff.1 hv
    have hX := dvB_Dg hr
    have hcp : Cv p := cv_iff.1 hp
    have hcq : Cv ((len1 : Int) % 16) := ⟨by omega, by omega⟩
    obtain ⟨q, hq⟩ : ∃ q, q = (len1 : Int) % 16 := ⟨_, rfl⟩
    rw [← hq] at hcq
    have hvq := cv_iff.2 hcq
    obtain ⟨R, hR⟩ : ∃ R : Nat → Nat → Bool, R = fun s t => hasb (dg r s) t := ⟨_, rfl⟩
    obtain ⟨P, hP⟩ : ∃ P : Nat → Bool, P = fun t => hasb p t := ⟨_, rfl⟩
    have c7 := relates_all hr R (fun s t _ _ => by rw [hR])
    have c8 := has_all hcp P (fun s _ => by rw [hP])
    have c9 := has_all (dia_cv (dg r) p) (fun s => someB (R s) P 4) (fun s hs => by rw [hR, hP, some_dia hX hcp hs])
    have c10 := has_all (box_cv (dg r) p) (fun s => allB (R s) P 4) (fun s hs => by rw [hR, hP, all_box hX hcp hs])
    have c11 := fun w => impl_TurnRel r w
    rw [hr, orNo_true] at c11
    have c12 := fun w => impl_Implies (dia (turn (dg r)) p) q w
    rw [cv_iff.2 (dia_cv _ _), hvq, Bool.and_self, Bool.true_and, im_adj hX hcp hcq] at c12
    have c13 := fun w => impl_BoxOf r q w
    rw [hr, hvq, Bool.and_self, askV_true] at c13
    have c14 := fun w => impl_Implies p (boxR (dg r) q) w
    rw [hp, cv_iff.2 (box_cv _ _), Bool.and_self, Bool.true_and] at c14
    have c15 := fun w => impl_ImageOf (txt 4 (turn (dg r))) p w
    rw [dvB_txt (turn_Dg (dg r)), hp, Bool.and_self, askV_true, im_turn hX] at c15
    have hcn := Cv.andn Cv.c15 hcp
    have c16 := fun w => impl_NotCondition p w
    rw [hp, if_pos rfl] at c16
    have c17 := fun w => impl_DiamondOf r (bandn 15 p) w
    rw [hr, cv_iff.2 hcn, Bool.and_self, askV_true] at c17
    have c18 := fun w => impl_NotCondition (dia (dg r) (bandn 15 p)) w
    rw [cv_iff.2 (dia_cv _ _), if_pos rfl, ← im_box hX hcp] at c18
    have c19 := fun w => impl_DomainOf r w
    rw [hr, askV_true] at c19
    have c20 := fun w => impl_DiamondOf r 15 w
    rw [hr, show cv 15 = true from rfl, Bool.and_self, askV_true] at c20
    have c21 := fun w => impl_IsFunction r w
    rw [hr, Bool.true_and, im_fun hX] at c21
    have c22 := fun w => impl_CountPairs r w
    rw [hr, askV_true] at c22
    have ha : ¬ dia (turn (dg r)) p < 0 := by have := (dia_cv (turn (dg r)) p).1; omega
    clear hX hr hp hv hvq hR hP hcp hcn hcq
    generalize txt 4 (turn (dg r)) = T at *
    generalize dia (turn (dg r)) p = a at *
    generalize dia (dg r) (bandn 15 p) = dn at *
    generalize dia (dg r) p = d at *
    generalize (bandn p (boxR (dg r) q) == 0) = im at *
    generalize boxR (dg r) q = bq at *
    generalize boxR (dg r) p = b at *
    generalize bandn 15 p = np at *
    generalize dia (dg r) 15 = dom at *
    generalize cntP (dg r) 4 = cnt at *
    subst hq
    have C1 := Lib.hid c1
    clear c1
    have C2 := Lib.hid c2
    clear c2
    have C3 := Lib.hid c3
    clear c3
    have C4 := Lib.hid c4
    clear c4
    have C5 := Lib.hid c5
    clear c5
    have C6 := Lib.hid c6
    clear c6
    have C7 := Lib.hid c7
    clear c7
    have C8 := Lib.hid c8
    clear c8
    have C9 := Lib.hid c9
    clear c9
    have C10 := Lib.hid c10
    clear c10
    have C11 := Lib.hid c11
    clear c11
    have C12 := Lib.hid c12
    clear c12
    have C13 := Lib.hid c13
    clear c13
    have C14 := Lib.hid c14
    clear c14
    have C15 := Lib.hid c15
    clear c15
    have C16 := Lib.hid c16
    clear c16
    have C17 := Lib.hid c17
    clear c17
    have C18 := Lib.hid c18
    clear c18
    have C19 := Lib.hid c19
    clear c19
    have C20 := Lib.hid c20
    clear c20
    have C21 := Lib.hid c21
    clear c21
    have C22 := Lib.hid c22
    clear c22
    (go_wp2_with fail; refine (C1.out _).mono ?_; rintro e w' ⟨rfl, hb⟩; have HB := Lib.hid (bgo HB.out hb); clear hb)
    (go_wp2_with fail; refine (C2.out _).mono ?_; rintro e w' ⟨rfl, hb⟩; have HB := Lib.hid (bgo HB.out hb); clear hb)
    (go_wp2_with fail; refine (C3.out _).mono ?_; rintro e w' ⟨rfl, hb⟩; have HB := Lib.hid (bgo HB.out hb); clear hb)
    (go_wp2_with fail; refine (C4.out _).mono ?_; rintro e w' ⟨rfl, rfl⟩)
    (go_wp2_with fail; refine (C5.out _).mono ?_; rintro e w' ⟨rfl, rfl⟩)
    (go_wp2_with fail; refine (C6.out _).mono ?_; rintro e w' ⟨rfl, rfl⟩)
    (go_wp2_with fail; refine (C11.out _).mono ?_; rintro e w' ⟨rfl, hb⟩; have HB := Lib.hid (bgo HB.out hb); clear hb)
    go_wp2_with fail
    clear C4 C5 C6 C1 C2 C3 C11
    go_loopg [13] 4 (fun gk i wr => ∃ n : Nat, n ≤ 4 ∧ gk = 4 - n ∧ i = .int .i64 n ∧ Below w.heap.size w wr)
    case atStart => exact ⟨0, by omega, rfl, rfl, HB.out⟩
    case round =>
      clear HB
      obtain ⟨n, hn, rfl, rfl, hb⟩ := hrel
      have HB := Lib.hid hb
      clear hb
      by_cases hlt : n < 4
      case pos =>
        have hdn : decide ((n : Int) < 4) = true := decide_eq_true (by omega)
        go_wp2_with fail
        go_loopg [14, 15, 16] 4 (fun gk o a i wr => ∃ k : Nat, k ≤ 4 ∧ gk = 4 - k ∧ i = .int .i64 k ∧ o = .bool (someB (R n) P k) ∧ a = .bool (allB (R n) P k) ∧ Below w.heap.size w wr)
        case atStart => exact ⟨0, by omega, rfl, rfl, rfl, rfl, HB.out⟩
        case round =>
          clear HB
          obtain ⟨k, hk, rfl, rfl, rfl, rfl, hb⟩ := hrel
          have HB := Lib.hid hb
          clear hb
          by_cases hlt' : k < 4
          case pos =>
            have hdk : decide ((k : Int) < 4) = true := decide_eq_true (by omega)
            have A7 := Lib.hid (C7.out n k hlt hlt')
            have A8 := Lib.hid (C8.out k hlt')
            have HX := Lib.hid (show someB (R n) P (k + 1) = (someB (R n) P k || (R n k && P k)) from rfl)
            have HY := Lib.hid (show allB (R n) P (k + 1) = (allB (R n) P k && (!R n k || P k)) from rfl)
            generalize someB (R n) P k = v at *
            generalize allB (R n) P k = u at *
            generalize R n k = x at *
            generalize P k = y at *
            cases v <;> cases u <;> cases x
            all_goals
              (go_wp2_with fail; refine (A7.out _).mono ?_; rintro e w' ⟨rfl, hb⟩; have HB := Lib.hid (bgo HB.out hb); clear hb)
              go_wp2_with (go_at_call 48; refine (A8.out _).mono ?_; rintro e w' ⟨rfl, rfl⟩)
              go_roundg (4 - (k + 1))
            all_goals first
              | exact ⟨k + 1, by omega, rfl, by go_num, by rw [HX.out]; cases y <;> rfl, by rw [HY.out]; cases y <;> rfl, HB.out⟩
              | omega
          case neg =>
            obtain rfl : k = 4 := by omega
            have A9 := Lib.hid (C9.out n hlt)
            have A10 := Lib.hid (C10.out n hlt)
            generalize someB (R n) P 4 = v at *
            generalize allB (R n) P 4 = u at *
            (go_wp2_with fail; refine (A9.out _).mono ?_; rintro e w' ⟨rfl, rfl⟩)
            (go_wp2_with fail; refine (A10.out _).mono ?_; rintro e w' ⟨rfl, rfl⟩)
            go_wp2_with fail
            go_roundg (4 - (n + 1))
            case rel => exact ⟨n + 1, by omega, rfl, by go_num, HB.out⟩
            case measure => omega
      case neg =>
        obtain rfl : n = 4 := by omega
        clear C7 C8 C9 C10
        by_cases hd : dom = 15
        case pos =>
          by_cases hc : cnt = 4
          case pos =>
            subst hd hc
            (go_wp2_with fail; refine (C12.out _).mono ?_; rintro e w' ⟨rfl, rfl⟩)
            (go_wp2_with fail; refine (C13.out _).mono ?_; rintro e w' ⟨rfl, hb⟩; have HB := Lib.hid (bgo HB.out hb); clear hb)
            (go_wp2_with fail; refine (C14.out _).mono ?_; rintro e w' ⟨rfl, rfl⟩)
            (go_wp2_with fail; refine (C15.out _).mono ?_; rintro e w' ⟨rfl, hb⟩; have HB := Lib.hid (bgo HB.out hb); clear hb)
            (go_wp2_with fail; refine (C16.out _).mono ?_; rintro e w' ⟨rfl, rfl⟩)
            (go_wp2_with fail; refine (C17.out _).mono ?_; rintro e w' ⟨rfl, hb⟩; have HB := Lib.hid (bgo HB.out hb); clear hb)
            (go_wp2_with fail; refine (C18.out _).mono ?_; rintro e w' ⟨rfl, rfl⟩)
            (go_wp2_with fail; refine (C19.out _).mono ?_; rintro e w' ⟨rfl, hb⟩; have HB := Lib.hid (bgo HB.out hb); clear hb)
            (go_wp2_with fail; refine (C20.out _).mono ?_; rintro e w' ⟨rfl, hb⟩; have HB := Lib.hid (bgo HB.out hb); clear hb)
            (go_wp2_with fail; refine (C21.out _).mono ?_; rintro e w' ⟨rfl, hb⟩; have HB := Lib.hid (bgo HB.out hb); clear hb)
            (go_wp2_with fail; refine (C19.out _).mono ?_; rintro e w' ⟨rfl, hb⟩; have HB := Lib.hid (bgo HB.out hb); clear hb)
            (go_wp2_with fail; refine (C22.out _).mono ?_; rintro e w' ⟨rfl, hb⟩; have HB := Lib.hid (bgo HB.out hb); clear hb)
            go_wp2_with fail
            go_ret
            exact ⟨rfl, HB.out⟩
          case neg =>
            subst hd
            have hc' : (cnt == 4) = false := beq_eq_false_iff_ne.2 hc
            rw [show decide (cnt = 4) = false from decide_eq_false hc, Bool.and_false] at C21
            (go_wp2_with fail; refine (C12.out _).mono ?_; rintro e w' ⟨rfl, rfl⟩)
            (go_wp2_with fail; refine (C13.out _).mono ?_; rintro e w' ⟨rfl, hb⟩; have HB := Lib.hid (bgo HB.out hb); clear hb)
            (go_wp2_with fail; refine (C14.out _).mono ?_; rintro e w' ⟨rfl, rfl⟩)
            (go_wp2_with fail; refine (C15.out _).mono ?_; rintro e w' ⟨rfl, hb⟩; have HB := Lib.hid (bgo HB.out hb); clear hb)
            (go_wp2_with fail; refine (C16.out _).mono ?_; rintro e w' ⟨rfl, rfl⟩)
            (go_wp2_with fail; refine (C17.out _).mono ?_; rintro e w' ⟨rfl, hb⟩; have HB := Lib.hid (bgo HB.out hb); clear hb)
            (go_wp2_with fail; refine (C18.out _).mono ?_; rintro e w' ⟨rfl, rfl⟩)
            (go_wp2_with fail; refine (C19.out _).mono ?_; rintro e w' ⟨rfl, hb⟩; have HB := Lib.hid (bgo HB.out hb); clear hb)
            (go_wp2_with fail; refine (C20.out _).mono ?_; rintro e w' ⟨rfl, hb⟩; have HB := Lib.hid (bgo HB.out hb); clear hb)
            (go_wp2_with fail; refine (C21.out _).mono ?_; rintro e w' ⟨rfl, hb⟩; have HB := Lib.hid (bgo HB.out hb); clear hb)
            (go_wp2_with fail; refine (C19.out _).mono ?_; rintro e w' ⟨rfl, hb⟩; have HB := Lib.hid (bgo HB.out hb); clear hb)
            (go_wp2_with fail; refine (C22.out _).mono ?_; rintro e w' ⟨rfl, hb⟩; have HB := Lib.hid (bgo HB.out hb); clear hb)
            go_wp2_with fail
            go_ret
            exact ⟨rfl, HB.out⟩
        case neg =>
          rw [show decide (dom = 15) = false from decide_eq_false hd, Bool.false_and] at C21
          (go_wp2_with fail; refine (C12.out _).mono ?_; rintro e w' ⟨rfl, rfl⟩)
          (go_wp2_with fail; refine (C13.out _).mono ?_; rintro e w' ⟨rfl, hb⟩; have HB := Lib.hid (bgo HB.out hb); clear hb)
          (go_wp2_with fail; refine (C14.out _).mono ?_; rintro e w' ⟨rfl, rfl⟩)
          (go_wp2_with fail; refine (C15.out _).mono ?_; rintro e w' ⟨rfl, hb⟩; have HB := Lib.hid (bgo HB.out hb); clear hb)
          (go_wp2_with fail; refine (C16.out _).mono ?_; rintro e w' ⟨rfl, rfl⟩)
          (go_wp2_with fail; refine (C17.out _).mono ?_; rintro e w' ⟨rfl, hb⟩; have HB := Lib.hid (bgo HB.out hb); clear hb)
          (go_wp2_with fail; refine (C18.out _).mono ?_; rintro e w' ⟨rfl, rfl⟩)
          (go_wp2_with fail; refine (C19.out _).mono ?_; rintro e w' ⟨rfl, hb⟩; have HB := Lib.hid (bgo HB.out hb); clear hb)
          (go_wp2_with fail; refine (C20.out _).mono ?_; rintro e w' ⟨rfl, hb⟩; have HB := Lib.hid (bgo HB.out hb); clear hb)
          (go_wp2_with fail; refine (C21.out _).mono ?_; rintro e w' ⟨rfl, hb⟩; have HB := Lib.hid (bgo HB.out hb); clear hb)
          (go_wp2_with fail; refine (C19.out _).mono ?_; rintro e w' ⟨rfl, hb⟩; have HB := Lib.hid (bgo HB.out hb); clear hb)
          go_wp2_with fail
          go_ret
          exact ⟨rfl, HB.out⟩
set_option maxRecDepth 100000 in
theorem lifted (os : Os) (started : os.Started) (H : Type) (enc : TypeId × Value → H) :
    ReturnsInHanded {} Try.checked os 9 .any (Rows.fnImagesSpec.pre6 enc Try.prog Try.f9 Rows.fnImagesRow.domain false) (Rows.fnImagesSpec.post enc Try.prog Try.f9 false true false false) := by
  refine returnsInHanded_of_change (C := Try.checked) own started (by kernel_rfl) Try.func9
    (ChangeSpec.witness6 (enc := enc) (C := Try.checked) false ⟨#[], #[.slice none 0 0, .slice none 0 0], []⟩ 8 (by kernel_rfl) (by kernel_rfl) (by kernel_rfl) (by kernel_rfl)) ?_
  intro W base args ds gs before hval0 hW hcnd _
  have hval : ∀ (j : Nat) t v, Try.f9.params[j]? = some t → args[j]? = some v → Value.okWide Try.prog W .any base t v := hval0
  have hW' := hW
  obtain ⟨p, q, hA0, hV, rfl, hfz, hnd⟩ := hW
  have hA : DataW.TrodAll enc Try.prog W 0 (fun _ => true) true Try.f9.params.toList args.toList ds p := hA0
  rw [Try.params9] at hA hval
  obtain ⟨v0, vs0, d0, ds0, p0, q0, hargs, rfl, rfl, h0, r0⟩ := trodAll_cons hA
  obtain ⟨v1, vs1, d1, ds1, p1, q1, rfl, rfl, rfl, h1, r1⟩ := trodAll_cons r0
  obtain ⟨rfl, rfl, rfl⟩ := trodAll_nil r1
  obtain rfl : args = #[v0, v1] := by cases args; simp_all
  obtain ⟨rfl, rfl⟩ := trodVars_none hV
  obtain ⟨a0, len0, cap0, rfl⟩ := okWide_slice Try.underlying22 (hval 0 22 v0 rfl rfl)
  have k0 := h0
  have lt0 : ∀ x ∈ p0, x.block < W.heap.size := by obtain ⟨m, hm⟩ := k0; exact DataW.trod_lt m _ _ _ hm
  obtain ⟨z0, w0⟩ : ∃ zs, IsRow .u8 W a0 len0 cap0 zs := by
    obtain ⟨fuel, hf⟩ := h0
    rcases open_ints Try.underlying22 Try.underlying5 (by kernel_rfl) hf with ⟨hcs, _⟩ | ⟨x, l, c, zs, hcs, _, hl, hm, hz, _, hcell, hwz⟩
    · simp [Value.cells] at hcs
      obtain ⟨rfl, rfl, rfl⟩ := hcs
      exact ⟨[], .inl ⟨rfl, rfl, rfl, rfl⟩⟩
    · simp [Value.cells] at hcs
      obtain ⟨rfl, rfl, rfl⟩ := hcs
      exact ⟨zs, .inr ⟨_, rfl, hl, hm, by simpa using hz, hcell, hwz⟩⟩
  obtain ⟨a1, len1, cap1, rfl⟩ := okWide_slice Try.underlying22 (hval 1 22 v1 rfl rfl)
  have k1 := h1
  have lt1 : ∀ x ∈ p1, x.block < W.heap.size := by obtain ⟨m, hm⟩ := k1; exact DataW.trod_lt m _ _ _ hm
  obtain ⟨z1, w1⟩ : ∃ zs, IsRow .u8 W a1 len1 cap1 zs := by
    obtain ⟨fuel, hf⟩ := h1
    rcases open_ints Try.underlying22 Try.underlying5 (by kernel_rfl) hf with ⟨hcs, _⟩ | ⟨x, l, c, zs, hcs, _, hl, hm, hz, _, hcell, hwz⟩
    · simp [Value.cells] at hcs
      obtain ⟨rfl, rfl, rfl⟩ := hcs
      exact ⟨[], .inl ⟨rfl, rfl, rfl, rfl⟩⟩
    · simp [Value.cells] at hcs
      obtain ⟨rfl, rfl, rfl⟩ := hcs
      exact ⟨zs, .inr ⟨_, rfl, hl, hm, by simpa using hz, hcell, hwz⟩⟩
  clear hA0 hval0
  refine (walk a0 len0 cap0 z0 a1 len1 cap1 z1 W w0 w1).mono fun e W' ⟨he, bel⟩ => ?_
  subst he
  exact ⟨_, rfl, _, _, _, [], _, [], hW', trodAll_mk1 (shut_bool Try.underlying4 _), (trodAll_cons_mk (Below.trod laidOut (by kernel_rfl) (of_decide_eq_true (by kernel_rfl)) k0 bel lt0) (trodAll_cons_mk (Below.trod laidOut (by kernel_rfl) (of_decide_eq_true (by kernel_rfl)) k1 bel lt1) trodAll_mk0)), rfl, bel.frame _, fun h => by cases h⟩
theorem over : Rows.fnImagesRow.holds Try.pinned (OpenSpec.ofChange Rows.fnImagesSpec) :=
  OpenClaim.holds_of_wide 9 Try.f9 rfl rfl rfl rfl rfl rfl rfl ⟨rfl, rfl, rfl, rfl, rfl⟩ rfl rfl rfl rfl rfl (by kernel_rfl) Try.func9 (by kernel_rfl)
    (of_decide_eq_true (by kernel_rfl)) (by unfold Func.isWrapper; first | (rw [if_pos (by decide +kernel)]; kernel_rfl) | (rw [if_neg (by decide +kernel)]; exact ⟨rfl, rfl⟩))
    (fun os started H enc _ => lifted os started H enc)
end Go.Proofs.Ytlebkjjknggjfaa.fnImages
namespace Go.Proofs.Ytlebkjjknggjfaa
theorem fnImages_holds : Rows.FnImagesSaid := fnImages.over
#print axioms fnImages_holds
end Go.Proofs.Ytlebkjjknggjfaa
