/-
  Contracts of the program's small functions on conditions and relations.
-/
import Derived.Test.YtmecagiadlimgaaA4
import Derived.Test.YtmecagiadlimgaaA9
import Derived.Test.YtmecagiadlimgaaPv
namespace Go.Proofs.Ytmecagiadlimgaa
open Go.RowKit Go.DC
set_option maxHeartbeats 1000000
set_option linter.unusedVariables false
set_option linter.unusedSimpArgs false

theorem impl_OrCondition (p q : Int) (w : World) :
    Calls Try.prog 45 #[.int .i64 p, .int .i64 q] w fun e w' => e = .returned (.int .i64 (askV (cv p && cv q) (bor p q))) ∧ w = w' := by
  cases hp : cv p <;> cases hq : cv q
  all_goals
    go_enter Try.func45, Try.ntmps45
    go_wp2_with (go_at_call 75; refine (impl_ConditionValid _ _).mono ?_; rintro e w' ⟨rfl, rfl⟩)
    go_ret
    exact ⟨rfl, rfl⟩
theorem impl_AndCondition (p q : Int) (w : World) :
    Calls Try.prog 26 #[.int .i64 p, .int .i64 q] w fun e w' => e = .returned (.int .i64 (askV (cv p && cv q) (band p q))) ∧ w = w' := by
  cases hp : cv p <;> cases hq : cv q
  all_goals
    go_enter Try.func26, Try.ntmps26
    go_wp2_with (go_at_call 75; refine (impl_ConditionValid _ _).mono ?_; rintro e w' ⟨rfl, rfl⟩)
    go_ret
    exact ⟨rfl, rfl⟩
theorem impl_Implies (p q : Int) (w : World) :
    Calls Try.prog 18 #[.int .i64 p, .int .i64 q] w fun e w' => e = .returned (.bool ((cv p && cv q) && (bandn p q == 0))) ∧ w = w' := by
  cases hp : cv p <;> cases hq : cv q
  all_goals
    go_enter Try.func18, Try.ntmps18
    go_wp2_with (go_at_call 75; refine (impl_ConditionValid _ _).mono ?_; rintro e w' ⟨rfl, rfl⟩)
    go_ret
    exact ⟨rfl, rfl⟩
theorem impl_CountStates (p : Int) (w : World) :
    Calls Try.prog 121 #[.int .i64 p] w fun e w' => e = .returned (.int .i64 (askV (cv p) (cntS p 4))) ∧ w = w' := by
  cases hp : cv p
  · go_enter Try.func121, Try.ntmps121
    go_wp2_with (go_at_call 75; refine (impl_ConditionValid _ _).mono ?_; rintro e w' ⟨rfl, rfl⟩)
    go_ret
    exact ⟨rfl, rfl⟩
  · have hc : Cv p := cv_iff.1 hp
    obtain ⟨h0, h1⟩ := id hc
    have Hc := Lib.hid hc
    clear hc
    go_enter Try.func121, Try.ntmps121
    go_wp2_with (go_at_call 75; refine (impl_ConditionValid _ _).mono ?_; rintro e w' ⟨rfl, rfl⟩)
    go_loopg [3, 8] 4 (fun gk a i wr => ∃ n : Nat, n ≤ 4 ∧ gk = 4 - n ∧ i = .int .i64 n ∧ a = .int .i64 (cntS p n) ∧ w = wr)
    case atStart => exact ⟨0, by omega, rfl, rfl, rfl, rfl⟩
    case round =>
      obtain ⟨n, hn, rfl, rfl, rfl, rfl⟩ := hrel
      by_cases hlt : n < 4
      · have hr := cntS_rng Hc.out n (by omega)
        obtain ⟨hr0, hr1⟩ := hr
        have hb : 0 ≤ bits .and .i64 (p / 2 ^ n) 1 ∧ bits .and .i64 (p / 2 ^ n) 1 ≤ 1 := by rw [bit_rng Hc.out hlt]; split <;> decide
        obtain ⟨hb0, hb1⟩ := hb
        go_wp2_with fail
        go_roundg (4 - (n + 1))
        case rel => exact ⟨n + 1, by omega, rfl, by go_num, rfl, rfl⟩
        case measure => omega
      · obtain rfl : n = 4 := by omega
        go_wp2_with fail
        go_ret
        exact ⟨rfl, rfl⟩
theorem impl_TestRel1 (b1 : Nat) (p : Int) (h0 : 0 ≤ p) (h1' : p ≤ 15) (s t : Nat) (hs : s < 4) (ht : t < 4) (w : World) (h1 : Row w b1 1 fun _ => p) :
    Calls Try.prog 91 #[.int .i64 s, .int .i64 t, .pointer (some ⟨b1, 0, none⟩)] w fun e w' => e = .returned (.bool (decide (s = t) && hasb p s)) ∧ Below w.heap.size w w' := by
  have hc := h1.cell (i := 0) (by omega)
  by_cases he : s = t
  · subst he
    go_enter Try.func91, Try.ntmps91
    go_wp2_with fail
    go_ret
    exact ⟨by simp; rfl, Below.refl _ _⟩
  · have hd : ((s : Int) == (t : Int)) = false := by simp; omega
    have He := Lib.hid (show decide (s = t) = false by simpa using he)
    clear he
    go_enter Try.func91, Try.ntmps91
    go_wp2_with fail
    go_ret
    exact ⟨by rw [He.out]; rfl, Below.refl _ _⟩
theorem impl_TestRel (p : Int) (w : World) :
    Calls Try.prog 29 #[.int .i64 p] w fun e w' => e = .returned (.tuple #[.string (orNo (cv p) (txt 4 (testR p))), .bool (cv p)]) ∧ Below w.heap.size w w' := by
  have cp := fun w => impl_ConditionValid p w
  cases hp : cv p
  all_goals
    rw [hp] at cp
    have Cp := Lib.hid cp
    clear cp
  · clear hp
    go_enter Try.func29, Try.ntmps29
    go_wp2_with fail
    refine (Cp.out _).mono ?_
    rintro e w' ⟨rfl, rfl⟩
    go_wp2_with fail
    go_ret2
    exact ⟨rfl, ba1 _ _⟩
  · obtain ⟨h0, h1⟩ := cv_iff.1 hp
    have hr : Row (w.alloc (.cells #[.int .i64 p] 3)) w.heap.size 1 (fun _ => p) := Row.new w 1 (fun _ => p) _ rfl
    have hf := impl_makeRel 91 #[(.pointer (some ⟨w.heap.size, 0, none⟩))] (fun s t => decide (s = t) && hasb p s) (w.alloc (.cells #[.int .i64 p] 3)) Try.call91
      (fun s t w1 hs ht hb => impl_TestRel1 _ p h0 h1 s t hs ht w1 (hr.go hb))
    have Hf := Lib.hid hf
    clear hf hr hp
    go_enter Try.func29, Try.ntmps29
    go_wp2_with fail
    refine (Cp.out _).mono ?_
    rintro e w' ⟨rfl, rfl⟩
    go_wp2_with fail
    refine Hf.out.mono ?_
    rintro e w2 ⟨rfl, hb⟩
    have Hb := Lib.hid (bgo (ba1 w _) hb)
    clear hb
    go_wp2_with fail
    refine (rel_text (testR p) (testR_Dg p) _).mono ?_
    rintro e w3 ⟨rfl, hb3⟩
    have Hb3 := Lib.hid (bgo Hb.out hb3)
    clear hb3
    go_wp2_with fail
    go_ret2
    exact ⟨rfl, Hb3.out⟩
theorem impl_BoxOf (r : ByteArray) (p : Int) (w : World) :
    Calls Try.prog 27 #[.string r, .int .i64 p] w fun e w' => e = .returned (.int .i64 (askV (dvB 4 r && cv p) (boxR (dg r) p))) ∧ Below w.heap.size w w' := by
  have hf := impl_asked 86 (boxR (dg r) p) r p w (fun h _ w1 _ => rel_box (dg r) p w1) Try.call86
  have Hf := Lib.hid hf
  clear hf
  go_enter Try.func27, Try.ntmps27
  go_wp2_with fail
  refine Hf.out.mono ?_
  rintro e w' ⟨rfl, hb⟩
  go_wp2_with fail
  go_ret
  exact ⟨rfl, hb⟩
theorem impl_DomainOf (r : ByteArray) (w : World) :
    Calls Try.prog 58 #[.string r] w fun e w' => e = .returned (.int .i64 (askV (dvB 4 r) (dia (dg r) 15))) ∧ Below w.heap.size w w' := by
  have hf := impl_asked 114 (dia (dg r) 15) r 15 w (fun h _ w1 _ => rel_diamond (dg r) 15 w1) Try.call114
  rw [show cv 15 = true from rfl, Bool.and_true] at hf
  have Hf := Lib.hid hf
  clear hf
  go_enter Try.func58, Try.ntmps58
  go_wp2_with fail
  refine Hf.out.mono ?_
  rintro e w' ⟨rfl, hb⟩
  go_wp2_with fail
  go_ret
  exact ⟨rfl, hb⟩
theorem funB_no (x : Nat → Int) : ∀ n, 1 ≤ n → (∀ s, x s = 0) → funB x n = false
  | n + 1, _, h => by
    have e : cntS (x n) 4 = 0 := by rw [h]; decide
    unfold funB; rw [e]; simp
theorem impl_IsFunction (r : ByteArray) (w : World) :
    Calls Try.prog 67 #[.string r] w fun e w' => e = .returned (.bool (dvB 4 r && funB (dg r) 4)) ∧ Below w.heap.size w w' := by
  have hD : Dg 4 (rdF (dvB 4 r) r) := by
    cases h : dvB 4 r
    · exact Dg_zero 4
    · exact dvB_Dg h
  have hfin : (dvB 4 r && funB (rdF (dvB 4 r) r) 4) = (dvB 4 r && funB (dg r) 4) := by
    cases dvB 4 r
    · rw [Bool.false_and, Bool.false_and]
    · rw [rdF_true]
  rw [← hfin]
  clear hfin
  have hc := fun w => impl_readRel r w
  obtain ⟨br, hr⟩ : ∃ b, dvB 4 r = b := ⟨_, rfl⟩
  rw [hr] at hc hD ⊢
  generalize rdF br r = X at *
  have Hc := Lib.hid hc
  have HD := Lib.hid hD
  clear hc hr hD
  go_enter Try.func67, Try.ntmps67
  go_wp2_with fail
  refine (Hc.out _).mono ?_
  rintro e w1 ⟨rfl, hb1⟩
  have hx1 : Row ((w1.alloc (.cells #[.int .i64 0, .int .i64 0, .int .i64 0, .int .i64 0] 59)).setRow w1.heap.size (cellsF 4 X)) w1.heap.size 4 X := (Row.new4 _ _ rfl).setRow _
  have Hb := Lib.hid (below_setRow (bgo hb1 (ba1 w1 (.cells #[.int .i64 0, .int .i64 0, .int .i64 0, .int .i64 0] 59))) hb1.size (cellsF 4 X))
  clear hb1
  go_wp2_with (first | (refine st rel4 _ _ rfl rfl _ rfl _ rfl (f := ?_) ?_ ?_; rotate_left; first | (with_reducible assumption) | (with_reducible exact Row.new4 _ _ rfl) | (with_reducible exact Row.new16 _ _ rfl) | ((with_reducible refine Row.set ?_ _ _); (with_reducible assumption)) | ((with_reducible refine Row.other ?_ ?_ _); (with_reducible assumption); (focus first | (simp; done) | (simp; omega))) | ((with_reducible refine Row.alloc ?_ _); (with_reducible assumption)) | ((with_reducible refine Row.drew ?_); (with_reducible assumption))) | (refine ld rel4 _ rfl rfl _ rfl (f := ?_) ?_ ?_; rotate_left; first | (with_reducible assumption) | (with_reducible exact Row.new4 _ _ rfl) | (with_reducible exact Row.new16 _ _ rfl) | ((with_reducible refine Row.set ?_ _ _); (with_reducible assumption)) | ((with_reducible refine Row.other ?_ ?_ _); (with_reducible assumption); (focus first | (simp; done) | (simp; omega))) | ((with_reducible refine Row.alloc ?_ _); (with_reducible assumption)) | ((with_reducible refine Row.drew ?_); (with_reducible assumption))))
  generalize ((w1.alloc (.cells #[.int .i64 0, .int .i64 0, .int .i64 0, .int .i64 0] 59)).setRow w1.heap.size (cellsF 4 X)) = W1 at *
  clear hx1
  go_loopg [4, 13] 4 (fun gk a i wr => ∃ n : Nat, n ≤ 4 ∧ gk = 4 - n ∧ i = .int .i64 n ∧ a = .bool (br && funB X n) ∧ W1 = wr)
  case atStart => exact ⟨0, by omega, rfl, rfl, by simp [funB], rfl⟩
  case round =>
    obtain ⟨n, hn, rfl, rfl, rfl, rfl⟩ := hrel
    by_cases hlt : n < 4
    · have hix := idx4 X hlt
      have hXn := HD.out n hlt
      have hcs := fun w => impl_CountStates (X n) w
      rw [cv_iff.2 hXn] at hcs
      have Hcs := Lib.hid hcs
      obtain ⟨v, hv⟩ : ∃ v, (br && funB X n) = v := ⟨_, rfl⟩
      have Hst := Lib.hid (show (br && funB X (n + 1)) = (v && cntS (X n) 4 == 1) by unfold funB; rw [← hv, Bool.and_assoc])
      rw [hv]
      clear hcs hv hXn
      cases v
      · go_wp2_with fail
        go_roundg (4 - (n + 1))
        case rel => exact ⟨n + 1, by omega, rfl, by go_num, by rw [Hst.out]; rfl, rfl⟩
        case measure => omega
      · go_wp2_with fail
        refine (Hcs.out _).mono ?_
        rintro e w' ⟨rfl, rfl⟩
        go_wp2_with fail
        go_roundg (4 - (n + 1))
        case rel => exact ⟨n + 1, by omega, rfl, by go_num, by rw [Hst.out]; rfl, rfl⟩
        case measure => omega
    · obtain rfl : n = 4 := by omega
      go_wp2_with fail
      go_ret
      exact ⟨rfl, Hb.out⟩
end Go.Proofs.Ytmecagiadlimgaa
