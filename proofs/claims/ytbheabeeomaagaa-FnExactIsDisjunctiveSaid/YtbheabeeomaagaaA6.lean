/-
  Contracts of the functions that try all pairs, and that iterate.
-/
import Derived.Test.YtbheabeeomaagaaA5
import Derived.Test.YtbheabeeomaagaaT
import Derived.Test.YtbheabeeomaagaaPT
import Derived.Deep.QuietTactic
import Derived.BigQuiet
namespace Go.Proofs.Ytbheabeeomaagaa
open Go.RowKit Go.DC
set_option maxHeartbeats 1000000
set_option linter.unusedVariables false
set_option linter.unusedSimpArgs false

theorem impl_pairwise (k : Nat) (cap : Array Value) (f : Nat → Nat → Bool) (w : World) (hk : ∀ xs w, (callFunc k xs).run Try.prog w = .ok (.enter k xs) w)
    (hf : ∀ (s t : Nat) (w1 : World), s < 16 → t < 16 → Below w.heap.size w w1 → Calls Try.prog k (#[.int .i64 s, .int .i64 t] ++ cap) w1 fun e w2 => e = .returned (.bool (f s t)) ∧ Below w1.heap.size w1 w2) :
    Calls Try.prog 97 #[.func (.func k) #[] cap] w fun e w' => e = .returned (.bool (all2B fun p q => !f p q)) ∧ Below w.heap.size w w' := by
  have Hf := Lib.hid hf
  clear hf
  go_enter Try.func97, Try.ntmps97
  go_wp2_with fail
  go_loopg [5] 16 (fun gk i wr => ∃ n : Nat, n ≤ 16 ∧ gk = 16 - n ∧ i = .int .i64 n ∧ Ok2 (fun p q => !f p q) n 0 ∧ Below w.heap.size w wr)
  case atStart => exact ⟨0, by omega, rfl, rfl, Ok2.zero _, Below.refl _ _⟩
  case round =>
    obtain ⟨n, hn, rfl, rfl, ho, hb⟩ := hrel
    have Ho := Lib.hid ho
    clear ho
    by_cases hlt : n < 16
    · have hd : decide ((n : Int) < 16) = true := decide_eq_true (by omega)
      go_wp2_with fail
      obtain ⟨wo, rfl⟩ : ∃ wo : World, wo = wr := ⟨_, rfl⟩
      go_loopg [8] 16 (fun gk i wr => ∃ m : Nat, m ≤ 16 ∧ gk = 16 - m ∧ i = .int .i64 m ∧ Ok2 (fun p q => !f p q) n m ∧ Below w.heap.size w wr)
      case atStart => exact ⟨0, by omega, rfl, rfl, Ho.out, hb⟩
      case round =>
        clear Ho hb
        obtain ⟨m, hm, rfl, rfl, ho, hb⟩ := hrel
        have Ho := Lib.hid ho
        clear ho
        by_cases hlt' : m < 16
        · cases hv : f n m
          case false =>
            have H1 := Lib.hid (all2_bad (P := fun p q => !f p q) hlt hlt' (by rw [hv]; rfl))
            go_wp2_with ((with_reducible refine (Hf.out _ _ _ (by assumption) (by assumption) (by assumption)).mono ?_); rintro e w' ⟨rfl, hb1⟩)
            go_ret
            exact ⟨by rw [H1.out]; rfl, bgo hb hb1⟩
          case true =>
            have H1 := Lib.hid (show (fun p q => !f p q) n m = false by show (!f n m) = false; rw [hv]; rfl)
            go_wp2_with ((with_reducible refine (Hf.out _ _ _ (by assumption) (by assumption) (by assumption)).mono ?_); rintro e w' ⟨rfl, hb1⟩)
            go_roundg (16 - (m + 1))
            case rel => exact ⟨m + 1, by omega, rfl, by go_num, Ho.out.step H1.out, bgo hb hb1⟩
            case measure => omega
        · obtain rfl : m = 16 := by omega
          go_wp2_with fail
          go_roundg (16 - (n + 1))
          case rel => exact ⟨n + 1, by omega, rfl, by go_num, Ho.out.next, hb⟩
          case measure => omega
    · obtain rfl : n = 16 := by omega
      go_wp2_with fail
      go_ret
      exact ⟨by rw [Ho.out.all]; rfl, hb⟩
theorem impl_greatestPoint (k : Nat) (cap : Array Value) (T : Int → Int) (hT : Mono T) (w : World) (hk : ∀ xs w, (callFunc k xs).run Try.prog w = .ok (.enter k xs) w)
    (hf : ∀ (y : Int) (w1 : World), 0 ≤ y → y ≤ 15 → Below w.heap.size w w1 → Calls Try.prog k (#[.int .i64 y] ++ cap) w1 fun e w2 => e = .returned (.int .i64 (T y)) ∧ Below w1.heap.size w1 w2) :
    Calls Try.prog 68 #[.func (.func k) #[] cap] w fun e w' => e = .returned (.int .i64 (gp T)) ∧ Below w.heap.size w w' := by
  have Hf := Lib.hid hf
  have HT := Lib.hid hT
  clear hf hT
  go_enter Try.func68, Try.ntmps68
  go_wp2_with fail
  go_loopg [3] 15 (fun gk i wr => ∃ y : Int, 0 ≤ y ∧ y ≤ 15 ∧ gk = y.toNat ∧ i = .int .i64 y ∧ bandn (T y) y = 0 ∧ gp T = iter (y.toNat + 1) T y ∧ Below w.heap.size w wr)
  case atStart => exact ⟨15, by decide, by decide, rfl, rfl, sub_15 (HT.out.rng 15 (by decide) (by decide)).1 (HT.out.rng 15 (by decide) (by decide)).2, rfl, Below.refl _ _⟩
  case round =>
    obtain ⟨y, h0, h1, rfl, rfl, hs, hg, hb⟩ := hrel
    have Hs := Lib.hid hs
    have Hg := Lib.hid hg
    clear hs hg
    cases he : (T y != y)
    case false =>
      have H1 := Lib.hid (show T y = y by simpa using he)
      go_wp2_with ((with_reducible refine (Hf.out _ _ (by assumption) (by assumption) (by assumption)).mono ?_); rintro e w' ⟨rfl, hb1⟩)
      go_ret
      exact ⟨by rw [Hg.out, iter_stop H1.out]; rfl, bgo hb hb1⟩
    case true =>
      have H1 := Lib.hid (show T y ≠ y by simpa using he)
      go_wp2_with fail
      refine (Hf.out _ _ (by assumption) (by assumption) (by assumption)).mono ?_
      rintro e w1 ⟨rfl, hb1⟩
      have hb2 := bgo hb hb1
      clear hb hb1
      go_wp2_with ((with_reducible refine (Hf.out _ _ (by assumption) (by assumption) (by assumption)).mono ?_); rintro e w' ⟨rfl, hb3⟩)
      have hr := HT.out.rng y h0 h1
      have hstep := iter_step HT.out h0 h1 Hs.out H1.out
      go_roundg ((T y).toNat)
      case rel => exact ⟨T y, hr.1, hr.2, rfl, rfl, HT.out.imp _ _ hr.1 hr.2 h0 h1 Hs.out, by rw [Hg.out, hstep.1], bgo hb2 hb3⟩
      case measure => exact hstep.2
end Go.Proofs.Ytbheabeeomaagaa
