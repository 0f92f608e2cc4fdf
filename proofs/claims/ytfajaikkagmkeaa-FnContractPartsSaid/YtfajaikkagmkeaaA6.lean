/-
  Contracts of the functions that try all pairs, and that iterate.
-/
import Derived.Test.YtfajaikkagmkeaaA5
import Derived.Test.YtfajaikkagmkeaaT
import Derived.Test.YtfajaikkagmkeaaG1
import Derived.Deep.QuietTactic
import Derived.BigQuiet
namespace Go.Proofs.Ytfajaikkagmkeaa
open Go.RowKit Go.DC
set_option maxHeartbeats 1000000
set_option linter.unusedVariables false
set_option linter.unusedSimpArgs false

theorem impl_pairwise (k : Nat) (cap : Array Value) (f : Nat → Nat → Bool) (w : World) (hk : ∀ xs w, (callFunc k xs).run Try.prog w = .ok (.enter k xs) w)
    (hf : ∀ (s t : Nat) (w1 : World), s < 16 → t < 16 → Below w.heap.size w w1 → Calls Try.prog k (#[.int .i64 s, .int .i64 t] ++ cap) w1 fun e w2 => e = .returned (.bool (f s t)) ∧ Below w1.heap.size w1 w2) :
    Calls Try.prog 138 #[.func (.func k) #[] cap] w fun e w' => e = .returned (.bool (all2B fun p q => !f p q)) ∧ Below w.heap.size w w' := by
  have Hf := Lib.hid hf
  clear hf
  go_enter Try.func138, Try.ntmps138
  go_wp2_with fail
  go_loopg [5] 16 (fun gk i wr => ∃ n : Nat, n ≤ 16 ∧ gk = 16 - n ∧ i = .int .i64 n ∧ Ok2 (fun p q => !f p q) n 0 ∧ Below w.heap.size w wr)
  case atStart => exact ⟨0, by omega, rfl, rfl, Ok2.zero _, Below.refl _ _⟩
  case round =>
    obtain ⟨n, hn, rfl, rfl, ho, hb⟩ := hrel
    have Ho := Lib.hid ho
    clear ho
    by_cases hlt : n < 16
    · have hd : decide ((n : Int) < 16) = true := decide_eq_true (by omega)
      go_wp2_with fail
      obtain ⟨wo, rfl⟩ : ∃ wo : World, wo = wr := ⟨_, rfl⟩
      go_loopg [8] 16 (fun gk i wr => ∃ m : Nat, m ≤ 16 ∧ gk = 16 - m ∧ i = .int .i64 m ∧ Ok2 (fun p q => !f p q) n m ∧ Below w.heap.size w wr)
      case atStart => exact ⟨0, by omega, rfl, rfl, Ho.out, hb⟩
      case round =>
        clear Ho hb
        obtain ⟨m, hm, rfl, rfl, ho, hb⟩ := hrel
        have Ho := Lib.hid ho
        clear ho
        by_cases hlt' : m < 16
        · cases hv : f n m
          case false =>
            have H1 := Lib.hid (all2_bad (P := fun p q => !f p q) hlt hlt' (by rw [hv]; rfl))
            go_wp2_with ((with_reducible refine (Hf.out _ _ _ (by assumption) (by assumption) (by assumption)).mono ?_); rintro e w' ⟨rfl, hb1⟩)
            go_ret
            exact ⟨by rw [H1.out]; rfl, bgo hb hb1⟩
          case true =>
            have H1 := Lib.hid (show (fun p q => !f p q) n m = false by show (!f n m) = false; rw [hv]; rfl)
            go_wp2_with ((with_reducible refine (Hf.out _ _ _ (by assumption) (by assumption) (by assumption)).mono ?_); rintro e w' ⟨rfl, hb1⟩)
            go_roundg (16 - (m + 1))
            case rel => exact ⟨m + 1, by omega, rfl, by go_num, Ho.out.step H1.out, bgo hb hb1⟩
            case measure => omega
        · obtain rfl : m = 16 := by omega
          go_wp2_with fail
          go_roundg (16 - (n + 1))
          case rel => exact ⟨n + 1, by omega, rfl, by go_num, Ho.out.next, hb⟩
          case measure => omega
    · obtain rfl : n = 16 := by omega
      go_wp2_with fail
      go_ret
      exact ⟨by rw [Ho.out.all]; rfl, hb⟩
end Go.Proofs.Ytfajaikkagmkeaa
