/-
  Contracts of the functions on relations that read digits, make sets and make relations.
-/
import Derived.Test.YtkefgjfcojdhdaaA1
import Derived.Test.YtkefgjfcojdhdaaT
import Derived.Deep.QuietTactic
import Derived.BigQuiet
namespace Go.Proofs.Ytkefgjfcojdhdaa
open Go.RowKit Go.DC
set_option maxHeartbeats 400000
set_option linter.unusedVariables false
set_option linter.unusedSimpArgs false

theorem impl_states (k : Nat) (cap : Array Value) (f : Nat → Bool) (w : World) (hk : ∀ xs w, (callFunc k xs).run Try.prog w = .ok (.enter k xs) w)
    (hf : ∀ (s : Nat) (w1 : World), s < 4 → Below w.heap.size w w1 → Calls Try.prog k (#[.int .i64 s] ++ cap) w1 fun e w2 => e = .returned (.bool (f s)) ∧ Below w1.heap.size w1 w2) :
    Calls Try.prog 126 #[.func (.func k) #[] cap] w fun e w' => e = .returned (.int .i64 (mk 4 f)) ∧ Below w.heap.size w w' := by
  have Hf := Lib.hid hf
  clear hf
  go_enter Try.func126, Try.ntmps126
  go_wp2_with fail
  go_loopg [3, 5] 4 (fun gk o i wr => ∃ n : Nat, n ≤ 4 ∧ gk = 4 - n ∧ i = .int .i64 n ∧ o = .int .i64 (mk n f) ∧ Below w.heap.size w wr)
  case atStart => exact ⟨0, by omega, rfl, rfl, rfl, Below.refl _ _⟩
  case round =>
    obtain ⟨n, hn, rfl, rfl, rfl, hb⟩ := hrel
    by_cases hlt : n < 4
    · have hm0 := mk_nonneg f n (by omega)
      have hm1 := mk_lt f n (by omega)
      go_wp2_with ((with_reducible refine (Hf.out _ _ (by assumption) (by assumption)).mono ?_); rintro e w' ⟨rfl, hb1⟩)
      · go_roundg (4 - (n + 1))
        case rel => exact ⟨n + 1, by omega, rfl, by go_num, by rw [mk_yes (by assumption) (by omega)], hb.trans (hb1.mono hb.size)⟩
        case measure => omega
      · go_roundg (4 - (n + 1))
        case rel => exact ⟨n + 1, by omega, rfl, by go_num, by rw [mk_no (by assumption)], hb.trans (hb1.mono hb.size)⟩
        case measure => omega
    · obtain rfl : n = 4 := by omega
      go_wp2_with fail
      go_ret
      exact ⟨rfl, hb⟩
end Go.Proofs.Ytkefgjfcojdhdaa
