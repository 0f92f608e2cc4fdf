/-
  Contracts of the small functions on numbers and digits.
-/
import Derived.Test.YtmajmkggbgilbaaRows
import Derived.Test.YtmajmkggbgilbaaPlain
namespace Go.Proofs.Ytmajmkggbgilbaa
open Go.RowKit Go.DC
set_option maxHeartbeats 400000
set_option linter.unusedVariables false
set_option linter.unusedSimpArgs false

theorem impl_ConditionValid (p : Int) (w : World) :
    Calls Try.prog 33 #[.int .i64 p] w fun e w' => e = .returned (.bool (cv p)) ∧ w = w' := by
  by_cases h0 : 0 ≤ p
  · go_enter Try.func33, Try.ntmps33
    go_wp2
    go_ret
    exact ⟨by simp [cv, h0], rfl⟩
  · have hd : decide (0 ≤ p) = false := by simpa using h0
    go_enter Try.func33, Try.ntmps33
    go_wp2
    go_ret
    exact ⟨by simp [cv, hd], rfl⟩
theorem spec_l1In (p a b : Int) (w : World) :
    Calls Try.prog 40 #[.int .i64 p, .int .i64 a, .int .i64 b] w fun e w' => e = .returned (.bool (decide (a ≤ p) && decide (p ≤ b))) ∧ w = w' := by
  by_cases h0 : a ≤ p
  · go_enter Try.func40, Try.ntmps40
    go_wp2
    go_ret
    exact ⟨by simp [h0], rfl⟩
  · have hd : decide (a ≤ p) = false := by simpa using h0
    go_enter Try.func40, Try.ntmps40
    go_wp2
    go_ret
    exact ⟨by simp [hd], rfl⟩
theorem spec_ConditionValid (p : Int) (w : World) :
    Calls Try.prog 29 #[.int .i64 p] w fun e w' => e = .returned (.bool (cv p)) ∧ w = w' := by
  go_enter Try.func29, Try.ntmps29
  go_wp2_with (go_at_call 40; refine (spec_l1In _ _ _ _).mono ?_; rintro e w' ⟨rfl, rfl⟩)
  go_ret
  exact ⟨rfl, rfl⟩
theorem spec_l1Has (a b : Int) (w : World) (h1 : 0 ≤ a) (h2 : a ≤ 65535) (h3 : 0 ≤ b) (h4 : b ≤ 15) :
    Calls Try.prog 30 #[.int .i64 a, .int .i64 b] w fun e w' => e = .returned (.bool (hasb a b.toNat)) ∧ w = w' := by
  go_enter Try.func30, Try.ntmps30
  go_wp2
  go_ret
  exact ⟨rfl, rfl⟩
/-- A state of a condition. -/
def hasState (p s : Int) : Bool := if cv p && sv s then hasb p s.toNat else false
theorem ibs (s : ByteArray) (b : UInt8) (w : World) : (callFunc 46 #[.string s, .int .u8 (b.toNat : Int)]).run Try.prog w = .ok (.value (.int .i64 (Lib.indexByte s.data.toList b))) w := by
  have he : Extern.find Try.f46 = some Extern.BytealgIndexByte.indexByte := by kernel_rfl
  rw [run_callFunc_extern Try.func46 (by kernel_rfl) (by kernel_rfl) (by kernel_rfl) he, Lib.run_indexByteString]
  have hb : ((b.toNat : Int)).toNat.toUInt8 = b := by simp
  rw [hb]
  rfl
theorem strings_IndexByte (s : ByteArray) (b : UInt8) (w : World) :
    Calls Try.prog 39 #[.string s, .int .u8 (b.toNat : Int)] w fun e w' => e = .returned (.int .i64 (Lib.indexByte s.data.toList b)) ∧ w = w' := by
  have hI := ibs s b
  go_enter Try.func39, Try.ntmps39
  go_wp2
  go_ret
  exact ⟨rfl, rfl⟩
theorem impl_digitOf (b : UInt8) (w : World) :
    Calls Try.prog 28 #[.int .u8 (b.toNat : Int)] w fun e w' => e = .returned (.int .i64 (hx b)) ∧ w = w' := by
  go_enter Try.func28, Try.ntmps28
  go_wp2_with (go_at_call 39; refine (strings_IndexByte _ _ _).mono ?_; rintro e w' ⟨rfl, rfl⟩)
  go_ret
  exact ⟨rfl, rfl⟩
theorem spec_l14Find (s : ByteArray) (b : UInt8) (w : World) (hs : s.size ≤ maxLen) :
    Calls Try.prog 32 #[.string s, .int .u8 (b.toNat : Int)] w fun e w' => e = .returned (.int .i64 (Lib.indexByte s.data.toList b)) ∧ w = w' := by
  unfold maxLen at hs
  go_enter Try.func32, Try.ntmps32
  go_wp2_with fail
  go_loopg [5] s.size (fun gk i wr => ∃ k : Nat, k ≤ s.size ∧ gk = s.size - k ∧ i = .int .i64 k ∧ w = wr ∧ NotIn s b k)
  case atStart => exact ⟨0, Nat.zero_le _, rfl, rfl, rfl, NotIn.zero s b⟩
  case round =>
    obtain ⟨k, hk, rfl, rfl, rfl, hn⟩ := hrel
    have Hn := Lib.hid hn
    clear hn
    go_wp2
    · go_ret
      exact ⟨by rw [Hn.out.hit ‹_› ‹_›]; rfl, rfl⟩
    · go_roundg (s.size - (k + 1))
      case rel => exact ⟨k + 1, by omega, rfl, by go_num, rfl, Hn.out.succ ‹_› ‹_›⟩
      case measure => omega
    · obtain rfl : k = s.size := by omega
      go_ret
      exact ⟨by rw [Hn.out.all]; rfl, rfl⟩
theorem spec_l2Hex (b : UInt8) (w : World) :
    Calls Try.prog 22 #[.int .u8 (b.toNat : Int)] w fun e w' => e = .returned (.int .i64 (hx b)) ∧ w = w' := by
  go_enter Try.func22, Try.ntmps22
  go_wp2_with (go_at_call 32; refine (spec_l14Find _ _ _ (by decide)).mono ?_; rintro e w' ⟨rfl, rfl⟩)
  go_ret
  exact ⟨rfl, rfl⟩
theorem spec_l2Digits (r : ByteArray) (n : Nat) (w : World) (hs : r.size ≤ maxLen) :
    Calls Try.prog 38 #[.string r, .int .i64 n] w fun e w' => e = .returned (.bool (dvB n r)) ∧ w = w' := by
  unfold maxLen at hs
  go_enter Try.func38, Try.ntmps38
  go_wp2_with fail
  go_loopg [5] r.size (fun gk i wr => ∃ k : Nat, k ≤ r.size ∧ gk = r.size - k ∧ i = .int .i64 k ∧ w = wr ∧ Digs r k)
  case atStart => exact ⟨0, Nat.zero_le _, rfl, rfl, rfl, Digs.zero r⟩
  case round =>
    obtain ⟨k, hk, rfl, rfl, rfl, hn⟩ := hrel
    have Hn := Lib.hid hn
    clear hn
    have Hd := Lib.hid (dg_at r k)
    go_wp2_with (go_at_call 22; refine (spec_l2Hex _ _).mono ?_; rintro e w' ⟨rfl, rfl⟩)
    · have hk' : k < r.size := by assumption
      have hb : ¬ 0 ≤ dg r k := by rw [Hd.out hk']; omega
      go_ret
      exact ⟨by rw [dvB_badAny hk' hb]; rfl, rfl⟩
    · have hk' : k < r.size := by assumption
      have hb : 0 ≤ dg r k := by rw [Hd.out hk']; assumption
      go_roundg (r.size - (k + 1))
      case rel => exact ⟨k + 1, by omega, rfl, by go_num, rfl, Hn.out.succ hb⟩
      case measure => omega
    · obtain rfl : k = r.size := by omega
      go_ret
      exact ⟨by rw [← dvB_end Hn.out]; rfl, rfl⟩
theorem impl_digit (n : Int) (w : World) (h0 : 0 ≤ n) (h1 : n ≤ 15) :
    Calls Try.prog 34 #[.int .i64 n] w fun e w' => e = .returned (.string (dgt n)) ∧ w = w' := by
  go_enter Try.func34, Try.ntmps34
  go_wp2
  go_ret
  exact ⟨by rw [← dgt_extract h0 h1]; rfl, rfl⟩
end Go.Proofs.Ytmajmkggbgilbaa
