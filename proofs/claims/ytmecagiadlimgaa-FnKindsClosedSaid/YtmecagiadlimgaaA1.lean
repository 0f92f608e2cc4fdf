/-
  Contracts of the small functions on numbers and digits.
-/
import Derived.Test.YtmecagiadlimgaaRows
import Derived.Test.YtmecagiadlimgaaPlain
namespace Go.Proofs.Ytmecagiadlimgaa
open Go.RowKit Go.DC
set_option maxHeartbeats 400000
set_option linter.unusedVariables false
set_option linter.unusedSimpArgs false

theorem impl_ConditionValid (p : Int) (w : World) :
    Calls Try.prog 75 #[.int .i64 p] w fun e w' => e = .returned (.bool (cv p)) ∧ w = w' := by
  by_cases h0 : 0 ≤ p
  · go_enter Try.func75, Try.ntmps75
    go_wp2
    go_ret
    exact ⟨by simp [cv, h0], rfl⟩
  · have hd : decide (0 ≤ p) = false := by simpa using h0
    go_enter Try.func75, Try.ntmps75
    go_wp2
    go_ret
    exact ⟨by simp [cv, hd], rfl⟩
theorem spec_l1In (p a b : Int) (w : World) :
    Calls Try.prog 133 #[.int .i64 p, .int .i64 a, .int .i64 b] w fun e w' => e = .returned (.bool (decide (a ≤ p) && decide (p ≤ b))) ∧ w = w' := by
  by_cases h0 : a ≤ p
  · go_enter Try.func133, Try.ntmps133
    go_wp2
    go_ret
    exact ⟨by simp [h0], rfl⟩
  · have hd : decide (a ≤ p) = false := by simpa using h0
    go_enter Try.func133, Try.ntmps133
    go_wp2
    go_ret
    exact ⟨by simp [hd], rfl⟩
theorem spec_ConditionValid (p : Int) (w : World) :
    Calls Try.prog 82 #[.int .i64 p] w fun e w' => e = .returned (.bool (cv p)) ∧ w = w' := by
  go_enter Try.func82, Try.ntmps82
  go_wp2_with (go_at_call 133; refine (spec_l1In _ _ _ _).mono ?_; rintro e w' ⟨rfl, rfl⟩)
  go_ret
  exact ⟨rfl, rfl⟩
theorem spec_l1Has (a b : Int) (w : World) (h1 : 0 ≤ a) (h2 : a ≤ 65535) (h3 : 0 ≤ b) (h4 : b ≤ 15) :
    Calls Try.prog 123 #[.int .i64 a, .int .i64 b] w fun e w' => e = .returned (.bool (hasb a b.toNat)) ∧ w = w' := by
  go_enter Try.func123, Try.ntmps123
  go_wp2
  go_ret
  exact ⟨rfl, rfl⟩
/-- A state of a condition. -/
def hasState (p s : Int) : Bool := if cv p && sv s then hasb p s.toNat else false
theorem impl_NotCondition (p : Int) (w : World) :
    Calls Try.prog 20 #[.int .i64 p] w fun e w' => e = .returned (.int .i64 (if cv p then bandn 15 p else -1)) ∧ w = w' := by
  cases hp : cv p
  all_goals
    go_enter Try.func20, Try.ntmps20
    go_wp2_with (go_at_call 75; refine (impl_ConditionValid _ _).mono ?_; rintro e w' ⟨rfl, rfl⟩)
    go_ret
    exact ⟨rfl, rfl⟩
theorem ibs (s : ByteArray) (b : UInt8) (w : World) : (callFunc 170 #[.string s, .int .u8 (b.toNat : Int)]).run Try.prog w = .ok (.value (.int .i64 (Lib.indexByte s.data.toList b))) w := by
  have he : Extern.find Try.f170 = some Extern.BytealgIndexByte.indexByte := by kernel_rfl
  rw [run_callFunc_extern Try.func170 (by kernel_rfl) (by kernel_rfl) (by kernel_rfl) he, Lib.run_indexByteString]
  have hb : ((b.toNat : Int)).toNat.toUInt8 = b := by simp
  rw [hb]
  rfl
theorem strings_IndexByte (s : ByteArray) (b : UInt8) (w : World) :
    Calls Try.prog 158 #[.string s, .int .u8 (b.toNat : Int)] w fun e w' => e = .returned (.int .i64 (Lib.indexByte s.data.toList b)) ∧ w = w' := by
  have hI := ibs s b
  go_enter Try.func158, Try.ntmps158
  go_wp2
  go_ret
  exact ⟨rfl, rfl⟩
theorem impl_digitOf (b : UInt8) (w : World) :
    Calls Try.prog 127 #[.int .u8 (b.toNat : Int)] w fun e w' => e = .returned (.int .i64 (hx b)) ∧ w = w' := by
  go_enter Try.func127, Try.ntmps127
  go_wp2_with (go_at_call 158; refine (strings_IndexByte _ _ _).mono ?_; rintro e w' ⟨rfl, rfl⟩)
  go_ret
  exact ⟨rfl, rfl⟩
theorem spec_l14Find (s : ByteArray) (b : UInt8) (w : World) (hs : s.size ≤ maxLen) :
    Calls Try.prog 164 #[.string s, .int .u8 (b.toNat : Int)] w fun e w' => e = .returned (.int .i64 (Lib.indexByte s.data.toList b)) ∧ w = w' := by
  unfold maxLen at hs
  go_enter Try.func164, Try.ntmps164
  go_wp2_with fail
  go_loopg [5] s.size (fun gk i wr => ∃ k : Nat, k ≤ s.size ∧ gk = s.size - k ∧ i = .int .i64 k ∧ w = wr ∧ NotIn s b k)
  case atStart => exact ⟨0, Nat.zero_le _, rfl, rfl, rfl, NotIn.zero s b⟩
  case round =>
    obtain ⟨k, hk, rfl, rfl, rfl, hn⟩ := hrel
    have Hn := Lib.hid hn
    clear hn
    go_wp2
    · go_ret
      exact ⟨by rw [Hn.out.hit ‹_› ‹_›]; rfl, rfl⟩
    · go_roundg (s.size - (k + 1))
      case rel => exact ⟨k + 1, by omega, rfl, by go_num, rfl, Hn.out.succ ‹_› ‹_›⟩
      case measure => omega
    · obtain rfl : k = s.size := by omega
      go_ret
      exact ⟨by rw [Hn.out.all]; rfl, rfl⟩
theorem spec_l2Hex (b : UInt8) (w : World) :
    Calls Try.prog 147 #[.int .u8 (b.toNat : Int)] w fun e w' => e = .returned (.int .i64 (hx b)) ∧ w = w' := by
  go_enter Try.func147, Try.ntmps147
  go_wp2_with (go_at_call 164; refine (spec_l14Find _ _ _ (by decide)).mono ?_; rintro e w' ⟨rfl, rfl⟩)
  go_ret
  exact ⟨rfl, rfl⟩
theorem spec_l2To (r : ByteArray) (s : Int) (w : World) (h0 : 0 ≤ s) (h1 : s < r.size) :
    Calls Try.prog 165 #[.string r, .int .i64 s] w fun e w' => e = .returned (.int .i64 (dg r s.toNat)) ∧ w = w' := by
  have hd := dg_at r s.toNat (by omega)
  have Hd := Lib.hid hd
  clear hd
  go_enter Try.func165, Try.ntmps165
  go_wp2_with (go_at_call 147; refine (spec_l2Hex _ _).mono ?_; rintro e w' ⟨rfl, rfl⟩)
  go_ret
  exact ⟨by rw [Hd.out]; rfl, rfl⟩
theorem spec_l3Value (r : ByteArray) (s : Int) (w : World) (h0 : 0 ≤ s) (h1 : s < r.size) :
    Calls Try.prog 101 #[.string r, .int .i64 s] w fun e w' => e = .returned (.int .i64 (dg r s.toNat)) ∧ w = w' := by
  have hd := dg_at r s.toNat (by omega)
  have Hd := Lib.hid hd
  clear hd
  go_enter Try.func101, Try.ntmps101
  go_wp2_with (go_at_call 147; refine (spec_l2Hex _ _).mono ?_; rintro e w' ⟨rfl, rfl⟩)
  go_ret
  exact ⟨by rw [Hd.out]; rfl, rfl⟩
theorem spec_l2Digits (r : ByteArray) (n : Nat) (w : World) (hs : r.size ≤ maxLen) :
    Calls Try.prog 134 #[.string r, .int .i64 n] w fun e w' => e = .returned (.bool (dvB n r)) ∧ w = w' := by
  unfold maxLen at hs
  go_enter Try.func134, Try.ntmps134
  go_wp2_with fail
  go_loopg [5] r.size (fun gk i wr => ∃ k : Nat, k ≤ r.size ∧ gk = r.size - k ∧ i = .int .i64 k ∧ w = wr ∧ Digs r k)
  case atStart => exact ⟨0, Nat.zero_le _, rfl, rfl, rfl, Digs.zero r⟩
  case round =>
    obtain ⟨k, hk, rfl, rfl, rfl, hn⟩ := hrel
    have Hn := Lib.hid hn
    clear hn
    have Hd := Lib.hid (dg_at r k)
    go_wp2_with (go_at_call 147; refine (spec_l2Hex _ _).mono ?_; rintro e w' ⟨rfl, rfl⟩)
    · have hk' : k < r.size := by assumption
      have hb : ¬ 0 ≤ dg r k := by rw [Hd.out hk']; omega
      go_ret
      exact ⟨by rw [dvB_badAny hk' hb]; rfl, rfl⟩
    · have hk' : k < r.size := by assumption
      have hb : 0 ≤ dg r k := by rw [Hd.out hk']; assumption
      go_roundg (r.size - (k + 1))
      case rel => exact ⟨k + 1, by omega, rfl, by go_num, rfl, Hn.out.succ hb⟩
      case measure => omega
    · obtain rfl : k = r.size := by omega
      go_ret
      exact ⟨by rw [← dvB_end Hn.out]; rfl, rfl⟩
theorem spec_l2Digit (n : Int) (w : World) (h0 : 0 ≤ n) (h1 : n ≤ 15) :
    Calls Try.prog 124 #[.int .i64 n] w fun e w' => e = .returned (.string (dgt n)) ∧ w = w' := by
  go_enter Try.func124, Try.ntmps124
  go_wp2
  go_ret
  exact ⟨by rw [← dgt_extract h0 h1]; rfl, rfl⟩
theorem impl_digit (n : Int) (w : World) (h0 : 0 ≤ n) (h1 : n ≤ 15) :
    Calls Try.prog 132 #[.int .i64 n] w fun e w' => e = .returned (.string (dgt n)) ∧ w = w' := by
  go_enter Try.func132, Try.ntmps132
  go_wp2
  go_ret
  exact ⟨by rw [← dgt_extract h0 h1]; rfl, rfl⟩
end Go.Proofs.Ytmecagiadlimgaa
