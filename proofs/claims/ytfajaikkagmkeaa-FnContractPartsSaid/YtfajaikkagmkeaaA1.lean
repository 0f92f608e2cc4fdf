/-
  Contracts of the small functions on numbers and digits.
-/
import Derived.Test.YtfajaikkagmkeaaRows
import Derived.Test.YtfajaikkagmkeaaG1
namespace Go.Proofs.Ytfajaikkagmkeaa
open Go.RowKit Go.DC
set_option maxHeartbeats 400000
set_option linter.unusedVariables false
set_option linter.unusedSimpArgs false

theorem impl_ConditionValid (p : Int) (w : World) :
    Calls Try.prog 15 #[.int .i64 p] w fun e w' => e = .returned (.bool (cv p)) ∧ w = w' := by
  by_cases h0 : 0 ≤ p
  · go_enter Try.func15, Try.ntmps15
    go_wp2
    go_ret
    exact ⟨by simp [cv, h0], rfl⟩
  · have hd : decide (0 ≤ p) = false := by simpa using h0
    go_enter Try.func15, Try.ntmps15
    go_wp2
    go_ret
    exact ⟨by simp [cv, hd], rfl⟩
theorem impl_stateOk (p : Int) (w : World) :
    Calls Try.prog 72 #[.int .i64 p] w fun e w' => e = .returned (.bool (sv p)) ∧ w = w' := by
  have e3 : decide (p ≤ 3) = decide (p < 4) := by rw [decide_eq_decide]; omega
  by_cases h0 : 0 ≤ p
  · go_enter Try.func72, Try.ntmps72
    go_wp2
    go_ret
    exact ⟨by simp [sv, h0, e3], rfl⟩
  · have hd : decide (0 ≤ p) = false := by simpa using h0
    go_enter Try.func72, Try.ntmps72
    go_wp2
    go_ret
    exact ⟨by simp [sv, hd], rfl⟩
theorem spec_l1In (p a b : Int) (w : World) :
    Calls Try.prog 103 #[.int .i64 p, .int .i64 a, .int .i64 b] w fun e w' => e = .returned (.bool (decide (a ≤ p) && decide (p ≤ b))) ∧ w = w' := by
  by_cases h0 : a ≤ p
  · go_enter Try.func103, Try.ntmps103
    go_wp2
    go_ret
    exact ⟨by simp [h0], rfl⟩
  · have hd : decide (a ≤ p) = false := by simpa using h0
    go_enter Try.func103, Try.ntmps103
    go_wp2
    go_ret
    exact ⟨by simp [hd], rfl⟩
theorem spec_ConditionValid (p : Int) (w : World) :
    Calls Try.prog 62 #[.int .i64 p] w fun e w' => e = .returned (.bool (cv p)) ∧ w = w' := by
  go_enter Try.func62, Try.ntmps62
  go_wp2_with (go_at_call 103; refine (spec_l1In _ _ _ _).mono ?_; rintro e w' ⟨rfl, rfl⟩)
  go_ret
  exact ⟨rfl, rfl⟩
theorem spec_l1State (p : Int) (w : World) :
    Calls Try.prog 102 #[.int .i64 p] w fun e w' => e = .returned (.bool (sv p)) ∧ w = w' := by
  go_enter Try.func102, Try.ntmps102
  go_wp2_with (go_at_call 103; refine (spec_l1In _ _ _ _).mono ?_; rintro e w' ⟨rfl, rfl⟩)
  go_ret
  exact ⟨rfl, rfl⟩
theorem spec_l1Has (a b : Int) (w : World) (h1 : 0 ≤ a) (h2 : a ≤ 65535) (h3 : 0 ≤ b) (h4 : b ≤ 15) :
    Calls Try.prog 63 #[.int .i64 a, .int .i64 b] w fun e w' => e = .returned (.bool (hasb a b.toNat)) ∧ w = w' := by
  go_enter Try.func63, Try.ntmps63
  go_wp2
  go_ret
  exact ⟨rfl, rfl⟩
/-- A state of a condition. -/
def hasState (p s : Int) : Bool := if cv p && sv s then hasb p s.toNat else false
theorem impl_HasState (p s : Int) (w : World) :
    Calls Try.prog 18 #[.int .i64 p, .int .i64 s] w fun e w' => e = .returned (.bool (hasState p s)) ∧ w = w' := by
  cases hp : cv p <;> cases hs : sv s
  case true.true =>
    have h1 := cv_iff.1 hp
    have h2 := sv_iff.1 hs
    obtain ⟨h1, h1'⟩ := h1
    obtain ⟨h2, h2'⟩ := h2
    go_enter Try.func18, Try.ntmps18
    go_wp2_with (first | (go_at_call 15; refine (impl_ConditionValid _ _).mono ?_; rintro e w' ⟨rfl, rfl⟩) | (go_at_call 72; refine (impl_stateOk _ _).mono ?_; rintro e w' ⟨rfl, rfl⟩))
    go_ret
    exact ⟨by simp [hasState, hp, hs]; rfl, rfl⟩
  all_goals
    go_enter Try.func18, Try.ntmps18
    go_wp2_with (first | (go_at_call 15; refine (impl_ConditionValid _ _).mono ?_; rintro e w' ⟨rfl, rfl⟩) | (go_at_call 72; refine (impl_stateOk _ _).mono ?_; rintro e w' ⟨rfl, rfl⟩))
    go_ret
    exact ⟨by simp [hasState, hp, hs], rfl⟩
theorem impl_NotCondition (p : Int) (w : World) :
    Calls Try.prog 17 #[.int .i64 p] w fun e w' => e = .returned (.int .i64 (if cv p then bandn 15 p else -1)) ∧ w = w' := by
  cases hp : cv p
  all_goals
    go_enter Try.func17, Try.ntmps17
    go_wp2_with (go_at_call 15; refine (impl_ConditionValid _ _).mono ?_; rintro e w' ⟨rfl, rfl⟩)
    go_ret
    exact ⟨rfl, rfl⟩
theorem ibs (s : ByteArray) (b : UInt8) (w : World) : (callFunc 153 #[.string s, .int .u8 (b.toNat : Int)]).run Try.prog w = .ok (.value (.int .i64 (Lib.indexByte s.data.toList b))) w := by
  have he : Extern.find Try.f153 = some Extern.BytealgIndexByte.indexByte := by kernel_rfl
  rw [run_callFunc_extern Try.func153 (by kernel_rfl) (by kernel_rfl) (by kernel_rfl) he, Lib.run_indexByteString]
  have hb : ((b.toNat : Int)).toNat.toUInt8 = b := by simp
  rw [hb]
  rfl
theorem strings_IndexByte (s : ByteArray) (b : UInt8) (w : World) :
    Calls Try.prog 71 #[.string s, .int .u8 (b.toNat : Int)] w fun e w' => e = .returned (.int .i64 (Lib.indexByte s.data.toList b)) ∧ w = w' := by
  have hI := ibs s b
  go_enter Try.func71, Try.ntmps71
  go_wp2
  go_ret
  exact ⟨rfl, rfl⟩
theorem impl_digitOf (b : UInt8) (w : World) :
    Calls Try.prog 131 #[.int .u8 (b.toNat : Int)] w fun e w' => e = .returned (.int .i64 (hx b)) ∧ w = w' := by
  go_enter Try.func131, Try.ntmps131
  go_wp2_with (go_at_call 71; refine (strings_IndexByte _ _ _).mono ?_; rintro e w' ⟨rfl, rfl⟩)
  go_ret
  exact ⟨rfl, rfl⟩
theorem spec_l14Find (s : ByteArray) (b : UInt8) (w : World) (hs : s.size ≤ maxLen) :
    Calls Try.prog 137 #[.string s, .int .u8 (b.toNat : Int)] w fun e w' => e = .returned (.int .i64 (Lib.indexByte s.data.toList b)) ∧ w = w' := by
  unfold maxLen at hs
  go_enter Try.func137, Try.ntmps137
  go_wp2_with fail
  go_loopg [5] s.size (fun gk i wr => ∃ k : Nat, k ≤ s.size ∧ gk = s.size - k ∧ i = .int .i64 k ∧ w = wr ∧ NotIn s b k)
  case atStart => exact ⟨0, Nat.zero_le _, rfl, rfl, rfl, NotIn.zero s b⟩
  case round =>
    obtain ⟨k, hk, rfl, rfl, rfl, hn⟩ := hrel
    have Hn := Lib.hid hn
    clear hn
    go_wp2
    · go_ret
      exact ⟨by rw [Hn.out.hit ‹_› ‹_›]; rfl, rfl⟩
    · go_roundg (s.size - (k + 1))
      case rel => exact ⟨k + 1, by omega, rfl, by go_num, rfl, Hn.out.succ ‹_› ‹_›⟩
      case measure => omega
    · obtain rfl : k = s.size := by omega
      go_ret
      exact ⟨by rw [Hn.out.all]; rfl, rfl⟩
theorem spec_l2Hex (b : UInt8) (w : World) :
    Calls Try.prog 104 #[.int .u8 (b.toNat : Int)] w fun e w' => e = .returned (.int .i64 (hx b)) ∧ w = w' := by
  go_enter Try.func104, Try.ntmps104
  go_wp2_with (go_at_call 137; refine (spec_l14Find _ _ _ (by decide)).mono ?_; rintro e w' ⟨rfl, rfl⟩)
  go_ret
  exact ⟨rfl, rfl⟩
theorem spec_l2To (r : ByteArray) (s : Int) (w : World) (h0 : 0 ≤ s) (h1 : s < r.size) :
    Calls Try.prog 170 #[.string r, .int .i64 s] w fun e w' => e = .returned (.int .i64 (dg r s.toNat)) ∧ w = w' := by
  have hd := dg_at r s.toNat (by omega)
  have Hd := Lib.hid hd
  clear hd
  go_enter Try.func170, Try.ntmps170
  go_wp2_with (go_at_call 104; refine (spec_l2Hex _ _).mono ?_; rintro e w' ⟨rfl, rfl⟩)
  go_ret
  exact ⟨by rw [Hd.out]; rfl, rfl⟩
theorem spec_l3Value (r : ByteArray) (s : Int) (w : World) (h0 : 0 ≤ s) (h1 : s < r.size) :
    Calls Try.prog 64 #[.string r, .int .i64 s] w fun e w' => e = .returned (.int .i64 (dg r s.toNat)) ∧ w = w' := by
  have hd := dg_at r s.toNat (by omega)
  have Hd := Lib.hid hd
  clear hd
  go_enter Try.func64, Try.ntmps64
  go_wp2_with (go_at_call 104; refine (spec_l2Hex _ _).mono ?_; rintro e w' ⟨rfl, rfl⟩)
  go_ret
  exact ⟨by rw [Hd.out]; rfl, rfl⟩
theorem spec_l2Digits (r : ByteArray) (n : Nat) (w : World) (hs : r.size ≤ maxLen) :
    Calls Try.prog 172 #[.string r, .int .i64 n] w fun e w' => e = .returned (.bool (dvB n r)) ∧ w = w' := by
  unfold maxLen at hs
  go_enter Try.func172, Try.ntmps172
  go_wp2_with fail
  go_loopg [5] r.size (fun gk i wr => ∃ k : Nat, k ≤ r.size ∧ gk = r.size - k ∧ i = .int .i64 k ∧ w = wr ∧ Digs r k)
  case atStart => exact ⟨0, Nat.zero_le _, rfl, rfl, rfl, Digs.zero r⟩
  case round =>
    obtain ⟨k, hk, rfl, rfl, rfl, hn⟩ := hrel
    have Hn := Lib.hid hn
    clear hn
    have Hd := Lib.hid (dg_at r k)
    go_wp2_with (go_at_call 104; refine (spec_l2Hex _ _).mono ?_; rintro e w' ⟨rfl, rfl⟩)
    · have hk' : k < r.size := by assumption
      have hb : ¬ 0 ≤ dg r k := by rw [Hd.out hk']; omega
      go_ret
      exact ⟨by rw [dvB_badAny hk' hb]; rfl, rfl⟩
    · have hk' : k < r.size := by assumption
      have hb : 0 ≤ dg r k := by rw [Hd.out hk']; assumption
      go_roundg (r.size - (k + 1))
      case rel => exact ⟨k + 1, by omega, rfl, by go_num, rfl, Hn.out.succ hb⟩
      case measure => omega
    · obtain rfl : k = r.size := by omega
      go_ret
      exact ⟨by rw [← dvB_end Hn.out]; rfl, rfl⟩
theorem spec_l2Digit (n : Int) (w : World) (h0 : 0 ≤ n) (h1 : n ≤ 15) :
    Calls Try.prog 142 #[.int .i64 n] w fun e w' => e = .returned (.string (dgt n)) ∧ w = w' := by
  go_enter Try.func142, Try.ntmps142
  go_wp2
  go_ret
  exact ⟨by rw [← dgt_extract h0 h1]; rfl, rfl⟩
theorem impl_digit (n : Int) (w : World) (h0 : 0 ≤ n) (h1 : n ≤ 15) :
    Calls Try.prog 132 #[.int .i64 n] w fun e w' => e = .returned (.string (dgt n)) ∧ w = w' := by
  go_enter Try.func132, Try.ntmps132
  go_wp2
  go_ret
  exact ⟨by rw [← dgt_extract h0 h1]; rfl, rfl⟩
end Go.Proofs.Ytfajaikkagmkeaa
