/-
  Contracts of the two functions that tell what a play is worth.
-/
import Derived.Test.YtbheabeeomaagaaA1
namespace Go.Proofs.Ytbheabeeomaagaa
open Go.RowKit Go.DC
set_option maxHeartbeats 1000000
set_option linter.unusedVariables false
set_option linter.unusedSimpArgs false
/-- What a play is worth. -/
def playV (s : Int) (e : ByteArray) (p : Int) : Bool := if e.toList == [100, 111, 110, 101] then hasState p s else if e.toList == [100, 101, 109, 111, 110] then cv p else false
theorem playV1 {s : Int} {e : ByteArray} {p : Int} (h : (e.toList == [100, 111, 110, 101]) = true) : playV s e p = hasState p s := by unfold playV; rw [h]; rfl
theorem playV2 {s : Int} {e : ByteArray} {p : Int} (h : (e.toList == [100, 111, 110, 101]) = false) (h2 : (e.toList == [100, 101, 109, 111, 110]) = true) : playV s e p = cv p := by unfold playV; rw [h, h2]; rfl
theorem playV3 {s : Int} {e : ByteArray} {p : Int} (h : (e.toList == [100, 111, 110, 101]) = false) (h2 : (e.toList == [100, 101, 109, 111, 110]) = false) : playV s e p = false := by unfold playV; rw [h, h2]; rfl
theorem hasState_cv {p s : Int} (h : cv p = false) : hasState p s = false := by unfold hasState; rw [h]; rfl
theorem spec_PlayValue (s : Int) (e : ByteArray) (p : Int) (w : World) :
    Calls Try.prog 15 #[.int .i64 s, .string e, .int .i64 p] w fun en w' => en = .returned (.bool (playV s e p)) ∧ w = w' := by
  go_enter Try.func15, Try.ntmps15
  go_wp2_with (first | (go_at_call 40; refine (spec_HasState _ _ _).mono ?_; rintro e w' ⟨rfl, rfl⟩) | (go_at_call 41; refine (spec_ConditionValid _ _).mono ?_; rintro e w' ⟨rfl, rfl⟩))
  · go_ret
    exact ⟨by rw [playV1 (by assumption)]; rfl, rfl⟩
  · go_ret
    exact ⟨by rw [playV2 (by assumption) (by assumption)]; rfl, rfl⟩
  · go_ret
    exact ⟨by rw [playV3 (by assumption) (by assumption)]; rfl, rfl⟩
theorem impl_PlayValue (s : Int) (e : ByteArray) (p : Int) (w : World) :
    Calls Try.prog 16 #[.int .i64 s, .string e, .int .i64 p] w fun en w' => en = .returned (.bool (playV s e p)) ∧ w = w' := by
  cases h1 : (e.toList == [100, 111, 110, 101]) <;> cases h2 : (e.toList == [100, 101, 109, 111, 110]) <;> cases h3 : cv p
  all_goals
    first
      | (have h4 := eq_of_beq h1; have h5 := eq_of_beq h2; rw [h4] at h5; simp at h5; done)
      | skip
  all_goals
    try have H4 := Lib.hid (hasState_cv (s := s) h3)
    have H1 := Lib.hid h1
    have H2 := Lib.hid h2
    have H3 := Lib.hid h3
    go_enter Try.func16, Try.ntmps16
    go_wp2_with (first | (go_at_call 42; refine (impl_HasState _ _ _).mono ?_; rintro e w' ⟨rfl, rfl⟩) | (go_at_call 20; refine (impl_ConditionValid _ _).mono ?_; rintro e w' ⟨rfl, rfl⟩))
    go_ret
    first
      | exact ⟨by rw [playV1 H1.out, H4.out]; rfl, rfl⟩
      | exact ⟨by rw [playV1 H1.out]; rfl, rfl⟩
      | exact ⟨by rw [playV2 H1.out H2.out, H3.out]; rfl, rfl⟩
      | exact ⟨by rw [playV3 H1.out H2.out]; rfl, rfl⟩
end Go.Proofs.Ytbheabeeomaagaa
