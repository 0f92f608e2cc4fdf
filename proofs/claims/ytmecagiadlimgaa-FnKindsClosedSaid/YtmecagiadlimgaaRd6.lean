/-
  Contracts of the draws of transformers, first part: families, tables of families, spoilt texts.
-/
import Derived.Test.YtmecagiadlimgaaRd4
import Derived.Test.YtmecagiadlimgaaB4
import Derived.Test.YtmecagiadlimgaaHin
import Derived.Test.YtmecagiadlimgaaReg
namespace Go.Proofs.Ytmecagiadlimgaa
open Go.RowKit Go.DC
set_option maxHeartbeats 1000000
set_option linter.unusedVariables false
set_option linter.unusedSimpArgs false
theorem spec_FamilyValid (f : Int) (w : World) (h0 : 0 ≤ f) (h1 : f ≤ 65535) :
    Calls Try.prog 168 #[.int .i64 f] w fun e w' => e = .returned (.bool true) ∧ w = w' := by
  have h := fun w => spec_l1In f 0 65535 w
  rw [decide_eq_true h0, decide_eq_true h1] at h
  have H := Lib.hid h
  clear h
  go_enter Try.func168, Try.ntmps168
  (go_wp2_with fail; refine (H.out _).mono ?_; rintro e w' ⟨rfl, rfl⟩)
  go_wp2_with fail
  go_ret
  exact ⟨rfl, rfl⟩
/-- A family of conditions was told. -/
def AFam (w : World) (e : Ending) (w' : World) : Prop := ∃ v : Int, 0 ≤ v ∧ v ≤ 65535 ∧ e = .returned (.int .i64 v) ∧ w = w'
theorem spec_l1Up (f : Int) (w : World) (h0 : 0 ≤ f) (h1 : f ≤ 65535) :
    Calls Try.prog 169 #[.int .i64 f] w (AFam w) := by
  have Hh := Lib.hid (fun (p : Nat) (hp : p < 16) w => spec_l1Has f (p : Int) w h0 h1 (by omega) (by omega))
  go_enter Try.func169, Try.ntmps169
  go_wp2_with fail
  go_loopg [3, 4] 16 (fun gk o i wr => ∃ (n : Nat) (v : Int), n ≤ 16 ∧ gk = 16 - n ∧ i = .int .i64 n ∧ o = .int .i64 v ∧ 0 ≤ v ∧ v ≤ 65535 ∧ w = wr)
  case atStart => exact ⟨0, 0, by omega, rfl, rfl, rfl, by omega, by omega, rfl⟩
  case round =>
    obtain ⟨n, v, hn, rfl, rfl, rfl, hv0, hv1, rfl⟩ := hrel
    by_cases hlt : n < 16
    case neg =>
      obtain rfl : n = 16 := by omega
      go_wp2_with fail
      exact bodyPost_ret (results_tmp rfl _ _ _) rfl ⟨v, hv0, hv1, rfl, rfl⟩
    case pos =>
      have hdn : decide ((n : Int) < 16) = true := decide_eq_true (by omega)
      have HH := Lib.hid (Hh.out n hlt)
      generalize hasb f (n : Int).toNat = b at *
      go_wp2_with fail
      go_loopg [3, 5] 16 (fun gk o i wr => ∃ (m : Nat) (u : Int), m ≤ 16 ∧ gk = 16 - m ∧ i = .int .i64 m ∧ o = .int .i64 u ∧ 0 ≤ u ∧ u ≤ 65535 ∧ w = wr)
      case atStart => exact ⟨0, v, by omega, rfl, rfl, rfl, hv0, hv1, rfl⟩
      case round =>
        clear hv0 hv1
        obtain ⟨m, u, hm, rfl, rfl, rfl, hu0, hu1, rfl⟩ := hrel
        by_cases hlt' : m < 16
        case neg =>
          obtain rfl : m = 16 := by omega
          go_wp2_with fail
          go_roundg (16 - (n + 1))
          case rel => exact ⟨n + 1, u, by omega, rfl, by go_num, rfl, hu0, hu1, rfl⟩
          case measure => omega
        case pos =>
          have hdm : decide ((m : Int) < 16) = true := decide_eq_true (by omega)
          cases b
          · (go_wp2_with fail; refine (HH.out _).mono ?_; rintro e w' ⟨rfl, rfl⟩)
            go_wp2_with fail
            go_roundg (16 - (n + 1))
            case rel => exact ⟨n + 1, u, by omega, rfl, by go_num, rfl, hu0, hu1, rfl⟩
            case measure => omega
          · cases hc : (bits BinOp.andNot IntKind.i64 (n : Int) (m : Int) == 0)
            · (go_wp2_with fail; refine (HH.out _).mono ?_; rintro e w' ⟨rfl, rfl⟩)
              go_wp2_with fail
              go_roundg (16 - (m + 1))
              case rel => exact ⟨m + 1, u, by omega, rfl, by go_num, rfl, hu0, hu1, rfl⟩
              case measure => omega
            · obtain ⟨hs0, hs1⟩ := or_16 hu0 hu1 hlt'
              (go_wp2_with fail; refine (HH.out _).mono ?_; rintro e w' ⟨rfl, rfl⟩)
              go_wp2_with fail
              generalize bits BinOp.or IntKind.i64 u (wrap64 (2 ^ m)) = V at *
              go_roundg (16 - (m + 1))
              case rel => exact ⟨m + 1, V, by omega, rfl, by go_num, rfl, hs0, hs1, rfl⟩
              case measure => omega
/-- A table of four families. -/
def Fams (w : World) (g : Nat) (z : Nat → Int) : Prop := ∀ i, i < 4 → w.cell? ⟨g, i, none⟩ = some (.int .i64 (z i)) ∧ 0 ≤ z i ∧ z i ≤ 65535
/-- A text of 16 digits, and yes. -/
def ATable (w : World) (e : Ending) (w' : World) : Prop := ∃ s : ByteArray, IsDg 16 s ∧ e = .returned (.tuple #[.string s, .bool true]) ∧ w = w'
theorem spec_TransOf (g cap : Nat) (z : Nat → Int) (w : World) (hz : Fams w g z) :
    Calls Try.prog 166 #[.slice (some ⟨g, 0, none⟩) 4 cap] w (ATable w) := by
  have Hz := Lib.hid hz
  clear hz
  go_enter Try.func166, Try.ntmps166
  go_wp2_with fail
  go_loopg [4] 4 (fun gk i wr => ∃ n : Nat, n ≤ 4 ∧ gk = 4 - n ∧ i = .int .i64 n ∧ w = wr)
  case atStart => exact ⟨0, by omega, rfl, rfl, rfl⟩
  case round =>
    obtain ⟨n, hn, rfl, rfl, rfl⟩ := hrel
    by_cases hlt : n < 4
    case pos =>
      have hdn : decide ((n : Int) < 4) = true := decide_eq_true (by omega)
      obtain ⟨hc, h0, h1⟩ := Hz.out n hlt
      go_wp2_with fail
      refine (spec_FamilyValid (z n) _ h0 h1).mono ?_
      rintro e w' ⟨rfl, rfl⟩
      go_wp2_with fail
      go_roundg (4 - (n + 1))
      case rel => exact ⟨n + 1, by omega, rfl, by go_num, rfl⟩
      case measure => omega
    case neg =>
      obtain rfl : n = 4 := by omega
      go_wp2_with fail
      go_loopg [5, 6] 16 (fun gk o i wr => ∃ (n : Nat) (f : Nat → Int), n ≤ 16 ∧ gk = 16 - n ∧ i = .int .i64 n ∧ o = .string (txt n f) ∧ Dg n f ∧ w = wr)
      case atStart => exact ⟨0, fun _ => 0, by omega, rfl, rfl, rfl, Dg_zero 0, rfl⟩
      case round =>
        obtain ⟨n, f, hn, rfl, rfl, rfl, hf, rfl⟩ := hrel
        have Hf := Lib.hid hf
        clear hf
        by_cases hlt : n < 16
        case neg =>
          obtain rfl : n = 16 := by omega
          go_wp2_with fail
          go_ret2
          exact ⟨_, ⟨f, Hf.out, rfl⟩, rfl, rfl⟩
        case pos =>
          have hdn : decide ((n : Int) < 16) = true := decide_eq_true (by omega)
          go_wp2_with fail
          go_loopg [7, 8] 4 (fun gk o i wr => ∃ (m : Nat) (u : Int), m ≤ 4 ∧ gk = 4 - m ∧ i = .int .i64 m ∧ o = .int .i64 u ∧ 0 ≤ u ∧ u ≤ 15 ∧ w = wr)
          case atStart => exact ⟨0, 0, by omega, rfl, rfl, rfl, by omega, by omega, rfl⟩
          case round =>
            obtain ⟨m, u, hm, rfl, rfl, rfl, hu0, hu1, rfl⟩ := hrel
            by_cases hlt' : m < 4
            case neg =>
              obtain rfl : m = 4 := by omega
              have Hadd := Lib.hid (fun w => drew_add (P := Try.prog) n f u (by omega) w)
              have HD := Lib.hid (Dg_upd Hf.out hu0 hu1)
              go_wp2_with fail
              refine (spec_l2Digit u _ hu0 hu1).mono ?_
              rintro e w' ⟨rfl, rfl⟩
              have hadd := Hadd.out
              go_wp2_with fail
              go_roundg (16 - (n + 1))
              case rel => exact ⟨n + 1, _, by omega, rfl, by go_num, rfl, HD.out, rfl⟩
              case measure => omega
            case pos =>
              have hdm : decide ((m : Int) < 4) = true := decide_eq_true (by omega)
              obtain ⟨hc, h0, h1⟩ := Hz.out m hlt'
              have hs := pow_small (v := (m : Int)) (by omega) (by omega)
              rw [Int.toNat_natCast] at hs
              obtain ⟨ho0, ho1⟩ := bor_rng hu0 hu1 hs.1 hs.2
              clear hs
              unfold bor at ho0 ho1
              go_wp2_with fail
              refine (spec_l1Up (z m) _ h0 h1).mono ?_
              rintro e w' ⟨v, hv0, hv1, rfl, rfl⟩
              have hh := fun w => spec_l1Has v (n : Int) w hv0 hv1 (by omega) (by omega)
              generalize hasb v (n : Int).toNat = b at *
              have Hh := Lib.hid hh
              clear hh
              cases b
              · (go_wp2_with fail; refine (Hh.out _).mono ?_; rintro e w' ⟨rfl, rfl⟩)
                go_wp2_with fail
                go_roundg (4 - (m + 1))
                case rel => exact ⟨m + 1, u, by omega, rfl, by go_num, rfl, hu0, hu1, rfl⟩
                case measure => omega
              · (go_wp2_with fail; refine (Hh.out _).mono ?_; rintro e w' ⟨rfl, rfl⟩)
                go_wp2_with fail
                generalize bits BinOp.or IntKind.i64 u (wrap64 (2 ^ m)) = V at *
                go_roundg (4 - (m + 1))
                case rel => exact ⟨m + 1, V, by omega, rfl, by go_num, rfl, ho0, ho1, rfl⟩
                case measure => omega
end Go.Proofs.Ytmecagiadlimgaa
