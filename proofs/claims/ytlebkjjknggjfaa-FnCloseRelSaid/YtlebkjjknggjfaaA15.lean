/-
  The contract of the program's closure of a relation.
-/
import Derived.Test.YtlebkjjknggjfaaA4
import Derived.Test.YtlebkjjknggjfaaPv
namespace Go.Proofs.Ytlebkjjknggjfaa
open Go.RowKit Go.DC
set_option maxHeartbeats 1000000
set_option linter.unusedVariables false
set_option linter.unusedSimpArgs false

/-- The first n rows with themselves. -/
def mixI (n : Nat) (x : Nat → Int) : Nat → Int := fun i => if i < n then withId x i else x i
theorem mixI_at (n : Nat) (x : Nat → Int) : mixI n x n = x n := by simp [mixI]
theorem mixI_step (n : Nat) (x : Nat → Int) (v : Int) (hv : v = withId x n) (i : Nat) : upd (mixI n x) n v i = mixI (n + 1) x i := by
  unfold upd mixI
  by_cases e : i = n
  · subst e; simp [hv]
  · have : (i < n + 1) ↔ i < n := by omega
    simp [e, this]
theorem mixI_all (x : Nat → Int) (i : Nat) (hi : i < 4) : mixI 4 x i = pw (withId x) 1 i → True := fun _ => trivial
theorem impl_CloseRel (r : ByteArray) (w : World) :
    Calls Try.prog 34 #[.string r] w fun e w' => e = .returned (.tuple #[.string (orNo (dvB 4 r) (txt 4 (clo (dg r)))), .bool (dvB 4 r)]) ∧ Below w.heap.size w w' := by
  have hc := fun w => impl_readRel r w
  cases hr : dvB 4 r
  all_goals
    rw [hr] at hc
  · have Hc := Lib.hid hc
    clear hc hr
    go_enter Try.func34, Try.ntmps34
    go_wp2_with fail
    refine (Hc.out _).mono ?_
    rintro e w1 ⟨rfl, hb1⟩
    have Hb := Lib.hid (below_setRow (bgo hb1 (ba1 w1 (.cells #[.int .i64 0, .int .i64 0, .int .i64 0, .int .i64 0] 50))) hb1.size (cellsF 4 (rdF false r)))
    clear hb1
    go_wp2_with (refine st rel4 _ _ rfl rfl _ rfl _ rfl (f := ?_) ?_ ?_; rotate_left; first | (with_reducible assumption) | (with_reducible exact Row.new4 _ _ rfl) | (with_reducible exact Row.new16 _ _ rfl) | ((with_reducible refine Row.set ?_ _ _); (with_reducible assumption)) | ((with_reducible refine Row.other ?_ ?_ _); (with_reducible assumption); (focus first | (simp; done) | (simp; omega))) | ((with_reducible refine Row.alloc ?_ _); (with_reducible assumption)) | ((with_reducible refine Row.drew ?_); (with_reducible assumption)))
    go_ret2
    exact ⟨rfl, Hb.out⟩
  · have hD := dvB_Dg hr
    rw [orNo_true]
    simp only [rdF_true] at hc
    generalize dg r = X at *
    have HD := Lib.hid hD
    have Hc := Lib.hid hc
    clear hr hD hc
    go_enter Try.func34, Try.ntmps34
    go_wp2_with fail
    refine (Hc.out _).mono ?_
    rintro e w1 ⟨rfl, hb1⟩
    have hx1 : Row ((w1.alloc (.cells #[.int .i64 0, .int .i64 0, .int .i64 0, .int .i64 0] 50)).setRow w1.heap.size (cellsF 4 X)) w1.heap.size 4 X := (Row.new4 _ _ rfl).setRow _
    have Hb := Lib.hid (below_setRow (bgo hb1 (ba1 w1 (.cells #[.int .i64 0, .int .i64 0, .int .i64 0, .int .i64 0] 50))) hb1.size (cellsF 4 X))
    have Hle := Lib.hid hb1.size
    clear hb1
    go_wp2_with (refine st rel4 _ _ rfl rfl _ rfl _ rfl (f := ?_) ?_ ?_; rotate_left; first | (with_reducible assumption) | (with_reducible exact Row.new4 _ _ rfl) | (with_reducible exact Row.new16 _ _ rfl) | ((with_reducible refine Row.set ?_ _ _); (with_reducible assumption)) | ((with_reducible refine Row.other ?_ ?_ _); (with_reducible assumption); (focus first | (simp; done) | (simp; omega))) | ((with_reducible refine Row.alloc ?_ _); (with_reducible assumption)) | ((with_reducible refine Row.drew ?_); (with_reducible assumption)))
    generalize ((w1.alloc (.cells #[.int .i64 0, .int .i64 0, .int .i64 0, .int .i64 0] 50)).setRow w1.heap.size (cellsF 4 X)) = W1 at *
    have Hx := Lib.hid hx1
    clear hx1
    go_loopg [14] 4 (fun gk i wr => ∃ n : Nat, n ≤ 4 ∧ gk = 4 - n ∧ i = .int .i64 n ∧ Row wr w1.heap.size 4 (mixI n X) ∧ Below w.heap.size w wr)
    case atStart => exact ⟨0, by omega, rfl, rfl, Hx.out.congr fun i _ => by simp [mixI], Hb.out⟩
    case round =>
      clear Hx Hb
      obtain ⟨n, hn, rfl, rfl, hx, hb⟩ := hrel
      by_cases hlt : n < 4
      · have hcx := hx.cell hlt
        rw [mixI_at] at hcx
        have hfz := hx.free n
        have Hx := Lib.hid hx
        have Hb := Lib.hid hb
        have Hst := Lib.hid (show bits BinOp.or IntKind.i64 (X n) (wrap64 (2 ^ n)) = withId X n by rw [pow_bits n hlt]; rfl)
        clear hx hb
        go_wp2_with fail
        go_region
        go_wp2_with fail
        go_roundg (4 - (n + 1))
        case rel => exact ⟨n + 1, by omega, rfl, by go_num, ((Hx.out.set n _).congr fun i _ => mixI_step n X _ Hst.out i).drew, (Hb.out.setCell Hle.out _).drew⟩
        case measure => omega
      · obtain rfl : n = 4 := by omega
        have Hx := Lib.hid (hx.congr (g := pw (withId X) (2 ^ 0)) fun i hi => by rw [show (2 : Nat) ^ 0 = 1 from rfl, pw_one (withId_Dg HD.out) i hi]; simp [mixI, hi])
        have Hb := Lib.hid hb
        clear hx hb
        go_wp2_with fail
        obtain ⟨wo, rfl⟩ : ∃ wo : World, wo = wr := ⟨_, rfl⟩
        go_loopg [25] 4 (fun gk i wr => ∃ k : Nat, k ≤ 4 ∧ gk = 4 - k ∧ i = .int .i64 k ∧ Row wr w1.heap.size 4 (pw (withId X) (2 ^ k)) ∧ Below w.heap.size w wr)
        case atStart => exact ⟨0, by omega, rfl, rfl, Hx.out, Hb.out⟩
        case round =>
          clear Hx Hb
          obtain ⟨k, hk, rfl, rfl, hx, hb⟩ := hrel
          have hD := pw_Dg (withId_Dg HD.out) (2 ^ k)
          by_cases hlt : k < 4
          · have Hb := Lib.hid hb
            have Hst := Lib.hid (clo_sq HD.out k)
            have Hth := Lib.hid (fun w => rel_then (pw (withId X) (2 ^ k)) (pw (withId X) (2 ^ k)) hD hD w)
            clear hb hD
            generalize pw (withId X) (2 ^ k) = F at *
            go_wp2_with (refine ld rel4 _ rfl rfl _ rfl (f := ?_) ?_ ?_; rotate_left; first | (with_reducible assumption) | (with_reducible exact Row.new4 _ _ rfl) | (with_reducible exact Row.new16 _ _ rfl) | ((with_reducible refine Row.set ?_ _ _); (with_reducible assumption)) | ((with_reducible refine Row.other ?_ ?_ _); (with_reducible assumption); (focus first | (simp; done) | (simp; omega))) | ((with_reducible refine Row.alloc ?_ _); (with_reducible assumption)) | ((with_reducible refine Row.drew ?_); (with_reducible assumption)))
            refine (Hth.out _).mono ?_
            rintro e w3 ⟨rfl, hb3⟩
            have hx3 := hx.go hb3
            have Hb3 := Lib.hid (bgo Hb.out hb3)
            clear hb3 hx
            go_wp2_with (refine st rel4 _ _ rfl rfl _ rfl _ rfl (f := ?_) ?_ ?_; rotate_left; first | (with_reducible assumption) | (with_reducible exact Row.new4 _ _ rfl) | (with_reducible exact Row.new16 _ _ rfl) | ((with_reducible refine Row.set ?_ _ _); (with_reducible assumption)) | ((with_reducible refine Row.other ?_ ?_ _); (with_reducible assumption); (focus first | (simp; done) | (simp; omega))) | ((with_reducible refine Row.alloc ?_ _); (with_reducible assumption)) | ((with_reducible refine Row.drew ?_); (with_reducible assumption)))
            have Hx3 := Lib.hid hx3
            clear hx3
            go_roundg (4 - (k + 1))
            case rel => exact ⟨k + 1, by omega, rfl, by go_num, (Hx3.out.setRow _).congr fun i hi => Hst.out i hi, below_setRow Hb3.out Hle.out _⟩
            case measure => omega
          · obtain rfl : k = 4 := by omega
            have Hb := Lib.hid hb
            have Hfin := Lib.hid (show pw (withId X) (2 ^ 4) = clo X from rfl)
            have Ht := Lib.hid (fun w => rel_text (clo X) (clo_Dg HD.out) w)
            rw [Hfin.out] at hx
            clear hb hD Hfin
            obtain ⟨C, hC⟩ : ∃ C, clo X = C := ⟨_, rfl⟩
            rw [hC] at hx Ht
            have HC := Lib.hid hC
            clear hC
            go_wp2_with (refine ld rel4 _ rfl rfl _ rfl (f := ?_) ?_ ?_; rotate_left; first | (with_reducible assumption) | (with_reducible exact Row.new4 _ _ rfl) | (with_reducible exact Row.new16 _ _ rfl) | ((with_reducible refine Row.set ?_ _ _); (with_reducible assumption)) | ((with_reducible refine Row.other ?_ ?_ _); (with_reducible assumption); (focus first | (simp; done) | (simp; omega))) | ((with_reducible refine Row.alloc ?_ _); (with_reducible assumption)) | ((with_reducible refine Row.drew ?_); (with_reducible assumption)))
            refine (Ht.out _).mono ?_
            rintro e w3 ⟨rfl, hb3⟩
            have Hb3 := Lib.hid (bgo Hb.out hb3)
            clear hb3 hx
            go_wp2_with fail
            go_ret2
            exact ⟨by rw [HC.out]; rfl, Hb3.out⟩
end Go.Proofs.Ytlebkjjknggjfaa
