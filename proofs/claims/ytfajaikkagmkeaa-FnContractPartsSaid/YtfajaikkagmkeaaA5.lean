/-
  The contract of the function that reads a transformer.
-/
import Derived.Test.YtfajaikkagmkeaaA1
import Derived.Test.YtfajaikkagmkeaaT
import Derived.Deep.QuietTactic
import Derived.BigQuiet
namespace Go.Proofs.Ytfajaikkagmkeaa
open Go.RowKit Go.DC
set_option maxHeartbeats 1000000
set_option linter.unusedVariables false
set_option linter.unusedSimpArgs false

theorem impl_readTrans (r : ByteArray) (w : World) :
    Calls Try.prog 79 #[.string r] w fun e w' => e = .returned (.tuple #[.agg (cellsF 16 (rdF (tvB r) r)), .bool (tvB r)]) ∧ Below w.heap.size w w' := by
  by_cases hr : r.size = 16
  · have hr' : ((r.size : Int) != 16) = false := by simp; omega
    go_enter Try.func79, Try.ntmps79
    go_wp2_with fail
    go_loopg [13] 16 (fun gk i wr => ∃ k : Nat, k ≤ 16 ∧ gk = 16 - k ∧ i = .int .i64 k ∧ Digs r k ∧ Row wr w.heap.size 16 (fun _ => 0) ∧ Row wr (w.heap.size + 1) 16 (pre k (dg r)) ∧ Below w.heap.size w wr)
    case atStart => exact ⟨0, by omega, rfl, rfl, Digs.zero r, (Row.new16 w _ rfl).alloc _, (Row.new16 _ _ (by simp)).pre_zero _, ba2 _ _ _⟩
    case round =>
      obtain ⟨k, hk, rfl, rfl, hn, hr0, hr1, hb⟩ := hrel
      have Hn := Lib.hid hn
      have Hd := Lib.hid (dg_at r k)
      clear hn
      by_cases hlt : k < 16
      · have hc := hr1.cell hlt
        have hf := hr1.free k
        have hk' : k < r.size := by omega
        by_cases hneg : hx r[k] < 0
        · have hbad : tvB r = false := by unfold tvB; rw [dvB_badAny hk' (by rw [Hd.out hk']; omega)]; rfl
          have Hbad := Lib.hid hbad
          clear hbad
          go_wp2_with (first | (go_at_call 131; refine (impl_digitOf _ _).mono ?_; rintro e w' ⟨rfl, rfl⟩) | (refine ld trans16 _ rfl rfl _ rfl (f := ?_) ?_ ?_; rotate_left; first | (with_reducible assumption) | (with_reducible exact Row.new4 _ _ rfl) | (with_reducible exact Row.new16 _ _ rfl) | ((with_reducible refine Row.set ?_ _ _); (with_reducible assumption)) | ((with_reducible refine Row.other ?_ ?_ _); (with_reducible assumption); (focus first | (simp; done) | (simp; omega))) | ((with_reducible refine Row.alloc ?_ _); (with_reducible assumption)) | ((with_reducible refine Row.drew ?_); (with_reducible assumption))) | (refine st trans16 _ _ rfl rfl _ rfl (fun _ => 0) rfl (f := ?_) ?_ ?_; rotate_left; first | (with_reducible assumption) | (with_reducible exact Row.new4 _ _ rfl) | (with_reducible exact Row.new16 _ _ rfl) | ((with_reducible refine Row.set ?_ _ _); (with_reducible assumption)) | ((with_reducible refine Row.other ?_ ?_ _); (with_reducible assumption); (focus first | (simp; done) | (simp; omega))) | ((with_reducible refine Row.alloc ?_ _); (with_reducible assumption)) | ((with_reducible refine Row.drew ?_); (with_reducible assumption))) | (refine st trans16 _ _ rfl rfl _ rfl _ rfl (f := ?_) ?_ ?_; rotate_left; first | (with_reducible assumption) | (with_reducible exact Row.new4 _ _ rfl) | (with_reducible exact Row.new16 _ _ rfl) | ((with_reducible refine Row.set ?_ _ _); (with_reducible assumption)) | ((with_reducible refine Row.other ?_ ?_ _); (with_reducible assumption); (focus first | (simp; done) | (simp; omega))) | ((with_reducible refine Row.alloc ?_ _); (with_reducible assumption)) | ((with_reducible refine Row.drew ?_); (with_reducible assumption))))
          refine ret_row_tmp trans16 rfl _ rfl ((Row.other hr0 (by simp) _).setRow _) rfl ⟨?_, ?_⟩
          · rw [Hbad.out, rdF_false]; rfl
          · exact below_setRow (hb.setCell (by simp) _) (by simp) _
        · have hbad : decide (hx r[k] < 0) = false := by simpa using hneg
          go_wp2_with (first | (go_at_call 131; refine (impl_digitOf _ _).mono ?_; rintro e w' ⟨rfl, rfl⟩) | (refine ld trans16 _ rfl rfl _ rfl (f := ?_) ?_ ?_; rotate_left; first | (with_reducible assumption) | (with_reducible exact Row.new4 _ _ rfl) | (with_reducible exact Row.new16 _ _ rfl) | ((with_reducible refine Row.set ?_ _ _); (with_reducible assumption)) | ((with_reducible refine Row.other ?_ ?_ _); (with_reducible assumption); (focus first | (simp; done) | (simp; omega))) | ((with_reducible refine Row.alloc ?_ _); (with_reducible assumption)) | ((with_reducible refine Row.drew ?_); (with_reducible assumption))) | (refine st trans16 _ _ rfl rfl _ rfl (fun _ => 0) rfl (f := ?_) ?_ ?_; rotate_left; first | (with_reducible assumption) | (with_reducible exact Row.new4 _ _ rfl) | (with_reducible exact Row.new16 _ _ rfl) | ((with_reducible refine Row.set ?_ _ _); (with_reducible assumption)) | ((with_reducible refine Row.other ?_ ?_ _); (with_reducible assumption); (focus first | (simp; done) | (simp; omega))) | ((with_reducible refine Row.alloc ?_ _); (with_reducible assumption)) | ((with_reducible refine Row.drew ?_); (with_reducible assumption))) | (refine st trans16 _ _ rfl rfl _ rfl _ rfl (f := ?_) ?_ ?_; rotate_left; first | (with_reducible assumption) | (with_reducible exact Row.new4 _ _ rfl) | (with_reducible exact Row.new16 _ _ rfl) | ((with_reducible refine Row.set ?_ _ _); (with_reducible assumption)) | ((with_reducible refine Row.other ?_ ?_ _); (with_reducible assumption); (focus first | (simp; done) | (simp; omega))) | ((with_reducible refine Row.alloc ?_ _); (with_reducible assumption)) | ((with_reducible refine Row.drew ?_); (with_reducible assumption))))
          go_roundg (16 - (k + 1))
          case rel => exact ⟨k + 1, by omega, rfl, by go_num, Hn.out.succ (by rw [Hd.out hk']; omega), hr0.other (by simp) _, (hr1.set k _).pre_succ (Hd.out hk').symm, hb.setCell (by simp) _⟩
          case measure => omega
      · obtain rfl : k = 16 := by omega
        have hr1' := hr1.pre_all
        have Hok := Lib.hid (dvB_of hr Hn.out)
        clear hr1 Hn Hd hlt
        go_wp2_with fail
        obtain ⟨wo, rfl⟩ : ∃ wo : World, wo = wr := ⟨_, rfl⟩
        go_loopg [28] 16 (fun gk i wr => ∃ k : Nat, k ≤ 16 ∧ gk = 16 - k ∧ i = .int .i64 k ∧ Ok2 (badM (dg r)) k 0 ∧ Row wr w.heap.size 16 (fun _ => 0) ∧ Row wr (w.heap.size + 1) 16 (dg r) ∧ Below w.heap.size w wr)
        case atStart => exact ⟨0, by omega, rfl, rfl, Ok2.zero _, hr0, hr1', hb⟩
        case round =>
          clear hr0 hr1' hb
          obtain ⟨k, hk, rfl, rfl, hn, hr0, hr1, hb⟩ := hrel
          have Hn := Lib.hid hn
          clear hn
          by_cases hlt : k < 16
          · have hd : decide ((k : Int) < 16) = true := decide_eq_true (by omega)
            go_wp2_with fail
            obtain ⟨wp, rfl⟩ : ∃ wp : World, wp = wr := ⟨_, rfl⟩
            go_loopg [31] 16 (fun gk i wr => ∃ m : Nat, m ≤ 16 ∧ gk = 16 - m ∧ i = .int .i64 m ∧ Ok2 (badM (dg r)) k m ∧ Row wr w.heap.size 16 (fun _ => 0) ∧ Row wr (w.heap.size + 1) 16 (dg r) ∧ Below w.heap.size w wr)
            case atStart => exact ⟨0, by omega, rfl, rfl, Hn.out, hr0, hr1, hb⟩
            case round =>
              clear hr0 hr1 hb Hn
              obtain ⟨m, hm, rfl, rfl, hn, hr0, hr1, hb⟩ := hrel
              have Hn := Lib.hid hn
              clear hn
              by_cases hlt' : m < 16
              · have hc1 := hr1.cell hlt
                have hc2 := hr1.cell hlt'
                cases hg : (bits BinOp.andNot IntKind.i64 (k : Int) (m : Int) == 0)
                case false =>
                  have hno : badM (dg r) k m = false := by unfold badM; rw [hg]; rfl
                  have Hno := Lib.hid hno
                  clear hno
                  go_wp2_with fail
                  go_quiet (fail)
                  go_wp2_with fail
                  go_roundg (16 - (m + 1))
                  case rel => exact ⟨m + 1, by omega, rfl, by go_num, Hn.out.step Hno.out, hr0, hr1, below_drewN hb _⟩
                  case measure => omega
                case true =>
                  cases hv : (bits BinOp.andNot IntKind.i64 (dg r k) (dg r m) != 0)
                  case false =>
                    have hno : badM (dg r) k m = false := by unfold badM; rw [hg, hv]; rfl
                    have Hno := Lib.hid hno
                    clear hno
                    go_wp2_with fail
                    go_quiet (fail)
                    go_wp2_with fail
                    go_roundg (16 - (m + 1))
                    case rel => exact ⟨m + 1, by omega, rfl, by go_num, Hn.out.step Hno.out, hr0, hr1, below_drewN hb _⟩
                    case measure => omega
                  case true =>
                    have hno : badM (dg r) k m = true := by unfold badM; rw [hg, hv]; rfl
                    have htv : tvB r = false := by unfold tvB; rw [all2_bad hlt hlt' hno]; simp
                    have Htv := Lib.hid htv
                    clear hno htv
                    go_wp2_with fail
                    go_quiet (fail)
                    have hr0' : ∀ n, Row (wr.drewN n) w.heap.size 16 (fun _ => 0) := fun _ => hr0
                    go_wp2_with (first | (refine ld trans16 _ rfl rfl _ rfl (f := ?_) ?_ ?_; rotate_left; first | (with_reducible assumption) | (with_reducible exact Row.new4 _ _ rfl) | (with_reducible exact Row.new16 _ _ rfl) | ((with_reducible refine Row.set ?_ _ _); (with_reducible assumption)) | ((with_reducible refine Row.other ?_ ?_ _); (with_reducible assumption); (focus first | (simp; done) | (simp; omega))) | ((with_reducible refine Row.alloc ?_ _); (with_reducible assumption)) | ((with_reducible refine Row.drew ?_); (with_reducible assumption))) | (refine st trans16 _ _ rfl rfl _ rfl (fun _ => 0) rfl (f := ?_) ?_ ?_; rotate_left; exact hr0' _) | (refine st trans16 _ _ rfl rfl _ rfl _ rfl (f := ?_) ?_ ?_; rotate_left; first | (with_reducible assumption) | (with_reducible exact Row.new4 _ _ rfl) | (with_reducible exact Row.new16 _ _ rfl) | ((with_reducible refine Row.set ?_ _ _); (with_reducible assumption)) | ((with_reducible refine Row.other ?_ ?_ _); (with_reducible assumption); (focus first | (simp; done) | (simp; omega))) | ((with_reducible refine Row.alloc ?_ _); (with_reducible assumption)) | ((with_reducible refine Row.drew ?_); (with_reducible assumption))))
                    refine ret_row_tmp trans16 rfl _ rfl ((hr0' _).setRow _) rfl ⟨?_, ?_⟩
                    · rw [Htv.out, rdF_false]; rfl
                    · exact below_setRow (below_drewN hb _) (by simp) _
              · obtain rfl : m = 16 := by omega
                go_wp2_with fail
                go_roundg (16 - (k + 1))
                case rel => exact ⟨k + 1, by omega, rfl, by go_num, Hn.out.next, hr0, hr1, hb⟩
                case measure => omega
          · obtain rfl : k = 16 := by omega
            have htv : tvB r = true := by unfold tvB; rw [Hok.out, Hn.out.all]; rfl
            have Htv := Lib.hid htv
            clear htv
            go_wp2_with (first | (refine ld trans16 _ rfl rfl _ rfl (f := ?_) ?_ ?_; rotate_left; first | (with_reducible assumption) | (with_reducible exact Row.new4 _ _ rfl) | (with_reducible exact Row.new16 _ _ rfl) | ((with_reducible refine Row.set ?_ _ _); (with_reducible assumption)) | ((with_reducible refine Row.other ?_ ?_ _); (with_reducible assumption); (focus first | (simp; done) | (simp; omega))) | ((with_reducible refine Row.alloc ?_ _); (with_reducible assumption)) | ((with_reducible refine Row.drew ?_); (with_reducible assumption))) | (refine st trans16 _ _ rfl rfl _ rfl (fun _ => 0) rfl (f := ?_) ?_ ?_; rotate_left; first | (with_reducible assumption) | (with_reducible exact Row.new4 _ _ rfl) | (with_reducible exact Row.new16 _ _ rfl) | ((with_reducible refine Row.set ?_ _ _); (with_reducible assumption)) | ((with_reducible refine Row.other ?_ ?_ _); (with_reducible assumption); (focus first | (simp; done) | (simp; omega))) | ((with_reducible refine Row.alloc ?_ _); (with_reducible assumption)) | ((with_reducible refine Row.drew ?_); (with_reducible assumption))) | (refine st trans16 _ _ rfl rfl _ rfl _ rfl (f := ?_) ?_ ?_; rotate_left; first | (with_reducible assumption) | (with_reducible exact Row.new4 _ _ rfl) | (with_reducible exact Row.new16 _ _ rfl) | ((with_reducible refine Row.set ?_ _ _); (with_reducible assumption)) | ((with_reducible refine Row.other ?_ ?_ _); (with_reducible assumption); (focus first | (simp; done) | (simp; omega))) | ((with_reducible refine Row.alloc ?_ _); (with_reducible assumption)) | ((with_reducible refine Row.drew ?_); (with_reducible assumption))))
            refine ret_row_tmp trans16 rfl _ rfl (hr0.setRow _) rfl ⟨?_, ?_⟩
            · rw [Htv.out, rdF_true]; rfl
            · exact below_setRow hb (by simp) _
  · have hr' : ((r.size : Int) != 16) = true := by simp; omega
    have hbad : tvB r = false := by unfold tvB; rw [dvB_size hr]; rfl
    have Hbad := Lib.hid hbad
    clear hbad
    have hn2 := (Row.new16 w 66 rfl).alloc (.cells #[.int .i64 0, .int .i64 0, .int .i64 0, .int .i64 0, .int .i64 0, .int .i64 0, .int .i64 0, .int .i64 0, .int .i64 0, .int .i64 0, .int .i64 0, .int .i64 0, .int .i64 0, .int .i64 0, .int .i64 0, .int .i64 0] 66)
    go_enter Try.func79, Try.ntmps79
    go_wp2
    refine ret_row_tmp trans16 rfl _ rfl hn2 rfl ⟨?_, ?_⟩
    · rw [Hbad.out, rdF_false]; rfl
    · exact ba2 _ _ _
end Go.Proofs.Ytfajaikkagmkeaa
