/-
  Contracts of the functions on relations that read digits, make sets and make relations.
-/
import Derived.Test.YtfajaikkagmkeaaA1
import Derived.Test.YtfajaikkagmkeaaT
import Derived.Deep.QuietTactic
import Derived.BigQuiet
namespace Go.Proofs.Ytfajaikkagmkeaa
open Go.RowKit Go.DC
set_option maxHeartbeats 400000
set_option linter.unusedVariables false
set_option linter.unusedSimpArgs false

theorem impl_readRel (r : ByteArray) (w : World) :
    Calls Try.prog 82 #[.string r] w fun e w' => e = .returned (.tuple #[.agg (cellsF 4 (rdF (dvB 4 r) r)), .bool (dvB 4 r)]) ∧ Below w.heap.size w w' := by
  by_cases hr : r.size = 4
  · have hr' : ((r.size : Int) != 4) = false := by simp; omega
    go_enter Try.func82, Try.ntmps82
    go_wp2_with fail
    go_loopg [11] 4 (fun gk i wr => ∃ k : Nat, k ≤ 4 ∧ gk = 4 - k ∧ i = .int .i64 k ∧ Digs r k ∧ Row wr w.heap.size 4 (fun _ => 0) ∧ Row wr (w.heap.size + 1) 4 (pre k (dg r)) ∧ Below w.heap.size w wr)
    case atStart => exact ⟨0, by omega, rfl, rfl, Digs.zero r, (Row.new4 w _ rfl).alloc _, (Row.new4 _ _ (by simp)).pre_zero _, ((Below.refl _ _).alloc (Nat.le_refl _) _).alloc (by simp) _⟩
    case round =>
      obtain ⟨k, hk, rfl, rfl, hn, hr0, hr1, hb⟩ := hrel
      have Hn := Lib.hid hn
      have Hd := Lib.hid (dg_at r k)
      clear hn
      by_cases hlt : k < 4
      · have hc := hr1.cell hlt
        have hf := hr1.free k
        have hk' : k < r.size := by omega
        by_cases hneg : hx r[k] < 0
        · have hbad : dvB 4 r = false := dvB_badAny hk' (by rw [Hd.out hk']; omega)
          have Hbad := Lib.hid hbad
          clear hbad
          go_wp2_with (first | (go_at_call 131; refine (impl_digitOf _ _).mono ?_; rintro e w' ⟨rfl, rfl⟩) | (refine ld rel4 _ rfl rfl _ rfl (f := ?_) ?_ ?_; rotate_left; first | (with_reducible assumption) | (with_reducible exact Row.new4 _ _ rfl) | (with_reducible exact Row.new16 _ _ rfl) | ((with_reducible refine Row.set ?_ _ _); (with_reducible assumption)) | ((with_reducible refine Row.other ?_ ?_ _); (with_reducible assumption); (focus first | (simp; done) | (simp; omega))) | ((with_reducible refine Row.alloc ?_ _); (with_reducible assumption)) | ((with_reducible refine Row.drew ?_); (with_reducible assumption))) | (refine st rel4 _ _ rfl rfl _ rfl (fun _ => 0) rfl (f := ?_) ?_ ?_; rotate_left; first | (with_reducible assumption) | (with_reducible exact Row.new4 _ _ rfl) | (with_reducible exact Row.new16 _ _ rfl) | ((with_reducible refine Row.set ?_ _ _); (with_reducible assumption)) | ((with_reducible refine Row.other ?_ ?_ _); (with_reducible assumption); (focus first | (simp; done) | (simp; omega))) | ((with_reducible refine Row.alloc ?_ _); (with_reducible assumption)) | ((with_reducible refine Row.drew ?_); (with_reducible assumption))) | (refine st rel4 _ _ rfl rfl _ rfl _ rfl (f := ?_) ?_ ?_; rotate_left; first | (with_reducible assumption) | (with_reducible exact Row.new4 _ _ rfl) | (with_reducible exact Row.new16 _ _ rfl) | ((with_reducible refine Row.set ?_ _ _); (with_reducible assumption)) | ((with_reducible refine Row.other ?_ ?_ _); (with_reducible assumption); (focus first | (simp; done) | (simp; omega))) | ((with_reducible refine Row.alloc ?_ _); (with_reducible assumption)) | ((with_reducible refine Row.drew ?_); (with_reducible assumption))))
          refine ret_row_tmp rel4 rfl _ rfl ((Row.other hr0 (by simp) _).setRow _) rfl ⟨?_, ?_⟩
          · rw [Hbad.out, rdF_false]; rfl
          · exact below_setRow (hb.setCell (by simp) _) (by simp) _
        · have hbad : decide (hx r[k] < 0) = false := by simpa using hneg
          go_wp2_with (first | (go_at_call 131; refine (impl_digitOf _ _).mono ?_; rintro e w' ⟨rfl, rfl⟩) | (refine ld rel4 _ rfl rfl _ rfl (f := ?_) ?_ ?_; rotate_left; first | (with_reducible assumption) | (with_reducible exact Row.new4 _ _ rfl) | (with_reducible exact Row.new16 _ _ rfl) | ((with_reducible refine Row.set ?_ _ _); (with_reducible assumption)) | ((with_reducible refine Row.other ?_ ?_ _); (with_reducible assumption); (focus first | (simp; done) | (simp; omega))) | ((with_reducible refine Row.alloc ?_ _); (with_reducible assumption)) | ((with_reducible refine Row.drew ?_); (with_reducible assumption))) | (refine st rel4 _ _ rfl rfl _ rfl (fun _ => 0) rfl (f := ?_) ?_ ?_; rotate_left; first | (with_reducible assumption) | (with_reducible exact Row.new4 _ _ rfl) | (with_reducible exact Row.new16 _ _ rfl) | ((with_reducible refine Row.set ?_ _ _); (with_reducible assumption)) | ((with_reducible refine Row.other ?_ ?_ _); (with_reducible assumption); (focus first | (simp; done) | (simp; omega))) | ((with_reducible refine Row.alloc ?_ _); (with_reducible assumption)) | ((with_reducible refine Row.drew ?_); (with_reducible assumption))) | (refine st rel4 _ _ rfl rfl _ rfl _ rfl (f := ?_) ?_ ?_; rotate_left; first | (with_reducible assumption) | (with_reducible exact Row.new4 _ _ rfl) | (with_reducible exact Row.new16 _ _ rfl) | ((with_reducible refine Row.set ?_ _ _); (with_reducible assumption)) | ((with_reducible refine Row.other ?_ ?_ _); (with_reducible assumption); (focus first | (simp; done) | (simp; omega))) | ((with_reducible refine Row.alloc ?_ _); (with_reducible assumption)) | ((with_reducible refine Row.drew ?_); (with_reducible assumption))))
          go_roundg (4 - (k + 1))
          case rel => exact ⟨k + 1, by omega, rfl, by go_num, Hn.out.succ (by rw [Hd.out hk']; omega), hr0.other (by simp) _, (hr1.set k _).pre_succ (Hd.out hk').symm, hb.setCell (by simp) _⟩
          case measure => omega
      · obtain rfl : k = 4 := by omega
        have hr1' := hr1.pre_all
        have Hok := Lib.hid (dvB_of hr Hn.out)
        go_wp2_with (first | (go_at_call 131; refine (impl_digitOf _ _).mono ?_; rintro e w' ⟨rfl, rfl⟩) | (refine ld rel4 _ rfl rfl _ rfl (f := ?_) ?_ ?_; rotate_left; first | (with_reducible assumption) | (with_reducible exact Row.new4 _ _ rfl) | (with_reducible exact Row.new16 _ _ rfl) | ((with_reducible refine Row.set ?_ _ _); (with_reducible assumption)) | ((with_reducible refine Row.other ?_ ?_ _); (with_reducible assumption); (focus first | (simp; done) | (simp; omega))) | ((with_reducible refine Row.alloc ?_ _); (with_reducible assumption)) | ((with_reducible refine Row.drew ?_); (with_reducible assumption))) | (refine st rel4 _ _ rfl rfl _ rfl (fun _ => 0) rfl (f := ?_) ?_ ?_; rotate_left; first | (with_reducible assumption) | (with_reducible exact Row.new4 _ _ rfl) | (with_reducible exact Row.new16 _ _ rfl) | ((with_reducible refine Row.set ?_ _ _); (with_reducible assumption)) | ((with_reducible refine Row.other ?_ ?_ _); (with_reducible assumption); (focus first | (simp; done) | (simp; omega))) | ((with_reducible refine Row.alloc ?_ _); (with_reducible assumption)) | ((with_reducible refine Row.drew ?_); (with_reducible assumption))) | (refine st rel4 _ _ rfl rfl _ rfl _ rfl (f := ?_) ?_ ?_; rotate_left; first | (with_reducible assumption) | (with_reducible exact Row.new4 _ _ rfl) | (with_reducible exact Row.new16 _ _ rfl) | ((with_reducible refine Row.set ?_ _ _); (with_reducible assumption)) | ((with_reducible refine Row.other ?_ ?_ _); (with_reducible assumption); (focus first | (simp; done) | (simp; omega))) | ((with_reducible refine Row.alloc ?_ _); (with_reducible assumption)) | ((with_reducible refine Row.drew ?_); (with_reducible assumption))))
        refine ret_row_tmp rel4 rfl _ rfl (hr0.setRow _) rfl ⟨?_, ?_⟩
        · rw [Hok.out, rdF_true]; rfl
        · exact below_setRow hb (by simp) _
  · have hr' : ((r.size : Int) != 4) = true := by simp; omega
    have Hbad := Lib.hid (dvB_size hr)
    have hn2 := (Row.new4 w 60 rfl).alloc (.cells #[.int .i64 0, .int .i64 0, .int .i64 0, .int .i64 0] 60)
    go_enter Try.func82, Try.ntmps82
    go_wp2
    refine ret_row_tmp rel4 rfl _ rfl hn2 rfl ⟨?_, ?_⟩
    · rw [Hbad.out, rdF_false]; rfl
    · exact ((Below.refl _ _).alloc (Nat.le_refl _) _).alloc (by simp) _
theorem impl_states (k : Nat) (cap : Array Value) (f : Nat → Bool) (w : World) (hk : ∀ xs w, (callFunc k xs).run Try.prog w = .ok (.enter k xs) w)
    (hf : ∀ (s : Nat) (w1 : World), s < 4 → Below w.heap.size w w1 → Calls Try.prog k (#[.int .i64 s] ++ cap) w1 fun e w2 => e = .returned (.bool (f s)) ∧ Below w1.heap.size w1 w2) :
    Calls Try.prog 161 #[.func (.func k) #[] cap] w fun e w' => e = .returned (.int .i64 (mk 4 f)) ∧ Below w.heap.size w w' := by
  have Hf := Lib.hid hf
  clear hf
  go_enter Try.func161, Try.ntmps161
  go_wp2_with fail
  go_loopg [3, 5] 4 (fun gk o i wr => ∃ n : Nat, n ≤ 4 ∧ gk = 4 - n ∧ i = .int .i64 n ∧ o = .int .i64 (mk n f) ∧ Below w.heap.size w wr)
  case atStart => exact ⟨0, by omega, rfl, rfl, rfl, Below.refl _ _⟩
  case round =>
    obtain ⟨n, hn, rfl, rfl, rfl, hb⟩ := hrel
    by_cases hlt : n < 4
    · have hm0 := mk_nonneg f n (by omega)
      have hm1 := mk_lt f n (by omega)
      go_wp2_with ((with_reducible refine (Hf.out _ _ (by assumption) (by assumption)).mono ?_); rintro e w' ⟨rfl, hb1⟩)
      · go_roundg (4 - (n + 1))
        case rel => exact ⟨n + 1, by omega, rfl, by go_num, by rw [mk_yes (by assumption) (by omega)], hb.trans (hb1.mono hb.size)⟩
        case measure => omega
      · go_roundg (4 - (n + 1))
        case rel => exact ⟨n + 1, by omega, rfl, by go_num, by rw [mk_no (by assumption)], hb.trans (hb1.mono hb.size)⟩
        case measure => omega
    · obtain rfl : n = 4 := by omega
      go_wp2_with fail
      go_ret
      exact ⟨rfl, hb⟩
end Go.Proofs.Ytfajaikkagmkeaa
