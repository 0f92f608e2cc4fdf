/-
  Contracts of the functions on relations that read digits, make sets and make relations.
-/
import Derived.Test.YtmecagiadlimgaaA1
import Derived.Test.YtmecagiadlimgaaT
import Derived.Deep.QuietTactic
import Derived.BigQuiet
namespace Go.Proofs.Ytmecagiadlimgaa
open Go.RowKit Go.DC
set_option maxHeartbeats 400000
set_option linter.unusedVariables false
set_option linter.unusedSimpArgs false

theorem impl_readRel (r : ByteArray) (w : World) :
    Calls Try.prog 79 #[.string r] w fun e w' => e = .returned (.tuple #[.agg (cellsF 4 (rdF (dvB 4 r) r)), .bool (dvB 4 r)]) ∧ Below w.heap.size w w' := by
  by_cases hr : r.size = 4
  · have hr' : ((r.size : Int) != 4) = false := by simp; omega
    go_enter Try.func79, Try.ntmps79
    go_wp2_with fail
    go_loopg [11] 4 (fun gk i wr => ∃ k : Nat, k ≤ 4 ∧ gk = 4 - k ∧ i = .int .i64 k ∧ Digs r k ∧ Row wr w.heap.size 4 (fun _ => 0) ∧ Row wr (w.heap.size + 1) 4 (pre k (dg r)) ∧ Below w.heap.size w wr)
    case atStart => exact ⟨0, by omega, rfl, rfl, Digs.zero r, (Row.new4 w _ rfl).alloc _, (Row.new4 _ _ (by simp)).pre_zero _, ((Below.refl _ _).alloc (Nat.le_refl _) _).alloc (by simp) _⟩
    case round =>
      obtain ⟨k, hk, rfl, rfl, hn, hr0, hr1, hb⟩ := hrel
      have Hn := Lib.hid hn
      have Hd := Lib.hid (dg_at r k)
      clear hn
      by_cases hlt : k < 4
      · have hc := hr1.cell hlt
        have hf := hr1.free k
        have hk' : k < r.size := by omega
        by_cases hneg : hx r[k] < 0
        · have hbad : dvB 4 r = false := dvB_badAny hk' (by rw [Hd.out hk']; omega)
          have Hbad := Lib.hid hbad
          clear hbad
          go_wp2_with (first | (go_at_call 127; refine (impl_digitOf _ _).mono ?_; rintro e w' ⟨rfl, rfl⟩) | (refine ld rel4 _ rfl rfl _ rfl (f := ?_) ?_ ?_; rotate_left; first | (with_reducible assumption) | (with_reducible exact Row.new4 _ _ rfl) | (with_reducible exact Row.new16 _ _ rfl) | ((with_reducible refine Row.set ?_ _ _); (with_reducible assumption)) | ((with_reducible refine Row.other ?_ ?_ _); (with_reducible assumption); (focus first | (simp; done) | (simp; omega))) | ((with_reducible refine Row.alloc ?_ _); (with_reducible assumption)) | ((with_reducible refine Row.drew ?_); (with_reducible assumption))) | (refine st rel4 _ _ rfl rfl _ rfl (fun _ => 0) rfl (f := ?_) ?_ ?_; rotate_left; first | (with_reducible assumption) | (with_reducible exact Row.new4 _ _ rfl) | (with_reducible exact Row.new16 _ _ rfl) | ((with_reducible refine Row.set ?_ _ _); (with_reducible assumption)) | ((with_reducible refine Row.other ?_ ?_ _); (with_reducible assumption); (focus first | (simp; done) | (simp; omega))) | ((with_reducible refine Row.alloc ?_ _); (with_reducible assumption)) | ((with_reducible refine Row.drew ?_); (with_reducible assumption))) | (refine st rel4 _ _ rfl rfl _ rfl _ rfl (f := ?_) ?_ ?_; rotate_left; first | (with_reducible assumption) | (with_reducible exact Row.new4 _ _ rfl) | (with_reducible exact Row.new16 _ _ rfl) | ((with_reducible refine Row.set ?_ _ _); (with_reducible assumption)) | ((with_reducible refine Row.other ?_ ?_ _); (with_reducible assumption); (focus first | (simp; done) | (simp; omega))) | ((with_reducible refine Row.alloc ?_ _); (with_reducible assumption)) | ((with_reducible refine Row.drew ?_); (with_reducible assumption))))
          refine ret_row_tmp rel4 rfl _ rfl ((Row.other hr0 (by simp) _).setRow _) rfl ⟨?_, ?_⟩
          · rw [Hbad.out, rdF_false]; rfl
          · exact below_setRow (hb.setCell (by simp) _) (by simp) _
        · have hbad : decide (hx r[k] < 0) = false := by simpa using hneg
          go_wp2_with (first | (go_at_call 127; refine (impl_digitOf _ _).mono ?_; rintro e w' ⟨rfl, rfl⟩) | (refine ld rel4 _ rfl rfl _ rfl (f := ?_) ?_ ?_; rotate_left; first | (with_reducible assumption) | (with_reducible exact Row.new4 _ _ rfl) | (with_reducible exact Row.new16 _ _ rfl) | ((with_reducible refine Row.set ?_ _ _); (with_reducible assumption)) | ((with_reducible refine Row.other ?_ ?_ _); (with_reducible assumption); (focus first | (simp; done) | (simp; omega))) | ((with_reducible refine Row.alloc ?_ _); (with_reducible assumption)) | ((with_reducible refine Row.drew ?_); (with_reducible assumption))) | (refine st rel4 _ _ rfl rfl _ rfl (fun _ => 0) rfl (f := ?_) ?_ ?_; rotate_left; first | (with_reducible assumption) | (with_reducible exact Row.new4 _ _ rfl) | (with_reducible exact Row.new16 _ _ rfl) | ((with_reducible refine Row.set ?_ _ _); (with_reducible assumption)) | ((with_reducible refine Row.other ?_ ?_ _); (with_reducible assumption); (focus first | (simp; done) | (simp; omega))) | ((with_reducible refine Row.alloc ?_ _); (with_reducible assumption)) | ((with_reducible refine Row.drew ?_); (with_reducible assumption))) | (refine st rel4 _ _ rfl rfl _ rfl _ rfl (f := ?_) ?_ ?_; rotate_left; first | (with_reducible assumption) | (with_reducible exact Row.new4 _ _ rfl) | (with_reducible exact Row.new16 _ _ rfl) | ((with_reducible refine Row.set ?_ _ _); (with_reducible assumption)) | ((with_reducible refine Row.other ?_ ?_ _); (with_reducible assumption); (focus first | (simp; done) | (simp; omega))) | ((with_reducible refine Row.alloc ?_ _); (with_reducible assumption)) | ((with_reducible refine Row.drew ?_); (with_reducible assumption))))
          go_roundg (4 - (k + 1))
          case rel => exact ⟨k + 1, by omega, rfl, by go_num, Hn.out.succ (by rw [Hd.out hk']; omega), hr0.other (by simp) _, (hr1.set k _).pre_succ (Hd.out hk').symm, hb.setCell (by simp) _⟩
          case measure => omega
      · obtain rfl : k = 4 := by omega
        have hr1' := hr1.pre_all
        have Hok := Lib.hid (dvB_of hr Hn.out)
        go_wp2_with (first | (go_at_call 127; refine (impl_digitOf _ _).mono ?_; rintro e w' ⟨rfl, rfl⟩) | (refine ld rel4 _ rfl rfl _ rfl (f := ?_) ?_ ?_; rotate_left; first | (with_reducible assumption) | (with_reducible exact Row.new4 _ _ rfl) | (with_reducible exact Row.new16 _ _ rfl) | ((with_reducible refine Row.set ?_ _ _); (with_reducible assumption)) | ((with_reducible refine Row.other ?_ ?_ _); (with_reducible assumption); (focus first | (simp; done) | (simp; omega))) | ((with_reducible refine Row.alloc ?_ _); (with_reducible assumption)) | ((with_reducible refine Row.drew ?_); (with_reducible assumption))) | (refine st rel4 _ _ rfl rfl _ rfl (fun _ => 0) rfl (f := ?_) ?_ ?_; rotate_left; first | (with_reducible assumption) | (with_reducible exact Row.new4 _ _ rfl) | (with_reducible exact Row.new16 _ _ rfl) | ((with_reducible refine Row.set ?_ _ _); (with_reducible assumption)) | ((with_reducible refine Row.other ?_ ?_ _); (with_reducible assumption); (focus first | (simp; done) | (simp; omega))) | ((with_reducible refine Row.alloc ?_ _); (with_reducible assumption)) | ((with_reducible refine Row.drew ?_); (with_reducible assumption))) | (refine st rel4 _ _ rfl rfl _ rfl _ rfl (f := ?_) ?_ ?_; rotate_left; first | (with_reducible assumption) | (with_reducible exact Row.new4 _ _ rfl) | (with_reducible exact Row.new16 _ _ rfl) | ((with_reducible refine Row.set ?_ _ _); (with_reducible assumption)) | ((with_reducible refine Row.other ?_ ?_ _); (with_reducible assumption); (focus first | (simp; done) | (simp; omega))) | ((with_reducible refine Row.alloc ?_ _); (with_reducible assumption)) | ((with_reducible refine Row.drew ?_); (with_reducible assumption))))
        refine ret_row_tmp rel4 rfl _ rfl (hr0.setRow _) rfl ⟨?_, ?_⟩
        · rw [Hok.out, rdF_true]; rfl
        · exact below_setRow hb (by simp) _
  · have hr' : ((r.size : Int) != 4) = true := by simp; omega
    have Hbad := Lib.hid (dvB_size hr)
    have hn2 := (Row.new4 w 59 rfl).alloc (.cells #[.int .i64 0, .int .i64 0, .int .i64 0, .int .i64 0] 59)
    go_enter Try.func79, Try.ntmps79
    go_wp2
    refine ret_row_tmp rel4 rfl _ rfl hn2 rfl ⟨?_, ?_⟩
    · rw [Hbad.out, rdF_false]; rfl
    · exact ((Below.refl _ _).alloc (Nat.le_refl _) _).alloc (by simp) _
theorem impl_states (k : Nat) (cap : Array Value) (f : Nat → Bool) (w : World) (hk : ∀ xs w, (callFunc k xs).run Try.prog w = .ok (.enter k xs) w)
    (hf : ∀ (s : Nat) (w1 : World), s < 4 → Below w.heap.size w w1 → Calls Try.prog k (#[.int .i64 s] ++ cap) w1 fun e w2 => e = .returned (.bool (f s)) ∧ Below w1.heap.size w1 w2) :
    Calls Try.prog 137 #[.func (.func k) #[] cap] w fun e w' => e = .returned (.int .i64 (mk 4 f)) ∧ Below w.heap.size w w' := by
  have Hf := Lib.hid hf
  clear hf
  go_enter Try.func137, Try.ntmps137
  go_wp2_with fail
  go_loopg [3, 5] 4 (fun gk o i wr => ∃ n : Nat, n ≤ 4 ∧ gk = 4 - n ∧ i = .int .i64 n ∧ o = .int .i64 (mk n f) ∧ Below w.heap.size w wr)
  case atStart => exact ⟨0, by omega, rfl, rfl, rfl, Below.refl _ _⟩
  case round =>
    obtain ⟨n, hn, rfl, rfl, rfl, hb⟩ := hrel
    by_cases hlt : n < 4
    · have hm0 := mk_nonneg f n (by omega)
      have hm1 := mk_lt f n (by omega)
      go_wp2_with ((with_reducible refine (Hf.out _ _ (by assumption) (by assumption)).mono ?_); rintro e w' ⟨rfl, hb1⟩)
      · go_roundg (4 - (n + 1))
        case rel => exact ⟨n + 1, by omega, rfl, by go_num, by rw [mk_yes (by assumption) (by omega)], hb.trans (hb1.mono hb.size)⟩
        case measure => omega
      · go_roundg (4 - (n + 1))
        case rel => exact ⟨n + 1, by omega, rfl, by go_num, by rw [mk_no (by assumption)], hb.trans (hb1.mono hb.size)⟩
        case measure => omega
    · obtain rfl : n = 4 := by omega
      go_wp2_with fail
      go_ret
      exact ⟨rfl, hb⟩
theorem impl_makeRel (k : Nat) (cap : Array Value) (f : Nat → Nat → Bool) (w : World) (hk : ∀ xs w, (callFunc k xs).run Try.prog w = .ok (.enter k xs) w)
    (hf : ∀ (s t : Nat) (w1 : World), s < 4 → t < 4 → Below w.heap.size w w1 → Calls Try.prog k (#[.int .i64 s, .int .i64 t] ++ cap) w1 fun e w2 => e = .returned (.bool (f s t)) ∧ Below w1.heap.size w1 w2) :
    Calls Try.prog 90 #[.func (.func k) #[] cap] w fun e w' => e = .returned (.agg (cellsF 4 fun s => mk 4 (f s))) ∧ Below w.heap.size w w' := by
  have Hf := Lib.hid hf
  clear hf
  go_enter Try.func90, Try.ntmps90
  go_wp2_with fail
  go_loopg [7] 4 (fun gk i wr => ∃ n : Nat, n ≤ 4 ∧ gk = 4 - n ∧ i = .int .i64 n ∧ Row wr w.heap.size 4 (fun _ => 0) ∧ Row wr (w.heap.size + 1) 4 (pre n fun s => mk 4 (f s)) ∧ Below w.heap.size w wr)
  case atStart => exact ⟨0, by omega, rfl, rfl, (Row.new4 w _ rfl).alloc _, (Row.new4 _ _ (by simp)).pre_zero _, ((Below.refl _ _).alloc (Nat.le_refl _) _).alloc (by simp) _⟩
  case round =>
    obtain ⟨n, hn, rfl, rfl, hr0, hr1, hb⟩ := hrel
    by_cases hlt : n < 4
    · have hd : decide ((n : Int) < 4) = true := decide_eq_true (by omega)
      go_wp2_with fail
      obtain ⟨wo, rfl⟩ : ∃ wo : World, wo = wr := ⟨_, rfl⟩
      go_loopg [10] 4 (fun gk i wr => ∃ m : Nat, m ≤ 4 ∧ gk = 4 - m ∧ i = .int .i64 m ∧ Row wr w.heap.size 4 (fun _ => 0) ∧ Row wr (w.heap.size + 1) 4 (upd (pre n fun s => mk 4 (f s)) n (mk m (f n))) ∧ Below w.heap.size w wr)
      case atStart => exact ⟨0, by omega, rfl, rfl, hr0, hr1.upd_in (pre_at _ _), hb⟩
      case round =>
        obtain ⟨m, hm, rfl, rfl, hr0, hr1, hb⟩ := hrel
        by_cases hlt' : m < 4
        · have hm0 := mk_nonneg (f n) m (by omega)
          have hm1 := mk_lt (f n) m (by omega)
          go_wp2_with ((with_reducible refine (Hf.out _ _ _ (by assumption) (by assumption) (by assumption)).mono ?_); rintro e w' ⟨rfl, hb1⟩)
          · have hr0' := hr0.below hb1 hr0.lt
            have hr1' := hr1.below hb1 hr1.lt
            have hb' := hb.trans (hb1.mono hb.size)
            have hc := hr1'.cell hlt
            rw [upd_same] at hc
            have hfz := hr1'.free n
            clear hr0 hr1 hb hb1
            go_region
            go_wp2_with fail
            go_roundg (4 - (m + 1))
            case rel => exact ⟨m + 1, by omega, rfl, by go_num, (hr0'.other (by simp) _).drew, (hr1'.set n _).upd2 (mk_yes (by assumption) (by omega)), (hb'.setCell (by simp) _).drew⟩
            case measure => omega
          · have hr0' := hr0.below hb1 hr0.lt
            have hr1' := hr1.below hb1 hr1.lt
            have hb' := hb.trans (hb1.mono hb.size)
            go_roundg (4 - (m + 1))
            case rel => exact ⟨m + 1, by omega, rfl, by go_num, hr0', by rw [← mk_no (by assumption)]; exact hr1', hb'⟩
            case measure => omega
        · obtain rfl : m = 4 := by omega
          go_wp2_with fail
          go_roundg (4 - (n + 1))
          case rel => exact ⟨n + 1, by omega, rfl, by go_num, hr0, hr1.pre_succ rfl, hb⟩
          case measure => omega
    · obtain rfl : n = 4 := by omega
      have hr1' := hr1.pre_all
      go_wp2_with (first | (refine ld rel4 _ rfl rfl _ rfl (f := ?_) ?_ ?_; rotate_left; first | (with_reducible assumption) | (with_reducible exact Row.new4 _ _ rfl) | (with_reducible exact Row.new16 _ _ rfl) | ((with_reducible refine Row.set ?_ _ _); (with_reducible assumption)) | ((with_reducible refine Row.other ?_ ?_ _); (with_reducible assumption); (focus first | (simp; done) | (simp; omega))) | ((with_reducible refine Row.alloc ?_ _); (with_reducible assumption)) | ((with_reducible refine Row.drew ?_); (with_reducible assumption))) | (refine st rel4 _ _ rfl rfl _ rfl _ rfl (f := ?_) ?_ ?_; rotate_left; first | (with_reducible assumption) | (with_reducible exact Row.new4 _ _ rfl) | (with_reducible exact Row.new16 _ _ rfl) | ((with_reducible refine Row.set ?_ _ _); (with_reducible assumption)) | ((with_reducible refine Row.other ?_ ?_ _); (with_reducible assumption); (focus first | (simp; done) | (simp; omega))) | ((with_reducible refine Row.alloc ?_ _); (with_reducible assumption)) | ((with_reducible refine Row.drew ?_); (with_reducible assumption))))
      exact ret_row rel4 rfl _ rfl (hr0.setRow _) rfl ⟨rfl, below_setRow hb (by simp) _⟩
theorem rel_has (x : Nat → Int) (hx : Dg 4 x) (s t : Int) (hs0 : 0 ≤ s) (hs : s ≤ 3) (ht0 : 0 ≤ t) (ht : t ≤ 3) (w : World) :
    Calls Try.prog 141 #[.agg (cellsF 4 x), .int .i64 s, .int .i64 t] w fun e w' => e = .returned (.bool (hasb (x s.toNat) t.toNat)) ∧ Below w.heap.size w w' := by
  have hc := cellsF_get 4 x (i := s.toNat) (by omega)
  obtain ⟨hx0, hx1⟩ := hx s.toNat (by omega)
  go_enter Try.func141, Try.ntmps141
  go_wp2
  go_ret
  exact ⟨rfl, (Below.refl _ _).alloc (Nat.le_refl _) _⟩
end Go.Proofs.Ytmecagiadlimgaa
