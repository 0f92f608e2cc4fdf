/-
  Contracts of the functions that make relations out of relations: reading two, turning, images.
-/
import Derived.Test.YtmecagiadlimgaaA2
import Derived.Test.YtmecagiadlimgaaT
import Derived.Deep.QuietTactic
import Derived.BigQuiet
namespace Go.Proofs.Ytmecagiadlimgaa
open Go.RowKit Go.DC
set_option maxHeartbeats 400000
set_option linter.unusedVariables false
set_option linter.unusedSimpArgs false

theorem rel_text (x : Nat → Int) (hx : Dg 4 x) (w : World) :
    Calls Try.prog 89 #[.agg (cellsF 4 x)] w fun e w' => e = .returned (.string (txt 4 x)) ∧ Below w.heap.size w w' := by
  have hr := Row.new w 4 x 59 rfl
  go_enter Try.func89, Try.ntmps89
  go_wp2_with (refine ld rel4 _ rfl rfl _ rfl (f := ?_) ?_ ?_; rotate_left; first | (with_reducible assumption) | (with_reducible exact Row.new4 _ _ rfl) | (with_reducible exact Row.new16 _ _ rfl) | ((with_reducible refine Row.set ?_ _ _); (with_reducible assumption)) | ((with_reducible refine Row.other ?_ ?_ _); (with_reducible assumption); (focus first | (simp; done) | (simp; omega))) | ((with_reducible refine Row.alloc ?_ _); (with_reducible assumption)) | ((with_reducible refine Row.drew ?_); (with_reducible assumption)))
  go_loopg [3, 7] 4 (fun gk o i wr => ∃ n : Nat, n ≤ 4 ∧ gk = 4 - n ∧ i = .int .i64 n ∧ o = .string (txt n x) ∧ w.alloc (.cells (cellsF 4 x) 59) = wr)
  case atStart => exact ⟨0, by omega, rfl, rfl, rfl, rfl⟩
  case round =>
    obtain ⟨n, hn, rfl, rfl, rfl, rfl⟩ := hrel
    by_cases hlt : n < 4
    · have hix := idx4 x hlt
      obtain ⟨hx0, hx1⟩ := hx n (by omega)
      have hadd : ∀ w, (Op.stringOp .add (txt n x) (dgt (x n))).run Try.prog w = .ok (.string (txt (n + 1) x)) w := fun w => by
        rw [run_string_add_sum w _ _ (by rw [txt_size]; show n + 1 ≤ _; omega), txt_succ]
      go_wp2_with (go_at_call 132; refine (impl_digit _ _ (by assumption) (by assumption)).mono ?_; rintro e w' ⟨rfl, rfl⟩)
      go_roundg (4 - (n + 1))
      case rel => exact ⟨n + 1, by omega, rfl, by go_num, rfl, rfl⟩
      case measure => omega
    · obtain rfl : n = 4 := by omega
      go_wp2_with fail
      go_ret
      exact ⟨rfl, (Below.refl _ _).alloc (Nat.le_refl _) _⟩
theorem rel_diamond1 (b1 b2 : Nat) (x : Nat → Int) (p : Int) (s : Nat) (hs : s < 4) (w : World) (h1 : Row w b1 4 x) (h2 : Row w b2 1 fun _ => p) :
    Calls Try.prog 151 #[.int .i64 s, .pointer (some ⟨b1, 0, none⟩), .pointer (some ⟨b2, 0, none⟩)] w fun e w' => e = .returned (.bool (band (x s) p != 0)) ∧ Below w.heap.size w w' := by
  have hc1 := h1.cell hs
  have hc2 := h2.cell (i := 0) (by omega)
  go_enter Try.func151, Try.ntmps151
  go_wp2_with fail
  go_quiet (fail)
  go_wp2_with fail
  go_ret
  exact ⟨rfl, below_drewN (Below.refl _ _) _⟩
theorem rel_diamond (x : Nat → Int) (p : Int) (w : World) :
    Calls Try.prog 114 #[.agg (cellsF 4 x), .int .i64 p] w fun e w' => e = .returned (.int .i64 (dia x p)) ∧ Below w.heap.size w w' := by
  have h1 : Row ((w.alloc (.cells (cellsF 4 x) 59)).alloc (.cells #[.int .i64 p] 3)) w.heap.size 4 x := (Row.new w 4 x _ rfl).alloc _
  have h2 : Row ((w.alloc (.cells (cellsF 4 x) 59)).alloc (.cells #[.int .i64 p] 3)) (w.heap.size + 1) 1 fun _ => p := Row.new _ 1 (fun _ => p) _ (by simp)
  have hf := impl_states 151 #[.pointer (some ⟨w.heap.size, 0, none⟩), .pointer (some ⟨w.heap.size + 1, 0, none⟩)] (fun s => band (x s) p != 0) ((w.alloc (.cells (cellsF 4 x) 59)).alloc (.cells #[.int .i64 p] 3)) Try.call151
    (fun s w1 hs hb => rel_diamond1 _ _ x p s hs w1 (h1.below hb h1.lt) (h2.below hb h2.lt))
  have Hf := Lib.hid hf
  clear hf h1 h2
  go_enter Try.func114, Try.ntmps114
  go_wp2_with (go_at_call 137; refine Hf.out.mono ?_; rintro e w' ⟨rfl, hb⟩)
  go_ret
  exact ⟨rfl, (((Below.refl _ _).alloc (Nat.le_refl _) _).alloc (by simp) _).trans (hb.mono (by simp; omega))⟩
theorem rel_turned1 (b1 : Nat) (x : Nat → Int) (hx : Dg 4 x) (s t : Nat) (hs : s < 4) (ht : t < 4) (w : World) (h1 : Row w b1 4 x) :
    Calls Try.prog 153 #[.int .i64 s, .int .i64 t, .pointer (some ⟨b1, 0, none⟩)] w fun e w' => e = .returned (.bool (hasb (x t) s)) ∧ Below w.heap.size w w' := by
  go_enter Try.func153, Try.ntmps153
  go_wp2_with (first | (refine ld rel4 _ rfl rfl _ rfl (f := ?_) ?_ ?_; rotate_left; first | (with_reducible assumption) | (with_reducible exact Row.new4 _ _ rfl) | (with_reducible exact Row.new16 _ _ rfl) | ((with_reducible refine Row.set ?_ _ _); (with_reducible assumption)) | ((with_reducible refine Row.other ?_ ?_ _); (with_reducible assumption); (focus first | (simp; done) | (simp; omega))) | ((with_reducible refine Row.alloc ?_ _); (with_reducible assumption)) | ((with_reducible refine Row.drew ?_); (with_reducible assumption))) | (go_at_call 141; refine (rel_has x hx _ _ (by omega) (by omega) (by omega) (by omega) _).mono ?_; rintro e w' ⟨rfl, hb⟩))
  go_ret
  exact ⟨rfl, hb⟩
theorem rel_turned (x : Nat → Int) (hx : Dg 4 x) (w : World) :
    Calls Try.prog 119 #[.agg (cellsF 4 x)] w fun e w' => e = .returned (.agg (cellsF 4 (turn x))) ∧ Below w.heap.size w w' := by
  have h1 : Row ((w.alloc (.cells (cellsF 4 x) 59)).alloc (.cells #[.int .i64 0, .int .i64 0, .int .i64 0, .int .i64 0] 59)) w.heap.size 4 x := (Row.new w 4 x _ rfl).alloc _
  have h2 : Row ((w.alloc (.cells (cellsF 4 x) 59)).alloc (.cells #[.int .i64 0, .int .i64 0, .int .i64 0, .int .i64 0] 59)) (w.heap.size + 1) 4 _ := Row.new4 _ _ (by simp)
  have hf := impl_makeRel 153 #[(.pointer (some ⟨w.heap.size, 0, none⟩))] (fun s t => hasb (x t) s) ((w.alloc (.cells (cellsF 4 x) 59)).alloc (.cells #[.int .i64 0, .int .i64 0, .int .i64 0, .int .i64 0] 59)) Try.call153
    (fun s t w1 hs ht hb => rel_turned1 _ x hx s t hs ht w1 (h1.go hb))
  have Hf := Lib.hid hf
  have Hr := Lib.hid h2
  clear hf h1 h2
  go_enter Try.func119, Try.ntmps119
  go_wp2_with (first | (go_at_call 90; refine Hf.out.mono ?_; rintro e w' ⟨rfl, hb⟩; have hr := Hr.out.go hb) | (refine st rel4 _ _ rfl rfl _ rfl _ rfl (f := ?_) ?_ ?_; rotate_left; first | (with_reducible assumption) | (with_reducible exact Row.new4 _ _ rfl) | (with_reducible exact Row.new16 _ _ rfl) | ((with_reducible refine Row.set ?_ _ _); (with_reducible assumption)) | ((with_reducible refine Row.other ?_ ?_ _); (with_reducible assumption); (focus first | (simp; done) | (simp; omega))) | ((with_reducible refine Row.alloc ?_ _); (with_reducible assumption)) | ((with_reducible refine Row.drew ?_); (with_reducible assumption))))
  exact ret_row rel4 rfl _ rfl (hr.setRow _) rfl ⟨rfl, below_setRow (bgo (ba2 w _ _) hb) (by simp) _⟩
theorem impl_two (k : Nat) (F : Nat → Int) (r q : ByteArray) (w : World) (hF : Dg 4 F)
    (hf : dvB 4 r = true → dvB 4 q = true → ∀ w1, Below w.heap.size w w1 → Calls Try.prog k #[.agg (cellsF 4 (dg r)), .agg (cellsF 4 (dg q))] w1 fun e w2 => e = .returned (.agg (cellsF 4 F)) ∧ Below w1.heap.size w1 w2)
    (hk : ∀ xs w, (callFunc k xs).run Try.prog w = .ok (.enter k xs) w) :
    Calls Try.prog 92 #[.string r, .string q, .func (.func k) #[] #[]] w fun e w' => e = .returned (.tuple #[.string (orNo (dvB 4 r && dvB 4 q) (txt 4 F)), .bool (dvB 4 r && dvB 4 q)]) ∧ Below w.heap.size w w' := by
  have Hf := Lib.hid hf
  clear hf
  have Hr : ∃ b, dvB 4 r = b := ⟨_, rfl⟩
  have Hq : ∃ b, dvB 4 q = b := ⟨_, rfl⟩
  obtain ⟨br, hr⟩ := Hr
  obtain ⟨bq, hq⟩ := Hq
  have Hr := Lib.hid hr
  have Hq := Lib.hid hq
  clear hr hq
  go_enter Try.func92, Try.ntmps92
  go_wp2_with fail
  refine (impl_readRel _ _).mono ?_
  rintro e w1 ⟨rfl, hb1⟩
  go_wp2_with (refine st rel4 _ _ rfl rfl _ rfl _ rfl (f := ?_) ?_ ?_; rotate_left; first | (with_reducible assumption) | (with_reducible exact Row.new4 _ _ rfl) | (with_reducible exact Row.new16 _ _ rfl) | ((with_reducible refine Row.set ?_ _ _); (with_reducible assumption)) | ((with_reducible refine Row.other ?_ ?_ _); (with_reducible assumption); (focus first | (simp; done) | (simp; omega))) | ((with_reducible refine Row.alloc ?_ _); (with_reducible assumption)) | ((with_reducible refine Row.drew ?_); (with_reducible assumption)))
  have hx : Row ((w1.alloc (.cells #[.int .i64 0, .int .i64 0, .int .i64 0, .int .i64 0] 59)).setRow w1.heap.size (cellsF 4 (rdF (dvB 4 r) r))) w1.heap.size 4 (rdF (dvB 4 r) r) := (Row.new4 _ _ rfl).setRow _
  have hbx : Below w.heap.size w ((w1.alloc (.cells #[.int .i64 0, .int .i64 0, .int .i64 0, .int .i64 0] 59)).setRow w1.heap.size (cellsF 4 (rdF (dvB 4 r) r))) := below_setRow (bgo hb1 (ba1 _ _)) hb1.size _
  refine (impl_readRel _ _).mono ?_
  rintro e w2 ⟨rfl, hb2⟩
  have hx2 := hx.go hb2
  have hb := bgo hbx hb2
  have hx3 : Row ((w2.alloc (.cells #[.int .i64 0, .int .i64 0, .int .i64 0, .int .i64 0] 59)).setRow w2.heap.size (cellsF 4 (rdF (dvB 4 q) q))) w1.heap.size 4 (rdF (dvB 4 r) r) := (hx2.alloc _).setRow_other (by have := hx2.lt; omega) _
  have hy : Row ((w2.alloc (.cells #[.int .i64 0, .int .i64 0, .int .i64 0, .int .i64 0] 59)).setRow w2.heap.size (cellsF 4 (rdF (dvB 4 q) q))) w2.heap.size 4 (rdF (dvB 4 q) q) := (Row.new4 _ _ rfl).setRow _
  have hb3 : Below w.heap.size w ((w2.alloc (.cells #[.int .i64 0, .int .i64 0, .int .i64 0, .int .i64 0] 59)).setRow w2.heap.size (cellsF 4 (rdF (dvB 4 q) q))) := below_setRow (bgo hb (ba1 _ _)) hb.size _
  clear hx hbx hb2 hx2 hb hb1
  have e1 := Hr.out
  have e2 := Hq.out
  simp only [e1, e2] at hx3 hy hb3 ⊢
  clear e1 e2
  cases br <;> cases bq
  case true.true =>
    simp only [rdF_true] at hx3 hy hb3 ⊢
    go_wp2_with (first | (refine st rel4 _ _ rfl rfl _ rfl _ rfl (f := ?_) ?_ ?_; rotate_left; first | (with_reducible assumption) | (with_reducible exact Row.new4 _ _ rfl) | (with_reducible exact Row.new16 _ _ rfl) | ((with_reducible refine Row.set ?_ _ _); (with_reducible assumption)) | ((with_reducible refine Row.other ?_ ?_ _); (with_reducible assumption); (focus first | (simp; done) | (simp; omega))) | ((with_reducible refine Row.alloc ?_ _); (with_reducible assumption)) | ((with_reducible refine Row.drew ?_); (with_reducible assumption))) | (refine ld rel4 _ rfl rfl _ rfl (f := ?_) ?_ ?_; rotate_left; first | (with_reducible assumption) | (with_reducible exact Row.new4 _ _ rfl) | (with_reducible exact Row.new16 _ _ rfl) | ((with_reducible refine Row.set ?_ _ _); (with_reducible assumption)) | ((with_reducible refine Row.other ?_ ?_ _); (with_reducible assumption); (focus first | (simp; done) | (simp; omega))) | ((with_reducible refine Row.alloc ?_ _); (with_reducible assumption)) | ((with_reducible refine Row.drew ?_); (with_reducible assumption))))
    refine (Hf.out Hr.out Hq.out _ hb3).mono ?_
    rintro e w' ⟨rfl, hb⟩
    go_wp2_with (go_at_call 89; refine (rel_text _ hF _).mono ?_; rintro e w' ⟨rfl, hb4⟩)
    go_ret2
    exact ⟨by rw [Hr.out, Hq.out]; rfl, bgo (bgo hb3 hb) hb4⟩
  all_goals
    go_wp2_with (first | (refine st rel4 _ _ rfl rfl _ rfl _ rfl (f := ?_) ?_ ?_; rotate_left; first | (with_reducible assumption) | (with_reducible exact Row.new4 _ _ rfl) | (with_reducible exact Row.new16 _ _ rfl) | ((with_reducible refine Row.set ?_ _ _); (with_reducible assumption)) | ((with_reducible refine Row.other ?_ ?_ _); (with_reducible assumption); (focus first | (simp; done) | (simp; omega))) | ((with_reducible refine Row.alloc ?_ _); (with_reducible assumption)) | ((with_reducible refine Row.drew ?_); (with_reducible assumption))) | (refine ld rel4 _ rfl rfl _ rfl (f := ?_) ?_ ?_; rotate_left; first | (with_reducible assumption) | (with_reducible exact Row.new4 _ _ rfl) | (with_reducible exact Row.new16 _ _ rfl) | ((with_reducible refine Row.set ?_ _ _); (with_reducible assumption)) | ((with_reducible refine Row.other ?_ ?_ _); (with_reducible assumption); (focus first | (simp; done) | (simp; omega))) | ((with_reducible refine Row.alloc ?_ _); (with_reducible assumption)) | ((with_reducible refine Row.drew ?_); (with_reducible assumption))))
    go_ret2
    exact ⟨by rw [Hr.out, Hq.out]; rfl, hb3⟩
end Go.Proofs.Ytmecagiadlimgaa
