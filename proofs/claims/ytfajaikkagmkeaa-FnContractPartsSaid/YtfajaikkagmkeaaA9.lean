/-
  Contracts of the functions that make transformers.
-/
import Derived.Test.YtfajaikkagmkeaaA4
import Derived.Test.YtfajaikkagmkeaaA7
namespace Go.Proofs.Ytfajaikkagmkeaa
open Go.RowKit Go.DC
set_option maxHeartbeats 1000000
set_option linter.unusedVariables false
set_option linter.unusedSimpArgs false

theorem impl_makeTrans (k : Nat) (fst cap : Array Value) (f : Nat → Int) (w : World) (hk : ∀ xs w, (callFunc k xs).run Try.prog w = .ok (.enter k xs) w)
    (hf : ∀ (s : Nat) (w1 : World), s < 16 → Below w.heap.size w w1 → Calls Try.prog k (fst ++ #[.int .i64 s] ++ cap) w1 fun e w2 => e = .returned (.int .i64 (f s)) ∧ Below w1.heap.size w1 w2) :
    Calls Try.prog 117 #[.func (.func k) fst cap] w fun e w' => e = .returned (.agg (cellsF 16 f)) ∧ Below w.heap.size w w' := by
  have Hf := Lib.hid hf
  clear hf
  go_enter Try.func117, Try.ntmps117
  go_wp2_with fail
  go_loopg [6] 16 (fun gk i wr => ∃ n : Nat, n ≤ 16 ∧ gk = 16 - n ∧ i = .int .i64 n ∧ Row wr w.heap.size 16 (fun _ => 0) ∧ Row wr (w.heap.size + 1) 16 (pre n f) ∧ Below w.heap.size w wr)
  case atStart => exact ⟨0, by omega, rfl, rfl, (Row.new16 w _ rfl).alloc _, (Row.new16 _ _ (by simp)).pre_zero _, ba2 _ _ _⟩
  case round =>
    obtain ⟨n, hn, rfl, rfl, hr0, hr1, hb⟩ := hrel
    have Hr0 := Lib.hid hr0
    have Hr1 := Lib.hid hr1
    have Hb := Lib.hid hb
    by_cases hlt : n < 16
    · clear hr0 hr1 hb
      go_wp2_with fail
      refine (Hf.out _ _ hlt Hb.out).mono ?_
      rintro e w' ⟨rfl, hb1⟩
      have hr1' := Hr1.out.go hb1
      have hr0' := Hr0.out.go hb1
      have hb' := bgo Hb.out hb1
      have hc := hr1'.cell hlt
      have hfz := hr1'.free n
      clear hb1 Hr0 Hr1 Hb
      go_wp2_with fail
      go_roundg (16 - (n + 1))
      case rel => exact ⟨n + 1, by omega, rfl, by go_num, hr0'.other (by first | (simp; done) | (simp; omega) | omega) _, (hr1'.set n _).pre_succ rfl, hb'.setCell (by first | (simp; done) | (simp; omega) | omega) _⟩
      case measure => omega
    · obtain rfl : n = 16 := by omega
      have hr1' := hr1.pre_all
      go_wp2_with (first | (refine ld trans16 _ rfl rfl _ rfl (f := ?_) ?_ ?_; rotate_left; first | (with_reducible assumption) | (with_reducible exact Row.new4 _ _ rfl) | (with_reducible exact Row.new16 _ _ rfl) | ((with_reducible refine Row.set ?_ _ _); (with_reducible assumption)) | ((with_reducible refine Row.other ?_ ?_ _); (with_reducible assumption); (focus first | (simp; done) | (simp; omega))) | ((with_reducible refine Row.alloc ?_ _); (with_reducible assumption)) | ((with_reducible refine Row.drew ?_); (with_reducible assumption))) | (refine st trans16 _ _ rfl rfl _ rfl _ rfl (f := ?_) ?_ ?_; rotate_left; first | (with_reducible assumption) | (with_reducible exact Row.new4 _ _ rfl) | (with_reducible exact Row.new16 _ _ rfl) | ((with_reducible refine Row.set ?_ _ _); (with_reducible assumption)) | ((with_reducible refine Row.other ?_ ?_ _); (with_reducible assumption); (focus first | (simp; done) | (simp; omega))) | ((with_reducible refine Row.alloc ?_ _); (with_reducible assumption)) | ((with_reducible refine Row.drew ?_); (with_reducible assumption))))
      exact ret_row trans16 rfl _ rfl (hr0.setRow _) rfl ⟨rfl, below_setRow hb (by omega) _⟩
theorem trans_text (x : Nat → Int) (hx : Dg 16 x) (w : World) :
    Calls Try.prog 80 #[.agg (cellsF 16 x)] w fun e w' => e = .returned (.string (txt 16 x)) ∧ Below w.heap.size w w' := by
  have hr := Row.new w 16 x 66 rfl
  go_enter Try.func80, Try.ntmps80
  go_wp2_with (refine ld trans16 _ rfl rfl _ rfl (f := ?_) ?_ ?_; rotate_left; first | (with_reducible assumption) | (with_reducible exact Row.new4 _ _ rfl) | (with_reducible exact Row.new16 _ _ rfl) | ((with_reducible refine Row.set ?_ _ _); (with_reducible assumption)) | ((with_reducible refine Row.other ?_ ?_ _); (with_reducible assumption); (focus first | (simp; done) | (simp; omega))) | ((with_reducible refine Row.alloc ?_ _); (with_reducible assumption)) | ((with_reducible refine Row.drew ?_); (with_reducible assumption)))
  go_loopg [3, 7] 16 (fun gk o i wr => ∃ n : Nat, n ≤ 16 ∧ gk = 16 - n ∧ i = .int .i64 n ∧ o = .string (txt n x) ∧ w.alloc (.cells (cellsF 16 x) 66) = wr)
  case atStart => exact ⟨0, by omega, rfl, rfl, rfl, rfl⟩
  case round =>
    obtain ⟨n, hn, rfl, rfl, rfl, rfl⟩ := hrel
    by_cases hlt : n < 16
    · have hix := idx16 x hlt
      obtain ⟨hx0, hx1⟩ := hx n (by omega)
      have hadd : ∀ w, (Op.stringOp .add (txt n x) (dgt (x n))).run Try.prog w = .ok (.string (txt (n + 1) x)) w := fun w => by
        rw [run_string_add_sum w _ _ (by rw [txt_size]; show n + 1 ≤ _; omega), txt_succ]
      go_wp2_with (go_at_call 132; refine (impl_digit _ _ (by assumption) (by assumption)).mono ?_; rintro e w' ⟨rfl, rfl⟩)
      go_roundg (16 - (n + 1))
      case rel => exact ⟨n + 1, by omega, rfl, by go_num, rfl, rfl⟩
      case measure => omega
    · obtain rfl : n = 16 := by omega
      go_wp2_with fail
      go_ret
      exact ⟨rfl, (Below.refl _ _).alloc (Nat.le_refl _) _⟩
theorem rel_box1 (b1 b2 : Nat) (x : Nat → Int) (p : Int) (s : Nat) (hs : s < 4) (w : World) (h1 : Row w b1 4 x) (h2 : Row w b2 1 fun _ => p) :
    Calls Try.prog 163 #[.int .i64 s, .pointer (some ⟨b1, 0, none⟩), .pointer (some ⟨b2, 0, none⟩)] w fun e w' => e = .returned (.bool (bandn (x s) p == 0)) ∧ Below w.heap.size w w' := by
  have hc1 := h1.cell hs
  have hc2 := h2.cell (i := 0) (by omega)
  go_enter Try.func163, Try.ntmps163
  go_wp2_with fail
  go_quiet (fail)
  go_wp2_with fail
  go_ret
  exact ⟨rfl, below_drewN (Below.refl _ _) _⟩
theorem rel_box (x : Nat → Int) (p : Int) (w : World) :
    Calls Try.prog 135 #[.agg (cellsF 4 x), .int .i64 p] w fun e w' => e = .returned (.int .i64 (boxR x p)) ∧ Below w.heap.size w w' := by
  have h1 : Row ((w.alloc (.cells (cellsF 4 x) 60)).alloc (.cells #[.int .i64 p] 3)) w.heap.size 4 x := (Row.new w 4 x _ rfl).alloc _
  have h2 : Row ((w.alloc (.cells (cellsF 4 x) 60)).alloc (.cells #[.int .i64 p] 3)) (w.heap.size + 1) 1 fun _ => p := Row.new _ 1 (fun _ => p) _ (by simp)
  have hf := impl_states 163 #[.pointer (some ⟨w.heap.size, 0, none⟩), .pointer (some ⟨w.heap.size + 1, 0, none⟩)] (fun s => bandn (x s) p == 0) ((w.alloc (.cells (cellsF 4 x) 60)).alloc (.cells #[.int .i64 p] 3)) Try.call163
    (fun s w1 hs hb => rel_box1 _ _ x p s hs w1 (h1.below hb h1.lt) (h2.below hb h2.lt))
  have Hf := Lib.hid hf
  clear hf h1 h2
  go_enter Try.func135, Try.ntmps135
  go_wp2_with (go_at_call 161; refine Hf.out.mono ?_; rintro e w' ⟨rfl, hb⟩)
  go_ret
  exact ⟨rfl, bgo (ba2 w _ _) hb⟩
theorem impl_assert1 (b1 : Nat) (p : Int) (q : Nat) (w : World) (h1 : Row w b1 1 fun _ => p) :
    Calls Try.prog 154 #[.int .i64 q, .pointer (some ⟨b1, 0, none⟩)] w fun e w' => e = .returned (.int .i64 (band p q)) ∧ Below w.heap.size w w' := by
  have hc := h1.cell (i := 0) (by omega)
  go_enter Try.func154, Try.ntmps154
  go_wp2_with fail
  go_ret
  exact ⟨rfl, Below.refl _ _⟩
theorem impl_assert (p : Int) (w : World) :
    Calls Try.prog 115 #[.int .i64 p] w fun e w' => e = .returned (.agg (cellsF 16 (assertT p))) ∧ Below w.heap.size w w' := by
  have h1 : Row ((w.alloc (.cells #[.int .i64 p] 3)).alloc (.cells #[.int .i64 0, .int .i64 0, .int .i64 0, .int .i64 0, .int .i64 0, .int .i64 0, .int .i64 0, .int .i64 0, .int .i64 0, .int .i64 0, .int .i64 0, .int .i64 0, .int .i64 0, .int .i64 0, .int .i64 0, .int .i64 0] 66)) w.heap.size 1 (fun _ => p) := (Row.new w 1 (fun _ => p) _ rfl).alloc _
  have h2 : Row ((w.alloc (.cells #[.int .i64 p] 3)).alloc (.cells #[.int .i64 0, .int .i64 0, .int .i64 0, .int .i64 0, .int .i64 0, .int .i64 0, .int .i64 0, .int .i64 0, .int .i64 0, .int .i64 0, .int .i64 0, .int .i64 0, .int .i64 0, .int .i64 0, .int .i64 0, .int .i64 0] 66)) (w.heap.size + 1) 16 _ := Row.new16 _ _ (by simp)
  have hf := impl_makeTrans 154 #[] #[(.pointer (some ⟨w.heap.size, 0, none⟩))] (assertT p) ((w.alloc (.cells #[.int .i64 p] 3)).alloc (.cells #[.int .i64 0, .int .i64 0, .int .i64 0, .int .i64 0, .int .i64 0, .int .i64 0, .int .i64 0, .int .i64 0, .int .i64 0, .int .i64 0, .int .i64 0, .int .i64 0, .int .i64 0, .int .i64 0, .int .i64 0, .int .i64 0] 66)) Try.call154 (fun s w1 hs hb => impl_assert1 _ p s w1 (h1.go hb))
  have Hf := Lib.hid hf
  have Hr := Lib.hid h2
  clear hf h1 h2
  go_enter Try.func115, Try.ntmps115
  go_wp2_with (first | (go_at_call 117; refine Hf.out.mono ?_; rintro e w' ⟨rfl, hb⟩; have hr := Hr.out.go hb) | (refine st trans16 _ _ rfl rfl _ rfl _ rfl (f := ?_) ?_ ?_; rotate_left; first | (with_reducible assumption) | (with_reducible exact Row.new4 _ _ rfl) | (with_reducible exact Row.new16 _ _ rfl) | ((with_reducible refine Row.set ?_ _ _); (with_reducible assumption)) | ((with_reducible refine Row.other ?_ ?_ _); (with_reducible assumption); (focus first | (simp; done) | (simp; omega))) | ((with_reducible refine Row.alloc ?_ _); (with_reducible assumption)) | ((with_reducible refine Row.drew ?_); (with_reducible assumption))))
  exact ret_row trans16 rfl _ rfl (hr.setRow _) rfl ⟨rfl, below_setRow (bgo (ba2 w _ _) hb) (by omega) _⟩
theorem impl_angel (x : Nat → Int) (w : World) :
    Calls Try.prog 83 #[.agg (cellsF 4 x)] w fun e w' => e = .returned (.agg (cellsF 16 (angelT x))) ∧ Below w.heap.size w w' := by
  have h1 : Row ((w.alloc (.cells (cellsF 4 x) 60)).alloc (.cells #[.int .i64 0, .int .i64 0, .int .i64 0, .int .i64 0, .int .i64 0, .int .i64 0, .int .i64 0, .int .i64 0, .int .i64 0, .int .i64 0, .int .i64 0, .int .i64 0, .int .i64 0, .int .i64 0, .int .i64 0, .int .i64 0] 66)) w.heap.size 4 x := (Row.new w 4 x _ rfl).alloc _
  have h2 : Row ((w.alloc (.cells (cellsF 4 x) 60)).alloc (.cells #[.int .i64 0, .int .i64 0, .int .i64 0, .int .i64 0, .int .i64 0, .int .i64 0, .int .i64 0, .int .i64 0, .int .i64 0, .int .i64 0, .int .i64 0, .int .i64 0, .int .i64 0, .int .i64 0, .int .i64 0, .int .i64 0] 66)) (w.heap.size + 1) 16 _ := Row.new16 _ _ (by simp)
  have hf := impl_makeTrans 134 #[.agg (cellsF 4 x)] #[] (angelT x) ((w.alloc (.cells (cellsF 4 x) 60)).alloc (.cells #[.int .i64 0, .int .i64 0, .int .i64 0, .int .i64 0, .int .i64 0, .int .i64 0, .int .i64 0, .int .i64 0, .int .i64 0, .int .i64 0, .int .i64 0, .int .i64 0, .int .i64 0, .int .i64 0, .int .i64 0, .int .i64 0] 66)) Try.call134 (fun s w1 hs hb => rel_diamond x s w1)
  have Hf := Lib.hid hf
  have Hr := Lib.hid h2
  have Hx := Lib.hid h1
  clear hf h1 h2
  go_enter Try.func83, Try.ntmps83
  go_wp2_with (first | (go_at_call 117; refine Hf.out.mono ?_; rintro e w' ⟨rfl, hb⟩; have hr := Hr.out.go hb) | (refine ld rel4 _ rfl rfl _ rfl (f := ?_) ?_ ?_; rotate_left; exact Hx.out) | (refine st trans16 _ _ rfl rfl _ rfl _ rfl (f := ?_) ?_ ?_; rotate_left; first | (with_reducible assumption) | (with_reducible exact Row.new4 _ _ rfl) | (with_reducible exact Row.new16 _ _ rfl) | ((with_reducible refine Row.set ?_ _ _); (with_reducible assumption)) | ((with_reducible refine Row.other ?_ ?_ _); (with_reducible assumption); (focus first | (simp; done) | (simp; omega))) | ((with_reducible refine Row.alloc ?_ _); (with_reducible assumption)) | ((with_reducible refine Row.drew ?_); (with_reducible assumption))))
  exact ret_row trans16 rfl _ rfl (hr.setRow _) rfl ⟨rfl, below_setRow (bgo (ba2 w _ _) hb) (by omega) _⟩
theorem impl_demon (x : Nat → Int) (w : World) :
    Calls Try.prog 84 #[.agg (cellsF 4 x)] w fun e w' => e = .returned (.agg (cellsF 16 (demonT x))) ∧ Below w.heap.size w w' := by
  have h1 : Row ((w.alloc (.cells (cellsF 4 x) 60)).alloc (.cells #[.int .i64 0, .int .i64 0, .int .i64 0, .int .i64 0, .int .i64 0, .int .i64 0, .int .i64 0, .int .i64 0, .int .i64 0, .int .i64 0, .int .i64 0, .int .i64 0, .int .i64 0, .int .i64 0, .int .i64 0, .int .i64 0] 66)) w.heap.size 4 x := (Row.new w 4 x _ rfl).alloc _
  have h2 : Row ((w.alloc (.cells (cellsF 4 x) 60)).alloc (.cells #[.int .i64 0, .int .i64 0, .int .i64 0, .int .i64 0, .int .i64 0, .int .i64 0, .int .i64 0, .int .i64 0, .int .i64 0, .int .i64 0, .int .i64 0, .int .i64 0, .int .i64 0, .int .i64 0, .int .i64 0, .int .i64 0] 66)) (w.heap.size + 1) 16 _ := Row.new16 _ _ (by simp)
  have hf := impl_makeTrans 135 #[.agg (cellsF 4 x)] #[] (demonT x) ((w.alloc (.cells (cellsF 4 x) 60)).alloc (.cells #[.int .i64 0, .int .i64 0, .int .i64 0, .int .i64 0, .int .i64 0, .int .i64 0, .int .i64 0, .int .i64 0, .int .i64 0, .int .i64 0, .int .i64 0, .int .i64 0, .int .i64 0, .int .i64 0, .int .i64 0, .int .i64 0] 66)) Try.call135 (fun s w1 hs hb => rel_box x s w1)
  have Hf := Lib.hid hf
  have Hr := Lib.hid h2
  have Hx := Lib.hid h1
  clear hf h1 h2
  go_enter Try.func84, Try.ntmps84
  go_wp2_with (first | (go_at_call 117; refine Hf.out.mono ?_; rintro e w' ⟨rfl, hb⟩; have hr := Hr.out.go hb) | (refine ld rel4 _ rfl rfl _ rfl (f := ?_) ?_ ?_; rotate_left; exact Hx.out) | (refine st trans16 _ _ rfl rfl _ rfl _ rfl (f := ?_) ?_ ?_; rotate_left; first | (with_reducible assumption) | (with_reducible exact Row.new4 _ _ rfl) | (with_reducible exact Row.new16 _ _ rfl) | ((with_reducible refine Row.set ?_ _ _); (with_reducible assumption)) | ((with_reducible refine Row.other ?_ ?_ _); (with_reducible assumption); (focus first | (simp; done) | (simp; omega))) | ((with_reducible refine Row.alloc ?_ _); (with_reducible assumption)) | ((with_reducible refine Row.drew ?_); (with_reducible assumption))))
  exact ret_row trans16 rfl _ rfl (hr.setRow _) rfl ⟨rfl, below_setRow (bgo (ba2 w _ _) hb) (by omega) _⟩
theorem trans_dual1 (b1 : Nat) (x : Nat → Int) (q : Nat) (hq : q < 16) (w : World) (h1 : Row w b1 16 x) :
    Calls Try.prog 165 #[.int .i64 q, .pointer (some ⟨b1, 0, none⟩)] w fun e w' => e = .returned (.int .i64 (dual x q)) ∧ Below w.heap.size w w' := by
  have hr := bandn_rng (a := 15) (b := (q : Int)) (by decide) (by decide) (by omega) (by omega)
  have e : bandn 15 (q : Int) = bits BinOp.andNot IntKind.i64 15 q := rfl
  rw [e] at hr
  obtain ⟨hr0, hr1⟩ := hr
  have hc := h1.cell (i := (bits BinOp.andNot IntKind.i64 15 (q : Int)).toNat) (by omega)
  clear e
  go_enter Try.func165, Try.ntmps165
  go_wp2_with fail
  go_ret
  exact ⟨rfl, Below.refl _ _⟩
theorem trans_dual (x : Nat → Int) (w : World) :
    Calls Try.prog 146 #[.agg (cellsF 16 x)] w fun e w' => e = .returned (.agg (cellsF 16 (dual x))) ∧ Below w.heap.size w w' := by
  have h1 : Row ((w.alloc (.cells (cellsF 16 x) 66)).alloc (.cells #[.int .i64 0, .int .i64 0, .int .i64 0, .int .i64 0, .int .i64 0, .int .i64 0, .int .i64 0, .int .i64 0, .int .i64 0, .int .i64 0, .int .i64 0, .int .i64 0, .int .i64 0, .int .i64 0, .int .i64 0, .int .i64 0] 66)) w.heap.size 16 x := (Row.new w 16 x _ rfl).alloc _
  have h2 : Row ((w.alloc (.cells (cellsF 16 x) 66)).alloc (.cells #[.int .i64 0, .int .i64 0, .int .i64 0, .int .i64 0, .int .i64 0, .int .i64 0, .int .i64 0, .int .i64 0, .int .i64 0, .int .i64 0, .int .i64 0, .int .i64 0, .int .i64 0, .int .i64 0, .int .i64 0, .int .i64 0] 66)) (w.heap.size + 1) 16 _ := Row.new16 _ _ (by simp)
  have hf := impl_makeTrans 165 #[] #[(.pointer (some ⟨w.heap.size, 0, none⟩))] (dual x) ((w.alloc (.cells (cellsF 16 x) 66)).alloc (.cells #[.int .i64 0, .int .i64 0, .int .i64 0, .int .i64 0, .int .i64 0, .int .i64 0, .int .i64 0, .int .i64 0, .int .i64 0, .int .i64 0, .int .i64 0, .int .i64 0, .int .i64 0, .int .i64 0, .int .i64 0, .int .i64 0] 66)) Try.call165 (fun s w1 hs hb => trans_dual1 _ x s hs w1 (h1.go hb))
  have Hf := Lib.hid hf
  have Hr := Lib.hid h2
  clear hf h1 h2
  go_enter Try.func146, Try.ntmps146
  go_wp2_with (first | (go_at_call 117; refine Hf.out.mono ?_; rintro e w' ⟨rfl, hb⟩; have hr := Hr.out.go hb) | (refine st trans16 _ _ rfl rfl _ rfl _ rfl (f := ?_) ?_ ?_; rotate_left; first | (with_reducible assumption) | (with_reducible exact Row.new4 _ _ rfl) | (with_reducible exact Row.new16 _ _ rfl) | ((with_reducible refine Row.set ?_ _ _); (with_reducible assumption)) | ((with_reducible refine Row.other ?_ ?_ _); (with_reducible assumption); (focus first | (simp; done) | (simp; omega))) | ((with_reducible refine Row.alloc ?_ _); (with_reducible assumption)) | ((with_reducible refine Row.drew ?_); (with_reducible assumption))))
  exact ret_row trans16 rfl _ rfl (hr.setRow _) rfl ⟨rfl, below_setRow (bgo (ba2 w _ _) hb) (by omega) _⟩
theorem trans_then1 (b1 b2 : Nat) (x y : Nat → Int) (hy : Dg 16 y) (q : Nat) (hq : q < 16) (w : World) (h1 : Row w b1 16 x) (h2 : Row w b2 16 y) :
    Calls Try.prog 156 #[.int .i64 q, .pointer (some ⟨b1, 0, none⟩), .pointer (some ⟨b2, 0, none⟩)] w fun e w' => e = .returned (.int .i64 ((thenT x y) q)) ∧ Below w.heap.size w w' := by
  obtain ⟨g0, g1⟩ := hy q hq
  have hc1 := h2.cell hq
  have hc2 := h1.cell (i := (y q).toNat) (by omega)
  go_enter Try.func156, Try.ntmps156
  go_wp2_with fail
  go_ret
  first
    | exact ⟨rfl, Below.refl _ _⟩
    | exact ⟨rfl, below_drewN (Below.refl _ _) _⟩
theorem trans_then (x y : Nat → Int) (hy : Dg 16 y) (w : World) :
    Calls Try.prog 125 #[.agg (cellsF 16 x), .agg (cellsF 16 y)] w fun e w' => e = .returned (.agg (cellsF 16 (thenT x y))) ∧ Below w.heap.size w w' := by
  have h1 : Row (((w.alloc (.cells (cellsF 16 x) 66)).alloc (.cells (cellsF 16 y) 66)).alloc (.cells #[.int .i64 0, .int .i64 0, .int .i64 0, .int .i64 0, .int .i64 0, .int .i64 0, .int .i64 0, .int .i64 0, .int .i64 0, .int .i64 0, .int .i64 0, .int .i64 0, .int .i64 0, .int .i64 0, .int .i64 0, .int .i64 0] 66)) w.heap.size 16 x := ((Row.new w 16 x _ rfl).alloc _).alloc _
  have h1' : Row (((w.alloc (.cells (cellsF 16 x) 66)).alloc (.cells (cellsF 16 y) 66)).alloc (.cells #[.int .i64 0, .int .i64 0, .int .i64 0, .int .i64 0, .int .i64 0, .int .i64 0, .int .i64 0, .int .i64 0, .int .i64 0, .int .i64 0, .int .i64 0, .int .i64 0, .int .i64 0, .int .i64 0, .int .i64 0, .int .i64 0] 66)) (w.heap.size + 1) 16 y := (Row.new _ 16 y _ (by simp)).alloc _
  have h2 : Row (((w.alloc (.cells (cellsF 16 x) 66)).alloc (.cells (cellsF 16 y) 66)).alloc (.cells #[.int .i64 0, .int .i64 0, .int .i64 0, .int .i64 0, .int .i64 0, .int .i64 0, .int .i64 0, .int .i64 0, .int .i64 0, .int .i64 0, .int .i64 0, .int .i64 0, .int .i64 0, .int .i64 0, .int .i64 0, .int .i64 0] 66)) (w.heap.size + 2) 16 _ := Row.new16 _ _ (by simp)
  have hf := impl_makeTrans 156 #[] #[(.pointer (some ⟨w.heap.size, 0, none⟩)), (.pointer (some ⟨w.heap.size + 1, 0, none⟩))] (thenT x y) (((w.alloc (.cells (cellsF 16 x) 66)).alloc (.cells (cellsF 16 y) 66)).alloc (.cells #[.int .i64 0, .int .i64 0, .int .i64 0, .int .i64 0, .int .i64 0, .int .i64 0, .int .i64 0, .int .i64 0, .int .i64 0, .int .i64 0, .int .i64 0, .int .i64 0, .int .i64 0, .int .i64 0, .int .i64 0, .int .i64 0] 66)) Try.call156 (fun s w1 hs hb => trans_then1 _ _ x y hy s hs w1 (h1.go hb) (h1'.go hb))
  have Hf := Lib.hid hf
  have Hr := Lib.hid h2
  clear hf h1 h1' h2
  go_enter Try.func125, Try.ntmps125
  go_wp2_with (first | (go_at_call 117; refine Hf.out.mono ?_; rintro e w' ⟨rfl, hb⟩; have hr := Hr.out.go hb) | (refine st trans16 _ _ rfl rfl _ rfl _ rfl (f := ?_) ?_ ?_; rotate_left; first | (with_reducible assumption) | (with_reducible exact Row.new4 _ _ rfl) | (with_reducible exact Row.new16 _ _ rfl) | ((with_reducible refine Row.set ?_ _ _); (with_reducible assumption)) | ((with_reducible refine Row.other ?_ ?_ _); (with_reducible assumption); (focus first | (simp; done) | (simp; omega))) | ((with_reducible refine Row.alloc ?_ _); (with_reducible assumption)) | ((with_reducible refine Row.drew ?_); (with_reducible assumption))))
  exact ret_row trans16 rfl _ rfl (hr.setRow _) rfl ⟨rfl, below_setRow (bgo (ba3 w _ _ _) hb) (by omega) _⟩
theorem trans_meet1 (b1 b2 : Nat) (x y : Nat → Int) (hy : Dg 16 y) (q : Nat) (hq : q < 16) (w : World) (h1 : Row w b1 16 x) (h2 : Row w b2 16 y) :
    Calls Try.prog 157 #[.int .i64 q, .pointer (some ⟨b1, 0, none⟩), .pointer (some ⟨b2, 0, none⟩)] w fun e w' => e = .returned (.int .i64 ((meetT x y) q)) ∧ Below w.heap.size w w' := by
  have hc1 := h1.cell hq
  have hc2 := h2.cell hq
  go_enter Try.func157, Try.ntmps157
  go_wp2_with fail
  go_quiet (fail)
  go_wp2_with fail
  go_ret
  first
    | exact ⟨rfl, Below.refl _ _⟩
    | exact ⟨rfl, below_drewN (Below.refl _ _) _⟩
theorem trans_meet (x y : Nat → Int) (hy : Dg 16 y) (w : World) :
    Calls Try.prog 126 #[.agg (cellsF 16 x), .agg (cellsF 16 y)] w fun e w' => e = .returned (.agg (cellsF 16 (meetT x y))) ∧ Below w.heap.size w w' := by
  have h1 : Row (((w.alloc (.cells (cellsF 16 x) 66)).alloc (.cells (cellsF 16 y) 66)).alloc (.cells #[.int .i64 0, .int .i64 0, .int .i64 0, .int .i64 0, .int .i64 0, .int .i64 0, .int .i64 0, .int .i64 0, .int .i64 0, .int .i64 0, .int .i64 0, .int .i64 0, .int .i64 0, .int .i64 0, .int .i64 0, .int .i64 0] 66)) w.heap.size 16 x := ((Row.new w 16 x _ rfl).alloc _).alloc _
  have h1' : Row (((w.alloc (.cells (cellsF 16 x) 66)).alloc (.cells (cellsF 16 y) 66)).alloc (.cells #[.int .i64 0, .int .i64 0, .int .i64 0, .int .i64 0, .int .i64 0, .int .i64 0, .int .i64 0, .int .i64 0, .int .i64 0, .int .i64 0, .int .i64 0, .int .i64 0, .int .i64 0, .int .i64 0, .int .i64 0, .int .i64 0] 66)) (w.heap.size + 1) 16 y := (Row.new _ 16 y _ (by simp)).alloc _
  have h2 : Row (((w.alloc (.cells (cellsF 16 x) 66)).alloc (.cells (cellsF 16 y) 66)).alloc (.cells #[.int .i64 0, .int .i64 0, .int .i64 0, .int .i64 0, .int .i64 0, .int .i64 0, .int .i64 0, .int .i64 0, .int .i64 0, .int .i64 0, .int .i64 0, .int .i64 0, .int .i64 0, .int .i64 0, .int .i64 0, .int .i64 0] 66)) (w.heap.size + 2) 16 _ := Row.new16 _ _ (by simp)
  have hf := impl_makeTrans 157 #[] #[(.pointer (some ⟨w.heap.size, 0, none⟩)), (.pointer (some ⟨w.heap.size + 1, 0, none⟩))] (meetT x y) (((w.alloc (.cells (cellsF 16 x) 66)).alloc (.cells (cellsF 16 y) 66)).alloc (.cells #[.int .i64 0, .int .i64 0, .int .i64 0, .int .i64 0, .int .i64 0, .int .i64 0, .int .i64 0, .int .i64 0, .int .i64 0, .int .i64 0, .int .i64 0, .int .i64 0, .int .i64 0, .int .i64 0, .int .i64 0, .int .i64 0] 66)) Try.call157 (fun s w1 hs hb => trans_meet1 _ _ x y hy s hs w1 (h1.go hb) (h1'.go hb))
  have Hf := Lib.hid hf
  have Hr := Lib.hid h2
  clear hf h1 h1' h2
  go_enter Try.func126, Try.ntmps126
  go_wp2_with (first | (go_at_call 117; refine Hf.out.mono ?_; rintro e w' ⟨rfl, hb⟩; have hr := Hr.out.go hb) | (refine st trans16 _ _ rfl rfl _ rfl _ rfl (f := ?_) ?_ ?_; rotate_left; first | (with_reducible assumption) | (with_reducible exact Row.new4 _ _ rfl) | (with_reducible exact Row.new16 _ _ rfl) | ((with_reducible refine Row.set ?_ _ _); (with_reducible assumption)) | ((with_reducible refine Row.other ?_ ?_ _); (with_reducible assumption); (focus first | (simp; done) | (simp; omega))) | ((with_reducible refine Row.alloc ?_ _); (with_reducible assumption)) | ((with_reducible refine Row.drew ?_); (with_reducible assumption))))
  exact ret_row trans16 rfl _ rfl (hr.setRow _) rfl ⟨rfl, below_setRow (bgo (ba3 w _ _ _) hb) (by omega) _⟩
theorem trans_join1 (b1 b2 : Nat) (x y : Nat → Int) (hy : Dg 16 y) (q : Nat) (hq : q < 16) (w : World) (h1 : Row w b1 16 x) (h2 : Row w b2 16 y) :
    Calls Try.prog 158 #[.int .i64 q, .pointer (some ⟨b1, 0, none⟩), .pointer (some ⟨b2, 0, none⟩)] w fun e w' => e = .returned (.int .i64 ((joinT x y) q)) ∧ Below w.heap.size w w' := by
  have hc1 := h1.cell hq
  have hc2 := h2.cell hq
  go_enter Try.func158, Try.ntmps158
  go_wp2_with fail
  go_quiet (fail)
  go_wp2_with fail
  go_ret
  first
    | exact ⟨rfl, Below.refl _ _⟩
    | exact ⟨rfl, below_drewN (Below.refl _ _) _⟩
theorem trans_join (x y : Nat → Int) (hy : Dg 16 y) (w : World) :
    Calls Try.prog 127 #[.agg (cellsF 16 x), .agg (cellsF 16 y)] w fun e w' => e = .returned (.agg (cellsF 16 (joinT x y))) ∧ Below w.heap.size w w' := by
  have h1 : Row (((w.alloc (.cells (cellsF 16 x) 66)).alloc (.cells (cellsF 16 y) 66)).alloc (.cells #[.int .i64 0, .int .i64 0, .int .i64 0, .int .i64 0, .int .i64 0, .int .i64 0, .int .i64 0, .int .i64 0, .int .i64 0, .int .i64 0, .int .i64 0, .int .i64 0, .int .i64 0, .int .i64 0, .int .i64 0, .int .i64 0] 66)) w.heap.size 16 x := ((Row.new w 16 x _ rfl).alloc _).alloc _
  have h1' : Row (((w.alloc (.cells (cellsF 16 x) 66)).alloc (.cells (cellsF 16 y) 66)).alloc (.cells #[.int .i64 0, .int .i64 0, .int .i64 0, .int .i64 0, .int .i64 0, .int .i64 0, .int .i64 0, .int .i64 0, .int .i64 0, .int .i64 0, .int .i64 0, .int .i64 0, .int .i64 0, .int .i64 0, .int .i64 0, .int .i64 0] 66)) (w.heap.size + 1) 16 y := (Row.new _ 16 y _ (by simp)).alloc _
  have h2 : Row (((w.alloc (.cells (cellsF 16 x) 66)).alloc (.cells (cellsF 16 y) 66)).alloc (.cells #[.int .i64 0, .int .i64 0, .int .i64 0, .int .i64 0, .int .i64 0, .int .i64 0, .int .i64 0, .int .i64 0, .int .i64 0, .int .i64 0, .int .i64 0, .int .i64 0, .int .i64 0, .int .i64 0, .int .i64 0, .int .i64 0] 66)) (w.heap.size + 2) 16 _ := Row.new16 _ _ (by simp)
  have hf := impl_makeTrans 158 #[] #[(.pointer (some ⟨w.heap.size, 0, none⟩)), (.pointer (some ⟨w.heap.size + 1, 0, none⟩))] (joinT x y) (((w.alloc (.cells (cellsF 16 x) 66)).alloc (.cells (cellsF 16 y) 66)).alloc (.cells #[.int .i64 0, .int .i64 0, .int .i64 0, .int .i64 0, .int .i64 0, .int .i64 0, .int .i64 0, .int .i64 0, .int .i64 0, .int .i64 0, .int .i64 0, .int .i64 0, .int .i64 0, .int .i64 0, .int .i64 0, .int .i64 0] 66)) Try.call158 (fun s w1 hs hb => trans_join1 _ _ x y hy s hs w1 (h1.go hb) (h1'.go hb))
  have Hf := Lib.hid hf
  have Hr := Lib.hid h2
  clear hf h1 h1' h2
  go_enter Try.func127, Try.ntmps127
  go_wp2_with (first | (go_at_call 117; refine Hf.out.mono ?_; rintro e w' ⟨rfl, hb⟩; have hr := Hr.out.go hb) | (refine st trans16 _ _ rfl rfl _ rfl _ rfl (f := ?_) ?_ ?_; rotate_left; first | (with_reducible assumption) | (with_reducible exact Row.new4 _ _ rfl) | (with_reducible exact Row.new16 _ _ rfl) | ((with_reducible refine Row.set ?_ _ _); (with_reducible assumption)) | ((with_reducible refine Row.other ?_ ?_ _); (with_reducible assumption); (focus first | (simp; done) | (simp; omega))) | ((with_reducible refine Row.alloc ?_ _); (with_reducible assumption)) | ((with_reducible refine Row.drew ?_); (with_reducible assumption))))
  exact ret_row trans16 rfl _ rfl (hr.setRow _) rfl ⟨rfl, below_setRow (bgo (ba3 w _ _ _) hb) (by omega) _⟩
end Go.Proofs.Ytfajaikkagmkeaa
