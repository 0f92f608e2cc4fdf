/-
  Contracts of the functions on transformers that tell kinds, values and points.
-/
import Derived.Test.YtfajaikkagmkeaaA6
import Derived.Test.YtfajaikkagmkeaaT
import Derived.Test.YtfajaikkagmkeaaG1
import Derived.Deep.QuietTactic
import Derived.BigQuiet
namespace Go.Proofs.Ytfajaikkagmkeaa
open Go.RowKit Go.DC
set_option maxHeartbeats 1000000
set_option linter.unusedVariables false
set_option linter.unusedSimpArgs false

theorem trans_disjunctive1 (b1 : Nat) (x : Nat → Int) (hx : Dg 16 x) (p q : Nat) (hp : p < 16) (hq : q < 16) (w : World) (h1 : Row w b1 16 x) :
    Calls Try.prog 140 #[.int .i64 p, .int .i64 q, .pointer (some ⟨b1, 0, none⟩)] w fun e w' => e = .returned (.bool (x (bor (p : Int) (q : Int)).toNat == bor (x p) (x q))) ∧ Below w.heap.size w w' := by
  have hr := bor_rng (a := (p : Int)) (b := (q : Int)) (by omega) (by omega) (by omega) (by omega)
  have e : bor (p : Int) (q : Int) = bits BinOp.or IntKind.i64 p q := rfl
  rw [e] at hr
  obtain ⟨hr0, hr1⟩ := hr
  have hc0 := h1.cell (i := (bits BinOp.or IntKind.i64 (p : Int) (q : Int)).toNat) (by omega)
  have hc1 := h1.cell hp
  have hc2 := h1.cell hq
  clear e
  go_enter Try.func140, Try.ntmps140
  go_wp2_with fail
  go_quiet (fail)
  go_wp2_with fail
  go_ret
  exact ⟨rfl, below_drewN (Below.refl _ _) _⟩
theorem trans_disjunctive (x : Nat → Int) (hx : Dg 16 x) (w : World) :
    Calls Try.prog 91 #[.agg (cellsF 16 x)] w fun e w' => e = .returned (.bool (disjB x)) ∧ Below w.heap.size w w' := by
  have h1 : Row (w.alloc (.cells (cellsF 16 x) 66)) w.heap.size 16 x := Row.new w 16 x _ rfl
  have hf := impl_pairwise 140 #[(.pointer (some ⟨w.heap.size, 0, none⟩))] (fun p q => x (bor (p : Int) (q : Int)).toNat == bor (x p) (x q)) (w.alloc (.cells (cellsF 16 x) 66)) Try.call140
    (fun s t w1 hs ht hb => trans_disjunctive1 _ x hx s t hs ht w1 (h1.go hb))
  have Hf := Lib.hid hf
  clear hf h1
  go_enter Try.func91, Try.ntmps91
  go_wp2_with (go_at_call 138; refine Hf.out.mono ?_; rintro e w' ⟨rfl, hb⟩)
  go_ret
  exact ⟨rfl, bgo (ba1 w _) hb⟩
theorem trans_conjunctive1 (b1 : Nat) (x : Nat → Int) (hx : Dg 16 x) (p q : Nat) (hp : p < 16) (hq : q < 16) (w : World) (h1 : Row w b1 16 x) :
    Calls Try.prog 139 #[.int .i64 p, .int .i64 q, .pointer (some ⟨b1, 0, none⟩)] w fun e w' => e = .returned (.bool (x (band (p : Int) (q : Int)).toNat == band (x p) (x q))) ∧ Below w.heap.size w w' := by
  have hr := band_rng (a := (p : Int)) (b := (q : Int)) (by omega) (by omega) (by omega) (by omega)
  have e : band (p : Int) (q : Int) = bits BinOp.and IntKind.i64 p q := rfl
  rw [e] at hr
  obtain ⟨hr0, hr1⟩ := hr
  have hc0 := h1.cell (i := (bits BinOp.and IntKind.i64 (p : Int) (q : Int)).toNat) (by omega)
  have hc1 := h1.cell hp
  have hc2 := h1.cell hq
  clear e
  go_enter Try.func139, Try.ntmps139
  go_wp2_with fail
  go_quiet (fail)
  go_wp2_with fail
  go_ret
  exact ⟨rfl, below_drewN (Below.refl _ _) _⟩
theorem trans_conjunctive (x : Nat → Int) (hx : Dg 16 x) (w : World) :
    Calls Try.prog 90 #[.agg (cellsF 16 x)] w fun e w' => e = .returned (.bool (conjB x)) ∧ Below w.heap.size w w' := by
  have h1 : Row (w.alloc (.cells (cellsF 16 x) 66)) w.heap.size 16 x := Row.new w 16 x _ rfl
  have hf := impl_pairwise 139 #[(.pointer (some ⟨w.heap.size, 0, none⟩))] (fun p q => x (band (p : Int) (q : Int)).toNat == band (x p) (x q)) (w.alloc (.cells (cellsF 16 x) 66)) Try.call139
    (fun s t w1 hs ht hb => trans_conjunctive1 _ x hx s t hs ht w1 (h1.go hb))
  have Hf := Lib.hid hf
  clear hf h1
  go_enter Try.func90, Try.ntmps90
  go_wp2_with (go_at_call 138; refine Hf.out.mono ?_; rintro e w' ⟨rfl, hb⟩)
  go_ret
  exact ⟨rfl, bgo (ba1 w _) hb⟩
theorem impl_IsDisjunctive (r : ByteArray) (w : World) :
    Calls Try.prog 46 #[.string r] w fun e w' => e = .returned (.bool (tvB r && disjB (dg r))) ∧ Below w.heap.size w w' := by
  cases hr : tvB r
  all_goals
    have Hr := Lib.hid hr
    have hbx := fun (w1 : World) (hb1 : Below w.heap.size w w1) => below_setRow (bgo hb1 (ba1 w1 (.cells #[.int .i64 0, .int .i64 0, .int .i64 0, .int .i64 0, .int .i64 0, .int .i64 0, .int .i64 0, .int .i64 0, .int .i64 0, .int .i64 0, .int .i64 0, .int .i64 0, .int .i64 0, .int .i64 0, .int .i64 0, .int .i64 0] 66))) hb1.size (cellsF 16 (rdF (tvB r) r))
    have hx := fun (w1 : World) => (show Row ((w1.alloc (.cells #[.int .i64 0, .int .i64 0, .int .i64 0, .int .i64 0, .int .i64 0, .int .i64 0, .int .i64 0, .int .i64 0, .int .i64 0, .int .i64 0, .int .i64 0, .int .i64 0, .int .i64 0, .int .i64 0, .int .i64 0, .int .i64 0] 66)).setRow w1.heap.size (cellsF 16 (rdF (tvB r) r))) w1.heap.size 16 (rdF (tvB r) r) from (Row.new16 _ _ rfl).setRow _)
    rw [hr] at hbx hx
    have Hb := Lib.hid hbx
    have Hx := Lib.hid hx
    clear hbx hx hr
    go_enter Try.func46, Try.ntmps46
    go_wp2_with fail
    refine (impl_readTrans _ _).mono ?_
    rintro e w1 ⟨rfl, hb1⟩
    rw [Hr.out]
    have hb2 := Hb.out w1 hb1
    have hx2 := Hx.out w1
    clear hb1
    try simp only [rdF_true] at hb2 hx2 ⊢
    try have hd := tvB_Dg Hr.out
    go_wp2_with (first | (refine st trans16 _ _ rfl rfl _ rfl _ rfl (f := ?_) ?_ ?_; rotate_left; first | (with_reducible assumption) | (with_reducible exact Row.new4 _ _ rfl) | (with_reducible exact Row.new16 _ _ rfl) | ((with_reducible refine Row.set ?_ _ _); (with_reducible assumption)) | ((with_reducible refine Row.other ?_ ?_ _); (with_reducible assumption); (focus first | (simp; done) | (simp; omega))) | ((with_reducible refine Row.alloc ?_ _); (with_reducible assumption)) | ((with_reducible refine Row.drew ?_); (with_reducible assumption))) | (refine ld trans16 _ rfl rfl _ rfl (f := ?_) ?_ ?_; rotate_left; first | (with_reducible assumption) | (with_reducible exact Row.new4 _ _ rfl) | (with_reducible exact Row.new16 _ _ rfl) | ((with_reducible refine Row.set ?_ _ _); (with_reducible assumption)) | ((with_reducible refine Row.other ?_ ?_ _); (with_reducible assumption); (focus first | (simp; done) | (simp; omega))) | ((with_reducible refine Row.alloc ?_ _); (with_reducible assumption)) | ((with_reducible refine Row.drew ?_); (with_reducible assumption))) | (go_at_call 91; refine (trans_disjunctive _ hd _).mono ?_; rintro e w' ⟨rfl, hb⟩))
    go_ret
    first
      | exact ⟨rfl, bgo hb2 hb⟩
      | exact ⟨rfl, hb2⟩
theorem impl_IsConjunctive (r : ByteArray) (w : World) :
    Calls Try.prog 45 #[.string r] w fun e w' => e = .returned (.bool (tvB r && conjB (dg r))) ∧ Below w.heap.size w w' := by
  cases hr : tvB r
  all_goals
    have Hr := Lib.hid hr
    have hbx := fun (w1 : World) (hb1 : Below w.heap.size w w1) => below_setRow (bgo hb1 (ba1 w1 (.cells #[.int .i64 0, .int .i64 0, .int .i64 0, .int .i64 0, .int .i64 0, .int .i64 0, .int .i64 0, .int .i64 0, .int .i64 0, .int .i64 0, .int .i64 0, .int .i64 0, .int .i64 0, .int .i64 0, .int .i64 0, .int .i64 0] 66))) hb1.size (cellsF 16 (rdF (tvB r) r))
    have hx := fun (w1 : World) => (show Row ((w1.alloc (.cells #[.int .i64 0, .int .i64 0, .int .i64 0, .int .i64 0, .int .i64 0, .int .i64 0, .int .i64 0, .int .i64 0, .int .i64 0, .int .i64 0, .int .i64 0, .int .i64 0, .int .i64 0, .int .i64 0, .int .i64 0, .int .i64 0] 66)).setRow w1.heap.size (cellsF 16 (rdF (tvB r) r))) w1.heap.size 16 (rdF (tvB r) r) from (Row.new16 _ _ rfl).setRow _)
    rw [hr] at hbx hx
    have Hb := Lib.hid hbx
    have Hx := Lib.hid hx
    clear hbx hx hr
    go_enter Try.func45, Try.ntmps45
    go_wp2_with fail
    refine (impl_readTrans _ _).mono ?_
    rintro e w1 ⟨rfl, hb1⟩
    rw [Hr.out]
    have hb2 := Hb.out w1 hb1
    have hx2 := Hx.out w1
    clear hb1
    try simp only [rdF_true] at hb2 hx2 ⊢
    try have hd := tvB_Dg Hr.out
    go_wp2_with (first | (refine st trans16 _ _ rfl rfl _ rfl _ rfl (f := ?_) ?_ ?_; rotate_left; first | (with_reducible assumption) | (with_reducible exact Row.new4 _ _ rfl) | (with_reducible exact Row.new16 _ _ rfl) | ((with_reducible refine Row.set ?_ _ _); (with_reducible assumption)) | ((with_reducible refine Row.other ?_ ?_ _); (with_reducible assumption); (focus first | (simp; done) | (simp; omega))) | ((with_reducible refine Row.alloc ?_ _); (with_reducible assumption)) | ((with_reducible refine Row.drew ?_); (with_reducible assumption))) | (refine ld trans16 _ rfl rfl _ rfl (f := ?_) ?_ ?_; rotate_left; first | (with_reducible assumption) | (with_reducible exact Row.new4 _ _ rfl) | (with_reducible exact Row.new16 _ _ rfl) | ((with_reducible refine Row.set ?_ _ _); (with_reducible assumption)) | ((with_reducible refine Row.other ?_ ?_ _); (with_reducible assumption); (focus first | (simp; done) | (simp; omega))) | ((with_reducible refine Row.alloc ?_ _); (with_reducible assumption)) | ((with_reducible refine Row.drew ?_); (with_reducible assumption))) | (go_at_call 90; refine (trans_conjunctive _ hd _).mono ?_; rintro e w' ⟨rfl, hb⟩))
    go_ret
    first
      | exact ⟨rfl, bgo hb2 hb⟩
      | exact ⟨rfl, hb2⟩
theorem impl_ApplyTrans (r : ByteArray) (p : Int) (w : World) :
    Calls Try.prog 40 #[.string r, .int .i64 p] w fun e w' => e = .returned (.int .i64 (askV (tvB r && cv p) (ap (dg r) p))) ∧ Below w.heap.size w w' := by
  cases hr : tvB r <;> cases hq : cv p
  all_goals
    have Hr := Lib.hid hr
    have hbx := fun (w1 : World) (hb1 : Below w.heap.size w w1) => below_setRow (bgo hb1 (ba1 w1 (.cells #[.int .i64 0, .int .i64 0, .int .i64 0, .int .i64 0, .int .i64 0, .int .i64 0, .int .i64 0, .int .i64 0, .int .i64 0, .int .i64 0, .int .i64 0, .int .i64 0, .int .i64 0, .int .i64 0, .int .i64 0, .int .i64 0] 66))) hb1.size (cellsF 16 (rdF (tvB r) r))
    have hx := fun (w1 : World) => (show Row ((w1.alloc (.cells #[.int .i64 0, .int .i64 0, .int .i64 0, .int .i64 0, .int .i64 0, .int .i64 0, .int .i64 0, .int .i64 0, .int .i64 0, .int .i64 0, .int .i64 0, .int .i64 0, .int .i64 0, .int .i64 0, .int .i64 0, .int .i64 0] 66)).setRow w1.heap.size (cellsF 16 (rdF (tvB r) r))) w1.heap.size 16 (rdF (tvB r) r) from (Row.new16 _ _ rfl).setRow _)
    rw [hr] at hbx hx
    have Hb := Lib.hid hbx
    have Hx := Lib.hid hx
    clear hbx hx hr
    have Hq := Lib.hid hq
    clear hq
    go_enter Try.func40, Try.ntmps40
    go_wp2_with fail
    refine (impl_readTrans _ _).mono ?_
    rintro e w1 ⟨rfl, hb1⟩
    rw [Hr.out]
    have hb2 := Hb.out w1 hb1
    have hx2 := Hx.out w1
    clear hb1
    try simp only [rdF_true] at hb2 hx2 ⊢
    go_wp2_with (refine st trans16 _ _ rfl rfl _ rfl _ rfl (f := ?_) ?_ ?_; rotate_left; first | (with_reducible assumption) | (with_reducible exact Row.new4 _ _ rfl) | (with_reducible exact Row.new16 _ _ rfl) | ((with_reducible refine Row.set ?_ _ _); (with_reducible assumption)) | ((with_reducible refine Row.other ?_ ?_ _); (with_reducible assumption); (focus first | (simp; done) | (simp; omega))) | ((with_reducible refine Row.alloc ?_ _); (with_reducible assumption)) | ((with_reducible refine Row.drew ?_); (with_reducible assumption)))
    try (refine (impl_ConditionValid _ _).mono ?_; rintro e w' ⟨rfl, rfl⟩; rw [Hq.out])
    try (obtain ⟨hp0, hp1⟩ := cv_iff.1 Hq.out; have hc := hx2.cell (i := p.toNat) (by omega))
    go_wp2_with fail
    go_ret
    exact ⟨rfl, hb2⟩
end Go.Proofs.Ytfajaikkagmkeaa
