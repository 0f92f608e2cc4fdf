/-
  Contracts of the exported functions on transformers.
-/
import Derived.Test.YtkdgoefpldnheaaA4
import Derived.Test.YtkdgoefpldnheaaA7
import Derived.Test.YtkdgoefpldnheaaA10
import Derived.Test.YtkdgoefpldnheaaPL
namespace Go.Proofs.Ytkdgoefpldnheaa
open Go.RowKit Go.DC
set_option maxHeartbeats 1000000
set_option linter.unusedVariables false
set_option linter.unusedSimpArgs false

theorem impl_AngelRelOf (r : ByteArray) (w : World) :
    Calls Try.prog 22 #[.string r] w fun e w' => e = .returned (.tuple #[.string (orNo (tvB r && disjB (dg r) && (dg r 0 == 0)) (txt 4 fun s => mk 4 fun t => hasb (dg r (2 ^ t)) s)), .bool (tvB r && disjB (dg r) && (dg r 0 == 0))]) ∧ Below w.heap.size w w' := by
  cases hr : tvB r <;> cases h1 : disjB (dg r) <;> cases h2 : (dg r 0 == 0)
  all_goals
    have Hr := Lib.hid hr
    have H1 := Lib.hid h1
    have hbx := fun (w1 : World) (hb1 : Below w.heap.size w w1) => below_setRow (bgo hb1 (ba1 w1 (.cells #[.int .i64 0, .int .i64 0, .int .i64 0, .int .i64 0, .int .i64 0, .int .i64 0, .int .i64 0, .int .i64 0, .int .i64 0, .int .i64 0, .int .i64 0, .int .i64 0, .int .i64 0, .int .i64 0, .int .i64 0, .int .i64 0] 34))) hb1.size (cellsF 16 (rdF (tvB r) r))
    have hx := fun (w1 : World) => (show Row ((w1.alloc (.cells #[.int .i64 0, .int .i64 0, .int .i64 0, .int .i64 0, .int .i64 0, .int .i64 0, .int .i64 0, .int .i64 0, .int .i64 0, .int .i64 0, .int .i64 0, .int .i64 0, .int .i64 0, .int .i64 0, .int .i64 0, .int .i64 0] 34)).setRow w1.heap.size (cellsF 16 (rdF (tvB r) r))) w1.heap.size 16 (rdF (tvB r) r) from (Row.new16 _ _ rfl).setRow _)
    rw [hr] at hbx hx
    have Hb := Lib.hid hbx
    have Hx := Lib.hid hx
    have h3 : (dg r 0 != 0) = !(dg r 0 == 0) := rfl
    rw [h2] at h3
    clear hbx hx hr h1
    go_enter Try.func22, Try.ntmps22
    go_wp2_with fail
    refine (impl_readTrans _ _).mono ?_
    rintro e w1 ⟨rfl, hb1⟩
    rw [Hr.out]
    have hb2 := Hb.out w1 hb1
    have hx2 := Hx.out w1
    clear hb1
    try simp only [rdF_true] at hb2 hx2 ⊢
  all_goals
    go_wp2_with (first | (refine st trans16 _ _ rfl rfl _ rfl _ rfl (f := ?_) ?_ ?_; rotate_left; first | (with_reducible assumption) | (with_reducible exact Row.new4 _ _ rfl) | (with_reducible exact Row.new16 _ _ rfl) | ((with_reducible refine Row.set ?_ _ _); (with_reducible assumption)) | ((with_reducible refine Row.other ?_ ?_ _); (with_reducible assumption); (focus first | (simp; done) | (simp; omega))) | ((with_reducible refine Row.alloc ?_ _); (with_reducible assumption)) | ((with_reducible refine Row.drew ?_); (with_reducible assumption))) | (refine ld trans16 _ rfl rfl _ rfl (f := ?_) ?_ ?_; rotate_left; first | (with_reducible assumption) | (with_reducible exact Row.new4 _ _ rfl) | (with_reducible exact Row.new16 _ _ rfl) | ((with_reducible refine Row.set ?_ _ _); (with_reducible assumption)) | ((with_reducible refine Row.other ?_ ?_ _); (with_reducible assumption); (focus first | (simp; done) | (simp; omega))) | ((with_reducible refine Row.alloc ?_ _); (with_reducible assumption)) | ((with_reducible refine Row.drew ?_); (with_reducible assumption))))
    first
      | (go_ret2; exact ⟨rfl, hb2⟩)
      | skip
  all_goals
    have hd := tvB_Dg Hr.out
    refine (trans_disjunctive _ hd _).mono ?_
    rintro e w2 ⟨rfl, hb3⟩
    rw [H1.out]
    have hx3 := hx2.go hb3
    have hb4 := bgo hb2 hb3
    have hc := hx3.cell (i := 0) (by omega)
    clear hb3 hx2 hb2
    go_wp2_with fail
    first
      | (go_ret2; exact ⟨rfl, hb4⟩)
      | skip
  have hf := impl_makeRel 57 #[.pointer (some ⟨w1.heap.size, 0, none⟩)] (fun s t => hasb (dg r (2 ^ t)) s) w2 Try.call57
    (fun s t w3 hs ht hb => impl_AngelRelOf1 _ (dg r) hd s t hs ht w3 (hx3.go hb))
  refine hf.mono ?_
  rintro e w3 ⟨rfl, hb5⟩
  clear hf
  go_wp2_with (go_at_call 37; refine (rel_text _ (fun _ _ => ⟨mk4_ge _, mk4_le _⟩) _).mono ?_; rintro e w4 ⟨rfl, hb6⟩)
  go_ret2
  exact ⟨rfl, bgo (bgo hb4 hb5) hb6⟩
end Go.Proofs.Ytkdgoefpldnheaa
