/-
  Contracts of the program for the laws on transformers: valid tables, refinement, and the laws' own helpers.
-/
import Derived.Test.YtfajaikkagmkeaaA11
import Derived.Test.YtfajaikkagmkeaaA12
import Derived.Test.YtfajaikkagmkeaaA13
namespace Go.Proofs.Ytfajaikkagmkeaa
open Go.RowKit Go.DC
set_option maxHeartbeats 1000000
set_option linter.unusedVariables false
set_option linter.unusedSimpArgs false
theorem impl_TransValid (r : ByteArray) (w : World) :
    Calls Try.prog 37 #[.string r] w fun e w' => e = .returned (.bool (tvB r)) ∧ Below w.heap.size w w' := by
  obtain ⟨br, hr⟩ : ∃ b, tvB r = b := ⟨_, rfl⟩
  have hc := fun w => impl_readTrans r w
  rw [hr] at hc ⊢
  have Hc := Lib.hid hc
  clear hc hr
  go_enter Try.func37, Try.ntmps37
  go_wp2_with fail
  refine (Hc.out _).mono ?_
  rintro e w1 ⟨rfl, hb1⟩
  have Hb := Lib.hid (below_setRow (bgo hb1 (ba1 w1 (.cells #[.int .i64 0, .int .i64 0, .int .i64 0, .int .i64 0, .int .i64 0, .int .i64 0, .int .i64 0, .int .i64 0, .int .i64 0, .int .i64 0, .int .i64 0, .int .i64 0, .int .i64 0, .int .i64 0, .int .i64 0, .int .i64 0] 66))) hb1.size (cellsF 16 (rdF br r)))
  clear hb1
  go_wp2_with (refine st trans16 _ _ rfl rfl _ rfl _ rfl (f := ?_) ?_ ?_; rotate_left; first | (with_reducible assumption) | (with_reducible exact Row.new4 _ _ rfl) | (with_reducible exact Row.new16 _ _ rfl) | ((with_reducible refine Row.set ?_ _ _); (with_reducible assumption)) | ((with_reducible refine Row.other ?_ ?_ _); (with_reducible assumption); (focus first | (simp; done) | (simp; omega))) | ((with_reducible refine Row.alloc ?_ _); (with_reducible assumption)) | ((with_reducible refine Row.drew ?_); (with_reducible assumption)))
  go_ret
  exact ⟨rfl, Hb.out⟩
set_option maxRecDepth 100000 in
theorem impl_RefinesTrans (r q : ByteArray) (w : World) :
    Calls Try.prog 25 #[.string r, .string q] w fun e w' => e = .returned (.bool ((tvB r && tvB q) && refB (dg r) (dg q))) ∧ Below w.heap.size w w' := by
  have hfin : ((tvB r && tvB q) && refB (rdF (tvB r) r) (rdF (tvB q) q)) = ((tvB r && tvB q) && refB (dg r) (dg q)) := by
    cases tvB r
    · rw [Bool.false_and, Bool.false_and, Bool.false_and]
    · cases tvB q
      · rw [Bool.and_false, Bool.false_and, Bool.false_and]
      · rw [rdF_true, rdF_true]
  rw [← hfin]
  clear hfin
  have hc := fun w => impl_readTrans r w
  have hc2 := fun w => impl_readTrans q w
  obtain ⟨br, hr⟩ : ∃ b, tvB r = b := ⟨_, rfl⟩
  obtain ⟨bq, hq⟩ : ∃ b, tvB q = b := ⟨_, rfl⟩
  rw [hr] at hc ⊢
  rw [hq] at hc2 ⊢
  generalize rdF br r = X at *
  generalize rdF bq q = Y at *
  have hf := fun w => trans_refined X Y w
  generalize refB X Y = v at *
  have Hf := Lib.hid hf
  have Hc := Lib.hid hc
  have Hc2 := Lib.hid hc2
  clear hc hr hc2 hq hf
  go_enter Try.func25, Try.ntmps25
  go_wp2_with fail
  refine (Hc.out _).mono ?_
  rintro e w1 ⟨rfl, hb1⟩
  have hx1 : Row ((w1.alloc (.cells #[.int .i64 0, .int .i64 0, .int .i64 0, .int .i64 0, .int .i64 0, .int .i64 0, .int .i64 0, .int .i64 0, .int .i64 0, .int .i64 0, .int .i64 0, .int .i64 0, .int .i64 0, .int .i64 0, .int .i64 0, .int .i64 0] 66)).setRow w1.heap.size (cellsF 16 X)) w1.heap.size 16 X := (Row.new16 _ _ rfl).setRow _
  have hB := below_setRow (bgo hb1 (ba1 w1 (.cells #[.int .i64 0, .int .i64 0, .int .i64 0, .int .i64 0, .int .i64 0, .int .i64 0, .int .i64 0, .int .i64 0, .int .i64 0, .int .i64 0, .int .i64 0, .int .i64 0, .int .i64 0, .int .i64 0, .int .i64 0, .int .i64 0] 66))) hb1.size (cellsF 16 X)
  clear hb1
  go_wp2_with (refine st trans16 _ _ rfl rfl _ rfl _ rfl (f := ?_) ?_ ?_; rotate_left; first | (with_reducible assumption) | (with_reducible exact Row.new4 _ _ rfl) | (with_reducible exact Row.new16 _ _ rfl) | ((with_reducible refine Row.set ?_ _ _); (with_reducible assumption)) | ((with_reducible refine Row.other ?_ ?_ _); (with_reducible assumption); (focus first | (simp; done) | (simp; omega))) | ((with_reducible refine Row.alloc ?_ _); (with_reducible assumption)) | ((with_reducible refine Row.drew ?_); (with_reducible assumption)))
  refine (Hc2.out _).mono ?_
  rintro e w2 ⟨rfl, hb2⟩
  have hx2 := hx1.go hb2
  have hB2 := bgo hB hb2
  have hx3 : Row ((w2.alloc (.cells #[.int .i64 0, .int .i64 0, .int .i64 0, .int .i64 0, .int .i64 0, .int .i64 0, .int .i64 0, .int .i64 0, .int .i64 0, .int .i64 0, .int .i64 0, .int .i64 0, .int .i64 0, .int .i64 0, .int .i64 0, .int .i64 0] 66)).setRow w2.heap.size (cellsF 16 Y)) w1.heap.size 16 X := (hx2.alloc _).setRow_other (by have := hx2.lt; omega) _
  have hy : Row ((w2.alloc (.cells #[.int .i64 0, .int .i64 0, .int .i64 0, .int .i64 0, .int .i64 0, .int .i64 0, .int .i64 0, .int .i64 0, .int .i64 0, .int .i64 0, .int .i64 0, .int .i64 0, .int .i64 0, .int .i64 0, .int .i64 0, .int .i64 0] 66)).setRow w2.heap.size (cellsF 16 Y)) w2.heap.size 16 Y := (Row.new16 _ _ rfl).setRow _
  have hB3 : Below w.heap.size w ((w2.alloc (.cells #[.int .i64 0, .int .i64 0, .int .i64 0, .int .i64 0, .int .i64 0, .int .i64 0, .int .i64 0, .int .i64 0, .int .i64 0, .int .i64 0, .int .i64 0, .int .i64 0, .int .i64 0, .int .i64 0, .int .i64 0, .int .i64 0] 66)).setRow w2.heap.size (cellsF 16 Y)) := below_setRow (bgo hB2 (ba1 _ _)) hB2.size _
  have Hb := Lib.hid hB3
  clear hx1 hB hb2 hx2 hB2 hB3
  cases br
  · go_wp2_with (first | (refine st trans16 _ _ rfl rfl _ rfl _ rfl (f := ?_) ?_ ?_; rotate_left; first | (with_reducible assumption) | (with_reducible exact Row.new4 _ _ rfl) | (with_reducible exact Row.new16 _ _ rfl) | ((with_reducible refine Row.set ?_ _ _); (with_reducible assumption)) | ((with_reducible refine Row.other ?_ ?_ _); (with_reducible assumption); (focus first | (simp; done) | (simp; omega))) | ((with_reducible refine Row.alloc ?_ _); (with_reducible assumption)) | ((with_reducible refine Row.drew ?_); (with_reducible assumption))) | (refine ld trans16 _ rfl rfl _ rfl (f := ?_) ?_ ?_; rotate_left; first | (with_reducible assumption) | (with_reducible exact Row.new4 _ _ rfl) | (with_reducible exact Row.new16 _ _ rfl) | ((with_reducible refine Row.set ?_ _ _); (with_reducible assumption)) | ((with_reducible refine Row.other ?_ ?_ _); (with_reducible assumption); (focus first | (simp; done) | (simp; omega))) | ((with_reducible refine Row.alloc ?_ _); (with_reducible assumption)) | ((with_reducible refine Row.drew ?_); (with_reducible assumption))))
    go_ret
    exact ⟨rfl, Hb.out⟩
  · cases bq
    · go_wp2_with (first | (refine st trans16 _ _ rfl rfl _ rfl _ rfl (f := ?_) ?_ ?_; rotate_left; first | (with_reducible assumption) | (with_reducible exact Row.new4 _ _ rfl) | (with_reducible exact Row.new16 _ _ rfl) | ((with_reducible refine Row.set ?_ _ _); (with_reducible assumption)) | ((with_reducible refine Row.other ?_ ?_ _); (with_reducible assumption); (focus first | (simp; done) | (simp; omega))) | ((with_reducible refine Row.alloc ?_ _); (with_reducible assumption)) | ((with_reducible refine Row.drew ?_); (with_reducible assumption))) | (refine ld trans16 _ rfl rfl _ rfl (f := ?_) ?_ ?_; rotate_left; first | (with_reducible assumption) | (with_reducible exact Row.new4 _ _ rfl) | (with_reducible exact Row.new16 _ _ rfl) | ((with_reducible refine Row.set ?_ _ _); (with_reducible assumption)) | ((with_reducible refine Row.other ?_ ?_ _); (with_reducible assumption); (focus first | (simp; done) | (simp; omega))) | ((with_reducible refine Row.alloc ?_ _); (with_reducible assumption)) | ((with_reducible refine Row.drew ?_); (with_reducible assumption))))
      go_ret
      exact ⟨rfl, Hb.out⟩
    · go_wp2_with (first | (refine st trans16 _ _ rfl rfl _ rfl _ rfl (f := ?_) ?_ ?_; rotate_left; first | (with_reducible assumption) | (with_reducible exact Row.new4 _ _ rfl) | (with_reducible exact Row.new16 _ _ rfl) | ((with_reducible refine Row.set ?_ _ _); (with_reducible assumption)) | ((with_reducible refine Row.other ?_ ?_ _); (with_reducible assumption); (focus first | (simp; done) | (simp; omega))) | ((with_reducible refine Row.alloc ?_ _); (with_reducible assumption)) | ((with_reducible refine Row.drew ?_); (with_reducible assumption))) | (refine ld trans16 _ rfl rfl _ rfl (f := ?_) ?_ ?_; rotate_left; first | (with_reducible assumption) | (with_reducible exact Row.new4 _ _ rfl) | (with_reducible exact Row.new16 _ _ rfl) | ((with_reducible refine Row.set ?_ _ _); (with_reducible assumption)) | ((with_reducible refine Row.other ?_ ?_ _); (with_reducible assumption); (focus first | (simp; done) | (simp; omega))) | ((with_reducible refine Row.alloc ?_ _); (with_reducible assumption)) | ((with_reducible refine Row.drew ?_); (with_reducible assumption))))
      refine (Hf.out _).mono ?_
      rintro e w3 ⟨rfl, hb⟩
      have HB := Lib.hid (bgo Hb.out hb)
      clear hb
      go_wp2_with fail
      go_ret
      exact ⟨rfl, HB.out⟩
theorem laws_dcThen (r q : ByteArray) (w : World) :
    Calls Try.prog 34 #[.string r, .string q] w fun e w' => e = .returned (.string (orNo (tvB r && tvB q) (txt 16 (thenT (dg r) (dg q))))) ∧ Below w.heap.size w w' := by
  have c := fun w => impl_ThenTrans r q w
  generalize orNo (tvB r && tvB q) (txt 16 (thenT (dg r) (dg q))) = v at *
  generalize (tvB r && tvB q) = b at *
  have C := Lib.hid c
  clear c
  go_enter Try.func34, Try.ntmps34
  go_wp2_with fail
  refine (C.out _).mono ?_
  rintro e w' ⟨rfl, hb⟩
  have HB := Lib.hid hb
  clear hb
  go_wp2_with fail
  go_ret
  exact ⟨rfl, HB.out⟩
theorem laws_dcMeet (r q : ByteArray) (w : World) :
    Calls Try.prog 35 #[.string r, .string q] w fun e w' => e = .returned (.string (orNo (tvB r && tvB q) (txt 16 (meetT (dg r) (dg q))))) ∧ Below w.heap.size w w' := by
  have c := fun w => impl_MeetTrans r q w
  generalize orNo (tvB r && tvB q) (txt 16 (meetT (dg r) (dg q))) = v at *
  generalize (tvB r && tvB q) = b at *
  have C := Lib.hid c
  clear c
  go_enter Try.func35, Try.ntmps35
  go_wp2_with fail
  refine (C.out _).mono ?_
  rintro e w' ⟨rfl, hb⟩
  have HB := Lib.hid hb
  clear hb
  go_wp2_with fail
  go_ret
  exact ⟨rfl, HB.out⟩
theorem laws_dcJoin (r q : ByteArray) (w : World) :
    Calls Try.prog 36 #[.string r, .string q] w fun e w' => e = .returned (.string (orNo (tvB r && tvB q) (txt 16 (joinT (dg r) (dg q))))) ∧ Below w.heap.size w w' := by
  have c := fun w => impl_JoinTrans r q w
  generalize orNo (tvB r && tvB q) (txt 16 (joinT (dg r) (dg q))) = v at *
  generalize (tvB r && tvB q) = b at *
  have C := Lib.hid c
  clear c
  go_enter Try.func36, Try.ntmps36
  go_wp2_with fail
  refine (C.out _).mono ?_
  rintro e w' ⟨rfl, hb⟩
  have HB := Lib.hid hb
  clear hb
  go_wp2_with fail
  go_ret
  exact ⟨rfl, HB.out⟩
theorem laws_dcDual (r : ByteArray) (w : World) :
    Calls Try.prog 50 #[.string r] w fun e w' => e = .returned (.string (orNo (tvB r) (txt 16 (dual (dg r))))) ∧ Below w.heap.size w w' := by
  have c := fun w => impl_DualTrans r w
  generalize orNo (tvB r) (txt 16 (dual (dg r))) = v at *
  generalize tvB r = b at *
  have C := Lib.hid c
  clear c
  go_enter Try.func50, Try.ntmps50
  go_wp2_with fail
  refine (C.out _).mono ?_
  rintro e w' ⟨rfl, hb⟩
  have HB := Lib.hid hb
  clear hb
  go_wp2_with fail
  go_ret
  exact ⟨rfl, HB.out⟩
end Go.Proofs.Ytfajaikkagmkeaa
