/-
  Contracts of the program's functions on kinds of transformers.
-/
import Derived.Test.YtmecagiadlimgaaA7
import Derived.Test.YtmecagiadlimgaaA10
import Derived.Test.YtmecagiadlimgaaPQ
import Derived.OwnWalk
import Derived.Test.YtmecagiadlimgaaReg
namespace Go.Proofs.Ytmecagiadlimgaa
open Go.RowKit Go.DC
set_option maxHeartbeats 1000000
set_option linter.unusedVariables false
set_option linter.unusedSimpArgs false

theorem ask_is (b : Bool) (v k : Int) (hk : 0 ≤ k) : (askV b v == k) = (b && (v == k)) := by
  cases b
  · show ((-1 : Int) == k) = false
    rw [beq_eq_false_iff_ne]; omega
  · rfl
theorem impl_IsStrict (r : ByteArray) (w : World) :
    Calls Try.prog 22 #[.string r] w fun e w' => e = .returned (.bool (tvB r && (dg r 0 == 0))) ∧ Below w.heap.size w w' := by
  have hc := impl_ApplyTrans r 0 w
  have e : (askV (tvB r && cv 0) (ap (dg r) 0) == 0) = (tvB r && (dg r 0 == 0)) := by
    rw [ask_is _ _ _ (by decide), show cv 0 = true from rfl, Bool.and_true]; rfl
  rw [← e]
  generalize askV (tvB r && cv 0) (ap (dg r) 0) = v at *
  have Hc := Lib.hid hc
  clear hc e
  go_enter Try.func22, Try.ntmps22
  go_wp2_with (go_at_call 17; refine Hc.out.mono ?_; rintro e w' ⟨rfl, hb⟩)
  go_ret
  first
    | exact ⟨rfl, hb⟩
    | exact ⟨by simp, hb⟩
theorem impl_IsTerminating (r : ByteArray) (w : World) :
    Calls Try.prog 21 #[.string r] w fun e w' => e = .returned (.bool (tvB r && (dg r 15 == 15))) ∧ Below w.heap.size w w' := by
  have hc := impl_ApplyTrans r 15 w
  have e : (askV (tvB r && cv 15) (ap (dg r) 15) == 15) = (tvB r && (dg r 15 == 15)) := by
    rw [ask_is _ _ _ (by decide), show cv 15 = true from rfl, Bool.and_true]; rfl
  rw [← e]
  generalize askV (tvB r && cv 15) (ap (dg r) 15) = v at *
  have Hc := Lib.hid hc
  clear hc e
  go_enter Try.func21, Try.ntmps21
  go_wp2_with (go_at_call 17; refine Hc.out.mono ?_; rintro e w' ⟨rfl, hb⟩)
  go_ret
  first
    | exact ⟨rfl, hb⟩
    | exact ⟨by simp, hb⟩
theorem impl_IsFunctional (r : ByteArray) (w : World) :
    Calls Try.prog 33 #[.string r] w fun e w' => e = .returned (.bool ((tvB r && conjB (dg r)) && (tvB r && disjB (dg r)) && (tvB r && (dg r 0 == 0)) && (tvB r && (dg r 15 == 15)))) ∧ Below w.heap.size w w' := by
  have c1 := fun w => impl_IsConjunctive r w
  have c2 := fun w => impl_IsDisjunctive r w
  have c3 := fun w => impl_IsStrict r w
  have c4 := fun w => impl_IsTerminating r w
  generalize (tvB r && conjB (dg r)) = k1 at *
  generalize (tvB r && disjB (dg r)) = k2 at *
  generalize (tvB r && (dg r 0 == 0)) = k3 at *
  generalize (tvB r && (dg r 15 == 15)) = k4 at *
  have C1 := Lib.hid c1
  have C2 := Lib.hid c2
  have C3 := Lib.hid c3
  have C4 := Lib.hid c4
  clear c1 c2 c3 c4
  cases k1 <;> cases k2 <;> cases k3 <;> cases k4
  all_goals
    go_enter Try.func33, Try.ntmps33
    go_wp2_with (first | (go_at_call 31; refine (C1.out _).mono ?_; rintro e w' ⟨rfl, hb1⟩) | (go_at_call 38; refine (C2.out _).mono ?_; rintro e w' ⟨rfl, hb2⟩) | (go_at_call 22; refine (C3.out _).mono ?_; rintro e w' ⟨rfl, hb3⟩) | (go_at_call 21; refine (C4.out _).mono ?_; rintro e w' ⟨rfl, hb4⟩))
    go_ret
    first
      | exact ⟨rfl, bgo (bgo (bgo hb1 hb2) hb3) hb4⟩
      | exact ⟨rfl, bgo (bgo hb1 hb2) hb3⟩
      | exact ⟨rfl, bgo hb1 hb2⟩
      | exact ⟨rfl, hb1⟩
theorem impl_StartsOf (r : ByteArray) (w : World) :
    Calls Try.prog 13 #[.string r] w fun e w' => e = .returned (.int .i64 (askV (tvB r && cv 15) (ap (dg r) 15))) ∧ Below w.heap.size w w' := by
  go_enter Try.func13, Try.ntmps13
  go_wp2_with (go_at_call 17; refine (impl_ApplyTrans _ _ _).mono ?_; rintro e w' ⟨rfl, hb⟩)
  go_ret
  exact ⟨rfl, hb⟩
theorem impl_MiraclesOf (r : ByteArray) (w : World) :
    Calls Try.prog 14 #[.string r] w fun e w' => e = .returned (.int .i64 (askV (tvB r && cv 0) (ap (dg r) 0))) ∧ Below w.heap.size w w' := by
  go_enter Try.func14, Try.ntmps14
  go_wp2_with (go_at_call 17; refine (impl_ApplyTrans _ _ _).mono ?_; rintro e w' ⟨rfl, hb⟩)
  go_ret
  exact ⟨rfl, hb⟩
set_option maxRecDepth 100000 in
theorem impl_SpecOf (r : ByteArray) (w : World) :
    Calls Try.prog 28 #[.string r] w fun e w' => e = .returned (.tuple #[.int .i64 (orZ (tvB r && conjB (dg r)) (dg r 15)), .string (orNo (tvB r && conjB (dg r)) (txt 4 (leadsT (dg r)))), .bool (tvB r && conjB (dg r))]) ∧ Below w.heap.size w w' := by
  cases hr : tvB r <;> cases h1 : conjB (dg r)
  all_goals
    have Hr := Lib.hid hr
    have H1 := Lib.hid h1
    have hbx := fun (w1 : World) (hb1 : Below w.heap.size w w1) => below_setRow (bgo hb1 (ba1 w1 (.cells #[.int .i64 0, .int .i64 0, .int .i64 0, .int .i64 0, .int .i64 0, .int .i64 0, .int .i64 0, .int .i64 0, .int .i64 0, .int .i64 0, .int .i64 0, .int .i64 0, .int .i64 0, .int .i64 0, .int .i64 0, .int .i64 0] 53))) hb1.size (cellsF 16 (rdF (tvB r) r))
    have hx := fun (w1 : World) => (show Row ((w1.alloc (.cells #[.int .i64 0, .int .i64 0, .int .i64 0, .int .i64 0, .int .i64 0, .int .i64 0, .int .i64 0, .int .i64 0, .int .i64 0, .int .i64 0, .int .i64 0, .int .i64 0, .int .i64 0, .int .i64 0, .int .i64 0, .int .i64 0] 53)).setRow w1.heap.size (cellsF 16 (rdF (tvB r) r))) w1.heap.size 16 (rdF (tvB r) r) from (Row.new16 _ _ rfl).setRow _)
    rw [hr] at hbx hx
    have Hb := Lib.hid hbx
    have Hx := Lib.hid hx
    clear hbx hx hr h1
    go_enter Try.func28, Try.ntmps28
    go_wp2_with fail
    refine (impl_readTrans _ _).mono ?_
    rintro e w1 ⟨rfl, hb1⟩
    rw [Hr.out]
    have hb2 := Hb.out w1 hb1
    have hx2 := Hx.out w1
    clear hb1
    try simp only [rdF_true] at hb2 hx2 ⊢
  all_goals
    go_wp2_with (first | (refine st trans16 _ _ rfl rfl _ rfl _ rfl (f := ?_) ?_ ?_; rotate_left; first | (with_reducible assumption) | (with_reducible exact Row.new4 _ _ rfl) | (with_reducible exact Row.new16 _ _ rfl) | ((with_reducible refine Row.set ?_ _ _); (with_reducible assumption)) | ((with_reducible refine Row.other ?_ ?_ _); (with_reducible assumption); (focus first | (simp; done) | (simp; omega))) | ((with_reducible refine Row.alloc ?_ _); (with_reducible assumption)) | ((with_reducible refine Row.drew ?_); (with_reducible assumption))) | (refine ld trans16 _ rfl rfl _ rfl (f := ?_) ?_ ?_; rotate_left; first | (with_reducible assumption) | (with_reducible exact Row.new4 _ _ rfl) | (with_reducible exact Row.new16 _ _ rfl) | ((with_reducible refine Row.set ?_ _ _); (with_reducible assumption)) | ((with_reducible refine Row.other ?_ ?_ _); (with_reducible assumption); (focus first | (simp; done) | (simp; omega))) | ((with_reducible refine Row.alloc ?_ _); (with_reducible assumption)) | ((with_reducible refine Row.drew ?_); (with_reducible assumption))))
    first
      | (go_ret3; exact ⟨rfl, hb2⟩)
      | skip
  all_goals
    have hd := tvB_Dg Hr.out
    refine (trans_conjunctive _ hd _).mono ?_
    rintro e w2 ⟨rfl, hb3⟩
    rw [H1.out]
    have hx3 := hx2.go hb3
    have hb4 := bgo hb2 hb3
    have hc := hx3.cell (i := 15) (by omega)
    clear hb3 hx2 hb2
    go_wp2_with (refine ld trans16 _ rfl rfl _ rfl (f := ?_) ?_ ?_; rotate_left; first | (with_reducible assumption) | (with_reducible exact Row.new4 _ _ rfl) | (with_reducible exact Row.new16 _ _ rfl) | ((with_reducible refine Row.set ?_ _ _); (with_reducible assumption)) | ((with_reducible refine Row.other ?_ ?_ _); (with_reducible assumption); (focus first | (simp; done) | (simp; omega))) | ((with_reducible refine Row.alloc ?_ _); (with_reducible assumption)) | ((with_reducible refine Row.drew ?_); (with_reducible assumption)))
    first
      | (go_ret3; exact ⟨rfl, hb4⟩)
      | skip
  have hS : Row w2 w1.heap.size 16 (dg r) ∧ Below w.heap.size w w2 := ⟨hx3, hb4⟩
  clear hc hx3 hb4
  refine wp_region_held_drew (S := fun w' => Row w' w1.heap.size 16 (dg r) ∧ Below w.heap.size w w') (by kernel_rfl) ⟨hS.1.drew, hS.2.drew⟩ (fun hH => ?_)
  refine wpAnyH_take (i := 0) (v := .pointer (some ⟨w1.heap.size, 15, none⟩)) rfl (by kernel_rfl) (by kernel_rfl) (by kernel_rfl) (fun _ _ _ h => h) (Or.inl ⟨by rfl, by intro w hw; go_simp⟩) hH ?_
  simp only [Act.put, List.setIfInBounds_toArray, List.set_cons_zero, List.set_cons_succ, List.getElem_toArray, List.getElem_cons_succ, List.getElem_cons_zero, getElem?_pos]
  refine wpAnyH_take (i := 1) (v := .int .i64 (dg r 15)) rfl (by kernel_rfl) (by kernel_rfl) (by kernel_rfl) (fun _ _ _ h => h) (Or.inl ⟨by rfl, by intro w hw; have hc := hw.1.cell (i := 15) (by omega); clear hw; go_simp⟩) hH ?_
  simp only [Act.put, List.setIfInBounds_toArray, List.set_cons_zero, List.set_cons_succ, List.getElem_toArray, List.getElem_cons_succ, List.getElem_cons_zero, getElem?_pos]
  refine takeRow (i := 2) trans16 rfl _ rfl (by rfl) w1.heap.size rfl (fun w hw => hw.1) (by kernel_rfl) (by kernel_rfl) (by kernel_rfl) (fun _ _ _ h => h) hH ?_
  simp only [Act.put, List.setIfInBounds_toArray, List.set_cons_zero, List.set_cons_succ, List.getElem_toArray, List.getElem_cons_succ, List.getElem_cons_zero, getElem?_pos]
  refine wpAnyH_ready (rs := [3]) (by kernel_rfl) (by simp) (AllReadyH.cons rfl (fun K hK => ?_) AllReadyH.nil)
  refine callOp (by rfl) (by go_simp) ((trans_leads (dg r) hd _).mono ?_)
  rintro e w3 ⟨rfl, hb5⟩
  refine ⟨_, rfl, hK.out _ _ ⟨hH.1.go hb5, bgo hH.2 hb5⟩ (fun hH2 => ?_)⟩
  clear hK K hH hS
  simp only [Act.put, List.setIfInBounds_toArray, List.set_cons_zero, List.set_cons_succ, List.getElem_toArray, List.getElem_cons_succ, List.getElem_cons_zero, getElem?_pos]
  refine wpAnyH_ready (rs := [4]) (by kernel_rfl) (by simp) (AllReadyH.cons rfl (fun K hK => ?_) AllReadyH.nil)
  refine callOp (by rfl) (by go_simp) ((rel_text (leadsT (dg r)) (leadsT_Dg _) _).mono ?_)
  rintro e w4 ⟨rfl, hb6⟩
  refine ⟨_, rfl, hK.out _ _ ⟨hH2.1.go hb6, bgo hH2.2 hb6⟩ (fun hH3 => ?_)⟩
  clear hK K hH2
  simp only [Act.put, List.setIfInBounds_toArray, List.set_cons_zero, List.set_cons_succ, List.getElem_toArray, List.getElem_cons_succ, List.getElem_cons_zero, getElem?_pos]
  refine wpAnyH_take (i := 5) (v := .int .i64 (dg r 15)) rfl (by kernel_rfl) (by kernel_rfl) (by kernel_rfl) (fun _ _ _ h => h) (Or.inl ⟨by rfl, by intro w hw; clear hw; go_simp⟩) hH3 ?_
  simp only [Act.put, List.setIfInBounds_toArray, List.set_cons_zero, List.set_cons_succ, List.getElem_toArray, List.getElem_cons_succ, List.getElem_cons_zero, getElem?_pos]
  refine wpAnyH_take (i := 6) (v := .string (txt 4 (leadsT (dg r)))) rfl (by kernel_rfl) (by kernel_rfl) (by kernel_rfl) (fun _ _ _ h => h) (Or.inl ⟨by rfl, by intro w hw; clear hw; go_simp⟩) hH3 ?_
  simp only [Act.put, List.setIfInBounds_toArray, List.set_cons_zero, List.set_cons_succ, List.getElem_toArray, List.getElem_cons_succ, List.getElem_cons_zero, getElem?_pos]
  refine wpAnyH_take (i := 7) (v := .bool true) rfl (by kernel_rfl) (by kernel_rfl) (by kernel_rfl) (fun _ _ _ h => h) (Or.inl ⟨by rfl, by intro w hw; clear hw; go_simp⟩) hH3 ?_
  simp only [Act.put, List.setIfInBounds_toArray, List.set_cons_zero, List.set_cons_succ, List.getElem_toArray, List.getElem_cons_succ, List.getElem_cons_zero, getElem?_pos]
  refine wpAnyH_done (by kernel_rfl) ?_ _
  go_wp2_with fail
  go_ret3
  exact ⟨rfl, hH3.2⟩
end Go.Proofs.Ytmecagiadlimgaa
