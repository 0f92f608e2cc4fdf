/-
  Contracts of the program's functions on specifications and bounds.
-/
import Derived.Test.YtmecagiadlimgaaA7
import Derived.Test.YtmecagiadlimgaaA10
import Derived.Test.YtmecagiadlimgaaPQ
import Derived.OwnWalk
import Derived.Test.YtmecagiadlimgaaReg
namespace Go.Proofs.Ytmecagiadlimgaa
open Go.RowKit Go.DC
set_option maxHeartbeats 1000000
set_option linter.unusedVariables false
set_option linter.unusedSimpArgs false

set_option maxRecDepth 100000 in
theorem impl_spec (p : Int) (x : Nat → Int) (h0 : 0 ≤ p) (h1 : p ≤ 15) (w : World) :
    Calls Try.prog 80 #[.int .i64 p, .agg (cellsF 4 x)] w fun e w' => e = .returned (.agg (cellsF 16 (specD p x))) ∧ Below w.heap.size w w' := by
  have hr : Row ((w.alloc (.cells (cellsF 4 x) 59)).alloc (.cells #[.int .i64 0, .int .i64 0, .int .i64 0, .int .i64 0, .int .i64 0, .int .i64 0, .int .i64 0, .int .i64 0, .int .i64 0, .int .i64 0, .int .i64 0, .int .i64 0, .int .i64 0, .int .i64 0, .int .i64 0, .int .i64 0] 53)) w.heap.size 4 x := (Row.new w 4 x 59 rfl).alloc (.cells #[.int .i64 0, .int .i64 0, .int .i64 0, .int .i64 0, .int .i64 0, .int .i64 0, .int .i64 0, .int .i64 0, .int .i64 0, .int .i64 0, .int .i64 0, .int .i64 0, .int .i64 0, .int .i64 0, .int .i64 0, .int .i64 0] 53)
  have hres : Row ((w.alloc (.cells (cellsF 4 x) 59)).alloc (.cells #[.int .i64 0, .int .i64 0, .int .i64 0, .int .i64 0, .int .i64 0, .int .i64 0, .int .i64 0, .int .i64 0, .int .i64 0, .int .i64 0, .int .i64 0, .int .i64 0, .int .i64 0, .int .i64 0, .int .i64 0, .int .i64 0] 53)) (w.heap.size + 1) 16 (fun _ => 0) := Row.new16 _ _ (by simp)
  have hbel : Below w.heap.size w ((w.alloc (.cells (cellsF 4 x) 59)).alloc (.cells #[.int .i64 0, .int .i64 0, .int .i64 0, .int .i64 0, .int .i64 0, .int .i64 0, .int .i64 0, .int .i64 0, .int .i64 0, .int .i64 0, .int .i64 0, .int .i64 0, .int .i64 0, .int .i64 0, .int .i64 0, .int .i64 0] 53)) := ba2 _ _ _
  have ht := fun w => trans_then (assertT p) (demonT x) (demonT_Dg x 16) w
  rw [spec_then] at ht
  have Ht := Lib.hid ht
  have HS := Lib.hid (And.intro hr (And.intro (show ∃ f, Row ((w.alloc (.cells (cellsF 4 x) 59)).alloc (.cells #[.int .i64 0, .int .i64 0, .int .i64 0, .int .i64 0, .int .i64 0, .int .i64 0, .int .i64 0, .int .i64 0, .int .i64 0, .int .i64 0, .int .i64 0, .int .i64 0, .int .i64 0, .int .i64 0, .int .i64 0, .int .i64 0] 53)) (w.heap.size + 1) 16 f from ⟨_, hres⟩) hbel))
  clear hr hres hbel ht
  go_enter Try.func80, Try.ntmps80
  go_wp2_with fail
  generalize ((w.alloc (.cells (cellsF 4 x) 59)).alloc (.cells #[.int .i64 0, .int .i64 0, .int .i64 0, .int .i64 0, .int .i64 0, .int .i64 0, .int .i64 0, .int .i64 0, .int .i64 0, .int .i64 0, .int .i64 0, .int .i64 0, .int .i64 0, .int .i64 0, .int .i64 0, .int .i64 0] 53)) = W at *
  refine wp_region_held_drew (S := fun w' => Row w' w.heap.size 4 x ∧ (∃ f, Row w' (w.heap.size + 1) 16 f) ∧ Below w.heap.size w w') (by kernel_rfl) ⟨HS.out.1.drew, ⟨HS.out.2.1.choose, HS.out.2.1.choose_spec.drew⟩, HS.out.2.2.drew⟩ (fun hH => ?_)
  refine wpAnyH_take (i := 0) (v := .int .i64 p) rfl (by kernel_rfl) (by kernel_rfl) (by kernel_rfl) (fun _ _ _ h => h) (Or.inl ⟨by rfl, by intro w hw; clear hw; go_simp⟩) hH ?_
  simp only [Act.put, List.setIfInBounds_toArray, List.set_cons_zero, List.set_cons_succ, List.getElem_toArray, List.getElem_cons_succ, List.getElem_cons_zero, getElem?_pos]
  refine takeRow (i := 2) rel4 rfl _ rfl (by rfl) w.heap.size rfl (fun w hw => hw.1) (by kernel_rfl) (by kernel_rfl) (by kernel_rfl) (fun _ _ _ h => h) hH ?_
  simp only [Act.put, List.setIfInBounds_toArray, List.set_cons_zero, List.set_cons_succ, List.getElem_toArray, List.getElem_cons_succ, List.getElem_cons_zero, getElem?_pos]
  refine wpAnyH_ready (rs := [1]) (by kernel_rfl) (by simp) (AllReadyH.cons rfl (fun K hK => ?_) AllReadyH.nil)
  refine callOp (by rfl) (by go_simp) ((impl_assert p _).mono ?_)
  rintro e w3 ⟨rfl, hb5⟩
  refine ⟨_, rfl, hK.out _ _ ⟨hH.1.go hb5, ⟨hH.2.1.choose, hH.2.1.choose_spec.go hb5⟩, bgo hH.2.2 hb5⟩ (fun hH2 => ?_)⟩
  clear hK K hH HS
  simp only [Act.put, List.setIfInBounds_toArray, List.set_cons_zero, List.set_cons_succ, List.getElem_toArray, List.getElem_cons_succ, List.getElem_cons_zero, getElem?_pos]
  refine wpAnyH_ready (rs := [3]) (by kernel_rfl) (by simp) (AllReadyH.cons rfl (fun K hK => ?_) AllReadyH.nil)
  refine callOp (by rfl) (by go_simp) ((impl_demon x _).mono ?_)
  rintro e w4 ⟨rfl, hb6⟩
  refine ⟨_, rfl, hK.out _ _ ⟨hH2.1.go hb6, ⟨hH2.2.1.choose, hH2.2.1.choose_spec.go hb6⟩, bgo hH2.2.2 hb6⟩ (fun hH3 => ?_)⟩
  clear hK K hH2
  simp only [Act.put, List.setIfInBounds_toArray, List.set_cons_zero, List.set_cons_succ, List.getElem_toArray, List.getElem_cons_succ, List.getElem_cons_zero, getElem?_pos]
  refine wpAnyH_ready (rs := [4]) (by kernel_rfl) (by simp) (AllReadyH.cons rfl (fun K hK => ?_) AllReadyH.nil)
  refine callOp (by rfl) (by go_simp) ((Ht.out _).mono ?_)
  rintro e w5 ⟨rfl, hb7⟩
  refine ⟨_, rfl, hK.out _ _ ⟨hH3.1.go hb7, ⟨hH3.2.1.choose, hH3.2.1.choose_spec.go hb7⟩, bgo hH3.2.2 hb7⟩ (fun hH4 => ?_)⟩
  clear hK K hH3
  simp only [Act.put, List.setIfInBounds_toArray, List.set_cons_zero, List.set_cons_succ, List.getElem_toArray, List.getElem_cons_succ, List.getElem_cons_zero, getElem?_pos]
  obtain ⟨hx, ⟨f, hf⟩, hb⟩ := id hH4
  refine wpAnyH_ready (rs := [5]) (by kernel_rfl) (by simp) (AllReadyH.cons rfl (fun K hK => ?_) AllReadyH.nil)
  refine storeRow trans16 _ _ rfl (by rfl) (w.heap.size + 1) rfl (specD p x) rfl hf ?_
  refine hK.out _ _ ⟨hx.setRow_other (by omega) _, ⟨_, hf.setRow _⟩, below_setRow hb (by omega) _⟩ (fun hH5 => ?_)
  clear hK K
  simp only [Act.put, List.setIfInBounds_toArray, List.set_cons_zero, List.set_cons_succ, List.getElem_toArray, List.getElem_cons_succ, List.getElem_cons_zero, getElem?_pos]
  refine wpAnyH_done (by kernel_rfl) ?_ _
  go_wp2_with fail
  exact ret_row trans16 rfl _ rfl (hf.setRow _) rfl ⟨rfl, below_setRow hb (by omega) _⟩
set_option maxRecDepth 100000 in
theorem trans_demonAbove (x : Nat → Int) (hx : Dg 16 x) (w : World) :
    Calls Try.prog 107 #[.agg (cellsF 16 x)] w fun e w' => e = .returned (.agg (cellsF 16 (aboveT x))) ∧ Below w.heap.size w w' := by
  have hr : Row ((w.alloc (.cells (cellsF 16 x) 53)).alloc (.cells #[.int .i64 0, .int .i64 0, .int .i64 0, .int .i64 0, .int .i64 0, .int .i64 0, .int .i64 0, .int .i64 0, .int .i64 0, .int .i64 0, .int .i64 0, .int .i64 0, .int .i64 0, .int .i64 0, .int .i64 0, .int .i64 0] 53)) w.heap.size 16 x := (Row.new w 16 x 53 rfl).alloc (.cells #[.int .i64 0, .int .i64 0, .int .i64 0, .int .i64 0, .int .i64 0, .int .i64 0, .int .i64 0, .int .i64 0, .int .i64 0, .int .i64 0, .int .i64 0, .int .i64 0, .int .i64 0, .int .i64 0, .int .i64 0, .int .i64 0] 53)
  have hres : Row ((w.alloc (.cells (cellsF 16 x) 53)).alloc (.cells #[.int .i64 0, .int .i64 0, .int .i64 0, .int .i64 0, .int .i64 0, .int .i64 0, .int .i64 0, .int .i64 0, .int .i64 0, .int .i64 0, .int .i64 0, .int .i64 0, .int .i64 0, .int .i64 0, .int .i64 0, .int .i64 0] 53)) (w.heap.size + 1) 16 (fun _ => 0) := Row.new16 _ _ (by simp)
  have hbel : Below w.heap.size w ((w.alloc (.cells (cellsF 16 x) 53)).alloc (.cells #[.int .i64 0, .int .i64 0, .int .i64 0, .int .i64 0, .int .i64 0, .int .i64 0, .int .i64 0, .int .i64 0, .int .i64 0, .int .i64 0, .int .i64 0, .int .i64 0, .int .i64 0, .int .i64 0, .int .i64 0, .int .i64 0] 53)) := ba2 _ _ _
  have HS := Lib.hid (And.intro hr (And.intro (show ∃ f, Row ((w.alloc (.cells (cellsF 16 x) 53)).alloc (.cells #[.int .i64 0, .int .i64 0, .int .i64 0, .int .i64 0, .int .i64 0, .int .i64 0, .int .i64 0, .int .i64 0, .int .i64 0, .int .i64 0, .int .i64 0, .int .i64 0, .int .i64 0, .int .i64 0, .int .i64 0, .int .i64 0] 53)) (w.heap.size + 1) 16 f from ⟨_, hres⟩) hbel))
  have hl := leadsT_Dg x
  have hd := hx 15 (by decide)
  clear hr hres hbel
  go_enter Try.func107, Try.ntmps107
  go_wp2_with fail
  generalize ((w.alloc (.cells (cellsF 16 x) 53)).alloc (.cells #[.int .i64 0, .int .i64 0, .int .i64 0, .int .i64 0, .int .i64 0, .int .i64 0, .int .i64 0, .int .i64 0, .int .i64 0, .int .i64 0, .int .i64 0, .int .i64 0, .int .i64 0, .int .i64 0, .int .i64 0, .int .i64 0] 53)) = W at *
  refine wp_region_held_drew (S := fun w' => Row w' w.heap.size 16 x ∧ (∃ f, Row w' (w.heap.size + 1) 16 f) ∧ Below w.heap.size w w') (by kernel_rfl) ⟨HS.out.1.drew, ⟨HS.out.2.1.choose, HS.out.2.1.choose_spec.drew⟩, HS.out.2.2.drew⟩ (fun hH => ?_)
  refine wpAnyH_take (i := 0) (v := .pointer (some ⟨w.heap.size, 15, none⟩)) rfl (by kernel_rfl) (by kernel_rfl) (by kernel_rfl) (fun _ _ _ h => h) (Or.inl ⟨by rfl, by intro w hw; clear hw; go_simp⟩) hH ?_
  simp only [Act.put, List.setIfInBounds_toArray, List.set_cons_zero, List.set_cons_succ, List.getElem_toArray, List.getElem_cons_succ, List.getElem_cons_zero, getElem?_pos]
  refine wpAnyH_take (i := 1) (v := .int .i64 (x 15)) rfl (by kernel_rfl) (by kernel_rfl) (by kernel_rfl) (fun _ _ _ h => h) (Or.inl ⟨by rfl, by intro w hw; have hc := hw.1.cell (i := 15) (by omega); clear hw; go_simp⟩) hH ?_
  simp only [Act.put, List.setIfInBounds_toArray, List.set_cons_zero, List.set_cons_succ, List.getElem_toArray, List.getElem_cons_succ, List.getElem_cons_zero, getElem?_pos]
  refine takeRow (i := 2) trans16 rfl _ rfl (by rfl) w.heap.size rfl (fun w hw => hw.1) (by kernel_rfl) (by kernel_rfl) (by kernel_rfl) (fun _ _ _ h => h) hH ?_
  simp only [Act.put, List.setIfInBounds_toArray, List.set_cons_zero, List.set_cons_succ, List.getElem_toArray, List.getElem_cons_succ, List.getElem_cons_zero, getElem?_pos]
  refine wpAnyH_ready (rs := [3]) (by kernel_rfl) (by simp) (AllReadyH.cons rfl (fun K hK => ?_) AllReadyH.nil)
  refine callOp (by rfl) (by go_simp) ((trans_leads x hx _).mono ?_)
  rintro e w3 ⟨rfl, hb5⟩
  refine ⟨_, rfl, hK.out _ _ ⟨hH.1.go hb5, ⟨hH.2.1.choose, hH.2.1.choose_spec.go hb5⟩, bgo hH.2.2 hb5⟩ (fun hH2 => ?_)⟩
  clear hK K hH HS
  simp only [Act.put, List.setIfInBounds_toArray, List.set_cons_zero, List.set_cons_succ, List.getElem_toArray, List.getElem_cons_succ, List.getElem_cons_zero, getElem?_pos]
  refine wpAnyH_ready (rs := [4]) (by kernel_rfl) (by simp) (AllReadyH.cons rfl (fun K hK => ?_) AllReadyH.nil)
  refine callOp (by rfl) (by go_simp) ((impl_spec (x 15) (leadsT x) hd.1 hd.2 _).mono ?_)
  rintro e w4 ⟨rfl, hb6⟩
  refine ⟨_, rfl, hK.out _ _ ⟨hH2.1.go hb6, ⟨hH2.2.1.choose, hH2.2.1.choose_spec.go hb6⟩, bgo hH2.2.2 hb6⟩ (fun hH4 => ?_)⟩
  clear hK K hH2
  simp only [Act.put, List.setIfInBounds_toArray, List.set_cons_zero, List.set_cons_succ, List.getElem_toArray, List.getElem_cons_succ, List.getElem_cons_zero, getElem?_pos]
  obtain ⟨hx, ⟨f, hf⟩, hb⟩ := id hH4
  refine wpAnyH_ready (rs := [5]) (by kernel_rfl) (by simp) (AllReadyH.cons rfl (fun K hK => ?_) AllReadyH.nil)
  refine storeRow trans16 _ _ rfl (by rfl) (w.heap.size + 1) rfl (aboveT x) rfl hf ?_
  refine hK.out _ _ ⟨hx.setRow_other (by omega) _, ⟨_, hf.setRow _⟩, below_setRow hb (by omega) _⟩ (fun hH5 => ?_)
  clear hK K
  simp only [Act.put, List.setIfInBounds_toArray, List.set_cons_zero, List.set_cons_succ, List.getElem_toArray, List.getElem_cons_succ, List.getElem_cons_zero, getElem?_pos]
  refine wpAnyH_done (by kernel_rfl) ?_ _
  go_wp2_with fail
  exact ret_row trans16 rfl _ rfl (hf.setRow _) rfl ⟨rfl, below_setRow hb (by omega) _⟩
theorem impl_DemonAbove (r : ByteArray) (w : World) :
    Calls Try.prog 52 #[.string r] w fun e w' => e = .returned (.tuple #[.string (orNo (tvB r) (txt 16 (aboveT (dg r)))), .bool (tvB r)]) ∧ Below w.heap.size w w' := by
  cases hv : tvB r
  case false =>
    have hf := impl_alone 107 (fun _ => 0) r w (Dg_zero 16) (fun h w1 _ => by simp [h] at hv) Try.call107
    rw [hv] at hf
    have Hf := Lib.hid hf
    clear hf hv
    go_enter Try.func52, Try.ntmps52
    go_wp2_with (go_at_call 106; refine Hf.out.mono ?_; rintro e w' ⟨rfl, hb⟩)
    go_ret2
    exact ⟨rfl, hb⟩
  case true =>
    have hd : Dg 16 (dg r) := tvB_Dg hv
    have hf := impl_alone 107 (aboveT (dg r)) r w (aboveT_Dg hd) (fun h w1 _ => trans_demonAbove (dg r) hd w1) Try.call107
    rw [hv] at hf
    have Hf := Lib.hid hf
    clear hf hv hd
    go_enter Try.func52, Try.ntmps52
    go_wp2_with (go_at_call 106; refine Hf.out.mono ?_; rintro e w' ⟨rfl, hb⟩)
    go_ret2
    exact ⟨rfl, hb⟩
theorem impl_AngelBelow1 (x : Nat → Int) (hx : Dg 16 x) (w : World) :
    Calls Try.prog 109 #[.agg (cellsF 16 x)] w fun e w' => e = .returned (.agg (cellsF 16 (dual (aboveT (dual x))))) ∧ Below w.heap.size w w' := by
  have h2 : Row ((w.alloc (.cells (cellsF 16 x) 53)).alloc (.cells #[.int .i64 0, .int .i64 0, .int .i64 0, .int .i64 0, .int .i64 0, .int .i64 0, .int .i64 0, .int .i64 0, .int .i64 0, .int .i64 0, .int .i64 0, .int .i64 0, .int .i64 0, .int .i64 0, .int .i64 0, .int .i64 0] 53)) (w.heap.size + 1) 16 (fun _ => 0) := Row.new16 _ _ (by simp)
  have H2 := Lib.hid h2
  have Hb := Lib.hid (show Below w.heap.size w ((w.alloc (.cells (cellsF 16 x) 53)).alloc (.cells #[.int .i64 0, .int .i64 0, .int .i64 0, .int .i64 0, .int .i64 0, .int .i64 0, .int .i64 0, .int .i64 0, .int .i64 0, .int .i64 0, .int .i64 0, .int .i64 0, .int .i64 0, .int .i64 0, .int .i64 0, .int .i64 0] 53)) from ba2 _ _ _)
  have hd := dual_Dg hx
  have Hd := Lib.hid hd
  clear h2 hd
  have h1 := (Row.new w 16 x 53 rfl).alloc (.cells #[.int .i64 0, .int .i64 0, .int .i64 0, .int .i64 0, .int .i64 0, .int .i64 0, .int .i64 0, .int .i64 0, .int .i64 0, .int .i64 0, .int .i64 0, .int .i64 0, .int .i64 0, .int .i64 0, .int .i64 0, .int .i64 0] 53)
  go_enter Try.func109, Try.ntmps109
  go_wp2_with (refine ld trans16 _ rfl rfl _ rfl (f := ?_) ?_ ?_; rotate_left; first | (with_reducible assumption) | (with_reducible exact Row.new4 _ _ rfl) | (with_reducible exact Row.new16 _ _ rfl) | ((with_reducible refine Row.set ?_ _ _); (with_reducible assumption)) | ((with_reducible refine Row.other ?_ ?_ _); (with_reducible assumption); (focus first | (simp; done) | (simp; omega))) | ((with_reducible refine Row.alloc ?_ _); (with_reducible assumption)) | ((with_reducible refine Row.drew ?_); (with_reducible assumption)))
  refine (trans_dual x _).mono ?_
  rintro e w3 ⟨rfl, hb1⟩
  clear h1
  have h3 := H2.out.go hb1
  have hb2 := bgo Hb.out hb1
  clear H2 Hb hb1
  have H3 := Lib.hid h3
  have Hb2 := Lib.hid hb2
  clear h3 hb2
  go_wp2_with fail
  refine (trans_demonAbove (dual x) Hd.out _).mono ?_
  rintro e w4 ⟨rfl, hb3⟩
  have H4 := Lib.hid (H3.out.go hb3)
  have Hb4 := Lib.hid (bgo Hb2.out hb3)
  clear hb3 H3 Hb2
  go_wp2_with fail
  refine (trans_dual (aboveT (dual x)) _).mono ?_
  rintro e w5 ⟨rfl, hb5⟩
  have h5 := H4.out.go hb5
  have hb6 := bgo Hb4.out hb5
  clear hb5 H4 Hb4
  go_wp2_with (refine st trans16 _ _ rfl rfl _ rfl _ rfl (f := ?_) ?_ ?_; rotate_left; first | (with_reducible assumption) | (with_reducible exact Row.new4 _ _ rfl) | (with_reducible exact Row.new16 _ _ rfl) | ((with_reducible refine Row.set ?_ _ _); (with_reducible assumption)) | ((with_reducible refine Row.other ?_ ?_ _); (with_reducible assumption); (focus first | (simp; done) | (simp; omega))) | ((with_reducible refine Row.alloc ?_ _); (with_reducible assumption)) | ((with_reducible refine Row.drew ?_); (with_reducible assumption)))
  exact ret_row trans16 rfl _ rfl (h5.setRow _) rfl ⟨rfl, below_setRow hb6 (by omega) _⟩
theorem impl_AngelBelow (r : ByteArray) (w : World) :
    Calls Try.prog 54 #[.string r] w fun e w' => e = .returned (.tuple #[.string (orNo (tvB r) (txt 16 (dual (aboveT (dual (dg r)))))), .bool (tvB r)]) ∧ Below w.heap.size w w' := by
  cases hv : tvB r
  case false =>
    have hf := impl_alone 109 (fun _ => 0) r w (Dg_zero 16) (fun h w1 _ => by simp [h] at hv) Try.call109
    rw [hv] at hf
    have Hf := Lib.hid hf
    clear hf hv
    go_enter Try.func54, Try.ntmps54
    go_wp2_with (go_at_call 106; refine Hf.out.mono ?_; rintro e w' ⟨rfl, hb⟩)
    go_ret2
    exact ⟨rfl, hb⟩
  case true =>
    have hd : Dg 16 (dg r) := tvB_Dg hv
    have hf := impl_alone 109 (dual (aboveT (dual (dg r)))) r w (dual_Dg (aboveT_Dg (dual_Dg hd))) (fun h w1 _ => impl_AngelBelow1 (dg r) hd w1) Try.call109
    rw [hv] at hf
    have Hf := Lib.hid hf
    clear hf hv hd
    go_enter Try.func54, Try.ntmps54
    go_wp2_with (go_at_call 106; refine Hf.out.mono ?_; rintro e w' ⟨rfl, hb⟩)
    go_ret2
    exact ⟨rfl, hb⟩
theorem impl_ReachTrans (p q : Int) (w : World) :
    Calls Try.prog 47 #[.int .i64 p, .int .i64 q] w fun e w' => e = .returned (.tuple #[.string (orNo (cv p && cv q) (txt 16 (specD p fun _ => q))), .bool (cv p && cv q)]) ∧ Below w.heap.size w w' := by
  have cp := fun w => impl_ConditionValid p w
  have cq := fun w => impl_ConditionValid q w
  cases hp : cv p <;> cases hq : cv q
  case true.true =>
    obtain ⟨p0, p1⟩ := cv_iff.1 hp
    obtain ⟨q0, q1⟩ := cv_iff.1 hq
    have cs := fun w => impl_spec p (fun _ => q) p0 p1 w
    have ct := fun w => trans_text (specD p fun _ => q) (specD_Dg p0 p1 _ 16) w
    generalize specD p (fun _ => q) = F at *
    have Cs := Lib.hid cs
    have Ct := Lib.hid ct
    rw [hp] at cp
    rw [hq] at cq
    have Cp := Lib.hid cp
    have Cq := Lib.hid cq
    clear cs ct cp cq hp hq
    go_enter Try.func47, Try.ntmps47
    go_wp2_with fail
    refine (Cp.out _).mono ?_
    rintro e w' ⟨rfl, rfl⟩
    go_wp2_with fail
    refine (Cq.out _).mono ?_
    rintro e w' ⟨rfl, rfl⟩
    go_wp2_with fail
    refine (Cs.out _).mono ?_
    rintro e w1 ⟨rfl, hb1⟩
    go_wp2_with fail
    refine (Ct.out _).mono ?_
    rintro e w2 ⟨rfl, hb2⟩
    go_wp2_with fail
    go_ret2
    exact ⟨rfl, bgo hb1 hb2⟩
  case true.false =>
    rw [hp] at cp
    rw [hq] at cq
    have Cp := Lib.hid cp
    have Cq := Lib.hid cq
    clear cp cq hp hq
    go_enter Try.func47, Try.ntmps47
    go_wp2_with fail
    refine (Cp.out _).mono ?_
    rintro e w' ⟨rfl, rfl⟩
    go_wp2_with fail
    refine (Cq.out _).mono ?_
    rintro e w' ⟨rfl, rfl⟩
    go_wp2_with fail
    go_ret2
    exact ⟨rfl, Below.refl _ _⟩
  all_goals
    rw [hp] at cp
    have Cp := Lib.hid cp
    clear cp cq hp hq
    go_enter Try.func47, Try.ntmps47
    go_wp2_with fail
    refine (Cp.out _).mono ?_
    rintro e w' ⟨rfl, rfl⟩
    go_wp2_with fail
    go_ret2
    exact ⟨rfl, Below.refl _ _⟩
theorem impl_SpecTrans (p : Int) (r : ByteArray) (w : World) :
    Calls Try.prog 24 #[.int .i64 p, .string r] w fun e w' => e = .returned (.tuple #[.string (orNo (dvB 4 r && cv p) (txt 16 (specD p (dg r)))), .bool (dvB 4 r && cv p)]) ∧ Below w.heap.size w w' := by
  have cp := fun w => impl_ConditionValid p w
  cases hp : cv p <;> cases hr : dvB 4 r
  all_goals
    rw [hp] at cp
    have Cp := Lib.hid cp
    have Hr := Lib.hid hr
    have Hp := Lib.hid hp
    clear cp hr hp
    go_enter Try.func24, Try.ntmps24
    go_wp2_with fail
    refine (impl_readRel _ _).mono ?_
    rintro e w1 ⟨rfl, hb1⟩
    have hx : Row ((w1.alloc (.cells #[.int .i64 0, .int .i64 0, .int .i64 0, .int .i64 0] 59)).setRow w1.heap.size (cellsF 4 (rdF (dvB 4 r) r))) w1.heap.size 4 (rdF (dvB 4 r) r) := (Row.new4 _ _ rfl).setRow _
    have hbx : Below w.heap.size w ((w1.alloc (.cells #[.int .i64 0, .int .i64 0, .int .i64 0, .int .i64 0] 59)).setRow w1.heap.size (cellsF 4 (rdF (dvB 4 r) r))) := below_setRow (bgo hb1 (ba1 _ _)) hb1.size _
    have e1 := Hr.out
    simp only [e1] at hx hbx ⊢
    clear e1 hb1
  · go_wp2_with (first | (refine st rel4 _ _ rfl rfl _ rfl _ rfl (f := ?_) ?_ ?_; rotate_left; first | (with_reducible assumption) | (with_reducible exact Row.new4 _ _ rfl) | (with_reducible exact Row.new16 _ _ rfl) | ((with_reducible refine Row.set ?_ _ _); (with_reducible assumption)) | ((with_reducible refine Row.other ?_ ?_ _); (with_reducible assumption); (focus first | (simp; done) | (simp; omega))) | ((with_reducible refine Row.alloc ?_ _); (with_reducible assumption)) | ((with_reducible refine Row.drew ?_); (with_reducible assumption))) | (refine ld rel4 _ rfl rfl _ rfl (f := ?_) ?_ ?_; rotate_left; first | (with_reducible assumption) | (with_reducible exact Row.new4 _ _ rfl) | (with_reducible exact Row.new16 _ _ rfl) | ((with_reducible refine Row.set ?_ _ _); (with_reducible assumption)) | ((with_reducible refine Row.other ?_ ?_ _); (with_reducible assumption); (focus first | (simp; done) | (simp; omega))) | ((with_reducible refine Row.alloc ?_ _); (with_reducible assumption)) | ((with_reducible refine Row.drew ?_); (with_reducible assumption))))
    go_ret2
    exact ⟨rfl, hbx⟩
  · go_wp2_with (first | (refine st rel4 _ _ rfl rfl _ rfl _ rfl (f := ?_) ?_ ?_; rotate_left; first | (with_reducible assumption) | (with_reducible exact Row.new4 _ _ rfl) | (with_reducible exact Row.new16 _ _ rfl) | ((with_reducible refine Row.set ?_ _ _); (with_reducible assumption)) | ((with_reducible refine Row.other ?_ ?_ _); (with_reducible assumption); (focus first | (simp; done) | (simp; omega))) | ((with_reducible refine Row.alloc ?_ _); (with_reducible assumption)) | ((with_reducible refine Row.drew ?_); (with_reducible assumption))) | (refine ld rel4 _ rfl rfl _ rfl (f := ?_) ?_ ?_; rotate_left; first | (with_reducible assumption) | (with_reducible exact Row.new4 _ _ rfl) | (with_reducible exact Row.new16 _ _ rfl) | ((with_reducible refine Row.set ?_ _ _); (with_reducible assumption)) | ((with_reducible refine Row.other ?_ ?_ _); (with_reducible assumption); (focus first | (simp; done) | (simp; omega))) | ((with_reducible refine Row.alloc ?_ _); (with_reducible assumption)) | ((with_reducible refine Row.drew ?_); (with_reducible assumption))))
    refine (Cp.out _).mono ?_
    rintro e w' ⟨rfl, rfl⟩
    go_wp2_with (first | (refine st rel4 _ _ rfl rfl _ rfl _ rfl (f := ?_) ?_ ?_; rotate_left; first | (with_reducible assumption) | (with_reducible exact Row.new4 _ _ rfl) | (with_reducible exact Row.new16 _ _ rfl) | ((with_reducible refine Row.set ?_ _ _); (with_reducible assumption)) | ((with_reducible refine Row.other ?_ ?_ _); (with_reducible assumption); (focus first | (simp; done) | (simp; omega))) | ((with_reducible refine Row.alloc ?_ _); (with_reducible assumption)) | ((with_reducible refine Row.drew ?_); (with_reducible assumption))) | (refine ld rel4 _ rfl rfl _ rfl (f := ?_) ?_ ?_; rotate_left; first | (with_reducible assumption) | (with_reducible exact Row.new4 _ _ rfl) | (with_reducible exact Row.new16 _ _ rfl) | ((with_reducible refine Row.set ?_ _ _); (with_reducible assumption)) | ((with_reducible refine Row.other ?_ ?_ _); (with_reducible assumption); (focus first | (simp; done) | (simp; omega))) | ((with_reducible refine Row.alloc ?_ _); (with_reducible assumption)) | ((with_reducible refine Row.drew ?_); (with_reducible assumption))))
    go_ret2
    exact ⟨rfl, hbx⟩
  · go_wp2_with (first | (refine st rel4 _ _ rfl rfl _ rfl _ rfl (f := ?_) ?_ ?_; rotate_left; first | (with_reducible assumption) | (with_reducible exact Row.new4 _ _ rfl) | (with_reducible exact Row.new16 _ _ rfl) | ((with_reducible refine Row.set ?_ _ _); (with_reducible assumption)) | ((with_reducible refine Row.other ?_ ?_ _); (with_reducible assumption); (focus first | (simp; done) | (simp; omega))) | ((with_reducible refine Row.alloc ?_ _); (with_reducible assumption)) | ((with_reducible refine Row.drew ?_); (with_reducible assumption))) | (refine ld rel4 _ rfl rfl _ rfl (f := ?_) ?_ ?_; rotate_left; first | (with_reducible assumption) | (with_reducible exact Row.new4 _ _ rfl) | (with_reducible exact Row.new16 _ _ rfl) | ((with_reducible refine Row.set ?_ _ _); (with_reducible assumption)) | ((with_reducible refine Row.other ?_ ?_ _); (with_reducible assumption); (focus first | (simp; done) | (simp; omega))) | ((with_reducible refine Row.alloc ?_ _); (with_reducible assumption)) | ((with_reducible refine Row.drew ?_); (with_reducible assumption))))
    go_ret2
    exact ⟨rfl, hbx⟩
  · have hd := dvB_Dg Hr.out
    obtain ⟨p0, p1⟩ := cv_iff.1 Hp.out
    have cs := fun w => impl_spec p (dg r) p0 p1 w
    have ct := fun w => trans_text (specD p (dg r)) (specD_Dg p0 p1 _ 16) w
    obtain ⟨F, hF⟩ : ∃ F, specD p (dg r) = F := ⟨_, rfl⟩
    rw [hF] at cs ct
    have HF := Lib.hid hF
    have Cs := Lib.hid cs
    have Ct := Lib.hid ct
    clear cs ct hd hF
    simp only [rdF_true] at hx hbx ⊢
    go_wp2_with (first | (refine st rel4 _ _ rfl rfl _ rfl _ rfl (f := ?_) ?_ ?_; rotate_left; first | (with_reducible assumption) | (with_reducible exact Row.new4 _ _ rfl) | (with_reducible exact Row.new16 _ _ rfl) | ((with_reducible refine Row.set ?_ _ _); (with_reducible assumption)) | ((with_reducible refine Row.other ?_ ?_ _); (with_reducible assumption); (focus first | (simp; done) | (simp; omega))) | ((with_reducible refine Row.alloc ?_ _); (with_reducible assumption)) | ((with_reducible refine Row.drew ?_); (with_reducible assumption))) | (refine ld rel4 _ rfl rfl _ rfl (f := ?_) ?_ ?_; rotate_left; first | (with_reducible assumption) | (with_reducible exact Row.new4 _ _ rfl) | (with_reducible exact Row.new16 _ _ rfl) | ((with_reducible refine Row.set ?_ _ _); (with_reducible assumption)) | ((with_reducible refine Row.other ?_ ?_ _); (with_reducible assumption); (focus first | (simp; done) | (simp; omega))) | ((with_reducible refine Row.alloc ?_ _); (with_reducible assumption)) | ((with_reducible refine Row.drew ?_); (with_reducible assumption))))
    refine (Cp.out _).mono ?_
    rintro e w' ⟨rfl, rfl⟩
    go_wp2_with (first | (refine st rel4 _ _ rfl rfl _ rfl _ rfl (f := ?_) ?_ ?_; rotate_left; first | (with_reducible assumption) | (with_reducible exact Row.new4 _ _ rfl) | (with_reducible exact Row.new16 _ _ rfl) | ((with_reducible refine Row.set ?_ _ _); (with_reducible assumption)) | ((with_reducible refine Row.other ?_ ?_ _); (with_reducible assumption); (focus first | (simp; done) | (simp; omega))) | ((with_reducible refine Row.alloc ?_ _); (with_reducible assumption)) | ((with_reducible refine Row.drew ?_); (with_reducible assumption))) | (refine ld rel4 _ rfl rfl _ rfl (f := ?_) ?_ ?_; rotate_left; first | (with_reducible assumption) | (with_reducible exact Row.new4 _ _ rfl) | (with_reducible exact Row.new16 _ _ rfl) | ((with_reducible refine Row.set ?_ _ _); (with_reducible assumption)) | ((with_reducible refine Row.other ?_ ?_ _); (with_reducible assumption); (focus first | (simp; done) | (simp; omega))) | ((with_reducible refine Row.alloc ?_ _); (with_reducible assumption)) | ((with_reducible refine Row.drew ?_); (with_reducible assumption))))
    refine (Cs.out _).mono ?_
    rintro e w2 ⟨rfl, hb2⟩
    have hb3 := bgo hbx hb2
    clear hb2 hbx hx
    go_wp2_with fail
    refine (Ct.out _).mono ?_
    rintro e w3 ⟨rfl, hb4⟩
    have hb5 := bgo hb3 hb4
    clear hb4 hb3
    go_wp2_with fail
    go_ret2
    exact ⟨by rw [HF.out]; rfl, hb5⟩
end Go.Proofs.Ytmecagiadlimgaa
