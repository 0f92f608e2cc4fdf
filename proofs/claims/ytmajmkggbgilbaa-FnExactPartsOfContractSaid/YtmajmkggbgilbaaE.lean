/-
  Contracts of the laws' own helpers on lists of texts: held against each other, marked, looked at again.
-/
import Derived.Test.YtmajmkggbgilbaaC8
import Derived.Deep.RegionHeld3
namespace Go.Proofs.Ytmajmkggbgilbaa
open Go.RowKit Go.DC
set_option maxHeartbeats 2000000
set_option linter.unusedVariables false
set_option linter.unusedSimpArgs false
/-- The text that marks the n-th place. -/
def mkT (n : Nat) : ByteArray := ⟨#[109, 48 + UInt8.ofNat n]⟩
set_option maxRecDepth 100000 in
theorem laws_markText (n : Nat) (h1 : 1 ≤ n) (h2 : n ≤ 2) (w : World) :
    Calls Try.prog 15 #[.int .i64 n] w fun e w' => e = .returned (.string (mkT n)) ∧ Below w.heap.size w w' := by
  have hcv := fun (v : Int) (x : ByteArray) (hx : strOfNums [v] = x) => show (convert 41 9 (.slice (some ⟨w.heap.size, 0, none⟩) 1 1)).run Try.prog (w.alloc (.cells #[.int .u8 v] 5)) = .ok (.string x) (w.alloc (.cells #[.int .u8 v] 5)) by
    rw [← hx]
    refine run_convert_bytes_arg (P := Try.prog) (w.alloc (.cells #[.int .u8 v] 5)) 41 5 Try.underlying41 Try.underlying5 w.heap.size 0 1 1 [v] rfl (fun i hi => ?_) 9 Try.underlying9
    obtain rfl : i = 0 := by omega
    rw [World.cell?_alloc_at _ _ _ _ rfl]
    rfl
  have ha := fun (x : ByteArray) (hx : x.size = 1) => show ∀ w, (Op.stringOp .add x (ByteArray.mk #[])).run Try.prog w = .ok (.string x) w from fun w => by
    rw [run_string_add_sum w x _ (by rw [hx]; decide)]
    have : x ++ ByteArray.mk #[] = x := by
      have h := bts_of (c := x) rfl
      rw [h, show ByteArray.mk #[] = bts [] from rfl, bts_app, List.append_nil]
    rw [this]
  rcases (show n = 1 ∨ n = 2 by omega) with rfl | rfl
  · have h1 := hcv 49 (ByteArray.mk #[49]) rfl
    have h2 := ha (ByteArray.mk #[49]) rfl
    clear hcv ha
    go_enter Try.func15, Try.ntmps15
    go_wp2_with fail
    refine wp_loop_rounds 2 ?_
    rw [rounds_succ]
    go_wp2_with fail
    rw [rounds_succ]
    go_wp2_with fail
    go_ret
    exact ⟨rfl, ba1 _ _⟩
  · have h1 := hcv 50 (ByteArray.mk #[50]) rfl
    have h2 := ha (ByteArray.mk #[50]) rfl
    clear hcv ha
    go_enter Try.func15, Try.ntmps15
    go_wp2_with fail
    refine wp_loop_rounds 2 ?_
    rw [rounds_succ]
    go_wp2_with fail
    rw [rounds_succ]
    go_wp2_with fail
    go_ret
    exact ⟨rfl, ba1 _ _⟩
set_option maxRecDepth 100000 in
theorem eqS0 (g1 c1 g2 c2 : Nat) (w : World) :
    Calls Try.prog 7 #[.slice (some ⟨g1, 0, none⟩) 0 c1, .slice (some ⟨g2, 0, none⟩) 0 c2] w fun e w' => e = .returned (.bool true) ∧ Below w.heap.size w w' := by
  go_enter Try.func7, Try.ntmps7
  go_wp2_with fail
  refine wp_loop_rounds 1 ?_
  rw [rounds_succ]
  go_wp2_with fail
  go_ret
  exact ⟨rfl, Below.refl _ _⟩
set_option maxRecDepth 100000 in
theorem eqS1 (x : ByteArray) (g1 c1 g2 c2 : Nat) (w : World) (h10 : w.cell? ⟨g1, 0, none⟩ = some (.string x)) (h20 : w.cell? ⟨g2, 0, none⟩ = some (.string x)) :
    Calls Try.prog 7 #[.slice (some ⟨g1, 0, none⟩) 1 c1, .slice (some ⟨g2, 0, none⟩) 1 c2] w fun e w' => e = .returned (.bool true) ∧ Below w.heap.size w w' := by
  have H10 := Lib.hid h10
  have H20 := Lib.hid h20
  clear h10 h20
  go_enter Try.func7, Try.ntmps7
  go_wp2_with fail
  go_loopg [5] 1 (fun gk i wr => ∃ m : Nat, m ≤ 1 ∧ gk = 1 - m ∧ i = .int .i64 m ∧ Below w.heap.size w wr)
  case atStart => exact ⟨0, by omega, rfl, rfl, Below.refl _ _⟩
  case round =>
    obtain ⟨m, hm, rfl, rfl, hb⟩ := hrel
    have HB := Lib.hid hb
    clear hb
    rcases (show m = 0 ∨ m = 1 by omega) with rfl | rfl
    · go_wp2_with fail
      refine wp_region_held_drew (S := (fun w' => w'.cell? ⟨g1, 0, none⟩ = some (.string x) ∧ w'.cell? ⟨g2, 0, none⟩ = some (.string x) ∧ Below w.heap.size w w')) (by kernel_rfl) ⟨cell_go H10.out HB.out.drew, cell_go H20.out HB.out.drew, HB.out.drew⟩ (fun hH0 => ?_)
      refine wpAnyH_take (i := 0) (v := .slice (some ⟨g1, 0, none⟩) 1 c1) rfl (by kernel_rfl) (by kernel_rfl) (by kernel_rfl) (fun _ _ _ h => h) (Or.inl ⟨by rfl, by intro w hw; clear hw; go_simp⟩) hH0 ?_
      simp only [Act.put, List.setIfInBounds_toArray, List.set_cons_zero, List.set_cons_succ, List.getElem_toArray, List.getElem_cons_succ, List.getElem_cons_zero, getElem?_pos]
      refine wpAnyH_take (i := 1) (v := .int .i64 0) rfl (by kernel_rfl) (by kernel_rfl) (by kernel_rfl) (fun _ _ _ h => h) (Or.inl ⟨by rfl, by intro w hw; clear hw; go_simp⟩) hH0 ?_
      simp only [Act.put, List.setIfInBounds_toArray, List.set_cons_zero, List.set_cons_succ, List.getElem_toArray, List.getElem_cons_succ, List.getElem_cons_zero, getElem?_pos]
      refine wpAnyH_take (i := 2) (v := .pointer (some ⟨g1, 0, none⟩)) rfl (by kernel_rfl) (by kernel_rfl) (by kernel_rfl) (fun _ _ _ h => h) (Or.inl ⟨by rfl, by intro w hw; clear hw; go_simp⟩) hH0 ?_
      simp only [Act.put, List.setIfInBounds_toArray, List.set_cons_zero, List.set_cons_succ, List.getElem_toArray, List.getElem_cons_succ, List.getElem_cons_zero, getElem?_pos]
      refine wpAnyH_take (i := 3) (v := .string x) rfl (by kernel_rfl) (by kernel_rfl) (by kernel_rfl) (fun _ _ _ h => h) (Or.inl ⟨by rfl, by intro w hw; have hc := hw.1; clear hw; go_simp⟩) hH0 ?_
      simp only [Act.put, List.setIfInBounds_toArray, List.set_cons_zero, List.set_cons_succ, List.getElem_toArray, List.getElem_cons_succ, List.getElem_cons_zero, getElem?_pos]
      refine wpAnyH_take (i := 4) (v := .slice (some ⟨g2, 0, none⟩) 1 c2) rfl (by kernel_rfl) (by kernel_rfl) (by kernel_rfl) (fun _ _ _ h => h) (Or.inl ⟨by rfl, by intro w hw; clear hw; go_simp⟩) hH0 ?_
      simp only [Act.put, List.setIfInBounds_toArray, List.set_cons_zero, List.set_cons_succ, List.getElem_toArray, List.getElem_cons_succ, List.getElem_cons_zero, getElem?_pos]
      refine wpAnyH_take (i := 5) (v := .int .i64 0) rfl (by kernel_rfl) (by kernel_rfl) (by kernel_rfl) (fun _ _ _ h => h) (Or.inl ⟨by rfl, by intro w hw; clear hw; go_simp⟩) hH0 ?_
      simp only [Act.put, List.setIfInBounds_toArray, List.set_cons_zero, List.set_cons_succ, List.getElem_toArray, List.getElem_cons_succ, List.getElem_cons_zero, getElem?_pos]
      refine wpAnyH_take (i := 6) (v := .pointer (some ⟨g2, 0, none⟩)) rfl (by kernel_rfl) (by kernel_rfl) (by kernel_rfl) (fun _ _ _ h => h) (Or.inl ⟨by rfl, by intro w hw; clear hw; go_simp⟩) hH0 ?_
      simp only [Act.put, List.setIfInBounds_toArray, List.set_cons_zero, List.set_cons_succ, List.getElem_toArray, List.getElem_cons_succ, List.getElem_cons_zero, getElem?_pos]
      refine wpAnyH_take (i := 7) (v := .string x) rfl (by kernel_rfl) (by kernel_rfl) (by kernel_rfl) (fun _ _ _ h => h) (Or.inl ⟨by rfl, by intro w hw; have hc := hw.2.1; clear hw; go_simp⟩) hH0 ?_
      simp only [Act.put, List.setIfInBounds_toArray, List.set_cons_zero, List.set_cons_succ, List.getElem_toArray, List.getElem_cons_succ, List.getElem_cons_zero, getElem?_pos]
      refine wpAnyH_take (i := 8) (v := .bool false) rfl (by kernel_rfl) (by kernel_rfl) (by kernel_rfl) (fun _ _ _ h => h) (Or.inl ⟨by rfl, by intro w hw; clear hw; go_simp⟩) hH0 ?_
      simp only [Act.put, List.setIfInBounds_toArray, List.set_cons_zero, List.set_cons_succ, List.getElem_toArray, List.getElem_cons_succ, List.getElem_cons_zero, getElem?_pos]
      refine wpAnyH_done (by kernel_rfl) ?_ _
      go_wp2_with fail
      go_roundg (1 - (0 + 1))
      case rel => exact ⟨0 + 1, by omega, rfl, by go_num, hH0.2.2⟩
      case measure => omega
    · go_wp2_with fail
      go_ret
      exact ⟨rfl, HB.out⟩
set_option maxRecDepth 100000 in
theorem eqS2 (x y : ByteArray) (g1 c1 g2 c2 : Nat) (w : World) (h10 : w.cell? ⟨g1, 0, none⟩ = some (.string x)) (h11 : w.cell? ⟨g1, 1, none⟩ = some (.string y)) (h20 : w.cell? ⟨g2, 0, none⟩ = some (.string x)) (h21 : w.cell? ⟨g2, 1, none⟩ = some (.string y)) :
    Calls Try.prog 7 #[.slice (some ⟨g1, 0, none⟩) 2 c1, .slice (some ⟨g2, 0, none⟩) 2 c2] w fun e w' => e = .returned (.bool true) ∧ Below w.heap.size w w' := by
  have H10 := Lib.hid h10
  have H11 := Lib.hid h11
  have H20 := Lib.hid h20
  have H21 := Lib.hid h21
  clear h10 h11 h20 h21
  go_enter Try.func7, Try.ntmps7
  go_wp2_with fail
  go_loopg [5] 2 (fun gk i wr => ∃ m : Nat, m ≤ 2 ∧ gk = 2 - m ∧ i = .int .i64 m ∧ Below w.heap.size w wr)
  case atStart => exact ⟨0, by omega, rfl, rfl, Below.refl _ _⟩
  case round =>
    obtain ⟨m, hm, rfl, rfl, hb⟩ := hrel
    have HB := Lib.hid hb
    clear hb
    rcases (show m = 0 ∨ m = 1 ∨ m = 2 by omega) with rfl | rfl | rfl
    · go_wp2_with fail
      refine wp_region_held_drew (S := (fun w' => w'.cell? ⟨g1, 0, none⟩ = some (.string x) ∧ w'.cell? ⟨g2, 0, none⟩ = some (.string x) ∧ Below w.heap.size w w')) (by kernel_rfl) ⟨cell_go H10.out HB.out.drew, cell_go H20.out HB.out.drew, HB.out.drew⟩ (fun hH0 => ?_)
      refine wpAnyH_take (i := 0) (v := .slice (some ⟨g1, 0, none⟩) 2 c1) rfl (by kernel_rfl) (by kernel_rfl) (by kernel_rfl) (fun _ _ _ h => h) (Or.inl ⟨by rfl, by intro w hw; clear hw; go_simp⟩) hH0 ?_
      simp only [Act.put, List.setIfInBounds_toArray, List.set_cons_zero, List.set_cons_succ, List.getElem_toArray, List.getElem_cons_succ, List.getElem_cons_zero, getElem?_pos]
      refine wpAnyH_take (i := 1) (v := .int .i64 0) rfl (by kernel_rfl) (by kernel_rfl) (by kernel_rfl) (fun _ _ _ h => h) (Or.inl ⟨by rfl, by intro w hw; clear hw; go_simp⟩) hH0 ?_
      simp only [Act.put, List.setIfInBounds_toArray, List.set_cons_zero, List.set_cons_succ, List.getElem_toArray, List.getElem_cons_succ, List.getElem_cons_zero, getElem?_pos]
      refine wpAnyH_take (i := 2) (v := .pointer (some ⟨g1, 0, none⟩)) rfl (by kernel_rfl) (by kernel_rfl) (by kernel_rfl) (fun _ _ _ h => h) (Or.inl ⟨by rfl, by intro w hw; clear hw; go_simp⟩) hH0 ?_
      simp only [Act.put, List.setIfInBounds_toArray, List.set_cons_zero, List.set_cons_succ, List.getElem_toArray, List.getElem_cons_succ, List.getElem_cons_zero, getElem?_pos]
      refine wpAnyH_take (i := 3) (v := .string x) rfl (by kernel_rfl) (by kernel_rfl) (by kernel_rfl) (fun _ _ _ h => h) (Or.inl ⟨by rfl, by intro w hw; have hc := hw.1; clear hw; go_simp⟩) hH0 ?_
      simp only [Act.put, List.setIfInBounds_toArray, List.set_cons_zero, List.set_cons_succ, List.getElem_toArray, List.getElem_cons_succ, List.getElem_cons_zero, getElem?_pos]
      refine wpAnyH_take (i := 4) (v := .slice (some ⟨g2, 0, none⟩) 2 c2) rfl (by kernel_rfl) (by kernel_rfl) (by kernel_rfl) (fun _ _ _ h => h) (Or.inl ⟨by rfl, by intro w hw; clear hw; go_simp⟩) hH0 ?_
      simp only [Act.put, List.setIfInBounds_toArray, List.set_cons_zero, List.set_cons_succ, List.getElem_toArray, List.getElem_cons_succ, List.getElem_cons_zero, getElem?_pos]
      refine wpAnyH_take (i := 5) (v := .int .i64 0) rfl (by kernel_rfl) (by kernel_rfl) (by kernel_rfl) (fun _ _ _ h => h) (Or.inl ⟨by rfl, by intro w hw; clear hw; go_simp⟩) hH0 ?_
      simp only [Act.put, List.setIfInBounds_toArray, List.set_cons_zero, List.set_cons_succ, List.getElem_toArray, List.getElem_cons_succ, List.getElem_cons_zero, getElem?_pos]
      refine wpAnyH_take (i := 6) (v := .pointer (some ⟨g2, 0, none⟩)) rfl (by kernel_rfl) (by kernel_rfl) (by kernel_rfl) (fun _ _ _ h => h) (Or.inl ⟨by rfl, by intro w hw; clear hw; go_simp⟩) hH0 ?_
      simp only [Act.put, List.setIfInBounds_toArray, List.set_cons_zero, List.set_cons_succ, List.getElem_toArray, List.getElem_cons_succ, List.getElem_cons_zero, getElem?_pos]
      refine wpAnyH_take (i := 7) (v := .string x) rfl (by kernel_rfl) (by kernel_rfl) (by kernel_rfl) (fun _ _ _ h => h) (Or.inl ⟨by rfl, by intro w hw; have hc := hw.2.1; clear hw; go_simp⟩) hH0 ?_
      simp only [Act.put, List.setIfInBounds_toArray, List.set_cons_zero, List.set_cons_succ, List.getElem_toArray, List.getElem_cons_succ, List.getElem_cons_zero, getElem?_pos]
      refine wpAnyH_take (i := 8) (v := .bool false) rfl (by kernel_rfl) (by kernel_rfl) (by kernel_rfl) (fun _ _ _ h => h) (Or.inl ⟨by rfl, by intro w hw; clear hw; go_simp⟩) hH0 ?_
      simp only [Act.put, List.setIfInBounds_toArray, List.set_cons_zero, List.set_cons_succ, List.getElem_toArray, List.getElem_cons_succ, List.getElem_cons_zero, getElem?_pos]
      refine wpAnyH_done (by kernel_rfl) ?_ _
      go_wp2_with fail
      go_roundg (2 - (0 + 1))
      case rel => exact ⟨0 + 1, by omega, rfl, by go_num, hH0.2.2⟩
      case measure => omega
    · go_wp2_with fail
      refine wp_region_held_drew (S := (fun w' => w'.cell? ⟨g1, 1, none⟩ = some (.string y) ∧ w'.cell? ⟨g2, 1, none⟩ = some (.string y) ∧ Below w.heap.size w w')) (by kernel_rfl) ⟨cell_go H11.out HB.out.drew, cell_go H21.out HB.out.drew, HB.out.drew⟩ (fun hH0 => ?_)
      refine wpAnyH_take (i := 0) (v := .slice (some ⟨g1, 0, none⟩) 2 c1) rfl (by kernel_rfl) (by kernel_rfl) (by kernel_rfl) (fun _ _ _ h => h) (Or.inl ⟨by rfl, by intro w hw; clear hw; go_simp⟩) hH0 ?_
      simp only [Act.put, List.setIfInBounds_toArray, List.set_cons_zero, List.set_cons_succ, List.getElem_toArray, List.getElem_cons_succ, List.getElem_cons_zero, getElem?_pos]
      refine wpAnyH_take (i := 1) (v := .int .i64 1) rfl (by kernel_rfl) (by kernel_rfl) (by kernel_rfl) (fun _ _ _ h => h) (Or.inl ⟨by rfl, by intro w hw; clear hw; go_simp⟩) hH0 ?_
      simp only [Act.put, List.setIfInBounds_toArray, List.set_cons_zero, List.set_cons_succ, List.getElem_toArray, List.getElem_cons_succ, List.getElem_cons_zero, getElem?_pos]
      refine wpAnyH_take (i := 2) (v := .pointer (some ⟨g1, 1, none⟩)) rfl (by kernel_rfl) (by kernel_rfl) (by kernel_rfl) (fun _ _ _ h => h) (Or.inl ⟨by rfl, by intro w hw; clear hw; go_simp⟩) hH0 ?_
      simp only [Act.put, List.setIfInBounds_toArray, List.set_cons_zero, List.set_cons_succ, List.getElem_toArray, List.getElem_cons_succ, List.getElem_cons_zero, getElem?_pos]
      refine wpAnyH_take (i := 3) (v := .string y) rfl (by kernel_rfl) (by kernel_rfl) (by kernel_rfl) (fun _ _ _ h => h) (Or.inl ⟨by rfl, by intro w hw; have hc := hw.1; clear hw; go_simp⟩) hH0 ?_
      simp only [Act.put, List.setIfInBounds_toArray, List.set_cons_zero, List.set_cons_succ, List.getElem_toArray, List.getElem_cons_succ, List.getElem_cons_zero, getElem?_pos]
      refine wpAnyH_take (i := 4) (v := .slice (some ⟨g2, 0, none⟩) 2 c2) rfl (by kernel_rfl) (by kernel_rfl) (by kernel_rfl) (fun _ _ _ h => h) (Or.inl ⟨by rfl, by intro w hw; clear hw; go_simp⟩) hH0 ?_
      simp only [Act.put, List.setIfInBounds_toArray, List.set_cons_zero, List.set_cons_succ, List.getElem_toArray, List.getElem_cons_succ, List.getElem_cons_zero, getElem?_pos]
      refine wpAnyH_take (i := 5) (v := .int .i64 1) rfl (by kernel_rfl) (by kernel_rfl) (by kernel_rfl) (fun _ _ _ h => h) (Or.inl ⟨by rfl, by intro w hw; clear hw; go_simp⟩) hH0 ?_
      simp only [Act.put, List.setIfInBounds_toArray, List.set_cons_zero, List.set_cons_succ, List.getElem_toArray, List.getElem_cons_succ, List.getElem_cons_zero, getElem?_pos]
      refine wpAnyH_take (i := 6) (v := .pointer (some ⟨g2, 1, none⟩)) rfl (by kernel_rfl) (by kernel_rfl) (by kernel_rfl) (fun _ _ _ h => h) (Or.inl ⟨by rfl, by intro w hw; clear hw; go_simp⟩) hH0 ?_
      simp only [Act.put, List.setIfInBounds_toArray, List.set_cons_zero, List.set_cons_succ, List.getElem_toArray, List.getElem_cons_succ, List.getElem_cons_zero, getElem?_pos]
      refine wpAnyH_take (i := 7) (v := .string y) rfl (by kernel_rfl) (by kernel_rfl) (by kernel_rfl) (fun _ _ _ h => h) (Or.inl ⟨by rfl, by intro w hw; have hc := hw.2.1; clear hw; go_simp⟩) hH0 ?_
      simp only [Act.put, List.setIfInBounds_toArray, List.set_cons_zero, List.set_cons_succ, List.getElem_toArray, List.getElem_cons_succ, List.getElem_cons_zero, getElem?_pos]
      refine wpAnyH_take (i := 8) (v := .bool false) rfl (by kernel_rfl) (by kernel_rfl) (by kernel_rfl) (fun _ _ _ h => h) (Or.inl ⟨by rfl, by intro w hw; clear hw; go_simp⟩) hH0 ?_
      simp only [Act.put, List.setIfInBounds_toArray, List.set_cons_zero, List.set_cons_succ, List.getElem_toArray, List.getElem_cons_succ, List.getElem_cons_zero, getElem?_pos]
      refine wpAnyH_done (by kernel_rfl) ?_ _
      go_wp2_with fail
      go_roundg (2 - (1 + 1))
      case rel => exact ⟨1 + 1, by omega, rfl, by go_num, hH0.2.2⟩
      case measure => omega
    · go_wp2_with fail
      go_ret
      exact ⟨rfl, HB.out⟩
theorem laws_eqStringS (l : List ByteArray) (hl : l.length ≤ 2) (v1 v2 : Value) (w : World) (h1 : Strs w v1 l) (h2 : Strs w v2 l) :
    Calls Try.prog 7 #[v1, v2] w fun e w' => e = .returned (.bool true) ∧ Below w.heap.size w w' := by
  obtain ⟨g1, c1, rfl, _, e1⟩ := h1
  obtain ⟨g2, c2, rfl, _, e2⟩ := h2
  match l, hl with
  | [], _ => exact eqS0 g1 c1 g2 c2 w
  | [x], _ => exact eqS1 x g1 c1 g2 c2 w (e1 0 (by simp)) (e2 0 (by simp))
  | [x, y], _ => exact eqS2 x y g1 c1 g2 c2 w (e1 0 (by simp)) (e1 1 (by simp)) (e2 0 (by simp)) (e2 1 (by simp))
/-- Block g holds texts, and can be written. -/
def TRow (w : World) (g : Nat) (l : List ByteArray) : Prop := ∃ cur T, w.heap[g]? = some (.cells cur T (0, 0)) ∧ ∀ i (hi : i < l.length), cur[i]? = some (.string l[i])
theorem TRow.of {w : World} {B g cap : Nat} {l : List ByteArray} (h : w.ownsRow B 9 1 (.slice (some ⟨g, 0, none⟩) l.length cap) l.length (l.map Value.string)) : TRow w g l ∧ B ≤ g := by
  rcases h.2 with ⟨h, _⟩ | ⟨g', cap', cur, h1, h2, h3, h4, h5, h6, h7⟩
  · simp at h
  · injection h1 with h1 _ _
    injection h1 with h1
    injection h1 with h1
    subst h1
    refine ⟨⟨cur, _, h3, fun i hi => ?_⟩, h2⟩
    have h8 : (cur.toList.take (l.length * 1))[i]? = (l.map Value.string)[i]? := by rw [h7]
    rw [Nat.mul_one, List.getElem?_take_of_lt hi] at h8
    rw [← Array.getElem?_toList, h8]
    simp [hi]
theorem TRow.cell {w : World} {g : Nat} {l : List ByteArray} (h : TRow w g l) {i : Nat} (hi : i < l.length) : w.cell? ⟨g, i, none⟩ = some (.string l[i]) := by
  obtain ⟨cur, T, h1, h2⟩ := h
  rw [cell_of_row w g i _ T _ h1]
  exact h2 i hi
theorem TRow.free {w : World} {g : Nat} {l : List ByteArray} (h : TRow w g l) (i : Nat) : w.frozen? ⟨g, i, none⟩ = false := by
  obtain ⟨cur, T, h1, _⟩ := h
  exact frozen_of_row w g i _ T h1
theorem TRow.go {w w' : World} {g : Nat} {l : List ByteArray} (h : TRow w g l) (hb : Below w.heap.size w w') : TRow w' g l := by
  obtain ⟨cur, T, h1, h2⟩ := h
  exact ⟨cur, T, by rw [hb.block g (lt_of_block h1)]; exact h1, h2⟩
theorem TRow.set {w : World} {g : Nat} {l : List ByteArray} (h : TRow w g l) {i : Nat} (hi : i < l.length) (s : ByteArray) : TRow (w.setCell ⟨g, i, none⟩ (.string s)) g (l.set i s) := by
  obtain ⟨cur, T, h1, h2⟩ := h
  refine ⟨_, T, heap_setCell_same w g i _ T _ h1, fun j hj => ?_⟩
  have hj' : j < l.length := by simpa using hj
  have hc := h2 j hj'
  have hlt : j < cur.size := by
    rcases Nat.lt_or_ge j cur.size with h | h
    · exact h
    · rw [Array.getElem?_eq_none h] at hc; simp at hc
  have hlt2 : i < cur.size := by
    have hc := h2 i hi
    rcases Nat.lt_or_ge i cur.size with h | h
    · exact h
    · rw [Array.getElem?_eq_none h] at hc; simp at hc
  rw [Array.getElem?_setIfInBounds, List.getElem_set]
  by_cases e : i = j
  · subst e; simp [hlt2]
  · simp [e, hc]
theorem TRow.strs {w : World} {g : Nat} {l : List ByteArray} (h : TRow w g l) (cap : Nat) : Strs w (.slice (some ⟨g, 0, none⟩) l.length cap) l :=
  ⟨g, cap, rfl, by obtain ⟨cur, T, h1, _⟩ := h; exact lt_of_block h1, fun i hi => h.cell hi⟩
/-- The marks. -/
def marks (n : Nat) : List ByteArray := (List.range n).map fun i => mkT (i + 1)
/-- What marking leaves: marks, and only block g is written. -/
def Marked (n g : Nat) (w : World) (e : Ending) (w' : World) : Prop := e = .returned (.int .i64 ((n + 1 : Nat) : Int)) ∧ TRow w' g (marks n) ∧ Els g w w'
set_option maxRecDepth 100000 in
theorem mkS0 (g cap : Nat) (w : World) (h : TRow w g []) :
    Calls Try.prog 8 #[.slice (some ⟨g, 0, none⟩) 0 cap, .int .i64 1] w (Marked 0 g w) := by
  have HT := Lib.hid h
  clear h
  go_enter Try.func8, Try.ntmps8
  go_wp2_with fail
  refine wp_loop_rounds 1 ?_
  rw [rounds_succ]
  go_wp2_with fail
  go_ret
  exact ⟨rfl, HT.out, Els.refl _ _⟩
set_option maxRecDepth 100000 in
theorem mkS1 (x : ByteArray) (g cap : Nat) (w : World) (h : TRow w g [x]) :
    Calls Try.prog 8 #[.slice (some ⟨g, 0, none⟩) 1 cap, .int .i64 1] w (Marked 1 g w) := by
  have HT := Lib.hid h
  clear h
  go_enter Try.func8, Try.ntmps8
  go_wp2_with fail
  go_loopg [1, 5] 1 (fun gk k i wr => ∃ m : Nat, m ≤ 1 ∧ gk = 1 - m ∧ i = .int .i64 m ∧ k = .int .i64 ((m + 1 : Nat) : Int) ∧ TRow wr g (if m = 0 then [x] else [mkT 1]) ∧ Els g w wr)
  case atStart => exact ⟨0, by omega, rfl, rfl, rfl, HT.out, Els.refl _ _⟩
  case round =>
    clear HT
    obtain ⟨m, hm, rfl, rfl, rfl, ht, he⟩ := hrel
    have HT := Lib.hid ht
    have HE := Lib.hid he
    clear ht he
    rcases (show m = 0 ∨ m = 1 by omega) with rfl | rfl
    · have HT := Lib.hid (show TRow wr g [x] from HT.out)
      have hk0 : (((0 + 1 : Nat) : Int)) = 1 := rfl
      go_wp2_with fail
      refine (laws_markText 1 (by omega) (by omega) _).mono ?_
      rintro e w3 ⟨rfl, hb⟩
      have hT := HT.out.go hb
      have hc := hT.cell (i := 0) (by simp)
      have hf := hT.free 0
      have HT2 := Lib.hid (hT.set (i := 0) (by simp) (mkT 1))
      have HE2 := Lib.hid ((HE.out.trans (Els.of_below hb)).setCell 0 (.string (mkT 1)))
      clear hT hb
      go_wp2_with fail
      go_roundg (1 - (0 + 1))
      case rel => exact ⟨0 + 1, by omega, rfl, by go_num, by go_num, HT2.out, HE2.out⟩
      case measure => omega
    · go_wp2_with fail
      go_ret
      exact ⟨rfl, HT.out, HE.out⟩
set_option maxRecDepth 100000 in
theorem mkS2 (x y : ByteArray) (g cap : Nat) (w : World) (h : TRow w g [x, y]) :
    Calls Try.prog 8 #[.slice (some ⟨g, 0, none⟩) 2 cap, .int .i64 1] w (Marked 2 g w) := by
  have HT := Lib.hid h
  clear h
  go_enter Try.func8, Try.ntmps8
  go_wp2_with fail
  go_loopg [1, 5] 2 (fun gk k i wr => ∃ m : Nat, m ≤ 2 ∧ gk = 2 - m ∧ i = .int .i64 m ∧ k = .int .i64 ((m + 1 : Nat) : Int) ∧ TRow wr g (if m = 0 then [x, y] else if m = 1 then [mkT 1, y] else [mkT 1, mkT 2]) ∧ Els g w wr)
  case atStart => exact ⟨0, by omega, rfl, rfl, rfl, HT.out, Els.refl _ _⟩
  case round =>
    clear HT
    obtain ⟨m, hm, rfl, rfl, rfl, ht, he⟩ := hrel
    have HT := Lib.hid ht
    have HE := Lib.hid he
    clear ht he
    rcases (show m = 0 ∨ m = 1 ∨ m = 2 by omega) with rfl | rfl | rfl
    · have HT := Lib.hid (show TRow wr g [x, y] from HT.out)
      have hk0 : (((0 + 1 : Nat) : Int)) = 1 := rfl
      go_wp2_with fail
      refine (laws_markText 1 (by omega) (by omega) _).mono ?_
      rintro e w3 ⟨rfl, hb⟩
      have hT := HT.out.go hb
      have hc := hT.cell (i := 0) (by simp)
      have hf := hT.free 0
      have HT2 := Lib.hid (hT.set (i := 0) (by simp) (mkT 1))
      have HE2 := Lib.hid ((HE.out.trans (Els.of_below hb)).setCell 0 (.string (mkT 1)))
      clear hT hb
      go_wp2_with fail
      go_roundg (2 - (0 + 1))
      case rel => exact ⟨0 + 1, by omega, rfl, by go_num, by go_num, HT2.out, HE2.out⟩
      case measure => omega
    · have HT := Lib.hid (show TRow wr g [mkT 1, y] from HT.out)
      have hk1 : (((1 + 1 : Nat) : Int)) = 2 := rfl
      go_wp2_with fail
      refine (laws_markText 2 (by omega) (by omega) _).mono ?_
      rintro e w3 ⟨rfl, hb⟩
      have hT := HT.out.go hb
      have hc := hT.cell (i := 1) (by simp)
      have hf := hT.free 1
      have HT2 := Lib.hid (hT.set (i := 1) (by simp) (mkT 2))
      have HE2 := Lib.hid ((HE.out.trans (Els.of_below hb)).setCell 1 (.string (mkT 2)))
      clear hT hb
      go_wp2_with fail
      go_roundg (2 - (1 + 1))
      case rel => exact ⟨1 + 1, by omega, rfl, by go_num, by go_num, HT2.out, HE2.out⟩
      case measure => omega
    · go_wp2_with fail
      go_ret
      exact ⟨rfl, HT.out, HE.out⟩
theorem laws_markStringS (l : List ByteArray) (hl : l.length ≤ 2) (g cap : Nat) (w : World) (h : TRow w g l) :
    Calls Try.prog 8 #[.slice (some ⟨g, 0, none⟩) l.length cap, .int .i64 1] w (Marked l.length g w) := by
  match l, hl with
  | [], _ => exact mkS0 g cap w h
  | [x], _ => exact mkS1 x g cap w h
  | [x, y], _ => exact mkS2 x y g cap w h
set_option maxRecDepth 100000 in
theorem hdS0 (g cap : Nat) (w : World) (h : TRow w g (marks 0)) :
    Calls Try.prog 9 #[.slice (some ⟨g, 0, none⟩) 0 cap, .int .i64 1] w fun e w' => e = .returned (.int .i64 ((0 + 1 : Nat) : Int)) ∧ Below w.heap.size w w' := by
  clear h
  go_enter Try.func9, Try.ntmps9
  go_wp2_with fail
  refine wp_loop_rounds 1 ?_
  rw [rounds_succ]
  go_wp2_with fail
  go_ret
  exact ⟨rfl, Below.refl _ _⟩
set_option maxRecDepth 100000 in
theorem hdS1 (g cap : Nat) (w : World) (h : TRow w g (marks 1)) :
    Calls Try.prog 9 #[.slice (some ⟨g, 0, none⟩) 1 cap, .int .i64 1] w fun e w' => e = .returned (.int .i64 ((1 + 1 : Nat) : Int)) ∧ Below w.heap.size w w' := by
  have H0 := Lib.hid (show w.cell? ⟨g, 0, none⟩ = some (.string (mkT 1)) from h.cell (i := 0) (by decide))
  clear h
  go_enter Try.func9, Try.ntmps9
  go_wp2_with fail
  go_loopg [1, 5] 1 (fun gk k i wr => ∃ m : Nat, m ≤ 1 ∧ gk = 1 - m ∧ i = .int .i64 m ∧ k = .int .i64 ((m + 1 : Nat) : Int) ∧ Below w.heap.size w wr)
  case atStart => exact ⟨0, by omega, rfl, rfl, rfl, Below.refl _ _⟩
  case round =>
    obtain ⟨m, hm, rfl, rfl, rfl, hb⟩ := hrel
    have HB := Lib.hid hb
    clear hb
    rcases (show m = 0 ∨ m = 1 by omega) with rfl | rfl
    · go_wp2_with fail
      refine wp_region_held_drew (S := (fun w' => w'.cell? ⟨g, 0, none⟩ = some (.string (mkT 1)) ∧ Below w.heap.size w w')) (by kernel_rfl) ⟨cell_go H0.out HB.out.drew, HB.out.drew⟩ (fun hH0 => ?_)
      refine wpAnyH_take (i := 0) (v := .slice (some ⟨g, 0, none⟩) 1 cap) rfl (by kernel_rfl) (by kernel_rfl) (by kernel_rfl) (fun _ _ _ h => h) (Or.inl ⟨by rfl, by intro w hw; clear hw; go_simp⟩) hH0 ?_
      simp only [Act.put, List.setIfInBounds_toArray, List.set_cons_zero, List.set_cons_succ, List.getElem_toArray, List.getElem_cons_succ, List.getElem_cons_zero, getElem?_pos]
      refine wpAnyH_take (i := 1) (v := .int .i64 0) rfl (by kernel_rfl) (by kernel_rfl) (by kernel_rfl) (fun _ _ _ h => h) (Or.inl ⟨by rfl, by intro w hw; clear hw; go_simp⟩) hH0 ?_
      simp only [Act.put, List.setIfInBounds_toArray, List.set_cons_zero, List.set_cons_succ, List.getElem_toArray, List.getElem_cons_succ, List.getElem_cons_zero, getElem?_pos]
      refine wpAnyH_take (i := 2) (v := .pointer (some ⟨g, 0, none⟩)) rfl (by kernel_rfl) (by kernel_rfl) (by kernel_rfl) (fun _ _ _ h => h) (Or.inl ⟨by rfl, by intro w hw; clear hw; go_simp⟩) hH0 ?_
      simp only [Act.put, List.setIfInBounds_toArray, List.set_cons_zero, List.set_cons_succ, List.getElem_toArray, List.getElem_cons_succ, List.getElem_cons_zero, getElem?_pos]
      refine wpAnyH_take (i := 3) (v := .string (mkT 1)) rfl (by kernel_rfl) (by kernel_rfl) (by kernel_rfl) (fun _ _ _ h => h) (Or.inl ⟨by rfl, by intro w hw; have hc := hw.1; clear hw; go_simp⟩) hH0 ?_
      simp only [Act.put, List.setIfInBounds_toArray, List.set_cons_zero, List.set_cons_succ, List.getElem_toArray, List.getElem_cons_succ, List.getElem_cons_zero, getElem?_pos]
      refine wpAnyH_take (i := 4) (v := .int .i64 ((0 + 1 : Nat) : Int)) rfl (by kernel_rfl) (by kernel_rfl) (by kernel_rfl) (fun _ _ _ h => h) (Or.inl ⟨by rfl, by intro w hw; clear hw; go_simp⟩) hH0 ?_
      simp only [Act.put, List.setIfInBounds_toArray, List.set_cons_zero, List.set_cons_succ, List.getElem_toArray, List.getElem_cons_succ, List.getElem_cons_zero, getElem?_pos]
      refine wpAnyH_ready (rs := [5]) (by kernel_rfl) (by simp) (AllReadyH.cons rfl (fun K hK => ?_) AllReadyH.nil)
      refine callOp (by rfl) (by go_simp) ((laws_markText 1 (by omega) (by omega) _).mono ?_)
      rintro e w11 ⟨rfl, hb11⟩
      refine ⟨_, rfl, hK.out _ _ ⟨cell_go hH0.1 hb11, bgo hH0.2 hb11⟩ (fun hH1 => ?_)⟩
      clear hK K
      simp only [Act.put, List.setIfInBounds_toArray, List.set_cons_zero, List.set_cons_succ, List.getElem_toArray, List.getElem_cons_succ, List.getElem_cons_zero, getElem?_pos]
      refine wpAnyH_take (i := 6) (v := .bool false) rfl (by kernel_rfl) (by kernel_rfl) (by kernel_rfl) (fun _ _ _ h => h) (Or.inl ⟨by rfl, by intro w hw; clear hw; go_simp⟩) hH1 ?_
      simp only [Act.put, List.setIfInBounds_toArray, List.set_cons_zero, List.set_cons_succ, List.getElem_toArray, List.getElem_cons_succ, List.getElem_cons_zero, getElem?_pos]
      refine wpAnyH_done (by kernel_rfl) ?_ _
      go_wp2_with fail
      go_roundg (1 - (0 + 1))
      case rel => exact ⟨0 + 1, by omega, rfl, by go_num, by go_num, hH1.2⟩
      case measure => omega
    · go_wp2_with fail
      go_ret
      exact ⟨rfl, HB.out⟩
set_option maxRecDepth 100000 in
theorem hdS2 (g cap : Nat) (w : World) (h : TRow w g (marks 2)) :
    Calls Try.prog 9 #[.slice (some ⟨g, 0, none⟩) 2 cap, .int .i64 1] w fun e w' => e = .returned (.int .i64 ((2 + 1 : Nat) : Int)) ∧ Below w.heap.size w w' := by
  have H0 := Lib.hid (show w.cell? ⟨g, 0, none⟩ = some (.string (mkT 1)) from h.cell (i := 0) (by decide))
  have H1 := Lib.hid (show w.cell? ⟨g, 1, none⟩ = some (.string (mkT 2)) from h.cell (i := 1) (by decide))
  clear h
  go_enter Try.func9, Try.ntmps9
  go_wp2_with fail
  go_loopg [1, 5] 2 (fun gk k i wr => ∃ m : Nat, m ≤ 2 ∧ gk = 2 - m ∧ i = .int .i64 m ∧ k = .int .i64 ((m + 1 : Nat) : Int) ∧ Below w.heap.size w wr)
  case atStart => exact ⟨0, by omega, rfl, rfl, rfl, Below.refl _ _⟩
  case round =>
    obtain ⟨m, hm, rfl, rfl, rfl, hb⟩ := hrel
    have HB := Lib.hid hb
    clear hb
    rcases (show m = 0 ∨ m = 1 ∨ m = 2 by omega) with rfl | rfl | rfl
    · go_wp2_with fail
      refine wp_region_held_drew (S := (fun w' => w'.cell? ⟨g, 0, none⟩ = some (.string (mkT 1)) ∧ Below w.heap.size w w')) (by kernel_rfl) ⟨cell_go H0.out HB.out.drew, HB.out.drew⟩ (fun hH0 => ?_)
      refine wpAnyH_take (i := 0) (v := .slice (some ⟨g, 0, none⟩) 2 cap) rfl (by kernel_rfl) (by kernel_rfl) (by kernel_rfl) (fun _ _ _ h => h) (Or.inl ⟨by rfl, by intro w hw; clear hw; go_simp⟩) hH0 ?_
      simp only [Act.put, List.setIfInBounds_toArray, List.set_cons_zero, List.set_cons_succ, List.getElem_toArray, List.getElem_cons_succ, List.getElem_cons_zero, getElem?_pos]
      refine wpAnyH_take (i := 1) (v := .int .i64 0) rfl (by kernel_rfl) (by kernel_rfl) (by kernel_rfl) (fun _ _ _ h => h) (Or.inl ⟨by rfl, by intro w hw; clear hw; go_simp⟩) hH0 ?_
      simp only [Act.put, List.setIfInBounds_toArray, List.set_cons_zero, List.set_cons_succ, List.getElem_toArray, List.getElem_cons_succ, List.getElem_cons_zero, getElem?_pos]
      refine wpAnyH_take (i := 2) (v := .pointer (some ⟨g, 0, none⟩)) rfl (by kernel_rfl) (by kernel_rfl) (by kernel_rfl) (fun _ _ _ h => h) (Or.inl ⟨by rfl, by intro w hw; clear hw; go_simp⟩) hH0 ?_
      simp only [Act.put, List.setIfInBounds_toArray, List.set_cons_zero, List.set_cons_succ, List.getElem_toArray, List.getElem_cons_succ, List.getElem_cons_zero, getElem?_pos]
      refine wpAnyH_take (i := 3) (v := .string (mkT 1)) rfl (by kernel_rfl) (by kernel_rfl) (by kernel_rfl) (fun _ _ _ h => h) (Or.inl ⟨by rfl, by intro w hw; have hc := hw.1; clear hw; go_simp⟩) hH0 ?_
      simp only [Act.put, List.setIfInBounds_toArray, List.set_cons_zero, List.set_cons_succ, List.getElem_toArray, List.getElem_cons_succ, List.getElem_cons_zero, getElem?_pos]
      refine wpAnyH_take (i := 4) (v := .int .i64 ((0 + 1 : Nat) : Int)) rfl (by kernel_rfl) (by kernel_rfl) (by kernel_rfl) (fun _ _ _ h => h) (Or.inl ⟨by rfl, by intro w hw; clear hw; go_simp⟩) hH0 ?_
      simp only [Act.put, List.setIfInBounds_toArray, List.set_cons_zero, List.set_cons_succ, List.getElem_toArray, List.getElem_cons_succ, List.getElem_cons_zero, getElem?_pos]
      refine wpAnyH_ready (rs := [5]) (by kernel_rfl) (by simp) (AllReadyH.cons rfl (fun K hK => ?_) AllReadyH.nil)
      refine callOp (by rfl) (by go_simp) ((laws_markText 1 (by omega) (by omega) _).mono ?_)
      rintro e w11 ⟨rfl, hb11⟩
      refine ⟨_, rfl, hK.out _ _ ⟨cell_go hH0.1 hb11, bgo hH0.2 hb11⟩ (fun hH1 => ?_)⟩
      clear hK K
      simp only [Act.put, List.setIfInBounds_toArray, List.set_cons_zero, List.set_cons_succ, List.getElem_toArray, List.getElem_cons_succ, List.getElem_cons_zero, getElem?_pos]
      refine wpAnyH_take (i := 6) (v := .bool false) rfl (by kernel_rfl) (by kernel_rfl) (by kernel_rfl) (fun _ _ _ h => h) (Or.inl ⟨by rfl, by intro w hw; clear hw; go_simp⟩) hH1 ?_
      simp only [Act.put, List.setIfInBounds_toArray, List.set_cons_zero, List.set_cons_succ, List.getElem_toArray, List.getElem_cons_succ, List.getElem_cons_zero, getElem?_pos]
      refine wpAnyH_done (by kernel_rfl) ?_ _
      go_wp2_with fail
      go_roundg (2 - (0 + 1))
      case rel => exact ⟨0 + 1, by omega, rfl, by go_num, by go_num, hH1.2⟩
      case measure => omega
    · go_wp2_with fail
      refine wp_region_held_drew (S := (fun w' => w'.cell? ⟨g, 1, none⟩ = some (.string (mkT 2)) ∧ Below w.heap.size w w')) (by kernel_rfl) ⟨cell_go H1.out HB.out.drew, HB.out.drew⟩ (fun hH0 => ?_)
      refine wpAnyH_take (i := 0) (v := .slice (some ⟨g, 0, none⟩) 2 cap) rfl (by kernel_rfl) (by kernel_rfl) (by kernel_rfl) (fun _ _ _ h => h) (Or.inl ⟨by rfl, by intro w hw; clear hw; go_simp⟩) hH0 ?_
      simp only [Act.put, List.setIfInBounds_toArray, List.set_cons_zero, List.set_cons_succ, List.getElem_toArray, List.getElem_cons_succ, List.getElem_cons_zero, getElem?_pos]
      refine wpAnyH_take (i := 1) (v := .int .i64 1) rfl (by kernel_rfl) (by kernel_rfl) (by kernel_rfl) (fun _ _ _ h => h) (Or.inl ⟨by rfl, by intro w hw; clear hw; go_simp⟩) hH0 ?_
      simp only [Act.put, List.setIfInBounds_toArray, List.set_cons_zero, List.set_cons_succ, List.getElem_toArray, List.getElem_cons_succ, List.getElem_cons_zero, getElem?_pos]
      refine wpAnyH_take (i := 2) (v := .pointer (some ⟨g, 1, none⟩)) rfl (by kernel_rfl) (by kernel_rfl) (by kernel_rfl) (fun _ _ _ h => h) (Or.inl ⟨by rfl, by intro w hw; clear hw; go_simp⟩) hH0 ?_
      simp only [Act.put, List.setIfInBounds_toArray, List.set_cons_zero, List.set_cons_succ, List.getElem_toArray, List.getElem_cons_succ, List.getElem_cons_zero, getElem?_pos]
      refine wpAnyH_take (i := 3) (v := .string (mkT 2)) rfl (by kernel_rfl) (by kernel_rfl) (by kernel_rfl) (fun _ _ _ h => h) (Or.inl ⟨by rfl, by intro w hw; have hc := hw.1; clear hw; go_simp⟩) hH0 ?_
      simp only [Act.put, List.setIfInBounds_toArray, List.set_cons_zero, List.set_cons_succ, List.getElem_toArray, List.getElem_cons_succ, List.getElem_cons_zero, getElem?_pos]
      refine wpAnyH_take (i := 4) (v := .int .i64 ((1 + 1 : Nat) : Int)) rfl (by kernel_rfl) (by kernel_rfl) (by kernel_rfl) (fun _ _ _ h => h) (Or.inl ⟨by rfl, by intro w hw; clear hw; go_simp⟩) hH0 ?_
      simp only [Act.put, List.setIfInBounds_toArray, List.set_cons_zero, List.set_cons_succ, List.getElem_toArray, List.getElem_cons_succ, List.getElem_cons_zero, getElem?_pos]
      refine wpAnyH_ready (rs := [5]) (by kernel_rfl) (by simp) (AllReadyH.cons rfl (fun K hK => ?_) AllReadyH.nil)
      refine callOp (by rfl) (by go_simp) ((laws_markText 2 (by omega) (by omega) _).mono ?_)
      rintro e w11 ⟨rfl, hb11⟩
      refine ⟨_, rfl, hK.out _ _ ⟨cell_go hH0.1 hb11, bgo hH0.2 hb11⟩ (fun hH1 => ?_)⟩
      clear hK K
      simp only [Act.put, List.setIfInBounds_toArray, List.set_cons_zero, List.set_cons_succ, List.getElem_toArray, List.getElem_cons_succ, List.getElem_cons_zero, getElem?_pos]
      refine wpAnyH_take (i := 6) (v := .bool false) rfl (by kernel_rfl) (by kernel_rfl) (by kernel_rfl) (fun _ _ _ h => h) (Or.inl ⟨by rfl, by intro w hw; clear hw; go_simp⟩) hH1 ?_
      simp only [Act.put, List.setIfInBounds_toArray, List.set_cons_zero, List.set_cons_succ, List.getElem_toArray, List.getElem_cons_succ, List.getElem_cons_zero, getElem?_pos]
      refine wpAnyH_done (by kernel_rfl) ?_ _
      go_wp2_with fail
      go_roundg (2 - (1 + 1))
      case rel => exact ⟨1 + 1, by omega, rfl, by go_num, by go_num, hH1.2⟩
      case measure => omega
    · go_wp2_with fail
      go_ret
      exact ⟨rfl, HB.out⟩
theorem laws_heldStringS (n : Nat) (hn : n ≤ 2) (g cap : Nat) (w : World) (h : TRow w g (marks n)) :
    Calls Try.prog 9 #[.slice (some ⟨g, 0, none⟩) n cap, .int .i64 1] w fun e w' => e = .returned (.int .i64 ((n + 1 : Nat) : Int)) ∧ Below w.heap.size w w' := by
  rcases (show n = 0 ∨ n = 1 ∨ n = 2 by omega) with rfl | rfl | rfl
  · exact hdS0 g cap w h
  · exact hdS1 g cap w h
  · exact hdS2 g cap w h
end Go.Proofs.Ytmajmkggbgilbaa
