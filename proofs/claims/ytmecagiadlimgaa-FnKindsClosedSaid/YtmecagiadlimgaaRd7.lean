/-
  Contracts of the draws of transformers, second part: spoilt texts.
-/
import Derived.Test.YtmecagiadlimgaaRd6
namespace Go.Proofs.Ytmecagiadlimgaa
open Go.RowKit Go.DC
set_option maxHeartbeats 2000000
set_option linter.unusedVariables false
set_option linter.unusedSimpArgs false
section
variable {P : Program} {ops : Array Oper} {Q : Exit → Act → World → Prop} {a : Act} {w : World} {o : Oper} {K : Act → World → Prop}
/-- An operation makes a value and, it may be, a block. -/
theorem makeOp {v : Value} {w' : World} (hw : Region.wanted o (yielded ops a.tmps) = true) (hrun : (execOp a.eval o).run P w = .ok (.value v) w')
    (k : K (a.put o.dst v) w') : if Region.wanted o (yielded ops a.tmps) = true then Oper.wp P o a w K Q else K (a.put o.dst undef) w := by
  rw [if_pos hw]
  unfold Oper.wp
  rw [hrun]
  exact k
end
theorem ex_low (s : ByteArray) (k : Nat) (h : k ≤ s.size) : (s.extract 0 k).size = k := by rw [ByteArray.size_extract]; omega
theorem ex_high (s : ByteArray) (k : Nat) (h : k ≤ s.size) : (s.extract k s.size).size = s.size - k := by rw [ByteArray.size_extract]; omega
/-- The letters that spoil a text. -/
def spoil : List ByteArray := [⟨#[48]⟩, ⟨#[102]⟩, ⟨#[103]⟩, ⟨#[53]⟩]
set_option maxRecDepth 100000 in
theorem spec_l3Bad (b p : Nat) (s : ByteArray) (w : World) (hr : Rd w b p) (hp : p ≤ 999000) (hs : s.size = 16) :
    Calls Try.prog 125 #[.pointer (some ⟨b, 0, none⟩), .string s] w (DrewT b p 3 (fun t => t.size ≤ 20) w) := by
  have hs' : (1 : Int) ≤ s.size := by omega
  have ha0 := fun w => run_string_add_sum (P := Try.prog) w s ⟨#[48]⟩ (show s.size + 1 ≤ _ by omega)
  have Hz0 := Lib.hid (show (s ++ (⟨#[48]⟩ : ByteArray)).size ≤ 20 by rw [ByteArray.size_append]; show s.size + 1 ≤ 20; omega)
  have Hz1 := Lib.hid (show (s.extract 1 s.size).size ≤ 20 by rw [ByteArray.size_extract]; omega)
  have Hz3 := Lib.hid (show s.size ≤ 20 by omega)
  have Hs := Lib.hid hs
  clear hs
  go_enter Try.func125, Try.ntmps125
  go_wp2_with fail
  refine (spec_pick b p 40 _ hr (by omega) (by omega) (by omega)).mono ?_
  rintro e w1 ⟨kind, hk0, hk1, rfl, hR, hE⟩
  have HR := Lib.hid hR
  have HE := Lib.hid hE
  clear hR hE hr
  go_wp2_with fail
  · exact bodyPost_ret (results_tmp rfl _ _ _) rfl ⟨_, p + 1, Hz0.out, by omega, rfl, HR.out, HE.out⟩
  · exact bodyPost_ret (results_tmp rfl _ _ _) rfl ⟨_, p + 1, Hz1.out, by omega, rfl, HR.out, HE.out⟩
  · refine (spec_pick b (p + 1) 16 _ HR.out (by omega) (by omega) (by omega)).mono ?_
    rintro e w2 ⟨k, hc0, hc1, rfl, hR2, hE2⟩
    obtain ⟨k, rfl⟩ := Int.eq_ofNat_of_zero_le hc0
    have hR3 := hR2.below (ba1 w2 (.cells #[.string ⟨#[48]⟩, .string ⟨#[102]⟩, .string ⟨#[103]⟩, .string ⟨#[53]⟩] 9))
    have HR2 := Lib.hid hR2
    have HE2 := Lib.hid (HE.out.trans hE2)
    clear hR2 hE2 HR HE hR3
    go_wp2_with fail
    refine wp_region_held_drew (S := fun w' => ∃ q, q ≤ p + 3 ∧ Rd w' b q ∧ Els b w w') (by kernel_rfl) ⟨p + 2, by omega, HR2.out, HE2.out.drewN 1⟩ (fun hH => ?_)
    refine wpAnyH_take (i := 0) (v := .string s) rfl (by kernel_rfl) (by kernel_rfl) (by kernel_rfl) (fun _ _ _ h => h) (Or.inl ⟨by rfl, by intro w hw; clear hw; go_simp⟩) hH ?_
    simp only [Act.put, List.setIfInBounds_toArray, List.set_cons_zero, List.set_cons_succ, List.getElem_toArray, List.getElem_cons_succ, List.getElem_cons_zero, getElem?_pos]
    refine wpAnyH_take (i := 1) (v := .int .i64 k) rfl (by kernel_rfl) (by kernel_rfl) (by kernel_rfl) (fun _ _ _ h => h) (Or.inl ⟨by rfl, by intro w hw; clear hw; go_simp⟩) hH ?_
    simp only [Act.put, List.setIfInBounds_toArray, List.set_cons_zero, List.set_cons_succ, List.getElem_toArray, List.getElem_cons_succ, List.getElem_cons_zero, getElem?_pos]
    refine wpAnyH_take (i := 2) (v := .string (s.extract 0 k)) rfl (by kernel_rfl) (by kernel_rfl) (by kernel_rfl) (fun _ _ _ h => h) (Or.inl ⟨by rfl, by intro w hw; clear hw; go_simp; exact fun h => absurd h (by have := Hs.out; omega)⟩) hH ?_
    simp only [Act.put, List.setIfInBounds_toArray, List.set_cons_zero, List.set_cons_succ, List.getElem_toArray, List.getElem_cons_succ, List.getElem_cons_zero, getElem?_pos]
    refine wpAnyH_take (i := 3) (v := .pointer (some ⟨b, 0, none⟩)) rfl (by kernel_rfl) (by kernel_rfl) (by kernel_rfl) (fun _ _ _ h => h) (Or.inl ⟨by rfl, by intro w hw; clear hw; go_simp⟩) hH ?_
    simp only [Act.put, List.setIfInBounds_toArray, List.set_cons_zero, List.set_cons_succ, List.getElem_toArray, List.getElem_cons_succ, List.getElem_cons_zero, getElem?_pos]
    refine wpAnyH_take (i := 7) (v := .string s) rfl (by kernel_rfl) (by kernel_rfl) (by kernel_rfl) (fun _ _ _ h => h) (Or.inl ⟨by rfl, by intro w hw; clear hw; go_simp⟩) hH ?_
    simp only [Act.put, List.setIfInBounds_toArray, List.set_cons_zero, List.set_cons_succ, List.getElem_toArray, List.getElem_cons_succ, List.getElem_cons_zero, getElem?_pos]
    refine wpAnyH_take (i := 8) (v := .int .i64 k) rfl (by kernel_rfl) (by kernel_rfl) (by kernel_rfl) (fun _ _ _ h => h) (Or.inl ⟨by rfl, by intro w hw; clear hw; go_simp⟩) hH ?_
    simp only [Act.put, List.setIfInBounds_toArray, List.set_cons_zero, List.set_cons_succ, List.getElem_toArray, List.getElem_cons_succ, List.getElem_cons_zero, getElem?_pos]
    refine wpAnyH_take (i := 9) (v := .int .i64 ((k : Int) + 1)) rfl (by kernel_rfl) (by kernel_rfl) (by kernel_rfl) (fun _ _ _ h => h) (Or.inl ⟨by rfl, by intro w hw; clear hw; go_simp; exact IntWalk.i64_in _ (by omega)⟩) hH ?_
    simp only [Act.put, List.setIfInBounds_toArray, List.set_cons_zero, List.set_cons_succ, List.getElem_toArray, List.getElem_cons_succ, List.getElem_cons_zero, getElem?_pos]
    refine wpAnyH_take (i := 10) (v := .string (s.extract (k + 1) s.size)) rfl (by kernel_rfl) (by kernel_rfl) (by kernel_rfl) (fun _ _ _ h => h) (Or.inl ⟨by rfl, by intro w hw; clear hw; go_simp; exact fun h => absurd (h (by omega)) (by have := Hs.out; omega)⟩) hH ?_
    simp only [Act.put, List.setIfInBounds_toArray, List.set_cons_zero, List.set_cons_succ, List.getElem_toArray, List.getElem_cons_succ, List.getElem_cons_zero, getElem?_pos]
    have hb := HR2.out.lt
    have HN := Lib.hid (show Texts (w2.drew.alloc (.cells #[.string ⟨#[48]⟩, .string ⟨#[102]⟩, .string ⟨#[103]⟩, .string ⟨#[53]⟩] 9)) w2.drew.heap.size 4 (tx spoil) from Texts.new w2.drew 9 spoil)
    have HR3 := Lib.hid (show Rd (w2.drew.alloc (.cells #[.string ⟨#[48]⟩, .string ⟨#[102]⟩, .string ⟨#[103]⟩, .string ⟨#[53]⟩] 9)) b (p + 1 + 1) from Rd.below (w := w2.drew) HR2.out (ba1 _ _))
    have HE3 := Lib.hid (show Els b w (w2.drew.alloc (.cells #[.string ⟨#[48]⟩, .string ⟨#[102]⟩, .string ⟨#[103]⟩, .string ⟨#[53]⟩] 9)) from (HE2.out.drewN 1).alloc _)
    refine wpAnyH_ready (rs := [4]) (by kernel_rfl) (by simp) (AllReadyH.cons rfl (fun K hK => ?_) AllReadyH.nil)
    refine makeOp (v := .slice (some ⟨w2.drew.heap.size, 0, none⟩) 4 4) (w' := w2.drew.alloc (.cells #[.string ⟨#[48]⟩, .string ⟨#[102]⟩, .string ⟨#[103]⟩, .string ⟨#[53]⟩] 9)) (by rfl) (by go_simp) ?_
    refine hK.out _ _ ⟨p + 2, by omega, HR3.out, HE3.out⟩ (fun hH2 => ?_)
    clear hK K
    simp only [Act.put, List.setIfInBounds_toArray, List.set_cons_zero, List.set_cons_succ, List.getElem_toArray, List.getElem_cons_succ, List.getElem_cons_zero, getElem?_pos]
    generalize hw3 : w2.drew.alloc (.cells #[.string ⟨#[48]⟩, .string ⟨#[102]⟩, .string ⟨#[103]⟩, .string ⟨#[53]⟩] 9) = w3 at *
    have hc4 := Lib.hid (show w2.drew.heap.size ≠ b from fun e => by have : b < w2.drew.heap.size := hb; omega)
    generalize w2.drew.heap.size = c at *
    refine wpAnyH_ready (rs := [5]) (by kernel_rfl) (by simp) (AllReadyH.cons rfl (fun K hK => ?_) AllReadyH.nil)
    refine callOp (by rfl) (by go_simp) ((spec_of b (p + 2) c 4 1 (tx spoil) w3 HR3.out (by omega) (by omega) (by omega) HN.out hc4.out (tx_size (l := spoil) (by decide))).mono ?_)
    rintro e w4 ⟨u, hu, rfl, hR4, hE4⟩
    have HR4 := Lib.hid hR4
    have HE4 := Lib.hid (HE3.out.trans hE4)
    have Hu := Lib.hid hu
    clear hR4 hE4 hu
    refine ⟨_, rfl, hK.out _ _ ⟨p + 3, by omega, HR4.out, HE4.out⟩ (fun hH3 => ?_)⟩
    clear hK K
    simp only [Act.put, List.setIfInBounds_toArray, List.set_cons_zero, List.set_cons_succ, List.getElem_toArray, List.getElem_cons_succ, List.getElem_cons_zero, getElem?_pos]
    have Hl := Lib.hid (ex_low s k (by have := Hs.out; omega))
    have Hh := Lib.hid (ex_high s (k + 1) (by have := Hs.out; omega))
    have Hz4 := Lib.hid (show ((s.extract 0 k ++ u) ++ s.extract (k + 1) s.size).size ≤ 20 by rw [ByteArray.size_append, ByteArray.size_append, Hl.out, Hh.out]; have := Hs.out; have := Hu.out; omega)
    refine wpAnyH_take (i := 6) (v := .string (s.extract 0 k ++ u)) rfl (by kernel_rfl) (by kernel_rfl) (by kernel_rfl) (fun _ _ _ h => h) (Or.inl ⟨by rfl, by intro w hw; clear hw; go_simp; have := Hs.out; have := Hu.out; omega⟩) hH3 ?_
    simp only [Act.put, List.setIfInBounds_toArray, List.set_cons_zero, List.set_cons_succ, List.getElem_toArray, List.getElem_cons_succ, List.getElem_cons_zero, getElem?_pos]
    refine wpAnyH_take (i := 11) (v := .string ((s.extract 0 k ++ u) ++ s.extract (k + 1) s.size)) rfl (by kernel_rfl) (by kernel_rfl) (by kernel_rfl) (fun _ _ _ h => h) (Or.inl ⟨by rfl, by intro w hw; clear hw; go_simp; have := Hs.out; have := Hu.out; omega⟩) hH3 ?_
    simp only [Act.put, List.setIfInBounds_toArray, List.set_cons_zero, List.set_cons_succ, List.getElem_toArray, List.getElem_cons_succ, List.getElem_cons_zero, getElem?_pos]
    refine wpAnyH_take (i := 12) (v := .string ((s.extract 0 k ++ u) ++ s.extract (k + 1) s.size)) rfl (by kernel_rfl) (by kernel_rfl) (by kernel_rfl) (fun _ _ _ h => h) (Or.inl ⟨by rfl, by intro w hw; clear hw; go_simp⟩) hH3 ?_
    simp only [Act.put, List.setIfInBounds_toArray, List.set_cons_zero, List.set_cons_succ, List.getElem_toArray, List.getElem_cons_succ, List.getElem_cons_zero, getElem?_pos]
    refine wpAnyH_done (by kernel_rfl) ?_ _
    go_wp2_with fail
    exact bodyPost_ret (results_tmp rfl _ _ _) rfl ⟨_, p + 3, Hz4.out, by omega, rfl, HR4.out, HE4.out⟩
  · exact bodyPost_ret (results_tmp rfl _ _ _) rfl ⟨_, p + 1, Hz3.out, by omega, rfl, HR.out, HE.out⟩
end Go.Proofs.Ytmecagiadlimgaa
