/-
  For every input the law FnContractText returns true: a contract has one statement more than its parts, which are contracts, and exactly contracts are shown. No condition.
-/
import Derived.Test.YtfajaikkagmkeaaRows
import Derived.Test.YtfajaikkagmkeaaA16
import Derived.Test.YtfajaikkagmkeaaC8
import Derived.Test.YtfajaikkagmkeaaD8
import Derived.Test.YtfajaikkagmkeaaRe
import Derived.Test.YtfajaikkagmkeaaG3
import Derived.WalkKit
import Derived.ProofKit
import Derived.OpenShut
import Derived.ShutString
import Derived.ChangeOld
import Derived.Below
namespace Go.Proofs.Ytfajaikkagmkeaa.fnContractText
open Go.ChangeShapes Go.WideShapes Go.ChangeAt Go.RowKit Go.DC
open Go.ChangeMaps (open_string shut_string)
set_option linter.unusedVariables false
set_option linter.unusedSimpArgs false
set_option maxHeartbeats 400000
theorem own : ownKnob Try.prog.godebug = none := by kernel_rfl
theorem laidOut : laidOutB Try.prog = true := by kernel_rfl
theorem cnt_any {t : Ct} (h : t.wf = true) : one anyOps t.o = 1 := by
  obtain ⟨k, hs, _⟩ := wf_shp h
  have h8 : ∀ n : Fin 256, (shp (UInt8.ofNat n.val)).isSome = true → one anyOps (UInt8.ofNat n.val) = 1 := by decide +kernel
  have := h8 ⟨t.o.toNat, t.o.toNat_lt⟩
  simp at this
  exact this (by rw [hs]; rfl)
set_option maxHeartbeats 4000000 in
set_option maxRecDepth 100000 in
theorem walk (a0 : Option Addr) (len0 cap0 : Nat) (z0 : List Int) (w : World) (w0 : IsRow .u8 w a0 len0 cap0 z0) :
    Calls Try.prog 10 #[.slice a0 len0 cap0] w fun e w' => e = .returned (.bool true) ∧ Below w.heap.size w w' := by
  by_cases hl : (1048576 : Int) < len0
  · clear w0
    go_enter Try.func10, Try.ntmps10
    go_wp2_with fail
    go_ret
    exact ⟨rfl, Below.refl _ _⟩
  have H0 := Lib.hid w0
  clear w0
  go_enter Try.func10, Try.ntmps10
  go_wp2_with fail
  refine (spec_DrawPartsOfContract a0 len0 cap0 z0 w H0.out).mono ?_
  rintro e w2 ⟨c, hz, rfl, hB⟩
  have HB := Lib.hid hB
  clear hB H0
  have hm : c.size ≤ maxLen := by unfold maxLen; omega
  have C1 := Lib.hid (fun w => impl_PartsOfContract c w hm)
  have C2 := Lib.hid (fun w => spec_PartsOfContract c w hm)
  have c3 := fun w => impl_SizeOfContract c w hm
  have c4 := fun w => impl_ShowContract c w hm
  have c5 := fun w => spec_SizeOfContract c w hm
  have c6 := fun w => spec_ShowContract c w hm
  have c7 := fun w => impl_ContractValid c w hm
  cases hc : cto c with
  | none =>
    simp only [ctv_none _ _ hc] at c3 c4 c5 c6
    have c7 : ∀ w, Calls Try.prog 14 #[.string c] w fun e w' => e = .returned (.bool false) ∧ Below w.heap.size w w' := fun w => by have h := c7 w; rw [hc] at h; exact h
    have hp := Lib.hid (show partsOf c = [] from ctv_none _ _ hc)
    have C3 := Lib.hid c3
    clear c3
    have C4 := Lib.hid c4
    clear c4
    have C5 := Lib.hid c5
    clear c5
    have C6 := Lib.hid c6
    clear c6
    have C7 := Lib.hid c7
    clear c7
    clear hm
    go_wp2_with fail
    refine (C1.out _).mono ?_
    rintro e w3 ⟨v, rfl, ho, hb⟩
    obtain ⟨g1, cap1, hv, hg, hs⟩ := ho.strs
    rw [hp.out] at hv hs
    have hv' : v = .slice (some ⟨g1, 0, none⟩) 0 cap1 := hv
    subst hv'
    have HB := Lib.hid (bgo HB.out hb)
    clear hv hg hs hb ho
    go_wp2_with fail
    refine (C2.out _).mono ?_
    rintro e w4 ⟨v, rfl, ho, hb⟩
    obtain ⟨g2, cap2, hv, hg, hs⟩ := ho
    rw [hp.out] at hv hs
    have hv' : v = .slice (some ⟨g2, 0, none⟩) 0 cap2 := hv
    subst hv'
    have HB := Lib.hid (bgo HB.out hb)
    clear hv hg hs hb
    (go_wp2_with fail; refine (C3.out _).mono ?_; rintro e w' ⟨rfl, hb⟩; have HB := Lib.hid (bgo HB.out hb); clear hb)
    (go_wp2_with fail; refine (C4.out _).mono ?_; rintro e w' ⟨rfl, hb⟩; have HB := Lib.hid (bgo HB.out hb); clear hb)
    (go_wp2_with fail; refine (C5.out _).mono ?_; rintro e w' ⟨rfl, hb⟩; have HB := Lib.hid (bgo HB.out hb); clear hb)
    (go_wp2_with fail; refine (C6.out _).mono ?_; rintro e w' ⟨rfl, hb⟩; have HB := Lib.hid (bgo HB.out hb); clear hb)
    (go_wp2_with fail; refine (C7.out _).mono ?_; rintro e w' ⟨rfl, hb⟩; have HB := Lib.hid (bgo HB.out hb); clear hb)
    (go_wp2_with fail; refine (C5.out _).mono ?_; rintro e w' ⟨rfl, hb⟩; have HB := Lib.hid (bgo HB.out hb); clear hb)
    (go_wp2_with fail; refine (C6.out _).mono ?_; rintro e w' ⟨rfl, hb⟩; have HB := Lib.hid (bgo HB.out hb); clear hb)
    (go_wp2_with fail; refine (C7.out _).mono ?_; rintro e w' ⟨rfl, hb⟩; have HB := Lib.hid (bgo HB.out hb); clear hb)
    go_wp2_with fail
    go_ret
    exact ⟨rfl, HB.out⟩
  | some t =>
    simp only [ctv_some _ _ hc] at c3 c4 c5 c6
    have c7 : ∀ w, Calls Try.prog 14 #[.string c] w fun e w' => e = .returned (.bool true) ∧ Below w.heap.size w w' := fun w => by have h := c7 w; rw [hc] at h; exact h
    obtain ⟨hcb, hw, h200⟩ := cto_some.1 hc
    have hcn := (cnt_rng anyOps t).1
    have hcn2 := (cnt_rng anyOps t).2
    have hne := bts_ne (sh_pos hw)
    have hn0 : decide (cnt anyOps t < 0) = false := decide_eq_false (by omega)
    cases t with
    | z o d =>
      have hp := Lib.hid (show partsOf c = [] from ctv_some _ _ hc)
      have Hfin := Lib.hid (show cnt anyOps (Ct.z o d) = 1 from cnt_any hw)
      have hsz : (0 : Int) < c.size := by rw [hcb, Ct.bytes_size]; simp [Ct.tx] <;> omega
      have Hne := Lib.hid hne
      clear hne hcb hw h200 hc hm
      generalize bts (sh _) = S at *
      have C3 := Lib.hid c3
      clear c3
      have C4 := Lib.hid c4
      clear c4
      have C5 := Lib.hid c5
      clear c5
      have C6 := Lib.hid c6
      clear c6
      have C7 := Lib.hid c7
      clear c7
      go_wp2_with fail
      refine (C1.out _).mono ?_
      rintro e w3 ⟨v, rfl, ho, hb⟩
      obtain ⟨g1, cap1, hv, hg, hs⟩ := ho.strs
      rw [hp.out] at hv hs
      have hv' : v = .slice (some ⟨g1, 0, none⟩) 0 cap1 := hv
      subst hv'
      have HB := Lib.hid (bgo HB.out hb)
      clear hv hg hs hb ho
      go_wp2_with fail
      refine (C2.out _).mono ?_
      rintro e w4 ⟨v, rfl, ho, hb⟩
      obtain ⟨g2, cap2, hv, hg, hs⟩ := ho
      rw [hp.out] at hv hs
      have hv' : v = .slice (some ⟨g2, 0, none⟩) 0 cap2 := hv
      subst hv'
      have HB := Lib.hid (bgo HB.out hb)
      clear hv hg hs hb
      have HW := Lib.hid (Below.refl w4.heap.size w4)
      (go_wp2_with fail; refine (C3.out _).mono ?_; rintro e w' ⟨rfl, hb⟩; have HB := Lib.hid (bgo HB.out hb); have HW := Lib.hid (bgo HW.out hb); clear hb)
      (go_wp2_with fail; refine (C4.out _).mono ?_; rintro e w' ⟨rfl, hb⟩; have HB := Lib.hid (bgo HB.out hb); have HW := Lib.hid (bgo HW.out hb); clear hb)
      (go_wp2_with fail; refine (C5.out _).mono ?_; rintro e w' ⟨rfl, hb⟩; have HB := Lib.hid (bgo HB.out hb); have HW := Lib.hid (bgo HW.out hb); clear hb)
      (go_wp2_with fail; refine (C6.out _).mono ?_; rintro e w' ⟨rfl, hb⟩; have HB := Lib.hid (bgo HB.out hb); have HW := Lib.hid (bgo HW.out hb); clear hb)
      have hne := Hne.out
      (go_wp2_with fail; refine (C7.out _).mono ?_; rintro e w' ⟨rfl, hb⟩; have HB := Lib.hid (bgo HB.out hb); have HW := Lib.hid (bgo HW.out hb); clear hb)
      clear hne
      go_wp2_with fail
      rw [Hfin.out] at *
      have hsz' : decide ((0 : Int) < c.size) = true := decide_eq_true hsz
      have hsz2 : decide (0 < c.size) = true := decide_eq_true (by omega)
      refine wp_loop_rounds 1 ?_
      rw [rounds_succ]
      go_wp2_with fail
      go_ret
      exact ⟨rfl, HB.out⟩
    | u o d x =>
      have hp := Lib.hid (show partsOf c = [x.bytes] from ctv_some _ _ hc)
      obtain ⟨hs, hd, hxw⟩ := Ct.wf_u hw
      have hxl : x.tx.length + 1 ≤ c.size := by rw [hcb, Ct.bytes_size]; simp [Ct.tx] <;> omega
      have hfin : cnt anyOps (Ct.u o d x) = 1 + cnt anyOps x := by have := cnt_any hw; simp only [Ct.o] at this; simp only [cnt, this]
      have Hfin := Lib.hid hfin
      have hmx : x.bytes.size ≤ maxLen := by rw [Ct.bytes_size]; unfold maxLen; omega
      have Vx := Lib.hid (fun w => show Calls Try.prog 14 #[.string x.bytes] w fun e w' => e = .returned (.bool true) ∧ Below w.heap.size w w' from by have h := impl_ContractValid x.bytes w hmx; rw [cto_bytes hxw (by omega)] at h; exact h)
      have Nx := Lib.hid (fun w => show Calls Try.prog 51 #[.string x.bytes] w fun e w' => e = .returned (.int .i64 (cnt anyOps x)) ∧ Below w.heap.size w w' from by have h := impl_SizeOfContract x.bytes w hmx; rw [ctv_of hxw (by omega)] at h; exact h)
      have hcx := cnt_rng anyOps x
      have hbx : x.bytes.size ≤ 200 := by rw [Ct.bytes_size]; omega
      clear hmx
      have hsz : (x.bytes.size : Int) < c.size := by rw [Ct.bytes_size]; omega
      clear hs hd hfin hxw
      have Hne := Lib.hid hne
      clear hne hcb hw h200 hc hm
      generalize bts (sh _) = S at *
      have C3 := Lib.hid c3
      clear c3
      have C4 := Lib.hid c4
      clear c4
      have C5 := Lib.hid c5
      clear c5
      have C6 := Lib.hid c6
      clear c6
      have C7 := Lib.hid c7
      clear c7
      go_wp2_with fail
      refine (C1.out _).mono ?_
      rintro e w3 ⟨v, rfl, ho, hb⟩
      obtain ⟨g1, cap1, hv, hg, hs⟩ := ho.strs
      rw [hp.out] at hv hs
      have hv' : v = .slice (some ⟨g1, 0, none⟩) 1 cap1 := hv
      subst hv'
      have HB := Lib.hid (bgo HB.out hb)
      have hs10 : w3.cell? ⟨g1, 0, none⟩ = some (.string x.bytes) := hs 0 (by simp)
      have HS10 := Lib.hid hs10
      clear hs10
      clear hv hg hs hb ho
      go_wp2_with fail
      refine (C2.out _).mono ?_
      rintro e w4 ⟨v, rfl, ho, hb⟩
      obtain ⟨g2, cap2, hv, hg, hs⟩ := ho
      rw [hp.out] at hv hs
      have hv' : v = .slice (some ⟨g2, 0, none⟩) 1 cap2 := hv
      subst hv'
      have HB := Lib.hid (bgo HB.out hb)
      have hs20 : w4.cell? ⟨g2, 0, none⟩ = some (.string x.bytes) := hs 0 (by simp)
      have HS20 := Lib.hid hs20
      clear hs20
      have HS10 := Lib.hid (cell_go HS10.out hb)
      clear hv hg hs hb
      have HW := Lib.hid (Below.refl w4.heap.size w4)
      (go_wp2_with fail; refine (C3.out _).mono ?_; rintro e w' ⟨rfl, hb⟩; have HB := Lib.hid (bgo HB.out hb); have HW := Lib.hid (bgo HW.out hb); clear hb)
      (go_wp2_with fail; refine (C4.out _).mono ?_; rintro e w' ⟨rfl, hb⟩; have HB := Lib.hid (bgo HB.out hb); have HW := Lib.hid (bgo HW.out hb); clear hb)
      (go_wp2_with fail; refine (C5.out _).mono ?_; rintro e w' ⟨rfl, hb⟩; have HB := Lib.hid (bgo HB.out hb); have HW := Lib.hid (bgo HW.out hb); clear hb)
      (go_wp2_with fail; refine (C6.out _).mono ?_; rintro e w' ⟨rfl, hb⟩; have HB := Lib.hid (bgo HB.out hb); have HW := Lib.hid (bgo HW.out hb); clear hb)
      have hne := Hne.out
      (go_wp2_with fail; refine (C7.out _).mono ?_; rintro e w' ⟨rfl, hb⟩; have HB := Lib.hid (bgo HB.out hb); have HW := Lib.hid (bgo HW.out hb); clear hb)
      clear hne
      go_wp2_with fail
      go_loopg [8, 9, 10] 1 (fun gk s l i wr => ∃ m : Nat, m ≤ 1 ∧ gk = 1 - m ∧ i = .int .i64 m ∧ s = .int .i64 (if m = 0 then 1 else 1 + cnt anyOps x) ∧ l = .int .i64 (if m = 0 then 0 else (x.bytes.size : Int)) ∧ Below w4.heap.size w4 wr ∧ Below w.heap.size w wr)
      case atStart => exact ⟨0, by omega, rfl, rfl, rfl, rfl, HW.out, HB.out⟩
      case round =>
        clear HB HW
        obtain ⟨m, hm, rfl, rfl, rfl, rfl, hw4, hb⟩ := hrel
        have HW := Lib.hid hw4
        have HB := Lib.hid hb
        clear hw4 hb
        rcases (show m = 0 ∨ m = 1 by omega) with rfl | rfl
        · rw [show (if 0 = 0 then 1 else 1 + cnt anyOps x) = 1 from rfl, show (if 0 = 0 then 0 else (x.bytes.size : Int)) = 0 from rfl]
          go_wp2_with fail
          refine wp_region_held_drew (S := (fun w' => w'.cell? ⟨g1, 0, none⟩ = some (.string x.bytes) ∧ w'.cell? ⟨g2, 0, none⟩ = some (.string x.bytes) ∧ Below w4.heap.size w4 w' ∧ Below w.heap.size w w')) (by kernel_rfl) ⟨cell_go HS10.out HW.out.drew, cell_go HS20.out HW.out.drew, HW.out.drew, HB.out.drew⟩ (fun hH0 => ?_)
          refine wpAnyH_take (i := 0) (v := .slice (some ⟨g1, 0, none⟩) 1 cap1) rfl (by kernel_rfl) (by kernel_rfl) (by kernel_rfl) (fun _ _ _ h => h) (Or.inl ⟨by rfl, by intro w hw; clear hw; go_simp⟩) hH0 ?_
          simp only [Act.put, List.setIfInBounds_toArray, List.set_cons_zero, List.set_cons_succ, List.getElem_toArray, List.getElem_cons_succ, List.getElem_cons_zero, getElem?_pos]
          refine wpAnyH_take (i := 1) (v := .int .i64 0) rfl (by kernel_rfl) (by kernel_rfl) (by kernel_rfl) (fun _ _ _ h => h) (Or.inl ⟨by rfl, by intro w hw; clear hw; go_simp⟩) hH0 ?_
          simp only [Act.put, List.setIfInBounds_toArray, List.set_cons_zero, List.set_cons_succ, List.getElem_toArray, List.getElem_cons_succ, List.getElem_cons_zero, getElem?_pos]
          refine wpAnyH_take (i := 2) (v := .pointer (some ⟨g1, 0, none⟩)) rfl (by kernel_rfl) (by kernel_rfl) (by kernel_rfl) (fun _ _ _ h => h) (Or.inl ⟨by rfl, by intro w hw; clear hw; go_simp⟩) hH0 ?_
          simp only [Act.put, List.setIfInBounds_toArray, List.set_cons_zero, List.set_cons_succ, List.getElem_toArray, List.getElem_cons_succ, List.getElem_cons_zero, getElem?_pos]
          refine wpAnyH_take (i := 3) (v := .string x.bytes) rfl (by kernel_rfl) (by kernel_rfl) (by kernel_rfl) (fun _ _ _ h => h) (Or.inl ⟨by rfl, by intro w hw; have hc := hw.1; clear hw; go_simp⟩) hH0 ?_
          simp only [Act.put, List.setIfInBounds_toArray, List.set_cons_zero, List.set_cons_succ, List.getElem_toArray, List.getElem_cons_succ, List.getElem_cons_zero, getElem?_pos]
          refine wpAnyH_take (i := 4) (v := .slice (some ⟨g2, 0, none⟩) 1 cap2) rfl (by kernel_rfl) (by kernel_rfl) (by kernel_rfl) (fun _ _ _ h => h) (Or.inl ⟨by rfl, by intro w hw; clear hw; go_simp⟩) hH0 ?_
          simp only [Act.put, List.setIfInBounds_toArray, List.set_cons_zero, List.set_cons_succ, List.getElem_toArray, List.getElem_cons_succ, List.getElem_cons_zero, getElem?_pos]
          refine wpAnyH_take (i := 5) (v := .int .i64 0) rfl (by kernel_rfl) (by kernel_rfl) (by kernel_rfl) (fun _ _ _ h => h) (Or.inl ⟨by rfl, by intro w hw; clear hw; go_simp⟩) hH0 ?_
          simp only [Act.put, List.setIfInBounds_toArray, List.set_cons_zero, List.set_cons_succ, List.getElem_toArray, List.getElem_cons_succ, List.getElem_cons_zero, getElem?_pos]
          refine wpAnyH_take (i := 6) (v := .pointer (some ⟨g2, 0, none⟩)) rfl (by kernel_rfl) (by kernel_rfl) (by kernel_rfl) (fun _ _ _ h => h) (Or.inl ⟨by rfl, by intro w hw; clear hw; go_simp⟩) hH0 ?_
          simp only [Act.put, List.setIfInBounds_toArray, List.set_cons_zero, List.set_cons_succ, List.getElem_toArray, List.getElem_cons_succ, List.getElem_cons_zero, getElem?_pos]
          refine wpAnyH_take (i := 7) (v := .string x.bytes) rfl (by kernel_rfl) (by kernel_rfl) (by kernel_rfl) (fun _ _ _ h => h) (Or.inl ⟨by rfl, by intro w hw; have hc := hw.2.1; clear hw; go_simp⟩) hH0 ?_
          simp only [Act.put, List.setIfInBounds_toArray, List.set_cons_zero, List.set_cons_succ, List.getElem_toArray, List.getElem_cons_succ, List.getElem_cons_zero, getElem?_pos]
          refine wpAnyH_take (i := 8) (v := .bool false) rfl (by kernel_rfl) (by kernel_rfl) (by kernel_rfl) (fun _ _ _ h => h) (Or.inl ⟨by rfl, by intro w hw; clear hw; go_simp⟩) hH0 ?_
          simp only [Act.put, List.setIfInBounds_toArray, List.set_cons_zero, List.set_cons_succ, List.getElem_toArray, List.getElem_cons_succ, List.getElem_cons_zero, getElem?_pos]
          refine wpAnyH_take (i := 9) (v := .bool false) rfl (by kernel_rfl) (by kernel_rfl) (by kernel_rfl) (fun _ _ _ h => h) (Or.inl ⟨by rfl, by intro w hw; clear hw; go_simp⟩) hH0 ?_
          simp only [Act.put, List.setIfInBounds_toArray, List.set_cons_zero, List.set_cons_succ, List.getElem_toArray, List.getElem_cons_succ, List.getElem_cons_zero, getElem?_pos]
          refine wpAnyH_take (i := 10) (v := .slice (some ⟨g1, 0, none⟩) 1 cap1) rfl (by kernel_rfl) (by kernel_rfl) (by kernel_rfl) (fun _ _ _ h => h) (Or.inl ⟨by rfl, by intro w hw; clear hw; go_simp⟩) hH0 ?_
          simp only [Act.put, List.setIfInBounds_toArray, List.set_cons_zero, List.set_cons_succ, List.getElem_toArray, List.getElem_cons_succ, List.getElem_cons_zero, getElem?_pos]
          refine wpAnyH_take (i := 11) (v := .int .i64 0) rfl (by kernel_rfl) (by kernel_rfl) (by kernel_rfl) (fun _ _ _ h => h) (Or.inl ⟨by rfl, by intro w hw; clear hw; go_simp⟩) hH0 ?_
          simp only [Act.put, List.setIfInBounds_toArray, List.set_cons_zero, List.set_cons_succ, List.getElem_toArray, List.getElem_cons_succ, List.getElem_cons_zero, getElem?_pos]
          refine wpAnyH_take (i := 12) (v := .pointer (some ⟨g1, 0, none⟩)) rfl (by kernel_rfl) (by kernel_rfl) (by kernel_rfl) (fun _ _ _ h => h) (Or.inl ⟨by rfl, by intro w hw; clear hw; go_simp⟩) hH0 ?_
          simp only [Act.put, List.setIfInBounds_toArray, List.set_cons_zero, List.set_cons_succ, List.getElem_toArray, List.getElem_cons_succ, List.getElem_cons_zero, getElem?_pos]
          refine wpAnyH_take (i := 13) (v := .string x.bytes) rfl (by kernel_rfl) (by kernel_rfl) (by kernel_rfl) (fun _ _ _ h => h) (Or.inl ⟨by rfl, by intro w hw; have hc := hw.1; clear hw; go_simp⟩) hH0 ?_
          simp only [Act.put, List.setIfInBounds_toArray, List.set_cons_zero, List.set_cons_succ, List.getElem_toArray, List.getElem_cons_succ, List.getElem_cons_zero, getElem?_pos]
          refine wpAnyH_ready (rs := [14]) (by kernel_rfl) (by simp) (AllReadyH.cons rfl (fun K hK => ?_) AllReadyH.nil)
          refine callOp (by rfl) (by go_simp) ((Vx.out _).mono ?_)
          rintro e w11 ⟨rfl, hb11⟩
          refine ⟨_, rfl, hK.out _ _ ⟨cell_go hH0.1 hb11, cell_go hH0.2.1 hb11, bgo hH0.2.2.1 hb11, bgo hH0.2.2.2 hb11⟩ (fun hH1 => ?_)⟩
          clear hK K
          simp only [Act.put, List.setIfInBounds_toArray, List.set_cons_zero, List.set_cons_succ, List.getElem_toArray, List.getElem_cons_succ, List.getElem_cons_zero, getElem?_pos]
          refine wpAnyH_take (i := 15) (v := .bool false) rfl (by kernel_rfl) (by kernel_rfl) (by kernel_rfl) (fun _ _ _ h => h) (Or.inl ⟨by rfl, by intro w hw; clear hw; go_simp⟩) hH1 ?_
          simp only [Act.put, List.setIfInBounds_toArray, List.set_cons_zero, List.set_cons_succ, List.getElem_toArray, List.getElem_cons_succ, List.getElem_cons_zero, getElem?_pos]
          refine wpAnyH_take (i := 16) (v := .bool false) rfl (by kernel_rfl) (by kernel_rfl) (by kernel_rfl) (fun _ _ _ h => h) (Or.inl ⟨by rfl, by intro w hw; clear hw; go_simp⟩) hH1 ?_
          simp only [Act.put, List.setIfInBounds_toArray, List.set_cons_zero, List.set_cons_succ, List.getElem_toArray, List.getElem_cons_succ, List.getElem_cons_zero, getElem?_pos]
          refine wpAnyH_done (by kernel_rfl) ?_ _
          have hcell := hH1.1
          have HW := Lib.hid hH1.2.2.1
          have HB := Lib.hid hH1.2.2.2
          clear hH0
          go_wp2_with fail
          refine (Nx.out _).mono ?_
          rintro e w12 ⟨rfl, hb12⟩
          have hcell := cell_go hcell hb12
          have HB := Lib.hid (bgo HB.out hb12)
          have HW := Lib.hid (bgo HW.out hb12)
          clear hb12
          go_wp2_with fail
          go_roundg (1 - (0 + 1))
          case rel => exact ⟨0 + 1, by omega, rfl, by go_num, rfl, rfl, HW.out, HB.out⟩
          case measure => omega
        · rw [show (if 1 = 0 then 1 else 1 + cnt anyOps x) = 1 + cnt anyOps x from rfl, show (if 1 = 0 then 0 else (x.bytes.size : Int)) = (x.bytes.size : Int) from rfl, ← Hfin.out]
          have hsz' : decide ((x.bytes.size : Int) < (c.size : Int)) = true := decide_eq_true hsz
          have hsz2 : decide (x.bytes.size < c.size) = true := decide_eq_true (by omega)
          go_wp2_with fail
          go_ret
          exact ⟨rfl, HB.out⟩
    | b o d x y =>
      have hp := Lib.hid (show partsOf c = [x.bytes, y.bytes] from ctv_some _ _ hc)
      obtain ⟨hs, hd, hxw, hyw⟩ := Ct.wf_b hw
      have hxl : x.tx.length + y.tx.length + 1 ≤ c.size := by rw [hcb, Ct.bytes_size]; simp [Ct.tx] <;> omega
      have hfin : cnt anyOps (Ct.b o d x y) = 1 + cnt anyOps x + cnt anyOps y := by have := cnt_any hw; simp only [Ct.o] at this; simp only [cnt, this]
      have Hfin := Lib.hid hfin
      have hmx : x.bytes.size ≤ maxLen := by rw [Ct.bytes_size]; unfold maxLen; omega
      have Vx := Lib.hid (fun w => show Calls Try.prog 14 #[.string x.bytes] w fun e w' => e = .returned (.bool true) ∧ Below w.heap.size w w' from by have h := impl_ContractValid x.bytes w hmx; rw [cto_bytes hxw (by omega)] at h; exact h)
      have Nx := Lib.hid (fun w => show Calls Try.prog 51 #[.string x.bytes] w fun e w' => e = .returned (.int .i64 (cnt anyOps x)) ∧ Below w.heap.size w w' from by have h := impl_SizeOfContract x.bytes w hmx; rw [ctv_of hxw (by omega)] at h; exact h)
      have hcx := cnt_rng anyOps x
      have hbx : x.bytes.size ≤ 200 := by rw [Ct.bytes_size]; omega
      clear hmx
      have hmy : y.bytes.size ≤ maxLen := by rw [Ct.bytes_size]; unfold maxLen; omega
      have Vy := Lib.hid (fun w => show Calls Try.prog 14 #[.string y.bytes] w fun e w' => e = .returned (.bool true) ∧ Below w.heap.size w w' from by have h := impl_ContractValid y.bytes w hmy; rw [cto_bytes hyw (by omega)] at h; exact h)
      have Ny := Lib.hid (fun w => show Calls Try.prog 51 #[.string y.bytes] w fun e w' => e = .returned (.int .i64 (cnt anyOps y)) ∧ Below w.heap.size w w' from by have h := impl_SizeOfContract y.bytes w hmy; rw [ctv_of hyw (by omega)] at h; exact h)
      have hcy := cnt_rng anyOps y
      have hby : y.bytes.size ≤ 200 := by rw [Ct.bytes_size]; omega
      clear hmy
      have hsz : (x.bytes.size : Int) + y.bytes.size < c.size := by rw [Ct.bytes_size, Ct.bytes_size]; omega
      clear hs hd hfin hxw hyw
      have Hne := Lib.hid hne
      clear hne hcb hw h200 hc hm
      generalize bts (sh _) = S at *
      have C3 := Lib.hid c3
      clear c3
      have C4 := Lib.hid c4
      clear c4
      have C5 := Lib.hid c5
      clear c5
      have C6 := Lib.hid c6
      clear c6
      have C7 := Lib.hid c7
      clear c7
      go_wp2_with fail
      refine (C1.out _).mono ?_
      rintro e w3 ⟨v, rfl, ho, hb⟩
      obtain ⟨g1, cap1, hv, hg, hs⟩ := ho.strs
      rw [hp.out] at hv hs
      have hv' : v = .slice (some ⟨g1, 0, none⟩) 2 cap1 := hv
      subst hv'
      have HB := Lib.hid (bgo HB.out hb)
      have hs10 : w3.cell? ⟨g1, 0, none⟩ = some (.string x.bytes) := hs 0 (by simp)
      have hs11 : w3.cell? ⟨g1, 1, none⟩ = some (.string y.bytes) := hs 1 (by simp)
      have HS10 := Lib.hid hs10
      have HS11 := Lib.hid hs11
      clear hs10 hs11
      clear hv hg hs hb ho
      go_wp2_with fail
      refine (C2.out _).mono ?_
      rintro e w4 ⟨v, rfl, ho, hb⟩
      obtain ⟨g2, cap2, hv, hg, hs⟩ := ho
      rw [hp.out] at hv hs
      have hv' : v = .slice (some ⟨g2, 0, none⟩) 2 cap2 := hv
      subst hv'
      have HB := Lib.hid (bgo HB.out hb)
      have hs20 : w4.cell? ⟨g2, 0, none⟩ = some (.string x.bytes) := hs 0 (by simp)
      have hs21 : w4.cell? ⟨g2, 1, none⟩ = some (.string y.bytes) := hs 1 (by simp)
      have HS20 := Lib.hid hs20
      have HS21 := Lib.hid hs21
      clear hs20 hs21
      have HS10 := Lib.hid (cell_go HS10.out hb)
      have HS11 := Lib.hid (cell_go HS11.out hb)
      clear hv hg hs hb
      have HW := Lib.hid (Below.refl w4.heap.size w4)
      (go_wp2_with fail; refine (C3.out _).mono ?_; rintro e w' ⟨rfl, hb⟩; have HB := Lib.hid (bgo HB.out hb); have HW := Lib.hid (bgo HW.out hb); clear hb)
      (go_wp2_with fail; refine (C4.out _).mono ?_; rintro e w' ⟨rfl, hb⟩; have HB := Lib.hid (bgo HB.out hb); have HW := Lib.hid (bgo HW.out hb); clear hb)
      (go_wp2_with fail; refine (C5.out _).mono ?_; rintro e w' ⟨rfl, hb⟩; have HB := Lib.hid (bgo HB.out hb); have HW := Lib.hid (bgo HW.out hb); clear hb)
      (go_wp2_with fail; refine (C6.out _).mono ?_; rintro e w' ⟨rfl, hb⟩; have HB := Lib.hid (bgo HB.out hb); have HW := Lib.hid (bgo HW.out hb); clear hb)
      have hne := Hne.out
      (go_wp2_with fail; refine (C7.out _).mono ?_; rintro e w' ⟨rfl, hb⟩; have HB := Lib.hid (bgo HB.out hb); have HW := Lib.hid (bgo HW.out hb); clear hb)
      clear hne
      go_wp2_with fail
      go_loopg [8, 9, 10] 2 (fun gk s l i wr => ∃ m : Nat, m ≤ 2 ∧ gk = 2 - m ∧ i = .int .i64 m ∧ s = .int .i64 (if m = 0 then 1 else if m = 1 then 1 + cnt anyOps x else 1 + cnt anyOps x + cnt anyOps y) ∧ l = .int .i64 (if m = 0 then 0 else if m = 1 then (x.bytes.size : Int) else (x.bytes.size : Int) + y.bytes.size) ∧ Below w4.heap.size w4 wr ∧ Below w.heap.size w wr)
      case atStart => exact ⟨0, by omega, rfl, rfl, rfl, rfl, HW.out, HB.out⟩
      case round =>
        clear HB HW
        obtain ⟨m, hm, rfl, rfl, rfl, rfl, hw4, hb⟩ := hrel
        have HW := Lib.hid hw4
        have HB := Lib.hid hb
        clear hw4 hb
        rcases (show m = 0 ∨ m = 1 ∨ m = 2 by omega) with rfl | rfl | rfl
        · rw [show (if 0 = 0 then 1 else if 0 = 1 then 1 + cnt anyOps x else 1 + cnt anyOps x + cnt anyOps y) = 1 from rfl, show (if 0 = 0 then 0 else if 0 = 1 then (x.bytes.size : Int) else (x.bytes.size : Int) + y.bytes.size) = 0 from rfl]
          go_wp2_with fail
          refine wp_region_held_drew (S := (fun w' => w'.cell? ⟨g1, 0, none⟩ = some (.string x.bytes) ∧ w'.cell? ⟨g2, 0, none⟩ = some (.string x.bytes) ∧ Below w4.heap.size w4 w' ∧ Below w.heap.size w w')) (by kernel_rfl) ⟨cell_go HS10.out HW.out.drew, cell_go HS20.out HW.out.drew, HW.out.drew, HB.out.drew⟩ (fun hH0 => ?_)
          refine wpAnyH_take (i := 0) (v := .slice (some ⟨g1, 0, none⟩) 2 cap1) rfl (by kernel_rfl) (by kernel_rfl) (by kernel_rfl) (fun _ _ _ h => h) (Or.inl ⟨by rfl, by intro w hw; clear hw; go_simp⟩) hH0 ?_
          simp only [Act.put, List.setIfInBounds_toArray, List.set_cons_zero, List.set_cons_succ, List.getElem_toArray, List.getElem_cons_succ, List.getElem_cons_zero, getElem?_pos]
          refine wpAnyH_take (i := 1) (v := .int .i64 0) rfl (by kernel_rfl) (by kernel_rfl) (by kernel_rfl) (fun _ _ _ h => h) (Or.inl ⟨by rfl, by intro w hw; clear hw; go_simp⟩) hH0 ?_
          simp only [Act.put, List.setIfInBounds_toArray, List.set_cons_zero, List.set_cons_succ, List.getElem_toArray, List.getElem_cons_succ, List.getElem_cons_zero, getElem?_pos]
          refine wpAnyH_take (i := 2) (v := .pointer (some ⟨g1, 0, none⟩)) rfl (by kernel_rfl) (by kernel_rfl) (by kernel_rfl) (fun _ _ _ h => h) (Or.inl ⟨by rfl, by intro w hw; clear hw; go_simp⟩) hH0 ?_
          simp only [Act.put, List.setIfInBounds_toArray, List.set_cons_zero, List.set_cons_succ, List.getElem_toArray, List.getElem_cons_succ, List.getElem_cons_zero, getElem?_pos]
          refine wpAnyH_take (i := 3) (v := .string x.bytes) rfl (by kernel_rfl) (by kernel_rfl) (by kernel_rfl) (fun _ _ _ h => h) (Or.inl ⟨by rfl, by intro w hw; have hc := hw.1; clear hw; go_simp⟩) hH0 ?_
          simp only [Act.put, List.setIfInBounds_toArray, List.set_cons_zero, List.set_cons_succ, List.getElem_toArray, List.getElem_cons_succ, List.getElem_cons_zero, getElem?_pos]
          refine wpAnyH_take (i := 4) (v := .slice (some ⟨g2, 0, none⟩) 2 cap2) rfl (by kernel_rfl) (by kernel_rfl) (by kernel_rfl) (fun _ _ _ h => h) (Or.inl ⟨by rfl, by intro w hw; clear hw; go_simp⟩) hH0 ?_
          simp only [Act.put, List.setIfInBounds_toArray, List.set_cons_zero, List.set_cons_succ, List.getElem_toArray, List.getElem_cons_succ, List.getElem_cons_zero, getElem?_pos]
          refine wpAnyH_take (i := 5) (v := .int .i64 0) rfl (by kernel_rfl) (by kernel_rfl) (by kernel_rfl) (fun _ _ _ h => h) (Or.inl ⟨by rfl, by intro w hw; clear hw; go_simp⟩) hH0 ?_
          simp only [Act.put, List.setIfInBounds_toArray, List.set_cons_zero, List.set_cons_succ, List.getElem_toArray, List.getElem_cons_succ, List.getElem_cons_zero, getElem?_pos]
          refine wpAnyH_take (i := 6) (v := .pointer (some ⟨g2, 0, none⟩)) rfl (by kernel_rfl) (by kernel_rfl) (by kernel_rfl) (fun _ _ _ h => h) (Or.inl ⟨by rfl, by intro w hw; clear hw; go_simp⟩) hH0 ?_
          simp only [Act.put, List.setIfInBounds_toArray, List.set_cons_zero, List.set_cons_succ, List.getElem_toArray, List.getElem_cons_succ, List.getElem_cons_zero, getElem?_pos]
          refine wpAnyH_take (i := 7) (v := .string x.bytes) rfl (by kernel_rfl) (by kernel_rfl) (by kernel_rfl) (fun _ _ _ h => h) (Or.inl ⟨by rfl, by intro w hw; have hc := hw.2.1; clear hw; go_simp⟩) hH0 ?_
          simp only [Act.put, List.setIfInBounds_toArray, List.set_cons_zero, List.set_cons_succ, List.getElem_toArray, List.getElem_cons_succ, List.getElem_cons_zero, getElem?_pos]
          refine wpAnyH_take (i := 8) (v := .bool false) rfl (by kernel_rfl) (by kernel_rfl) (by kernel_rfl) (fun _ _ _ h => h) (Or.inl ⟨by rfl, by intro w hw; clear hw; go_simp⟩) hH0 ?_
          simp only [Act.put, List.setIfInBounds_toArray, List.set_cons_zero, List.set_cons_succ, List.getElem_toArray, List.getElem_cons_succ, List.getElem_cons_zero, getElem?_pos]
          refine wpAnyH_take (i := 9) (v := .bool false) rfl (by kernel_rfl) (by kernel_rfl) (by kernel_rfl) (fun _ _ _ h => h) (Or.inl ⟨by rfl, by intro w hw; clear hw; go_simp⟩) hH0 ?_
          simp only [Act.put, List.setIfInBounds_toArray, List.set_cons_zero, List.set_cons_succ, List.getElem_toArray, List.getElem_cons_succ, List.getElem_cons_zero, getElem?_pos]
          refine wpAnyH_take (i := 10) (v := .slice (some ⟨g1, 0, none⟩) 2 cap1) rfl (by kernel_rfl) (by kernel_rfl) (by kernel_rfl) (fun _ _ _ h => h) (Or.inl ⟨by rfl, by intro w hw; clear hw; go_simp⟩) hH0 ?_
          simp only [Act.put, List.setIfInBounds_toArray, List.set_cons_zero, List.set_cons_succ, List.getElem_toArray, List.getElem_cons_succ, List.getElem_cons_zero, getElem?_pos]
          refine wpAnyH_take (i := 11) (v := .int .i64 0) rfl (by kernel_rfl) (by kernel_rfl) (by kernel_rfl) (fun _ _ _ h => h) (Or.inl ⟨by rfl, by intro w hw; clear hw; go_simp⟩) hH0 ?_
          simp only [Act.put, List.setIfInBounds_toArray, List.set_cons_zero, List.set_cons_succ, List.getElem_toArray, List.getElem_cons_succ, List.getElem_cons_zero, getElem?_pos]
          refine wpAnyH_take (i := 12) (v := .pointer (some ⟨g1, 0, none⟩)) rfl (by kernel_rfl) (by kernel_rfl) (by kernel_rfl) (fun _ _ _ h => h) (Or.inl ⟨by rfl, by intro w hw; clear hw; go_simp⟩) hH0 ?_
          simp only [Act.put, List.setIfInBounds_toArray, List.set_cons_zero, List.set_cons_succ, List.getElem_toArray, List.getElem_cons_succ, List.getElem_cons_zero, getElem?_pos]
          refine wpAnyH_take (i := 13) (v := .string x.bytes) rfl (by kernel_rfl) (by kernel_rfl) (by kernel_rfl) (fun _ _ _ h => h) (Or.inl ⟨by rfl, by intro w hw; have hc := hw.1; clear hw; go_simp⟩) hH0 ?_
          simp only [Act.put, List.setIfInBounds_toArray, List.set_cons_zero, List.set_cons_succ, List.getElem_toArray, List.getElem_cons_succ, List.getElem_cons_zero, getElem?_pos]
          refine wpAnyH_ready (rs := [14]) (by kernel_rfl) (by simp) (AllReadyH.cons rfl (fun K hK => ?_) AllReadyH.nil)
          refine callOp (by rfl) (by go_simp) ((Vx.out _).mono ?_)
          rintro e w11 ⟨rfl, hb11⟩
          refine ⟨_, rfl, hK.out _ _ ⟨cell_go hH0.1 hb11, cell_go hH0.2.1 hb11, bgo hH0.2.2.1 hb11, bgo hH0.2.2.2 hb11⟩ (fun hH1 => ?_)⟩
          clear hK K
          simp only [Act.put, List.setIfInBounds_toArray, List.set_cons_zero, List.set_cons_succ, List.getElem_toArray, List.getElem_cons_succ, List.getElem_cons_zero, getElem?_pos]
          refine wpAnyH_take (i := 15) (v := .bool false) rfl (by kernel_rfl) (by kernel_rfl) (by kernel_rfl) (fun _ _ _ h => h) (Or.inl ⟨by rfl, by intro w hw; clear hw; go_simp⟩) hH1 ?_
          simp only [Act.put, List.setIfInBounds_toArray, List.set_cons_zero, List.set_cons_succ, List.getElem_toArray, List.getElem_cons_succ, List.getElem_cons_zero, getElem?_pos]
          refine wpAnyH_take (i := 16) (v := .bool false) rfl (by kernel_rfl) (by kernel_rfl) (by kernel_rfl) (fun _ _ _ h => h) (Or.inl ⟨by rfl, by intro w hw; clear hw; go_simp⟩) hH1 ?_
          simp only [Act.put, List.setIfInBounds_toArray, List.set_cons_zero, List.set_cons_succ, List.getElem_toArray, List.getElem_cons_succ, List.getElem_cons_zero, getElem?_pos]
          refine wpAnyH_done (by kernel_rfl) ?_ _
          have hcell := hH1.1
          have HW := Lib.hid hH1.2.2.1
          have HB := Lib.hid hH1.2.2.2
          clear hH0
          go_wp2_with fail
          refine (Nx.out _).mono ?_
          rintro e w12 ⟨rfl, hb12⟩
          have hcell := cell_go hcell hb12
          have HB := Lib.hid (bgo HB.out hb12)
          have HW := Lib.hid (bgo HW.out hb12)
          clear hb12
          go_wp2_with fail
          go_roundg (2 - (0 + 1))
          case rel => exact ⟨0 + 1, by omega, rfl, by go_num, rfl, rfl, HW.out, HB.out⟩
          case measure => omega
        · rw [show (if 1 = 0 then 1 else if 1 = 1 then 1 + cnt anyOps x else 1 + cnt anyOps x + cnt anyOps y) = 1 + cnt anyOps x from rfl, show (if 1 = 0 then 0 else if 1 = 1 then (x.bytes.size : Int) else (x.bytes.size : Int) + y.bytes.size) = (x.bytes.size : Int) from rfl]
          go_wp2_with fail
          refine wp_region_held_drew (S := (fun w' => w'.cell? ⟨g1, 1, none⟩ = some (.string y.bytes) ∧ w'.cell? ⟨g2, 1, none⟩ = some (.string y.bytes) ∧ Below w4.heap.size w4 w' ∧ Below w.heap.size w w')) (by kernel_rfl) ⟨cell_go HS11.out HW.out.drew, cell_go HS21.out HW.out.drew, HW.out.drew, HB.out.drew⟩ (fun hH0 => ?_)
          refine wpAnyH_take (i := 0) (v := .slice (some ⟨g1, 0, none⟩) 2 cap1) rfl (by kernel_rfl) (by kernel_rfl) (by kernel_rfl) (fun _ _ _ h => h) (Or.inl ⟨by rfl, by intro w hw; clear hw; go_simp⟩) hH0 ?_
          simp only [Act.put, List.setIfInBounds_toArray, List.set_cons_zero, List.set_cons_succ, List.getElem_toArray, List.getElem_cons_succ, List.getElem_cons_zero, getElem?_pos]
          refine wpAnyH_take (i := 1) (v := .int .i64 1) rfl (by kernel_rfl) (by kernel_rfl) (by kernel_rfl) (fun _ _ _ h => h) (Or.inl ⟨by rfl, by intro w hw; clear hw; go_simp⟩) hH0 ?_
          simp only [Act.put, List.setIfInBounds_toArray, List.set_cons_zero, List.set_cons_succ, List.getElem_toArray, List.getElem_cons_succ, List.getElem_cons_zero, getElem?_pos]
          refine wpAnyH_take (i := 2) (v := .pointer (some ⟨g1, 1, none⟩)) rfl (by kernel_rfl) (by kernel_rfl) (by kernel_rfl) (fun _ _ _ h => h) (Or.inl ⟨by rfl, by intro w hw; clear hw; go_simp⟩) hH0 ?_
          simp only [Act.put, List.setIfInBounds_toArray, List.set_cons_zero, List.set_cons_succ, List.getElem_toArray, List.getElem_cons_succ, List.getElem_cons_zero, getElem?_pos]
          refine wpAnyH_take (i := 3) (v := .string y.bytes) rfl (by kernel_rfl) (by kernel_rfl) (by kernel_rfl) (fun _ _ _ h => h) (Or.inl ⟨by rfl, by intro w hw; have hc := hw.1; clear hw; go_simp⟩) hH0 ?_
          simp only [Act.put, List.setIfInBounds_toArray, List.set_cons_zero, List.set_cons_succ, List.getElem_toArray, List.getElem_cons_succ, List.getElem_cons_zero, getElem?_pos]
          refine wpAnyH_take (i := 4) (v := .slice (some ⟨g2, 0, none⟩) 2 cap2) rfl (by kernel_rfl) (by kernel_rfl) (by kernel_rfl) (fun _ _ _ h => h) (Or.inl ⟨by rfl, by intro w hw; clear hw; go_simp⟩) hH0 ?_
          simp only [Act.put, List.setIfInBounds_toArray, List.set_cons_zero, List.set_cons_succ, List.getElem_toArray, List.getElem_cons_succ, List.getElem_cons_zero, getElem?_pos]
          refine wpAnyH_take (i := 5) (v := .int .i64 1) rfl (by kernel_rfl) (by kernel_rfl) (by kernel_rfl) (fun _ _ _ h => h) (Or.inl ⟨by rfl, by intro w hw; clear hw; go_simp⟩) hH0 ?_
          simp only [Act.put, List.setIfInBounds_toArray, List.set_cons_zero, List.set_cons_succ, List.getElem_toArray, List.getElem_cons_succ, List.getElem_cons_zero, getElem?_pos]
          refine wpAnyH_take (i := 6) (v := .pointer (some ⟨g2, 1, none⟩)) rfl (by kernel_rfl) (by kernel_rfl) (by kernel_rfl) (fun _ _ _ h => h) (Or.inl ⟨by rfl, by intro w hw; clear hw; go_simp⟩) hH0 ?_
          simp only [Act.put, List.setIfInBounds_toArray, List.set_cons_zero, List.set_cons_succ, List.getElem_toArray, List.getElem_cons_succ, List.getElem_cons_zero, getElem?_pos]
          refine wpAnyH_take (i := 7) (v := .string y.bytes) rfl (by kernel_rfl) (by kernel_rfl) (by kernel_rfl) (fun _ _ _ h => h) (Or.inl ⟨by rfl, by intro w hw; have hc := hw.2.1; clear hw; go_simp⟩) hH0 ?_
          simp only [Act.put, List.setIfInBounds_toArray, List.set_cons_zero, List.set_cons_succ, List.getElem_toArray, List.getElem_cons_succ, List.getElem_cons_zero, getElem?_pos]
          refine wpAnyH_take (i := 8) (v := .bool false) rfl (by kernel_rfl) (by kernel_rfl) (by kernel_rfl) (fun _ _ _ h => h) (Or.inl ⟨by rfl, by intro w hw; clear hw; go_simp⟩) hH0 ?_
          simp only [Act.put, List.setIfInBounds_toArray, List.set_cons_zero, List.set_cons_succ, List.getElem_toArray, List.getElem_cons_succ, List.getElem_cons_zero, getElem?_pos]
          refine wpAnyH_take (i := 9) (v := .bool false) rfl (by kernel_rfl) (by kernel_rfl) (by kernel_rfl) (fun _ _ _ h => h) (Or.inl ⟨by rfl, by intro w hw; clear hw; go_simp⟩) hH0 ?_
          simp only [Act.put, List.setIfInBounds_toArray, List.set_cons_zero, List.set_cons_succ, List.getElem_toArray, List.getElem_cons_succ, List.getElem_cons_zero, getElem?_pos]
          refine wpAnyH_take (i := 10) (v := .slice (some ⟨g1, 0, none⟩) 2 cap1) rfl (by kernel_rfl) (by kernel_rfl) (by kernel_rfl) (fun _ _ _ h => h) (Or.inl ⟨by rfl, by intro w hw; clear hw; go_simp⟩) hH0 ?_
          simp only [Act.put, List.setIfInBounds_toArray, List.set_cons_zero, List.set_cons_succ, List.getElem_toArray, List.getElem_cons_succ, List.getElem_cons_zero, getElem?_pos]
          refine wpAnyH_take (i := 11) (v := .int .i64 1) rfl (by kernel_rfl) (by kernel_rfl) (by kernel_rfl) (fun _ _ _ h => h) (Or.inl ⟨by rfl, by intro w hw; clear hw; go_simp⟩) hH0 ?_
          simp only [Act.put, List.setIfInBounds_toArray, List.set_cons_zero, List.set_cons_succ, List.getElem_toArray, List.getElem_cons_succ, List.getElem_cons_zero, getElem?_pos]
          refine wpAnyH_take (i := 12) (v := .pointer (some ⟨g1, 1, none⟩)) rfl (by kernel_rfl) (by kernel_rfl) (by kernel_rfl) (fun _ _ _ h => h) (Or.inl ⟨by rfl, by intro w hw; clear hw; go_simp⟩) hH0 ?_
          simp only [Act.put, List.setIfInBounds_toArray, List.set_cons_zero, List.set_cons_succ, List.getElem_toArray, List.getElem_cons_succ, List.getElem_cons_zero, getElem?_pos]
          refine wpAnyH_take (i := 13) (v := .string y.bytes) rfl (by kernel_rfl) (by kernel_rfl) (by kernel_rfl) (fun _ _ _ h => h) (Or.inl ⟨by rfl, by intro w hw; have hc := hw.1; clear hw; go_simp⟩) hH0 ?_
          simp only [Act.put, List.setIfInBounds_toArray, List.set_cons_zero, List.set_cons_succ, List.getElem_toArray, List.getElem_cons_succ, List.getElem_cons_zero, getElem?_pos]
          refine wpAnyH_ready (rs := [14]) (by kernel_rfl) (by simp) (AllReadyH.cons rfl (fun K hK => ?_) AllReadyH.nil)
          refine callOp (by rfl) (by go_simp) ((Vy.out _).mono ?_)
          rintro e w11 ⟨rfl, hb11⟩
          refine ⟨_, rfl, hK.out _ _ ⟨cell_go hH0.1 hb11, cell_go hH0.2.1 hb11, bgo hH0.2.2.1 hb11, bgo hH0.2.2.2 hb11⟩ (fun hH1 => ?_)⟩
          clear hK K
          simp only [Act.put, List.setIfInBounds_toArray, List.set_cons_zero, List.set_cons_succ, List.getElem_toArray, List.getElem_cons_succ, List.getElem_cons_zero, getElem?_pos]
          refine wpAnyH_take (i := 15) (v := .bool false) rfl (by kernel_rfl) (by kernel_rfl) (by kernel_rfl) (fun _ _ _ h => h) (Or.inl ⟨by rfl, by intro w hw; clear hw; go_simp⟩) hH1 ?_
          simp only [Act.put, List.setIfInBounds_toArray, List.set_cons_zero, List.set_cons_succ, List.getElem_toArray, List.getElem_cons_succ, List.getElem_cons_zero, getElem?_pos]
          refine wpAnyH_take (i := 16) (v := .bool false) rfl (by kernel_rfl) (by kernel_rfl) (by kernel_rfl) (fun _ _ _ h => h) (Or.inl ⟨by rfl, by intro w hw; clear hw; go_simp⟩) hH1 ?_
          simp only [Act.put, List.setIfInBounds_toArray, List.set_cons_zero, List.set_cons_succ, List.getElem_toArray, List.getElem_cons_succ, List.getElem_cons_zero, getElem?_pos]
          refine wpAnyH_done (by kernel_rfl) ?_ _
          have hcell := hH1.1
          have HW := Lib.hid hH1.2.2.1
          have HB := Lib.hid hH1.2.2.2
          clear hH0
          go_wp2_with fail
          refine (Ny.out _).mono ?_
          rintro e w12 ⟨rfl, hb12⟩
          have hcell := cell_go hcell hb12
          have HB := Lib.hid (bgo HB.out hb12)
          have HW := Lib.hid (bgo HW.out hb12)
          clear hb12
          go_wp2_with fail
          go_roundg (2 - (1 + 1))
          case rel => exact ⟨1 + 1, by omega, rfl, by go_num, rfl, rfl, HW.out, HB.out⟩
          case measure => omega
        · rw [show (if 2 = 0 then 1 else if 2 = 1 then 1 + cnt anyOps x else 1 + cnt anyOps x + cnt anyOps y) = 1 + cnt anyOps x + cnt anyOps y from rfl, show (if 2 = 0 then 0 else if 2 = 1 then (x.bytes.size : Int) else (x.bytes.size : Int) + y.bytes.size) = (x.bytes.size : Int) + y.bytes.size from rfl, ← Hfin.out]
          have hsz' : decide ((x.bytes.size : Int) + y.bytes.size < (c.size : Int)) = true := decide_eq_true hsz
          have hsz2 : decide (x.bytes.size + y.bytes.size < c.size) = true := decide_eq_true (by omega)
          go_wp2_with fail
          go_ret
          exact ⟨rfl, HB.out⟩
set_option maxRecDepth 100000 in
theorem lifted (os : Os) (started : os.Started) (H : Type) (enc : TypeId × Value → H) :
    ReturnsInHanded {} Try.checked os 10 .any (Rows.fnContractTextSpec.pre6 enc Try.prog Try.f10 Rows.fnContractTextRow.domain false) (Rows.fnContractTextSpec.post enc Try.prog Try.f10 false true false false) := by
  refine returnsInHanded_of_change (C := Try.checked) own started (by kernel_rfl) Try.func10
    (ChangeSpec.witness6 (enc := enc) (C := Try.checked) false ⟨#[], #[.slice none 0 0], []⟩ 8 (by kernel_rfl) (by kernel_rfl) (by kernel_rfl) (by kernel_rfl)) ?_
  intro W base args ds gs before hval0 hW hcnd _
  have hval : ∀ (j : Nat) t v, Try.f10.params[j]? = some t → args[j]? = some v → Value.okWide Try.prog W .any base t v := hval0
  have hW' := hW
  obtain ⟨p, q, hA0, hV, rfl, hfz, hnd⟩ := hW
  have hA : DataW.TrodAll enc Try.prog W 0 (fun _ => true) true Try.f10.params.toList args.toList ds p := hA0
  rw [Try.params10] at hA hval
  obtain ⟨v0, vs0, d0, ds0, p0, q0, hargs, rfl, rfl, h0, r0⟩ := trodAll_cons hA
  obtain ⟨rfl, rfl, rfl⟩ := trodAll_nil r0
  obtain rfl : args = #[v0] := by cases args; simp_all
  obtain ⟨rfl, rfl⟩ := trodVars_none hV
  obtain ⟨a0, len0, cap0, rfl⟩ := okWide_slice Try.underlying22 (hval 0 22 v0 rfl rfl)
  have k0 := h0
  have lt0 : ∀ x ∈ p0, x.block < W.heap.size := by obtain ⟨m, hm⟩ := k0; exact DataW.trod_lt m _ _ _ hm
  obtain ⟨z0, w0⟩ : ∃ zs, IsRow .u8 W a0 len0 cap0 zs := by
    obtain ⟨fuel, hf⟩ := h0
    rcases open_ints Try.underlying22 Try.underlying5 (by kernel_rfl) hf with ⟨hcs, _⟩ | ⟨x, l, c, zs, hcs, _, hl, hm, hz, _, hcell, hwz⟩
    · simp [Value.cells] at hcs
      obtain ⟨rfl, rfl, rfl⟩ := hcs
      exact ⟨[], .inl ⟨rfl, rfl, rfl, rfl⟩⟩
    · simp [Value.cells] at hcs
      obtain ⟨rfl, rfl, rfl⟩ := hcs
      exact ⟨zs, .inr ⟨_, rfl, hl, hm, by simpa using hz, hcell, hwz⟩⟩
  clear hA0 hval0
  refine (walk a0 len0 cap0 z0 W w0).mono fun e W' ⟨he, bel⟩ => ?_
  subst he
  exact ⟨_, rfl, _, _, _, [], _, [], hW', trodAll_mk1 (shut_bool Try.underlying4 _), (trodAll_cons_mk (Below.trod laidOut (by kernel_rfl) (of_decide_eq_true (by kernel_rfl)) k0 bel lt0) trodAll_mk0), rfl, bel.frame _, fun h => by cases h⟩
theorem over : Rows.fnContractTextRow.holds Try.pinned (OpenSpec.ofChange Rows.fnContractTextSpec) :=
  OpenClaim.holds_of_wide 10 Try.f10 rfl rfl rfl rfl rfl rfl rfl ⟨rfl, rfl, rfl, rfl, rfl⟩ rfl rfl rfl rfl rfl (by kernel_rfl) Try.func10 (by kernel_rfl)
    (of_decide_eq_true (by kernel_rfl)) (by unfold Func.isWrapper; first | (rw [if_pos (by decide +kernel)]; kernel_rfl) | (rw [if_neg (by decide +kernel)]; exact ⟨rfl, rfl⟩))
    (fun os started H enc _ => lifted os started H enc)
end Go.Proofs.Ytfajaikkagmkeaa.fnContractText
namespace Go.Proofs.Ytfajaikkagmkeaa
theorem fnContractText_holds : Rows.FnContractTextSaid := fnContractText.over
#print axioms fnContractText_holds
end Go.Proofs.Ytfajaikkagmkeaa
