/-
  The contract of the reference's transformer of a contract.
-/
import Derived.Test.YtfajaikkagmkeaaD4
namespace Go.Proofs.Ytfajaikkagmkeaa
open Go.RowKit Go.DC
set_option maxHeartbeats 4000000
set_option linter.unusedVariables false
set_option linter.unusedSimpArgs false

theorem txt_three {n : Nat} (x : Nat → Int) : n ≤ (txt n x).size := by rw [txt_size]; exact Nat.le_refl _
set_option maxRecDepth 100000 in
theorem spec_l5Trans (n : Nat) (hn : n ≤ 200) : ∀ (t : Ct) (w : World), t.wf = true → t.tx.length ≤ n →
    Calls Try.prog 65 #[.string t.bytes] w fun e w' => e = .returned (.string (txt 16 (tr t))) ∧ Below w.heap.size w w' := by
  induction n with
  | zero => intro t w _ h; exact absurd h (by have := t.tx_pos; omega)
  | succ n ih =>
    have Ih := Lib.hid (ih (by omega))
    clear ih
    intro t w hw hl
    have hp := bytes_pos t
    have hp' : (0 : Int) < (t.bytes.size : Int) := by omega
    have hh := bytes_head t
    have hparts := spec_l5Parts t hw (by omega) w
    have Hparts := Lib.hid hparts
    clear hparts
    cases t with
    | z o d =>
      obtain ⟨hs, hd⟩ := Ct.wf_z hw
      have Hd := Lib.hid hd
      clear hw hd hl
      rcases shp0 hs with ⟨rfl, hl⟩ | ⟨rfl, hl⟩ | ⟨rfl, hl⟩ | ⟨rfl, hl⟩ | ⟨rfl, hl⟩ | ⟨rfl, hl⟩ | ⟨rfl, hl⟩
      · have hb0 : (((Ct.z 115 d).bytes[0]'hp).toNat : Int) = 115 := congrArg (fun b : UInt8 => (b.toNat : Int)) hh
        clear hs hl hh
        go_enter Try.func65, Try.ntmps65
        go_wp2_with fail
        refine Hparts.out.mono ?_
        rintro e w2 ⟨v, rfl, ⟨g, cap, hv, hg, hcs⟩, hb⟩
        have hv' : v = .slice (some ⟨g, 0, none⟩) 0 cap := hv
        subst hv'
        clear hv hg hcs
        have Hb := Lib.hid hb
        clear hb
        go_wp2_with fail
        refine (spec_l3Assert 15 _ (by decide) (by decide)).mono ?_
        rintro e w' ⟨rfl, rfl⟩
        go_wp2_with fail
        go_ret
        exact ⟨rfl, Hb.out⟩
      · have hb0 : (((Ct.z 97 d).bytes[0]'hp).toNat : Int) = 97 := congrArg (fun b : UInt8 => (b.toNat : Int)) hh
        clear hs hl hh
        go_enter Try.func65, Try.ntmps65
        go_wp2_with fail
        refine Hparts.out.mono ?_
        rintro e w2 ⟨v, rfl, ⟨g, cap, hv, hg, hcs⟩, hb⟩
        have hv' : v = .slice (some ⟨g, 0, none⟩) 0 cap := hv
        subst hv'
        clear hv hg hcs
        have Hb := Lib.hid hb
        clear hb
        go_wp2_with fail
        refine (spec_l3Assert 0 _ (by decide) (by decide)).mono ?_
        rintro e w' ⟨rfl, rfl⟩
        go_wp2_with fail
        go_ret
        exact ⟨rfl, Hb.out⟩
      · have hb0 : (((Ct.z 109 d).bytes[0]'hp).toNat : Int) = 109 := congrArg (fun b : UInt8 => (b.toNat : Int)) hh
        have hdu := fun w => spec_l3Dual (txt 16 (assertT 0)) w (txt_three _) (dg_txt_Dg (assertT_Dg (by decide) (by decide)))
        rw [dual_txt (assertT_Dg (by decide) (by decide)), dual_assert (⟨by decide, by decide⟩ : Cv 0)] at hdu
        have Hdu := Lib.hid hdu
        clear hdu
        clear hs hl hh
        go_enter Try.func65, Try.ntmps65
        go_wp2_with fail
        refine Hparts.out.mono ?_
        rintro e w2 ⟨v, rfl, ⟨g, cap, hv, hg, hcs⟩, hb⟩
        have hv' : v = .slice (some ⟨g, 0, none⟩) 0 cap := hv
        subst hv'
        clear hv hg hcs
        have Hb := Lib.hid hb
        clear hb
        go_wp2_with fail
        refine (spec_l3Assert 0 _ (by decide) (by decide)).mono ?_
        rintro e w' ⟨rfl, rfl⟩
        go_wp2_with fail
        refine (Hdu.out _).mono ?_
        rintro e w' ⟨rfl, rfl⟩
        go_wp2_with fail
        go_ret
        exact ⟨rfl, Hb.out⟩
      · have hb0 : (((Ct.z 33 d).bytes[0]'hp).toNat : Int) = 33 := congrArg (fun b : UInt8 => (b.toNat : Int)) hh
        obtain ⟨d0, hd0, hpv⟩ := one_digit hl
        obtain ⟨h1, hb1⟩ := bytes_one (t := Ct.z 33 d) hd0
        have h1' : (1 : Int) < ((Ct.z 33 d).bytes.size : Int) := by omega
        have hc := fun w => spec_l2Hex ((Ct.z 33 d).bytes[1]'h1) w
        have e : hx ((Ct.z 33 d).bytes[1]'h1) = pv d := by rw [hb1, hpv]
        rw [e] at hc
        have Hc := Lib.hid hc
        have hpc := pv_cv Hd.out
        clear hc e hb1 hpv hd0
        obtain ⟨hp0, hp1⟩ := id hpc
        clear hs hl hh
        go_enter Try.func65, Try.ntmps65
        go_wp2_with fail
        refine Hparts.out.mono ?_
        rintro e w2 ⟨v, rfl, ⟨g, cap, hv, hg, hcs⟩, hb⟩
        have hv' : v = .slice (some ⟨g, 0, none⟩) 0 cap := hv
        subst hv'
        clear hv hg hcs
        have Hb := Lib.hid hb
        clear hb
        go_wp2_with fail
        refine (Hc.out _).mono ?_
        rintro e w' ⟨rfl, rfl⟩
        go_wp2_with fail
        refine (spec_l3Assert (pv d) _ hp0 hp1).mono ?_
        rintro e w' ⟨rfl, rfl⟩
        go_wp2_with fail
        go_ret
        exact ⟨rfl, Hb.out⟩
      · have hb0 : (((Ct.z 63 d).bytes[0]'hp).toNat : Int) = 63 := congrArg (fun b : UInt8 => (b.toNat : Int)) hh
        obtain ⟨d0, hd0, hpv⟩ := one_digit hl
        obtain ⟨h1, hb1⟩ := bytes_one (t := Ct.z 63 d) hd0
        have h1' : (1 : Int) < ((Ct.z 63 d).bytes.size : Int) := by omega
        have hc := fun w => spec_l2Hex ((Ct.z 63 d).bytes[1]'h1) w
        have e : hx ((Ct.z 63 d).bytes[1]'h1) = pv d := by rw [hb1, hpv]
        rw [e] at hc
        have Hc := Lib.hid hc
        have hpc := pv_cv Hd.out
        clear hc e hb1 hpv hd0
        obtain ⟨hp0, hp1⟩ := id hpc
        have hdu := fun w => spec_l3Dual (txt 16 (assertT (pv d))) w (txt_three _) (dg_txt_Dg (assertT_Dg hp0 hp1))
        rw [dual_txt (assertT_Dg hp0 hp1), dual_assert hpc] at hdu
        have Hdu := Lib.hid hdu
        clear hdu
        clear hs hl hh
        go_enter Try.func65, Try.ntmps65
        go_wp2_with fail
        refine Hparts.out.mono ?_
        rintro e w2 ⟨v, rfl, ⟨g, cap, hv, hg, hcs⟩, hb⟩
        have hv' : v = .slice (some ⟨g, 0, none⟩) 0 cap := hv
        subst hv'
        clear hv hg hcs
        have Hb := Lib.hid hb
        clear hb
        go_wp2_with fail
        refine (Hc.out _).mono ?_
        rintro e w' ⟨rfl, rfl⟩
        go_wp2_with fail
        refine (spec_l3Assert (pv d) _ hp0 hp1).mono ?_
        rintro e w' ⟨rfl, rfl⟩
        go_wp2_with fail
        refine (Hdu.out _).mono ?_
        rintro e w' ⟨rfl, rfl⟩
        go_wp2_with fail
        go_ret
        exact ⟨rfl, Hb.out⟩
      · have hb0 : (((Ct.z 65 d).bytes[0]'hp).toNat : Int) = 65 := congrArg (fun b : UInt8 => (b.toNat : Int)) hh
        obtain ⟨h5, hcut⟩ := bytes_four (t := Ct.z 65 d) hl
        have h5' : (5 : Int) ≤ ((Ct.z 65 d).bytes.size : Int) := by omega
        have Hcut := Lib.hid hcut
        have han := fun w => spec_l3Angel (bts d) w (by rw [bts_size, hl]; exact Nat.le_refl _)
        rw [angel_bts] at han
        have Han := Lib.hid han
        have hcut' : (Ct.z 65 d).bytes.extract 1 5 = bts d := hcut
        clear han hcut
        clear hs hl hh
        go_enter Try.func65, Try.ntmps65
        go_wp2_with fail
        refine Hparts.out.mono ?_
        rintro e w2 ⟨v, rfl, ⟨g, cap, hv, hg, hcs⟩, hb⟩
        have hv' : v = .slice (some ⟨g, 0, none⟩) 0 cap := hv
        subst hv'
        clear hv hg hcs
        have Hb := Lib.hid hb
        clear hb
        go_wp2_with fail
        refine (Han.out _).mono ?_
        rintro e w' ⟨rfl, rfl⟩
        go_wp2_with fail
        go_ret
        exact ⟨rfl, Hb.out⟩
      · have hb0 : (((Ct.z 68 d).bytes[0]'hp).toNat : Int) = 68 := congrArg (fun b : UInt8 => (b.toNat : Int)) hh
        obtain ⟨h5, hcut⟩ := bytes_four (t := Ct.z 68 d) hl
        have h5' : (5 : Int) ≤ ((Ct.z 68 d).bytes.size : Int) := by omega
        have Hcut := Lib.hid hcut
        have han := fun w => spec_l3Angel (bts d) w (by rw [bts_size, hl]; exact Nat.le_refl _)
        rw [angel_bts] at han
        have Han := Lib.hid han
        have hcut' : (Ct.z 68 d).bytes.extract 1 5 = bts d := hcut
        clear han hcut
        have hdu := fun w => spec_l3Dual (txt 16 (angelT (rv d))) w (txt_three _) (dg_txt_Dg (angelT_Dg _ 16))
        rw [dual_txt (angelT_Dg _ 16), dual_angel (rv_Dg Hd.out hl)] at hdu
        have Hdu := Lib.hid hdu
        clear hdu
        clear hs hl hh
        go_enter Try.func65, Try.ntmps65
        go_wp2_with fail
        refine Hparts.out.mono ?_
        rintro e w2 ⟨v, rfl, ⟨g, cap, hv, hg, hcs⟩, hb⟩
        have hv' : v = .slice (some ⟨g, 0, none⟩) 0 cap := hv
        subst hv'
        clear hv hg hcs
        have Hb := Lib.hid hb
        clear hb
        go_wp2_with fail
        refine (Han.out _).mono ?_
        rintro e w' ⟨rfl, rfl⟩
        go_wp2_with fail
        refine (Hdu.out _).mono ?_
        rintro e w' ⟨rfl, rfl⟩
        go_wp2_with fail
        go_ret
        exact ⟨rfl, Hb.out⟩
    | u o d x =>
      have Hw := Lib.hid hw
      obtain ⟨hs, hd, hxw⟩ := Ct.wf_u hw
      have Hxw := Lib.hid hxw
      have Hl := Lib.hid (show x.tx.length ≤ n by simp [Ct.tx] at hl; omega)
      clear hw hd hxw hl
      rcases shp1 hs with ⟨rfl, hl⟩ | ⟨rfl, hl⟩ | ⟨rfl, hl⟩
      · have hb0 : (((Ct.u 119 d x).bytes[0]'hp).toNat : Int) = 119 := congrArg (fun b : UInt8 => (b.toNat : Int)) hh
        clear hs hl hh
        go_enter Try.func65, Try.ntmps65
        go_wp2_with fail
        refine Hparts.out.mono ?_
        rintro e w2 ⟨v, rfl, ⟨g, cap, hv, hg, hcs⟩, hb⟩
        have hv' : v = .slice (some ⟨g, 0, none⟩) 1 cap := hv
        subst hv'
        have hc0 : w2.cell? ⟨g, 0, none⟩ = some (.string x.bytes) := hcs 0 (by simp [Ct.kids])
        clear hv hg hcs
        have Hb := Lib.hid hb
        clear hb
        go_wp2_with fail
        refine (Ih.out x _ Hxw.out Hl.out).mono ?_
        rintro e w3 ⟨rfl, hb3⟩
        have Hb3 := Lib.hid (bgo Hb.out hb3)
        clear hb3
        go_wp2_with fail
        refine (spec_l5Loop _ d x Hw.out _).mono ?_
        rintro e w' ⟨rfl, rfl⟩
        go_wp2_with fail
        go_ret
        exact ⟨rfl, Hb3.out⟩
      · have hb0 : (((Ct.u 42 d x).bytes[0]'hp).toNat : Int) = 42 := congrArg (fun b : UInt8 => (b.toNat : Int)) hh
        clear hs hl hh
        go_enter Try.func65, Try.ntmps65
        go_wp2_with fail
        refine Hparts.out.mono ?_
        rintro e w2 ⟨v, rfl, ⟨g, cap, hv, hg, hcs⟩, hb⟩
        have hv' : v = .slice (some ⟨g, 0, none⟩) 1 cap := hv
        subst hv'
        have hc0 : w2.cell? ⟨g, 0, none⟩ = some (.string x.bytes) := hcs 0 (by simp [Ct.kids])
        clear hv hg hcs
        have Hb := Lib.hid hb
        clear hb
        go_wp2_with fail
        refine (Ih.out x _ Hxw.out Hl.out).mono ?_
        rintro e w3 ⟨rfl, hb3⟩
        have Hb3 := Lib.hid (bgo Hb.out hb3)
        clear hb3
        go_wp2_with fail
        refine (spec_l5Loop _ d x Hw.out _).mono ?_
        rintro e w' ⟨rfl, rfl⟩
        go_wp2_with fail
        go_ret
        exact ⟨rfl, Hb3.out⟩
      · have hb0 : (((Ct.u 43 d x).bytes[0]'hp).toNat : Int) = 43 := congrArg (fun b : UInt8 => (b.toNat : Int)) hh
        clear hs hl hh
        go_enter Try.func65, Try.ntmps65
        go_wp2_with fail
        refine Hparts.out.mono ?_
        rintro e w2 ⟨v, rfl, ⟨g, cap, hv, hg, hcs⟩, hb⟩
        have hv' : v = .slice (some ⟨g, 0, none⟩) 1 cap := hv
        subst hv'
        have hc0 : w2.cell? ⟨g, 0, none⟩ = some (.string x.bytes) := hcs 0 (by simp [Ct.kids])
        clear hv hg hcs
        have Hb := Lib.hid hb
        clear hb
        go_wp2_with fail
        refine (Ih.out x _ Hxw.out Hl.out).mono ?_
        rintro e w3 ⟨rfl, hb3⟩
        have Hb3 := Lib.hid (bgo Hb.out hb3)
        clear hb3
        go_wp2_with fail
        refine (spec_l5Loop _ d x Hw.out _).mono ?_
        rintro e w' ⟨rfl, rfl⟩
        go_wp2_with fail
        go_ret
        exact ⟨rfl, Hb3.out⟩
    | b o d x y =>
      obtain ⟨hs, hd, hxw, hyw⟩ := Ct.wf_b hw
      have Hxw := Lib.hid hxw
      have Hyw := Lib.hid hyw
      have Hd := Lib.hid hd
      have Hl := Lib.hid (show x.tx.length ≤ n by simp [Ct.tx] at hl; omega)
      have Hly := Lib.hid (show y.tx.length ≤ n by simp [Ct.tx] at hl; omega)
      have Dx := (tr_Tr hxw).dg
      have Dy := (tr_Tr hyw).dg
      clear hw hd hxw hyw hl
      rcases shp2 hs with ⟨rfl, hl⟩ | ⟨rfl, hl⟩ | ⟨rfl, hl⟩ | ⟨rfl, hl⟩
      · have hb0 : (((Ct.b 59 d x y).bytes[0]'hp).toNat : Int) = 59 := congrArg (fun b : UInt8 => (b.toNat : Int)) hh
        have hop := fun w => spec_l3Then (txt 16 (tr x)) (txt 16 (tr y)) w (txt_three _) (dg_txt_Dg Dx) (txt_three _) (dg_txt_Dg Dy)
        rw [then_txt Dx Dy] at hop
        have Hop := Lib.hid hop
        clear hop Dx Dy
        clear hs hl hh
        go_enter Try.func65, Try.ntmps65
        go_wp2_with fail
        refine Hparts.out.mono ?_
        rintro e w2 ⟨v, rfl, ⟨g, cap, hv, hg, hcs⟩, hb⟩
        have hv' : v = .slice (some ⟨g, 0, none⟩) 2 cap := hv
        subst hv'
        have hc0 : w2.cell? ⟨g, 0, none⟩ = some (.string x.bytes) := hcs 0 (by simp [Ct.kids])
        have hc1 : w2.cell? ⟨g, 1, none⟩ = some (.string y.bytes) := hcs 1 (by simp [Ct.kids])
        have HS := Lib.hid (And.intro hc0 hc1)
        clear hv hg hcs hc0 hc1
        have Hb := Lib.hid hb
        clear hb
        go_wp2_with fail
        refine wp_region_held_drew (S := fun w' => w'.cell? ⟨g, 0, none⟩ = some (.string x.bytes) ∧ w'.cell? ⟨g, 1, none⟩ = some (.string y.bytes) ∧ Below w.heap.size w w') (by kernel_rfl) ⟨HS.out.1, HS.out.2, Hb.out.drew⟩ (fun hH0 => ?_)
        refine wpAnyH_take (i := 0) (v := .slice (some ⟨g, 0, none⟩) 2 cap) rfl (by kernel_rfl) (by kernel_rfl) (by kernel_rfl) (fun _ _ _ h => h) (Or.inl ⟨by rfl, by intro w hw; clear hw; go_simp⟩) hH0 ?_
        simp only [Act.put, List.setIfInBounds_toArray, List.set_cons_zero, List.set_cons_succ, List.getElem_toArray, List.getElem_cons_succ, List.getElem_cons_zero, getElem?_pos]
        refine wpAnyH_take (i := 1) (v := .pointer (some ⟨g, 0, none⟩)) rfl (by kernel_rfl) (by kernel_rfl) (by kernel_rfl) (fun _ _ _ h => h) (Or.inl ⟨by rfl, by intro w hw; clear hw; go_simp⟩) hH0 ?_
        simp only [Act.put, List.setIfInBounds_toArray, List.set_cons_zero, List.set_cons_succ, List.getElem_toArray, List.getElem_cons_succ, List.getElem_cons_zero, getElem?_pos]
        refine wpAnyH_take (i := 2) (v := .string x.bytes) rfl (by kernel_rfl) (by kernel_rfl) (by kernel_rfl) (fun _ _ _ h => h) (Or.inl ⟨by rfl, by intro w hw; have hc := hw.1; clear hw; go_simp⟩) hH0 ?_
        simp only [Act.put, List.setIfInBounds_toArray, List.set_cons_zero, List.set_cons_succ, List.getElem_toArray, List.getElem_cons_succ, List.getElem_cons_zero, getElem?_pos]
        refine wpAnyH_take (i := 4) (v := .slice (some ⟨g, 0, none⟩) 2 cap) rfl (by kernel_rfl) (by kernel_rfl) (by kernel_rfl) (fun _ _ _ h => h) (Or.inl ⟨by rfl, by intro w hw; clear hw; go_simp⟩) hH0 ?_
        simp only [Act.put, List.setIfInBounds_toArray, List.set_cons_zero, List.set_cons_succ, List.getElem_toArray, List.getElem_cons_succ, List.getElem_cons_zero, getElem?_pos]
        refine wpAnyH_take (i := 5) (v := .pointer (some ⟨g, 1, none⟩)) rfl (by kernel_rfl) (by kernel_rfl) (by kernel_rfl) (fun _ _ _ h => h) (Or.inl ⟨by rfl, by intro w hw; clear hw; go_simp⟩) hH0 ?_
        simp only [Act.put, List.setIfInBounds_toArray, List.set_cons_zero, List.set_cons_succ, List.getElem_toArray, List.getElem_cons_succ, List.getElem_cons_zero, getElem?_pos]
        refine wpAnyH_take (i := 6) (v := .string y.bytes) rfl (by kernel_rfl) (by kernel_rfl) (by kernel_rfl) (fun _ _ _ h => h) (Or.inl ⟨by rfl, by intro w hw; have hc := hw.2.1; clear hw; go_simp⟩) hH0 ?_
        simp only [Act.put, List.setIfInBounds_toArray, List.set_cons_zero, List.set_cons_succ, List.getElem_toArray, List.getElem_cons_succ, List.getElem_cons_zero, getElem?_pos]
        refine wpAnyH_ready (rs := [3]) (by kernel_rfl) (by simp) (AllReadyH.cons rfl (fun K hK => ?_) AllReadyH.nil)
        refine callOp (by rfl) (by go_simp) ((Ih.out x _ Hxw.out Hl.out).mono ?_)
        rintro e w10 ⟨rfl, hb10⟩
        refine ⟨_, rfl, hK.out _ _ ⟨cell_go hH0.1 hb10, cell_go hH0.2.1 hb10, bgo hH0.2.2 hb10⟩ (fun hH1 => ?_)⟩
        clear hK K
        simp only [Act.put, List.setIfInBounds_toArray, List.set_cons_zero, List.set_cons_succ, List.getElem_toArray, List.getElem_cons_succ, List.getElem_cons_zero, getElem?_pos]
        refine wpAnyH_ready (rs := [7]) (by kernel_rfl) (by simp) (AllReadyH.cons rfl (fun K hK => ?_) AllReadyH.nil)
        refine callOp (by rfl) (by go_simp) ((Ih.out y _ Hyw.out Hly.out).mono ?_)
        rintro e w11 ⟨rfl, hb11⟩
        refine ⟨_, rfl, hK.out _ _ ⟨cell_go hH1.1 hb11, cell_go hH1.2.1 hb11, bgo hH1.2.2 hb11⟩ (fun hH2 => ?_)⟩
        clear hK K
        simp only [Act.put, List.setIfInBounds_toArray, List.set_cons_zero, List.set_cons_succ, List.getElem_toArray, List.getElem_cons_succ, List.getElem_cons_zero, getElem?_pos]
        refine wpAnyH_ready (rs := [8]) (by kernel_rfl) (by simp) (AllReadyH.cons rfl (fun K hK => ?_) AllReadyH.nil)
        refine callOp (by rfl) (by go_simp) ((Hop.out _).mono ?_)
        rintro e w' ⟨rfl, rfl⟩
        refine ⟨_, rfl, hK.out _ _ hH2 (fun hH3 => ?_)⟩
        clear hK K
        simp only [Act.put, List.setIfInBounds_toArray, List.set_cons_zero, List.set_cons_succ, List.getElem_toArray, List.getElem_cons_succ, List.getElem_cons_zero, getElem?_pos]
        refine wpAnyH_take (i := 9) (v := .string (txt 16 (thenT (tr x) (tr y)))) rfl (by kernel_rfl) (by kernel_rfl) (by kernel_rfl) (fun _ _ _ h => h) (Or.inl ⟨by rfl, by intro w hw; clear hw; go_simp⟩) hH3 ?_
        simp only [Act.put, List.setIfInBounds_toArray, List.set_cons_zero, List.set_cons_succ, List.getElem_toArray, List.getElem_cons_succ, List.getElem_cons_zero, getElem?_pos]
        refine wpAnyH_done (by kernel_rfl) ?_ _
        go_wp2_with fail
        go_ret
        exact ⟨rfl, hH3.2.2⟩
      · have hb0 : (((Ct.b 38 d x y).bytes[0]'hp).toNat : Int) = 38 := congrArg (fun b : UInt8 => (b.toNat : Int)) hh
        have hop := fun w => spec_l3Meet (txt 16 (tr x)) (txt 16 (tr y)) w (txt_three _) (dg_txt_Dg Dx) (txt_three _) (dg_txt_Dg Dy)
        rw [meet_txt Dx Dy] at hop
        have Hop := Lib.hid hop
        clear hop Dx Dy
        clear hs hl hh
        go_enter Try.func65, Try.ntmps65
        go_wp2_with fail
        refine Hparts.out.mono ?_
        rintro e w2 ⟨v, rfl, ⟨g, cap, hv, hg, hcs⟩, hb⟩
        have hv' : v = .slice (some ⟨g, 0, none⟩) 2 cap := hv
        subst hv'
        have hc0 : w2.cell? ⟨g, 0, none⟩ = some (.string x.bytes) := hcs 0 (by simp [Ct.kids])
        have hc1 : w2.cell? ⟨g, 1, none⟩ = some (.string y.bytes) := hcs 1 (by simp [Ct.kids])
        have HS := Lib.hid (And.intro hc0 hc1)
        clear hv hg hcs hc0 hc1
        have Hb := Lib.hid hb
        clear hb
        go_wp2_with fail
        refine wp_region_held_drew (S := fun w' => w'.cell? ⟨g, 0, none⟩ = some (.string x.bytes) ∧ w'.cell? ⟨g, 1, none⟩ = some (.string y.bytes) ∧ Below w.heap.size w w') (by kernel_rfl) ⟨HS.out.1, HS.out.2, Hb.out.drew⟩ (fun hH0 => ?_)
        refine wpAnyH_take (i := 0) (v := .slice (some ⟨g, 0, none⟩) 2 cap) rfl (by kernel_rfl) (by kernel_rfl) (by kernel_rfl) (fun _ _ _ h => h) (Or.inl ⟨by rfl, by intro w hw; clear hw; go_simp⟩) hH0 ?_
        simp only [Act.put, List.setIfInBounds_toArray, List.set_cons_zero, List.set_cons_succ, List.getElem_toArray, List.getElem_cons_succ, List.getElem_cons_zero, getElem?_pos]
        refine wpAnyH_take (i := 1) (v := .pointer (some ⟨g, 0, none⟩)) rfl (by kernel_rfl) (by kernel_rfl) (by kernel_rfl) (fun _ _ _ h => h) (Or.inl ⟨by rfl, by intro w hw; clear hw; go_simp⟩) hH0 ?_
        simp only [Act.put, List.setIfInBounds_toArray, List.set_cons_zero, List.set_cons_succ, List.getElem_toArray, List.getElem_cons_succ, List.getElem_cons_zero, getElem?_pos]
        refine wpAnyH_take (i := 2) (v := .string x.bytes) rfl (by kernel_rfl) (by kernel_rfl) (by kernel_rfl) (fun _ _ _ h => h) (Or.inl ⟨by rfl, by intro w hw; have hc := hw.1; clear hw; go_simp⟩) hH0 ?_
        simp only [Act.put, List.setIfInBounds_toArray, List.set_cons_zero, List.set_cons_succ, List.getElem_toArray, List.getElem_cons_succ, List.getElem_cons_zero, getElem?_pos]
        refine wpAnyH_take (i := 4) (v := .slice (some ⟨g, 0, none⟩) 2 cap) rfl (by kernel_rfl) (by kernel_rfl) (by kernel_rfl) (fun _ _ _ h => h) (Or.inl ⟨by rfl, by intro w hw; clear hw; go_simp⟩) hH0 ?_
        simp only [Act.put, List.setIfInBounds_toArray, List.set_cons_zero, List.set_cons_succ, List.getElem_toArray, List.getElem_cons_succ, List.getElem_cons_zero, getElem?_pos]
        refine wpAnyH_take (i := 5) (v := .pointer (some ⟨g, 1, none⟩)) rfl (by kernel_rfl) (by kernel_rfl) (by kernel_rfl) (fun _ _ _ h => h) (Or.inl ⟨by rfl, by intro w hw; clear hw; go_simp⟩) hH0 ?_
        simp only [Act.put, List.setIfInBounds_toArray, List.set_cons_zero, List.set_cons_succ, List.getElem_toArray, List.getElem_cons_succ, List.getElem_cons_zero, getElem?_pos]
        refine wpAnyH_take (i := 6) (v := .string y.bytes) rfl (by kernel_rfl) (by kernel_rfl) (by kernel_rfl) (fun _ _ _ h => h) (Or.inl ⟨by rfl, by intro w hw; have hc := hw.2.1; clear hw; go_simp⟩) hH0 ?_
        simp only [Act.put, List.setIfInBounds_toArray, List.set_cons_zero, List.set_cons_succ, List.getElem_toArray, List.getElem_cons_succ, List.getElem_cons_zero, getElem?_pos]
        refine wpAnyH_ready (rs := [3]) (by kernel_rfl) (by simp) (AllReadyH.cons rfl (fun K hK => ?_) AllReadyH.nil)
        refine callOp (by rfl) (by go_simp) ((Ih.out x _ Hxw.out Hl.out).mono ?_)
        rintro e w10 ⟨rfl, hb10⟩
        refine ⟨_, rfl, hK.out _ _ ⟨cell_go hH0.1 hb10, cell_go hH0.2.1 hb10, bgo hH0.2.2 hb10⟩ (fun hH1 => ?_)⟩
        clear hK K
        simp only [Act.put, List.setIfInBounds_toArray, List.set_cons_zero, List.set_cons_succ, List.getElem_toArray, List.getElem_cons_succ, List.getElem_cons_zero, getElem?_pos]
        refine wpAnyH_ready (rs := [7]) (by kernel_rfl) (by simp) (AllReadyH.cons rfl (fun K hK => ?_) AllReadyH.nil)
        refine callOp (by rfl) (by go_simp) ((Ih.out y _ Hyw.out Hly.out).mono ?_)
        rintro e w11 ⟨rfl, hb11⟩
        refine ⟨_, rfl, hK.out _ _ ⟨cell_go hH1.1 hb11, cell_go hH1.2.1 hb11, bgo hH1.2.2 hb11⟩ (fun hH2 => ?_)⟩
        clear hK K
        simp only [Act.put, List.setIfInBounds_toArray, List.set_cons_zero, List.set_cons_succ, List.getElem_toArray, List.getElem_cons_succ, List.getElem_cons_zero, getElem?_pos]
        refine wpAnyH_ready (rs := [8]) (by kernel_rfl) (by simp) (AllReadyH.cons rfl (fun K hK => ?_) AllReadyH.nil)
        refine callOp (by rfl) (by go_simp) ((Hop.out _).mono ?_)
        rintro e w' ⟨rfl, rfl⟩
        refine ⟨_, rfl, hK.out _ _ hH2 (fun hH3 => ?_)⟩
        clear hK K
        simp only [Act.put, List.setIfInBounds_toArray, List.set_cons_zero, List.set_cons_succ, List.getElem_toArray, List.getElem_cons_succ, List.getElem_cons_zero, getElem?_pos]
        refine wpAnyH_take (i := 9) (v := .string (txt 16 (meetT (tr x) (tr y)))) rfl (by kernel_rfl) (by kernel_rfl) (by kernel_rfl) (fun _ _ _ h => h) (Or.inl ⟨by rfl, by intro w hw; clear hw; go_simp⟩) hH3 ?_
        simp only [Act.put, List.setIfInBounds_toArray, List.set_cons_zero, List.set_cons_succ, List.getElem_toArray, List.getElem_cons_succ, List.getElem_cons_zero, getElem?_pos]
        refine wpAnyH_done (by kernel_rfl) ?_ _
        go_wp2_with fail
        go_ret
        exact ⟨rfl, hH3.2.2⟩
      · have hb0 : (((Ct.b 124 d x y).bytes[0]'hp).toNat : Int) = 124 := congrArg (fun b : UInt8 => (b.toNat : Int)) hh
        have hop := fun w => spec_l3Join (txt 16 (tr x)) (txt 16 (tr y)) w (txt_three _) (dg_txt_Dg Dx) (txt_three _) (dg_txt_Dg Dy)
        rw [join_txt Dx Dy] at hop
        have Hop := Lib.hid hop
        clear hop Dx Dy
        clear hs hl hh
        go_enter Try.func65, Try.ntmps65
        go_wp2_with fail
        refine Hparts.out.mono ?_
        rintro e w2 ⟨v, rfl, ⟨g, cap, hv, hg, hcs⟩, hb⟩
        have hv' : v = .slice (some ⟨g, 0, none⟩) 2 cap := hv
        subst hv'
        have hc0 : w2.cell? ⟨g, 0, none⟩ = some (.string x.bytes) := hcs 0 (by simp [Ct.kids])
        have hc1 : w2.cell? ⟨g, 1, none⟩ = some (.string y.bytes) := hcs 1 (by simp [Ct.kids])
        have HS := Lib.hid (And.intro hc0 hc1)
        clear hv hg hcs hc0 hc1
        have Hb := Lib.hid hb
        clear hb
        go_wp2_with fail
        refine wp_region_held_drew (S := fun w' => w'.cell? ⟨g, 0, none⟩ = some (.string x.bytes) ∧ w'.cell? ⟨g, 1, none⟩ = some (.string y.bytes) ∧ Below w.heap.size w w') (by kernel_rfl) ⟨HS.out.1, HS.out.2, Hb.out.drew⟩ (fun hH0 => ?_)
        refine wpAnyH_take (i := 0) (v := .slice (some ⟨g, 0, none⟩) 2 cap) rfl (by kernel_rfl) (by kernel_rfl) (by kernel_rfl) (fun _ _ _ h => h) (Or.inl ⟨by rfl, by intro w hw; clear hw; go_simp⟩) hH0 ?_
        simp only [Act.put, List.setIfInBounds_toArray, List.set_cons_zero, List.set_cons_succ, List.getElem_toArray, List.getElem_cons_succ, List.getElem_cons_zero, getElem?_pos]
        refine wpAnyH_take (i := 1) (v := .pointer (some ⟨g, 0, none⟩)) rfl (by kernel_rfl) (by kernel_rfl) (by kernel_rfl) (fun _ _ _ h => h) (Or.inl ⟨by rfl, by intro w hw; clear hw; go_simp⟩) hH0 ?_
        simp only [Act.put, List.setIfInBounds_toArray, List.set_cons_zero, List.set_cons_succ, List.getElem_toArray, List.getElem_cons_succ, List.getElem_cons_zero, getElem?_pos]
        refine wpAnyH_take (i := 2) (v := .string x.bytes) rfl (by kernel_rfl) (by kernel_rfl) (by kernel_rfl) (fun _ _ _ h => h) (Or.inl ⟨by rfl, by intro w hw; have hc := hw.1; clear hw; go_simp⟩) hH0 ?_
        simp only [Act.put, List.setIfInBounds_toArray, List.set_cons_zero, List.set_cons_succ, List.getElem_toArray, List.getElem_cons_succ, List.getElem_cons_zero, getElem?_pos]
        refine wpAnyH_take (i := 4) (v := .slice (some ⟨g, 0, none⟩) 2 cap) rfl (by kernel_rfl) (by kernel_rfl) (by kernel_rfl) (fun _ _ _ h => h) (Or.inl ⟨by rfl, by intro w hw; clear hw; go_simp⟩) hH0 ?_
        simp only [Act.put, List.setIfInBounds_toArray, List.set_cons_zero, List.set_cons_succ, List.getElem_toArray, List.getElem_cons_succ, List.getElem_cons_zero, getElem?_pos]
        refine wpAnyH_take (i := 5) (v := .pointer (some ⟨g, 1, none⟩)) rfl (by kernel_rfl) (by kernel_rfl) (by kernel_rfl) (fun _ _ _ h => h) (Or.inl ⟨by rfl, by intro w hw; clear hw; go_simp⟩) hH0 ?_
        simp only [Act.put, List.setIfInBounds_toArray, List.set_cons_zero, List.set_cons_succ, List.getElem_toArray, List.getElem_cons_succ, List.getElem_cons_zero, getElem?_pos]
        refine wpAnyH_take (i := 6) (v := .string y.bytes) rfl (by kernel_rfl) (by kernel_rfl) (by kernel_rfl) (fun _ _ _ h => h) (Or.inl ⟨by rfl, by intro w hw; have hc := hw.2.1; clear hw; go_simp⟩) hH0 ?_
        simp only [Act.put, List.setIfInBounds_toArray, List.set_cons_zero, List.set_cons_succ, List.getElem_toArray, List.getElem_cons_succ, List.getElem_cons_zero, getElem?_pos]
        refine wpAnyH_ready (rs := [3]) (by kernel_rfl) (by simp) (AllReadyH.cons rfl (fun K hK => ?_) AllReadyH.nil)
        refine callOp (by rfl) (by go_simp) ((Ih.out x _ Hxw.out Hl.out).mono ?_)
        rintro e w10 ⟨rfl, hb10⟩
        refine ⟨_, rfl, hK.out _ _ ⟨cell_go hH0.1 hb10, cell_go hH0.2.1 hb10, bgo hH0.2.2 hb10⟩ (fun hH1 => ?_)⟩
        clear hK K
        simp only [Act.put, List.setIfInBounds_toArray, List.set_cons_zero, List.set_cons_succ, List.getElem_toArray, List.getElem_cons_succ, List.getElem_cons_zero, getElem?_pos]
        refine wpAnyH_ready (rs := [7]) (by kernel_rfl) (by simp) (AllReadyH.cons rfl (fun K hK => ?_) AllReadyH.nil)
        refine callOp (by rfl) (by go_simp) ((Ih.out y _ Hyw.out Hly.out).mono ?_)
        rintro e w11 ⟨rfl, hb11⟩
        refine ⟨_, rfl, hK.out _ _ ⟨cell_go hH1.1 hb11, cell_go hH1.2.1 hb11, bgo hH1.2.2 hb11⟩ (fun hH2 => ?_)⟩
        clear hK K
        simp only [Act.put, List.setIfInBounds_toArray, List.set_cons_zero, List.set_cons_succ, List.getElem_toArray, List.getElem_cons_succ, List.getElem_cons_zero, getElem?_pos]
        refine wpAnyH_ready (rs := [8]) (by kernel_rfl) (by simp) (AllReadyH.cons rfl (fun K hK => ?_) AllReadyH.nil)
        refine callOp (by rfl) (by go_simp) ((Hop.out _).mono ?_)
        rintro e w' ⟨rfl, rfl⟩
        refine ⟨_, rfl, hK.out _ _ hH2 (fun hH3 => ?_)⟩
        clear hK K
        simp only [Act.put, List.setIfInBounds_toArray, List.set_cons_zero, List.set_cons_succ, List.getElem_toArray, List.getElem_cons_succ, List.getElem_cons_zero, getElem?_pos]
        refine wpAnyH_take (i := 9) (v := .string (txt 16 (joinT (tr x) (tr y)))) rfl (by kernel_rfl) (by kernel_rfl) (by kernel_rfl) (fun _ _ _ h => h) (Or.inl ⟨by rfl, by intro w hw; clear hw; go_simp⟩) hH3 ?_
        simp only [Act.put, List.setIfInBounds_toArray, List.set_cons_zero, List.set_cons_succ, List.getElem_toArray, List.getElem_cons_succ, List.getElem_cons_zero, getElem?_pos]
        refine wpAnyH_done (by kernel_rfl) ?_ _
        go_wp2_with fail
        go_ret
        exact ⟨rfl, hH3.2.2⟩
      · have hb0 : (((Ct.b 105 d x y).bytes[0]'hp).toNat : Int) = 105 := congrArg (fun b : UInt8 => (b.toNat : Int)) hh
        obtain ⟨d0, hd0, hpv⟩ := one_digit hl
        obtain ⟨h1, hb1⟩ := bytes_one (t := Ct.b 105 d x y) hd0
        have h1' : (1 : Int) < ((Ct.b 105 d x y).bytes.size : Int) := by omega
        have hc := fun w => spec_l2Hex ((Ct.b 105 d x y).bytes[1]'h1) w
        have e : hx ((Ct.b 105 d x y).bytes[1]'h1) = pv d := by rw [hb1, hpv]
        rw [e] at hc
        have Hc := Lib.hid hc
        have hpc := pv_cv Hd.out
        have hnc := Cv.andn Cv.c15 hpc
        have Dp := assertT_Dg hpc.1 hpc.2
        have Dn := assertT_Dg hnc.1 hnc.2
        have h3 := fun w => spec_l3Then (txt 16 (assertT (pv d))) (txt 16 (tr x)) w (txt_three _) (dg_txt_Dg Dp) (txt_three _) (dg_txt_Dg Dx)
        rw [then_txt Dp Dx] at h3
        have h4 := fun w => spec_l3Then (txt 16 (assertT (bandn 15 (pv d)))) (txt 16 (tr y)) w (txt_three _) (dg_txt_Dg Dn) (txt_three _) (dg_txt_Dg Dy)
        rw [then_txt Dn Dy] at h4
        have h5 := fun w => spec_l3Join (txt 16 (thenT (assertT (pv d)) (tr x))) (txt 16 (thenT (assertT (bandn 15 (pv d))) (tr y))) w (txt_three _) (dg_txt_Dg (thenT_Dg Dp Dx)) (txt_three _) (dg_txt_Dg (thenT_Dg Dn Dy))
        rw [join_txt (thenT_Dg Dp Dx) (thenT_Dg Dn Dy), if_join hpc Dx Dy] at h5
        have H3 := Lib.hid h3
        have H4 := Lib.hid h4
        have H5 := Lib.hid h5
        have Hpc := Lib.hid hpc
        have Hnc := Lib.hid hnc
        clear hc e hb1 hpv hd0 h3 h4 h5 hpc hnc Dp Dn Dx Dy
        clear hs hl hh
        go_enter Try.func65, Try.ntmps65
        go_wp2_with fail
        refine Hparts.out.mono ?_
        rintro e w2 ⟨v, rfl, ⟨g, cap, hv, hg, hcs⟩, hb⟩
        have hv' : v = .slice (some ⟨g, 0, none⟩) 2 cap := hv
        subst hv'
        have hc0 : w2.cell? ⟨g, 0, none⟩ = some (.string x.bytes) := hcs 0 (by simp [Ct.kids])
        have hc1 : w2.cell? ⟨g, 1, none⟩ = some (.string y.bytes) := hcs 1 (by simp [Ct.kids])
        have HS := Lib.hid (And.intro hc0 hc1)
        clear hv hg hcs hc0 hc1
        have Hb := Lib.hid hb
        clear hb
        go_wp2_with fail
        refine (Hc.out _).mono ?_
        rintro e w' ⟨rfl, rfl⟩
        go_wp2_with fail
        refine wp_region_held_drew (S := fun w' => w'.cell? ⟨g, 0, none⟩ = some (.string x.bytes) ∧ w'.cell? ⟨g, 1, none⟩ = some (.string y.bytes) ∧ Below w.heap.size w w') (by kernel_rfl) ⟨HS.out.1, HS.out.2, Hb.out.drew⟩ (fun hH0 => ?_)
        refine wpAnyH_take (i := 0) (v := .int .i64 (pv d)) rfl (by kernel_rfl) (by kernel_rfl) (by kernel_rfl) (fun _ _ _ h => h) (Or.inl ⟨by rfl, by intro w hw; clear hw; go_simp⟩) hH0 ?_
        simp only [Act.put, List.setIfInBounds_toArray, List.set_cons_zero, List.set_cons_succ, List.getElem_toArray, List.getElem_cons_succ, List.getElem_cons_zero, getElem?_pos]
        refine wpAnyH_take (i := 2) (v := .slice (some ⟨g, 0, none⟩) 2 cap) rfl (by kernel_rfl) (by kernel_rfl) (by kernel_rfl) (fun _ _ _ h => h) (Or.inl ⟨by rfl, by intro w hw; clear hw; go_simp⟩) hH0 ?_
        simp only [Act.put, List.setIfInBounds_toArray, List.set_cons_zero, List.set_cons_succ, List.getElem_toArray, List.getElem_cons_succ, List.getElem_cons_zero, getElem?_pos]
        refine wpAnyH_take (i := 3) (v := .pointer (some ⟨g, 0, none⟩)) rfl (by kernel_rfl) (by kernel_rfl) (by kernel_rfl) (fun _ _ _ h => h) (Or.inl ⟨by rfl, by intro w hw; clear hw; go_simp⟩) hH0 ?_
        simp only [Act.put, List.setIfInBounds_toArray, List.set_cons_zero, List.set_cons_succ, List.getElem_toArray, List.getElem_cons_succ, List.getElem_cons_zero, getElem?_pos]
        refine wpAnyH_take (i := 4) (v := .string x.bytes) rfl (by kernel_rfl) (by kernel_rfl) (by kernel_rfl) (fun _ _ _ h => h) (Or.inl ⟨by rfl, by intro w hw; have hc := hw.1; clear hw; go_simp⟩) hH0 ?_
        simp only [Act.put, List.setIfInBounds_toArray, List.set_cons_zero, List.set_cons_succ, List.getElem_toArray, List.getElem_cons_succ, List.getElem_cons_zero, getElem?_pos]
        refine wpAnyH_take (i := 7) (v := .int .i64 (pv d)) rfl (by kernel_rfl) (by kernel_rfl) (by kernel_rfl) (fun _ _ _ h => h) (Or.inl ⟨by rfl, by intro w hw; clear hw; go_simp⟩) hH0 ?_
        simp only [Act.put, List.setIfInBounds_toArray, List.set_cons_zero, List.set_cons_succ, List.getElem_toArray, List.getElem_cons_succ, List.getElem_cons_zero, getElem?_pos]
        refine wpAnyH_take (i := 8) (v := .int .i64 (bandn 15 (pv d))) rfl (by kernel_rfl) (by kernel_rfl) (by kernel_rfl) (fun _ _ _ h => h) (Or.inl ⟨by rfl, by intro w hw; clear hw; go_simp; rfl⟩) hH0 ?_
        simp only [Act.put, List.setIfInBounds_toArray, List.set_cons_zero, List.set_cons_succ, List.getElem_toArray, List.getElem_cons_succ, List.getElem_cons_zero, getElem?_pos]
        refine wpAnyH_take (i := 10) (v := .slice (some ⟨g, 0, none⟩) 2 cap) rfl (by kernel_rfl) (by kernel_rfl) (by kernel_rfl) (fun _ _ _ h => h) (Or.inl ⟨by rfl, by intro w hw; clear hw; go_simp⟩) hH0 ?_
        simp only [Act.put, List.setIfInBounds_toArray, List.set_cons_zero, List.set_cons_succ, List.getElem_toArray, List.getElem_cons_succ, List.getElem_cons_zero, getElem?_pos]
        refine wpAnyH_take (i := 11) (v := .pointer (some ⟨g, 1, none⟩)) rfl (by kernel_rfl) (by kernel_rfl) (by kernel_rfl) (fun _ _ _ h => h) (Or.inl ⟨by rfl, by intro w hw; clear hw; go_simp⟩) hH0 ?_
        simp only [Act.put, List.setIfInBounds_toArray, List.set_cons_zero, List.set_cons_succ, List.getElem_toArray, List.getElem_cons_succ, List.getElem_cons_zero, getElem?_pos]
        refine wpAnyH_take (i := 12) (v := .string y.bytes) rfl (by kernel_rfl) (by kernel_rfl) (by kernel_rfl) (fun _ _ _ h => h) (Or.inl ⟨by rfl, by intro w hw; have hc := hw.2.1; clear hw; go_simp⟩) hH0 ?_
        simp only [Act.put, List.setIfInBounds_toArray, List.set_cons_zero, List.set_cons_succ, List.getElem_toArray, List.getElem_cons_succ, List.getElem_cons_zero, getElem?_pos]
        refine wpAnyH_ready (rs := [1]) (by kernel_rfl) (by simp) (AllReadyH.cons rfl (fun K hK => ?_) AllReadyH.nil)
        refine callOp (by rfl) (by go_simp) ((spec_l3Assert (pv d) _ Hpc.out.1 Hpc.out.2).mono ?_)
        rintro e w' ⟨rfl, rfl⟩
        refine ⟨_, rfl, hK.out _ _ hH0 (fun hH1 => ?_)⟩
        clear hK K
        simp only [Act.put, List.setIfInBounds_toArray, List.set_cons_zero, List.set_cons_succ, List.getElem_toArray, List.getElem_cons_succ, List.getElem_cons_zero, getElem?_pos]
        refine wpAnyH_ready (rs := [5]) (by kernel_rfl) (by simp) (AllReadyH.cons rfl (fun K hK => ?_) AllReadyH.nil)
        refine callOp (by rfl) (by go_simp) ((Ih.out x _ Hxw.out Hl.out).mono ?_)
        rintro e w11 ⟨rfl, hb11⟩
        refine ⟨_, rfl, hK.out _ _ ⟨cell_go hH1.1 hb11, cell_go hH1.2.1 hb11, bgo hH1.2.2 hb11⟩ (fun hH2 => ?_)⟩
        clear hK K
        simp only [Act.put, List.setIfInBounds_toArray, List.set_cons_zero, List.set_cons_succ, List.getElem_toArray, List.getElem_cons_succ, List.getElem_cons_zero, getElem?_pos]
        refine wpAnyH_ready (rs := [6]) (by kernel_rfl) (by simp) (AllReadyH.cons rfl (fun K hK => ?_) AllReadyH.nil)
        refine callOp (by rfl) (by go_simp) ((H3.out _).mono ?_)
        rintro e w' ⟨rfl, rfl⟩
        refine ⟨_, rfl, hK.out _ _ hH2 (fun hH3 => ?_)⟩
        clear hK K
        simp only [Act.put, List.setIfInBounds_toArray, List.set_cons_zero, List.set_cons_succ, List.getElem_toArray, List.getElem_cons_succ, List.getElem_cons_zero, getElem?_pos]
        refine wpAnyH_ready (rs := [9]) (by kernel_rfl) (by simp) (AllReadyH.cons rfl (fun K hK => ?_) AllReadyH.nil)
        refine callOp (by rfl) (by go_simp) ((spec_l3Assert (bandn 15 (pv d)) _ Hnc.out.1 Hnc.out.2).mono ?_)
        rintro e w' ⟨rfl, rfl⟩
        refine ⟨_, rfl, hK.out _ _ hH3 (fun hH4 => ?_)⟩
        clear hK K
        simp only [Act.put, List.setIfInBounds_toArray, List.set_cons_zero, List.set_cons_succ, List.getElem_toArray, List.getElem_cons_succ, List.getElem_cons_zero, getElem?_pos]
        refine wpAnyH_ready (rs := [13]) (by kernel_rfl) (by simp) (AllReadyH.cons rfl (fun K hK => ?_) AllReadyH.nil)
        refine callOp (by rfl) (by go_simp) ((Ih.out y _ Hyw.out Hly.out).mono ?_)
        rintro e w14 ⟨rfl, hb14⟩
        refine ⟨_, rfl, hK.out _ _ ⟨cell_go hH4.1 hb14, cell_go hH4.2.1 hb14, bgo hH4.2.2 hb14⟩ (fun hH5 => ?_)⟩
        clear hK K
        simp only [Act.put, List.setIfInBounds_toArray, List.set_cons_zero, List.set_cons_succ, List.getElem_toArray, List.getElem_cons_succ, List.getElem_cons_zero, getElem?_pos]
        refine wpAnyH_ready (rs := [14]) (by kernel_rfl) (by simp) (AllReadyH.cons rfl (fun K hK => ?_) AllReadyH.nil)
        refine callOp (by rfl) (by go_simp) ((H4.out _).mono ?_)
        rintro e w' ⟨rfl, rfl⟩
        refine ⟨_, rfl, hK.out _ _ hH5 (fun hH6 => ?_)⟩
        clear hK K
        simp only [Act.put, List.setIfInBounds_toArray, List.set_cons_zero, List.set_cons_succ, List.getElem_toArray, List.getElem_cons_succ, List.getElem_cons_zero, getElem?_pos]
        refine wpAnyH_ready (rs := [15]) (by kernel_rfl) (by simp) (AllReadyH.cons rfl (fun K hK => ?_) AllReadyH.nil)
        refine callOp (by rfl) (by go_simp) ((H5.out _).mono ?_)
        rintro e w' ⟨rfl, rfl⟩
        refine ⟨_, rfl, hK.out _ _ hH6 (fun hH7 => ?_)⟩
        clear hK K
        simp only [Act.put, List.setIfInBounds_toArray, List.set_cons_zero, List.set_cons_succ, List.getElem_toArray, List.getElem_cons_succ, List.getElem_cons_zero, getElem?_pos]
        refine wpAnyH_take (i := 16) (v := .string (txt 16 (fun q => ifv (pv d) (tr x q) (tr y q)))) rfl (by kernel_rfl) (by kernel_rfl) (by kernel_rfl) (fun _ _ _ h => h) (Or.inl ⟨by rfl, by intro w hw; clear hw; go_simp⟩) hH7 ?_
        simp only [Act.put, List.setIfInBounds_toArray, List.set_cons_zero, List.set_cons_succ, List.getElem_toArray, List.getElem_cons_succ, List.getElem_cons_zero, getElem?_pos]
        refine wpAnyH_done (by kernel_rfl) ?_ _
        go_wp2_with fail
        go_ret
        exact ⟨rfl, hH7.2.2⟩
end Go.Proofs.Ytfajaikkagmkeaa
