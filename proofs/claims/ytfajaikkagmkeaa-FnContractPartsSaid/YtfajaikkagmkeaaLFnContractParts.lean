/-
  For every input the law FnContractParts returns true: each statement has the transformer that its parts make; an if is the angelic choice of asserted parts, and the demonic choice of assumed ones. No condition.
-/
import Derived.Test.YtfajaikkagmkeaaRows
import Derived.Test.YtfajaikkagmkeaaA16
import Derived.Test.YtfajaikkagmkeaaA17
import Derived.Test.YtfajaikkagmkeaaC8
import Derived.Test.YtfajaikkagmkeaaD6
import Derived.Test.YtfajaikkagmkeaaRe
import Derived.Test.YtfajaikkagmkeaaG3
import Derived.WalkKit
import Derived.ProofKit
import Derived.OpenShut
import Derived.ShutString
import Derived.ChangeOld
import Derived.Below
namespace Go.Proofs.Ytfajaikkagmkeaa.fnContractParts
open Go.ChangeShapes Go.WideShapes Go.ChangeAt Go.RowKit Go.DC
open Go.ChangeMaps (open_string shut_string)
set_option linter.unusedVariables false
set_option linter.unusedSimpArgs false
set_option maxHeartbeats 400000
theorem own : ownKnob Try.prog.godebug = none := by kernel_rfl
theorem laidOut : laidOutB Try.prog = true := by kernel_rfl
theorem skip_txt (d : List UInt8) : txt 16 (tr (.z 115 d)) = (ByteArray.mk #[48, 49, 50, 51, 52, 53, 54, 55, 56, 57, 97, 98, 99, 100, 101, 102]) := by
  rw [tr_s]
  decide +kernel
theorem if_angel {p a b : Int} (hp : Cv p) (ha : Cv a) (hb : Cv b) : bor (band p a) (band (bandn 15 p) b) = ifv p a b := by
  have hn := Cv.c15.andn hp
  refine cv_ext ((hp.and ha).or (hn.and hb)) (if_cv hp ha hb) fun i hi => ?_
  rw [Cv.has_or (hp.and ha) (hn.and hb) hi, Cv.has_and hp ha hi, Cv.has_and hn hb hi, Cv.has_andn Cv.c15 hp hi, has15 hi, has_if hp ha hb hi]
  cases hasb p i <;> simp
theorem if_demon {p a b : Int} (hp : Cv p) (ha : Cv a) (hb : Cv b) : band (bor a (bandn 15 p)) (bor b (bandn 15 (bandn 15 p))) = ifv p a b := by
  have hn := Cv.c15.andn hp
  have hnn := Cv.c15.andn hn
  refine cv_ext ((ha.or hn).and (hb.or hnn)) (if_cv hp ha hb) fun i hi => ?_
  rw [Cv.has_and (ha.or hn) (hb.or hnn) hi, Cv.has_or ha hn hi, Cv.has_or hb hnn hi, Cv.has_andn Cv.c15 hn hi, Cv.has_andn Cv.c15 hp hi, has15 hi, has_if hp ha hb hi]
  cases hasb p i <;> simp
theorem compl_num {p : Int} (hp : Cv p) : bandn 15 p = 15 - p := by
  have h : ∀ m : Fin 16, bandn 15 (m.val : Int) = 15 - (m.val : Int) := by decide +kernel
  exact cond_all (P := fun p => bandn 15 p = 15 - p) h hp.1 hp.2
theorem pv_one (b : UInt8) : pv [b] = hx b := rfl
/-- An if is the angel's choice of asserted parts. -/
theorem parts_a {p q : UInt8} {x y : Ct} (hp : Cv (hx p)) (hq : hx q = bandn 15 (hx p)) (hx' : x.wf = true) (hy : y.wf = true) :
    txt 16 (tr (.b 124 [] (.b 59 [] (.z 33 [p]) x) (.b 59 [] (.z 33 [q]) y))) = txt 16 (tr (.b 105 [p] x y)) := txt_congr fun k hk => by
  have hk' := Cv.nat hk
  have hX := (tr_Tr hx').cv hk'
  have hY := (tr_Tr hy).cv hk'
  have e : ap (tr (.b 124 [] (.b 59 [] (.z 33 [p]) x) (.b 59 [] (.z 33 [q]) y))) k = ap (tr (.b 105 [p] x y)) k := by
    rw [ap_ang, ap_seq, ap_seq, ap_if, tr_assert, tr_assert, ap_assert hX, ap_assert hY, pv_one, pv_one, hq]
    exact if_angel hp hX hY
  rwa [ap_nat, ap_nat] at e
/-- And the demon's choice of assumed ones. -/
theorem parts_d {p q : UInt8} {x y : Ct} (hp : Cv (hx p)) (hq : hx q = bandn 15 (hx p)) (hx' : x.wf = true) (hy : y.wf = true) :
    txt 16 (tr (.b 38 [] (.b 59 [] (.z 63 [p]) x) (.b 59 [] (.z 63 [q]) y))) = txt 16 (tr (.b 105 [p] x y)) := txt_congr fun k hk => by
  have hk' := Cv.nat hk
  have hX := (tr_Tr hx').cv hk'
  have hY := (tr_Tr hy).cv hk'
  have e : ap (tr (.b 38 [] (.b 59 [] (.z 63 [p]) x) (.b 59 [] (.z 63 [q]) y))) k = ap (tr (.b 105 [p] x y)) k := by
    rw [ap_dem, ap_seq, ap_seq, ap_if, tr_assume, tr_assume, ap_assume hX, ap_assume hY, pv_one, pv_one, hq]
    exact if_demon hp hX hY
  rwa [ap_nat, ap_nat] at e
set_option maxHeartbeats 8000000 in
set_option maxRecDepth 100000 in
theorem walk (a0 : Option Addr) (len0 cap0 : Nat) (z0 : List Int) (w : World) (w0 : IsRow .u8 w a0 len0 cap0 z0) :
    Calls Try.prog 5 #[.slice a0 len0 cap0] w fun e w' => e = .returned (.bool true) ∧ Below w.heap.size w w' := by
  by_cases hl : (1048576 : Int) < len0
  · clear w0
    go_enter Try.func5, Try.ntmps5
    go_wp2_with fail
    go_ret
    exact ⟨rfl, Below.refl _ _⟩
  have H0 := Lib.hid w0
  clear w0
  go_enter Try.func5, Try.ntmps5
  go_wp2_with fail
  refine (spec_DrawTransOfContract a0 len0 cap0 z0 w H0.out).mono ?_
  rintro e w2 ⟨c, hz, rfl, hB⟩
  have HB := Lib.hid hB
  clear hB H0
  have hm : c.size ≤ maxLen := by unfold maxLen; omega
  have c1 := fun w => impl_TransOfContract c w hm
  have c2 := fun w => spec_TransOfContract c w hm
  have c3 := fun w => impl_ContractValid c w hm
  have C4 := Lib.hid (fun w => impl_PartsOfContract c w hm)
  cases hc : cto c with
  | none =>
    simp only [ctv_none _ _ hc] at c1 c2
    have c1 : ∀ w, Calls Try.prog 29 #[.string c] w fun e w' => e = .returned (.tuple #[.string ByteArray.empty, .bool false]) ∧ Below w.heap.size w w' := fun w => by have h := c1 w; rw [hc] at h; exact h
    have c2 : ∀ w, Calls Try.prog 30 #[.string c] w fun e w' => e = .returned (.tuple #[.string ByteArray.empty, .bool false]) ∧ Below w.heap.size w w' := fun w => by have h := c2 w; rw [hc] at h; exact h
    have c3 : ∀ w, Calls Try.prog 14 #[.string c] w fun e w' => e = .returned (.bool false) ∧ Below w.heap.size w w' := fun w => by have h := c3 w; rw [hc] at h; exact h
    have C1 := Lib.hid c1
    clear c1
    have C2 := Lib.hid c2
    clear c2
    have C3 := Lib.hid c3
    clear c3
    clear hc hm C4
    (go_wp2_with fail; refine (C1.out _).mono ?_; rintro e w' ⟨rfl, hb⟩; have HB := Lib.hid (bgo HB.out hb); clear hb)
    (go_wp2_with fail; refine (C2.out _).mono ?_; rintro e w' ⟨rfl, hb⟩; have HB := Lib.hid (bgo HB.out hb); clear hb)
    (go_wp2_with fail; refine (C3.out _).mono ?_; rintro e w' ⟨rfl, hb⟩; have HB := Lib.hid (bgo HB.out hb); clear hb)
    (go_wp2_with fail; refine (C3.out _).mono ?_; rintro e w' ⟨rfl, hb⟩; have HB := Lib.hid (bgo HB.out hb); clear hb)
    go_wp2_with fail
    go_ret
    exact ⟨rfl, HB.out⟩
  | some t =>
    simp only [ctv_some _ _ hc] at c1 c2
    have c1 : ∀ w, Calls Try.prog 29 #[.string c] w fun e w' => e = .returned (.tuple #[.string (txt 16 (tr t)), .bool true]) ∧ Below w.heap.size w w' := fun w => by have h := c1 w; rw [hc] at h; exact h
    have c2 : ∀ w, Calls Try.prog 30 #[.string c] w fun e w' => e = .returned (.tuple #[.string (txt 16 (tr t)), .bool true]) ∧ Below w.heap.size w w' := fun w => by have h := c2 w; rw [hc] at h; exact h
    have c3 : ∀ w, Calls Try.prog 14 #[.string c] w fun e w' => e = .returned (.bool true) ∧ Below w.heap.size w w' := fun w => by have h := c3 w; rw [hc] at h; exact h
    obtain ⟨hcb, hw, h200⟩ := cto_some.1 hc
    have Hpo := Lib.hid (show partsOf c = t.kids.map Ct.bytes from ctv_some _ _ hc)
    have c5 := fun w => impl_TransValid (txt 16 (tr t)) w
    rw [tvB_txt (tr_Tr hw)] at c5
    clear hc hm
    subst hcb
    have hp := bytes_pos t
    have hp' : (0 : Int) < (t.bytes.size : Int) := by omega
    have hh := bytes_head t
    have hsz := hz
    rw [Ct.bytes_size] at hsz
    have C1 := Lib.hid c1
    clear c1
    have C2 := Lib.hid c2
    clear c2
    have C3 := Lib.hid c3
    clear c3
    have C5 := Lib.hid c5
    clear c5
    (go_wp2_with fail; refine (C1.out _).mono ?_; rintro e w' ⟨rfl, hb⟩; have HB := Lib.hid (bgo HB.out hb); clear hb)
    (go_wp2_with fail; refine (C2.out _).mono ?_; rintro e w' ⟨rfl, hb⟩; have HB := Lib.hid (bgo HB.out hb); clear hb)
    (go_wp2_with fail; refine (C3.out _).mono ?_; rintro e w' ⟨rfl, hb⟩; have HB := Lib.hid (bgo HB.out hb); clear hb)
    go_wp2_with fail
    refine (C4.out _).mono ?_
    rintro e w4 ⟨v, rfl, ho, hb⟩
    have HS := Lib.hid ho.strs
    rw [Hpo.out] at HS
    have HB := Lib.hid (bgo HB.out hb)
    clear hb ho C4 Hpo
    cases t with
    | z o d =>
      obtain ⟨hs, hd⟩ := Ct.wf_z hw
      have hbs : (Ct.z o d).bytes.size ≤ 55 := hz
      rcases shp0 hs with ⟨rfl, hl⟩ | ⟨rfl, hl⟩ | ⟨rfl, hl⟩ | ⟨rfl, hl⟩ | ⟨rfl, hl⟩ | ⟨rfl, hl⟩ | ⟨rfl, hl⟩
      · have hb0 : (((Ct.z 115 d).bytes[0]'hp).toNat : Int) = 115 := congrArg (fun b : UInt8 => (b.toNat : Int)) hh
        have hT : txt 16 (tr (.z 115 d)) = (ByteArray.mk #[48, 49, 50, 51, 52, 53, 54, 55, 56, 57, 97, 98, 99, 100, 101, 102]) := skip_txt d
        rw [hT]
        clear hT hl hd hs hh hw hsz
        go_wp2_with fail
        go_ret
        exact ⟨rfl, HB.out⟩
      · have hb0 : (((Ct.z 97 d).bytes[0]'hp).toNat : Int) = 97 := congrArg (fun b : UInt8 => (b.toNat : Int)) hh
        clear hl hd hs hh hw hsz
        (go_wp2_with fail; refine (C5.out _).mono ?_; rintro e w' ⟨rfl, hb⟩; have HB := Lib.hid (bgo HB.out hb); clear hb)
        go_wp2_with fail
        go_ret
        exact ⟨rfl, HB.out⟩
      · have hb0 : (((Ct.z 109 d).bytes[0]'hp).toNat : Int) = 109 := congrArg (fun b : UInt8 => (b.toNat : Int)) hh
        clear hl hd hs hh hw hsz
        (go_wp2_with fail; refine (C5.out _).mono ?_; rintro e w' ⟨rfl, hb⟩; have HB := Lib.hid (bgo HB.out hb); clear hb)
        go_wp2_with fail
        go_ret
        exact ⟨rfl, HB.out⟩
      · have hb0 : (((Ct.z 33 d).bytes[0]'hp).toNat : Int) = 33 := congrArg (fun b : UInt8 => (b.toNat : Int)) hh
        clear hl hd hs hh hw hsz
        (go_wp2_with fail; refine (C5.out _).mono ?_; rintro e w' ⟨rfl, hb⟩; have HB := Lib.hid (bgo HB.out hb); clear hb)
        go_wp2_with fail
        go_ret
        exact ⟨rfl, HB.out⟩
      · have hb0 : (((Ct.z 63 d).bytes[0]'hp).toNat : Int) = 63 := congrArg (fun b : UInt8 => (b.toNat : Int)) hh
        clear hl hd hs hh hw hsz
        (go_wp2_with fail; refine (C5.out _).mono ?_; rintro e w' ⟨rfl, hb⟩; have HB := Lib.hid (bgo HB.out hb); clear hb)
        go_wp2_with fail
        go_ret
        exact ⟨rfl, HB.out⟩
      · have hb0 : (((Ct.z 65 d).bytes[0]'hp).toNat : Int) = 65 := congrArg (fun b : UInt8 => (b.toNat : Int)) hh
        have hcut : (Ct.z 65 d).bytes.extract 1 (Ct.z 65 d).bytes.size = bts d := by
          refine bts_of ?_
          have hln : (Ct.z 65 d).bytes.size = (Ct.z 65 d).tx.length := Ct.bytes_size _
          rw [extract_list, Ct.bytes_list, hln]
          simp [Ct.tx]
        have hdv : dvB 4 (bts d) = true := dvB_iff.2 ⟨by rw [bts_size]; exact hl, fun i hi => by rw [dg_bts]; exact (rv_Dg hd hl i hi).1⟩
        have c6 := fun w => impl_AngelTrans (bts d) w
        rw [hdv, orNo_true, show angelT (dg (bts d)) = tr (Ct.z 65 d) by rw [show dg (bts d) = rv d from funext fun i => dg_bts d i]; exact (tr_angel d).symm, ← hcut] at c6
        have hs1 : (1 : Int) ≤ ((Ct.z 65 d).bytes.size : Int) := by omega
        clear hcut hdv hl hd hs hh hw hsz
        have C6 := Lib.hid c6
        clear c6
        generalize txt 16 (tr (Ct.z 65 d)) = T at *
        (go_wp2_with fail; refine (C6.out _).mono ?_; rintro e w' ⟨rfl, hb⟩; have HB := Lib.hid (bgo HB.out hb); clear hb)
        go_wp2_with fail
        go_ret
        exact ⟨rfl, HB.out⟩
      · have hb0 : (((Ct.z 68 d).bytes[0]'hp).toNat : Int) = 68 := congrArg (fun b : UInt8 => (b.toNat : Int)) hh
        have hcut : (Ct.z 68 d).bytes.extract 1 (Ct.z 68 d).bytes.size = bts d := by
          refine bts_of ?_
          have hln : (Ct.z 68 d).bytes.size = (Ct.z 68 d).tx.length := Ct.bytes_size _
          rw [extract_list, Ct.bytes_list, hln]
          simp [Ct.tx]
        have hdv : dvB 4 (bts d) = true := dvB_iff.2 ⟨by rw [bts_size]; exact hl, fun i hi => by rw [dg_bts]; exact (rv_Dg hd hl i hi).1⟩
        have c6 := fun w => impl_DemonTrans (bts d) w
        rw [hdv, orNo_true, show demonT (dg (bts d)) = tr (Ct.z 68 d) by rw [show dg (bts d) = rv d from funext fun i => dg_bts d i]; exact (tr_demon d).symm, ← hcut] at c6
        have hs1 : (1 : Int) ≤ ((Ct.z 68 d).bytes.size : Int) := by omega
        clear hcut hdv hl hd hs hh hw hsz
        have C6 := Lib.hid c6
        clear c6
        generalize txt 16 (tr (Ct.z 68 d)) = T at *
        (go_wp2_with fail; refine (C6.out _).mono ?_; rintro e w' ⟨rfl, hb⟩; have HB := Lib.hid (bgo HB.out hb); clear hb)
        go_wp2_with fail
        go_ret
        exact ⟨rfl, HB.out⟩
    | u o d x =>
      obtain ⟨hs, hd, hxw⟩ := Ct.wf_u hw
      rcases shp1 hs with ⟨rfl, hl⟩ | ⟨rfl, hl⟩ | ⟨rfl, hl⟩
      · have hb0 : (((Ct.u 119 d x).bytes[0]'hp).toNat : Int) = 119 := congrArg (fun b : UInt8 => (b.toNat : Int)) hh
        clear hl hd hxw hs hh hw hsz
        (go_wp2_with fail; refine (C5.out _).mono ?_; rintro e w' ⟨rfl, hb⟩; have HB := Lib.hid (bgo HB.out hb); clear hb)
        go_wp2_with fail
        go_ret
        exact ⟨rfl, HB.out⟩
      · have hb0 : (((Ct.u 42 d x).bytes[0]'hp).toNat : Int) = 42 := congrArg (fun b : UInt8 => (b.toNat : Int)) hh
        clear hl hd hxw hs hh hw hsz
        (go_wp2_with fail; refine (C5.out _).mono ?_; rintro e w' ⟨rfl, hb⟩; have HB := Lib.hid (bgo HB.out hb); clear hb)
        go_wp2_with fail
        go_ret
        exact ⟨rfl, HB.out⟩
      · have hb0 : (((Ct.u 43 d x).bytes[0]'hp).toNat : Int) = 43 := congrArg (fun b : UInt8 => (b.toNat : Int)) hh
        clear hl hd hxw hs hh hw hsz
        (go_wp2_with fail; refine (C5.out _).mono ?_; rintro e w' ⟨rfl, hb⟩; have HB := Lib.hid (bgo HB.out hb); clear hb)
        go_wp2_with fail
        go_ret
        exact ⟨rfl, HB.out⟩
    | b o d x y =>
      obtain ⟨hs, hd, hxw, hyw⟩ := Ct.wf_b hw
      have hxl : x.tx.length ≤ 55 := by simp [Ct.tx] at hsz; omega
      have hyl : y.tx.length ≤ 55 := by simp [Ct.tx] at hsz; omega
      obtain ⟨g, cap, hv, hg, hcs⟩ := HS.out
      have hv' : v = .slice (some ⟨g, 0, none⟩) 2 cap := hv
      subst hv'
      have hc0 : w4.cell? ⟨g, 0, none⟩ = some (.string x.bytes) := hcs 0 (by simp [Ct.kids])
      have hc1 : w4.cell? ⟨g, 1, none⟩ = some (.string y.bytes) := hcs 1 (by simp [Ct.kids])
      have HC := Lib.hid (And.intro hc0 hc1)
      have X1 := Lib.hid (fun w => show Calls Try.prog 26 #[.string x.bytes] w fun e w' => e = .returned (.string (txt 16 (tr x))) ∧ Below w.heap.size w w' from by have h := laws_dcTrans x.bytes w (by rw [Ct.bytes_size]; unfold maxLen; omega); rw [ctv_of hxw (by omega)] at h; exact h)
      have Y1 := Lib.hid (fun w => show Calls Try.prog 26 #[.string y.bytes] w fun e w' => e = .returned (.string (txt 16 (tr y))) ∧ Below w.heap.size w w' from by have h := laws_dcTrans y.bytes w (by rw [Ct.bytes_size]; unfold maxLen; omega); rw [ctv_of hyw (by omega)] at h; exact h)
      clear hv hg hcs hc0 hc1 HS
      have hX := tr_Tr hxw
      have hY := tr_Tr hyw
      rcases shp2 hs with ⟨rfl, hl⟩ | ⟨rfl, hl⟩ | ⟨rfl, hl⟩ | ⟨rfl, hl⟩
      · have hb0 : (((Ct.b 59 d x y).bytes[0]'hp).toNat : Int) = 59 := congrArg (fun b : UInt8 => (b.toNat : Int)) hh
        have c6 := fun w => laws_dcThen (txt 16 (tr x)) (txt 16 (tr y)) w
        rw [tvB_txt hX, tvB_txt hY, Bool.and_self, orNo_true, then_txt hX.dg hY.dg, show thenT (tr x) (tr y) = tr (Ct.b 59 d x y) from rfl] at c6
        clear hl hd hxw hyw hX hY hxl hyl hs hh hw hsz
        have C6 := Lib.hid c6
        clear c6
        generalize txt 16 (tr (Ct.b 59 d x y)) = T at *
        generalize txt 16 (tr x) = TX at *
        generalize txt 16 (tr y) = TY at *
        go_wp2_with fail
        refine wp_region_held_drew (S := (fun w' => w'.cell? ⟨g, 0, none⟩ = some (.string x.bytes) ∧ w'.cell? ⟨g, 1, none⟩ = some (.string y.bytes) ∧ Below w.heap.size w w')) (by kernel_rfl) ⟨HC.out.1, HC.out.2, HB.out.drew⟩ (fun hH0 => ?_)
        refine wpAnyH_take (i := 0) (v := .string T) rfl (by kernel_rfl) (by kernel_rfl) (by kernel_rfl) (fun _ _ _ h => h) (Or.inl ⟨by rfl, by intro w hw; clear hw; go_simp⟩) hH0 ?_
        simp only [Act.put, List.setIfInBounds_toArray, List.set_cons_zero, List.set_cons_succ, List.getElem_toArray, List.getElem_cons_succ, List.getElem_cons_zero, getElem?_pos]
        refine wpAnyH_take (i := 1) (v := .slice (some ⟨g, 0, none⟩) 2 cap) rfl (by kernel_rfl) (by kernel_rfl) (by kernel_rfl) (fun _ _ _ h => h) (Or.inl ⟨by rfl, by intro w hw; clear hw; go_simp⟩) hH0 ?_
        simp only [Act.put, List.setIfInBounds_toArray, List.set_cons_zero, List.set_cons_succ, List.getElem_toArray, List.getElem_cons_succ, List.getElem_cons_zero, getElem?_pos]
        refine wpAnyH_take (i := 2) (v := .pointer (some ⟨g, 0, none⟩)) rfl (by kernel_rfl) (by kernel_rfl) (by kernel_rfl) (fun _ _ _ h => h) (Or.inl ⟨by rfl, by intro w hw; clear hw; go_simp⟩) hH0 ?_
        simp only [Act.put, List.setIfInBounds_toArray, List.set_cons_zero, List.set_cons_succ, List.getElem_toArray, List.getElem_cons_succ, List.getElem_cons_zero, getElem?_pos]
        refine wpAnyH_take (i := 3) (v := .string x.bytes) rfl (by kernel_rfl) (by kernel_rfl) (by kernel_rfl) (fun _ _ _ h => h) (Or.inl ⟨by rfl, by intro w hw; have hc := hw.1; clear hw; go_simp⟩) hH0 ?_
        simp only [Act.put, List.setIfInBounds_toArray, List.set_cons_zero, List.set_cons_succ, List.getElem_toArray, List.getElem_cons_succ, List.getElem_cons_zero, getElem?_pos]
        refine wpAnyH_take (i := 5) (v := .slice (some ⟨g, 0, none⟩) 2 cap) rfl (by kernel_rfl) (by kernel_rfl) (by kernel_rfl) (fun _ _ _ h => h) (Or.inl ⟨by rfl, by intro w hw; clear hw; go_simp⟩) hH0 ?_
        simp only [Act.put, List.setIfInBounds_toArray, List.set_cons_zero, List.set_cons_succ, List.getElem_toArray, List.getElem_cons_succ, List.getElem_cons_zero, getElem?_pos]
        refine wpAnyH_take (i := 6) (v := .pointer (some ⟨g, 1, none⟩)) rfl (by kernel_rfl) (by kernel_rfl) (by kernel_rfl) (fun _ _ _ h => h) (Or.inl ⟨by rfl, by intro w hw; clear hw; go_simp⟩) hH0 ?_
        simp only [Act.put, List.setIfInBounds_toArray, List.set_cons_zero, List.set_cons_succ, List.getElem_toArray, List.getElem_cons_succ, List.getElem_cons_zero, getElem?_pos]
        refine wpAnyH_take (i := 7) (v := .string y.bytes) rfl (by kernel_rfl) (by kernel_rfl) (by kernel_rfl) (fun _ _ _ h => h) (Or.inl ⟨by rfl, by intro w hw; have hc := hw.2.1; clear hw; go_simp⟩) hH0 ?_
        simp only [Act.put, List.setIfInBounds_toArray, List.set_cons_zero, List.set_cons_succ, List.getElem_toArray, List.getElem_cons_succ, List.getElem_cons_zero, getElem?_pos]
        refine wpAnyH_ready (rs := [4]) (by kernel_rfl) (by simp) (AllReadyH.cons rfl (fun K hK => ?_) AllReadyH.nil)
        refine callOp (by rfl) (by go_simp) ((X1.out _).mono ?_)
        rintro e w11 ⟨rfl, hb11⟩
        refine ⟨_, rfl, hK.out _ _ ⟨cell_go hH0.1 hb11, cell_go hH0.2.1 hb11, bgo hH0.2.2 hb11⟩ (fun hH1 => ?_)⟩
        clear hK K
        simp only [Act.put, List.setIfInBounds_toArray, List.set_cons_zero, List.set_cons_succ, List.getElem_toArray, List.getElem_cons_succ, List.getElem_cons_zero, getElem?_pos]
        refine wpAnyH_ready (rs := [8]) (by kernel_rfl) (by simp) (AllReadyH.cons rfl (fun K hK => ?_) AllReadyH.nil)
        refine callOp (by rfl) (by go_simp) ((Y1.out _).mono ?_)
        rintro e w12 ⟨rfl, hb12⟩
        refine ⟨_, rfl, hK.out _ _ ⟨cell_go hH1.1 hb12, cell_go hH1.2.1 hb12, bgo hH1.2.2 hb12⟩ (fun hH2 => ?_)⟩
        clear hK K
        simp only [Act.put, List.setIfInBounds_toArray, List.set_cons_zero, List.set_cons_succ, List.getElem_toArray, List.getElem_cons_succ, List.getElem_cons_zero, getElem?_pos]
        refine wpAnyH_ready (rs := [9]) (by kernel_rfl) (by simp) (AllReadyH.cons rfl (fun K hK => ?_) AllReadyH.nil)
        refine callOp (by rfl) (by go_simp) ((C6.out _).mono ?_)
        rintro e w13 ⟨rfl, hb13⟩
        refine ⟨_, rfl, hK.out _ _ ⟨cell_go hH2.1 hb13, cell_go hH2.2.1 hb13, bgo hH2.2.2 hb13⟩ (fun hH3 => ?_)⟩
        clear hK K
        simp only [Act.put, List.setIfInBounds_toArray, List.set_cons_zero, List.set_cons_succ, List.getElem_toArray, List.getElem_cons_succ, List.getElem_cons_zero, getElem?_pos]
        refine wpAnyH_take (i := 10) (v := .bool true) rfl (by kernel_rfl) (by kernel_rfl) (by kernel_rfl) (fun _ _ _ h => h) (Or.inl ⟨by rfl, by intro w hw; clear hw; go_simp⟩) hH3 ?_
        simp only [Act.put, List.setIfInBounds_toArray, List.set_cons_zero, List.set_cons_succ, List.getElem_toArray, List.getElem_cons_succ, List.getElem_cons_zero, getElem?_pos]
        refine wpAnyH_take (i := 11) (v := .bool true) rfl (by kernel_rfl) (by kernel_rfl) (by kernel_rfl) (fun _ _ _ h => h) (Or.inl ⟨by rfl, by intro w hw; clear hw; go_simp⟩) hH3 ?_
        simp only [Act.put, List.setIfInBounds_toArray, List.set_cons_zero, List.set_cons_succ, List.getElem_toArray, List.getElem_cons_succ, List.getElem_cons_zero, getElem?_pos]
        refine wpAnyH_done (by kernel_rfl) ?_ _
        go_wp2_with fail
        go_ret
        exact ⟨rfl, hH3.2.2⟩
      · have hb0 : (((Ct.b 38 d x y).bytes[0]'hp).toNat : Int) = 38 := congrArg (fun b : UInt8 => (b.toNat : Int)) hh
        have c6 := fun w => laws_dcMeet (txt 16 (tr x)) (txt 16 (tr y)) w
        rw [tvB_txt hX, tvB_txt hY, Bool.and_self, orNo_true, meet_txt hX.dg hY.dg, show meetT (tr x) (tr y) = tr (Ct.b 38 d x y) from rfl] at c6
        clear hl hd hxw hyw hX hY hxl hyl hs hh hw hsz
        have C6 := Lib.hid c6
        clear c6
        generalize txt 16 (tr (Ct.b 38 d x y)) = T at *
        generalize txt 16 (tr x) = TX at *
        generalize txt 16 (tr y) = TY at *
        go_wp2_with fail
        refine wp_region_held_drew (S := (fun w' => w'.cell? ⟨g, 0, none⟩ = some (.string x.bytes) ∧ w'.cell? ⟨g, 1, none⟩ = some (.string y.bytes) ∧ Below w.heap.size w w')) (by kernel_rfl) ⟨HC.out.1, HC.out.2, HB.out.drew⟩ (fun hH0 => ?_)
        refine wpAnyH_take (i := 0) (v := .string T) rfl (by kernel_rfl) (by kernel_rfl) (by kernel_rfl) (fun _ _ _ h => h) (Or.inl ⟨by rfl, by intro w hw; clear hw; go_simp⟩) hH0 ?_
        simp only [Act.put, List.setIfInBounds_toArray, List.set_cons_zero, List.set_cons_succ, List.getElem_toArray, List.getElem_cons_succ, List.getElem_cons_zero, getElem?_pos]
        refine wpAnyH_take (i := 1) (v := .slice (some ⟨g, 0, none⟩) 2 cap) rfl (by kernel_rfl) (by kernel_rfl) (by kernel_rfl) (fun _ _ _ h => h) (Or.inl ⟨by rfl, by intro w hw; clear hw; go_simp⟩) hH0 ?_
        simp only [Act.put, List.setIfInBounds_toArray, List.set_cons_zero, List.set_cons_succ, List.getElem_toArray, List.getElem_cons_succ, List.getElem_cons_zero, getElem?_pos]
        refine wpAnyH_take (i := 2) (v := .pointer (some ⟨g, 0, none⟩)) rfl (by kernel_rfl) (by kernel_rfl) (by kernel_rfl) (fun _ _ _ h => h) (Or.inl ⟨by rfl, by intro w hw; clear hw; go_simp⟩) hH0 ?_
        simp only [Act.put, List.setIfInBounds_toArray, List.set_cons_zero, List.set_cons_succ, List.getElem_toArray, List.getElem_cons_succ, List.getElem_cons_zero, getElem?_pos]
        refine wpAnyH_take (i := 3) (v := .string x.bytes) rfl (by kernel_rfl) (by kernel_rfl) (by kernel_rfl) (fun _ _ _ h => h) (Or.inl ⟨by rfl, by intro w hw; have hc := hw.1; clear hw; go_simp⟩) hH0 ?_
        simp only [Act.put, List.setIfInBounds_toArray, List.set_cons_zero, List.set_cons_succ, List.getElem_toArray, List.getElem_cons_succ, List.getElem_cons_zero, getElem?_pos]
        refine wpAnyH_take (i := 5) (v := .slice (some ⟨g, 0, none⟩) 2 cap) rfl (by kernel_rfl) (by kernel_rfl) (by kernel_rfl) (fun _ _ _ h => h) (Or.inl ⟨by rfl, by intro w hw; clear hw; go_simp⟩) hH0 ?_
        simp only [Act.put, List.setIfInBounds_toArray, List.set_cons_zero, List.set_cons_succ, List.getElem_toArray, List.getElem_cons_succ, List.getElem_cons_zero, getElem?_pos]
        refine wpAnyH_take (i := 6) (v := .pointer (some ⟨g, 1, none⟩)) rfl (by kernel_rfl) (by kernel_rfl) (by kernel_rfl) (fun _ _ _ h => h) (Or.inl ⟨by rfl, by intro w hw; clear hw; go_simp⟩) hH0 ?_
        simp only [Act.put, List.setIfInBounds_toArray, List.set_cons_zero, List.set_cons_succ, List.getElem_toArray, List.getElem_cons_succ, List.getElem_cons_zero, getElem?_pos]
        refine wpAnyH_take (i := 7) (v := .string y.bytes) rfl (by kernel_rfl) (by kernel_rfl) (by kernel_rfl) (fun _ _ _ h => h) (Or.inl ⟨by rfl, by intro w hw; have hc := hw.2.1; clear hw; go_simp⟩) hH0 ?_
        simp only [Act.put, List.setIfInBounds_toArray, List.set_cons_zero, List.set_cons_succ, List.getElem_toArray, List.getElem_cons_succ, List.getElem_cons_zero, getElem?_pos]
        refine wpAnyH_ready (rs := [4]) (by kernel_rfl) (by simp) (AllReadyH.cons rfl (fun K hK => ?_) AllReadyH.nil)
        refine callOp (by rfl) (by go_simp) ((X1.out _).mono ?_)
        rintro e w11 ⟨rfl, hb11⟩
        refine ⟨_, rfl, hK.out _ _ ⟨cell_go hH0.1 hb11, cell_go hH0.2.1 hb11, bgo hH0.2.2 hb11⟩ (fun hH1 => ?_)⟩
        clear hK K
        simp only [Act.put, List.setIfInBounds_toArray, List.set_cons_zero, List.set_cons_succ, List.getElem_toArray, List.getElem_cons_succ, List.getElem_cons_zero, getElem?_pos]
        refine wpAnyH_ready (rs := [8]) (by kernel_rfl) (by simp) (AllReadyH.cons rfl (fun K hK => ?_) AllReadyH.nil)
        refine callOp (by rfl) (by go_simp) ((Y1.out _).mono ?_)
        rintro e w12 ⟨rfl, hb12⟩
        refine ⟨_, rfl, hK.out _ _ ⟨cell_go hH1.1 hb12, cell_go hH1.2.1 hb12, bgo hH1.2.2 hb12⟩ (fun hH2 => ?_)⟩
        clear hK K
        simp only [Act.put, List.setIfInBounds_toArray, List.set_cons_zero, List.set_cons_succ, List.getElem_toArray, List.getElem_cons_succ, List.getElem_cons_zero, getElem?_pos]
        refine wpAnyH_ready (rs := [9]) (by kernel_rfl) (by simp) (AllReadyH.cons rfl (fun K hK => ?_) AllReadyH.nil)
        refine callOp (by rfl) (by go_simp) ((C6.out _).mono ?_)
        rintro e w13 ⟨rfl, hb13⟩
        refine ⟨_, rfl, hK.out _ _ ⟨cell_go hH2.1 hb13, cell_go hH2.2.1 hb13, bgo hH2.2.2 hb13⟩ (fun hH3 => ?_)⟩
        clear hK K
        simp only [Act.put, List.setIfInBounds_toArray, List.set_cons_zero, List.set_cons_succ, List.getElem_toArray, List.getElem_cons_succ, List.getElem_cons_zero, getElem?_pos]
        refine wpAnyH_take (i := 10) (v := .bool true) rfl (by kernel_rfl) (by kernel_rfl) (by kernel_rfl) (fun _ _ _ h => h) (Or.inl ⟨by rfl, by intro w hw; clear hw; go_simp⟩) hH3 ?_
        simp only [Act.put, List.setIfInBounds_toArray, List.set_cons_zero, List.set_cons_succ, List.getElem_toArray, List.getElem_cons_succ, List.getElem_cons_zero, getElem?_pos]
        refine wpAnyH_take (i := 11) (v := .bool true) rfl (by kernel_rfl) (by kernel_rfl) (by kernel_rfl) (fun _ _ _ h => h) (Or.inl ⟨by rfl, by intro w hw; clear hw; go_simp⟩) hH3 ?_
        simp only [Act.put, List.setIfInBounds_toArray, List.set_cons_zero, List.set_cons_succ, List.getElem_toArray, List.getElem_cons_succ, List.getElem_cons_zero, getElem?_pos]
        refine wpAnyH_done (by kernel_rfl) ?_ _
        go_wp2_with fail
        go_ret
        exact ⟨rfl, hH3.2.2⟩
      · have hb0 : (((Ct.b 124 d x y).bytes[0]'hp).toNat : Int) = 124 := congrArg (fun b : UInt8 => (b.toNat : Int)) hh
        have c6 := fun w => laws_dcJoin (txt 16 (tr x)) (txt 16 (tr y)) w
        rw [tvB_txt hX, tvB_txt hY, Bool.and_self, orNo_true, join_txt hX.dg hY.dg, show joinT (tr x) (tr y) = tr (Ct.b 124 d x y) from rfl] at c6
        clear hl hd hxw hyw hX hY hxl hyl hs hh hw hsz
        have C6 := Lib.hid c6
        clear c6
        generalize txt 16 (tr (Ct.b 124 d x y)) = T at *
        generalize txt 16 (tr x) = TX at *
        generalize txt 16 (tr y) = TY at *
        go_wp2_with fail
        refine wp_region_held_drew (S := (fun w' => w'.cell? ⟨g, 0, none⟩ = some (.string x.bytes) ∧ w'.cell? ⟨g, 1, none⟩ = some (.string y.bytes) ∧ Below w.heap.size w w')) (by kernel_rfl) ⟨HC.out.1, HC.out.2, HB.out.drew⟩ (fun hH0 => ?_)
        refine wpAnyH_take (i := 0) (v := .string T) rfl (by kernel_rfl) (by kernel_rfl) (by kernel_rfl) (fun _ _ _ h => h) (Or.inl ⟨by rfl, by intro w hw; clear hw; go_simp⟩) hH0 ?_
        simp only [Act.put, List.setIfInBounds_toArray, List.set_cons_zero, List.set_cons_succ, List.getElem_toArray, List.getElem_cons_succ, List.getElem_cons_zero, getElem?_pos]
        refine wpAnyH_take (i := 1) (v := .slice (some ⟨g, 0, none⟩) 2 cap) rfl (by kernel_rfl) (by kernel_rfl) (by kernel_rfl) (fun _ _ _ h => h) (Or.inl ⟨by rfl, by intro w hw; clear hw; go_simp⟩) hH0 ?_
        simp only [Act.put, List.setIfInBounds_toArray, List.set_cons_zero, List.set_cons_succ, List.getElem_toArray, List.getElem_cons_succ, List.getElem_cons_zero, getElem?_pos]
        refine wpAnyH_take (i := 2) (v := .pointer (some ⟨g, 0, none⟩)) rfl (by kernel_rfl) (by kernel_rfl) (by kernel_rfl) (fun _ _ _ h => h) (Or.inl ⟨by rfl, by intro w hw; clear hw; go_simp⟩) hH0 ?_
        simp only [Act.put, List.setIfInBounds_toArray, List.set_cons_zero, List.set_cons_succ, List.getElem_toArray, List.getElem_cons_succ, List.getElem_cons_zero, getElem?_pos]
        refine wpAnyH_take (i := 3) (v := .string x.bytes) rfl (by kernel_rfl) (by kernel_rfl) (by kernel_rfl) (fun _ _ _ h => h) (Or.inl ⟨by rfl, by intro w hw; have hc := hw.1; clear hw; go_simp⟩) hH0 ?_
        simp only [Act.put, List.setIfInBounds_toArray, List.set_cons_zero, List.set_cons_succ, List.getElem_toArray, List.getElem_cons_succ, List.getElem_cons_zero, getElem?_pos]
        refine wpAnyH_take (i := 5) (v := .slice (some ⟨g, 0, none⟩) 2 cap) rfl (by kernel_rfl) (by kernel_rfl) (by kernel_rfl) (fun _ _ _ h => h) (Or.inl ⟨by rfl, by intro w hw; clear hw; go_simp⟩) hH0 ?_
        simp only [Act.put, List.setIfInBounds_toArray, List.set_cons_zero, List.set_cons_succ, List.getElem_toArray, List.getElem_cons_succ, List.getElem_cons_zero, getElem?_pos]
        refine wpAnyH_take (i := 6) (v := .pointer (some ⟨g, 1, none⟩)) rfl (by kernel_rfl) (by kernel_rfl) (by kernel_rfl) (fun _ _ _ h => h) (Or.inl ⟨by rfl, by intro w hw; clear hw; go_simp⟩) hH0 ?_
        simp only [Act.put, List.setIfInBounds_toArray, List.set_cons_zero, List.set_cons_succ, List.getElem_toArray, List.getElem_cons_succ, List.getElem_cons_zero, getElem?_pos]
        refine wpAnyH_take (i := 7) (v := .string y.bytes) rfl (by kernel_rfl) (by kernel_rfl) (by kernel_rfl) (fun _ _ _ h => h) (Or.inl ⟨by rfl, by intro w hw; have hc := hw.2.1; clear hw; go_simp⟩) hH0 ?_
        simp only [Act.put, List.setIfInBounds_toArray, List.set_cons_zero, List.set_cons_succ, List.getElem_toArray, List.getElem_cons_succ, List.getElem_cons_zero, getElem?_pos]
        refine wpAnyH_ready (rs := [4]) (by kernel_rfl) (by simp) (AllReadyH.cons rfl (fun K hK => ?_) AllReadyH.nil)
        refine callOp (by rfl) (by go_simp) ((X1.out _).mono ?_)
        rintro e w11 ⟨rfl, hb11⟩
        refine ⟨_, rfl, hK.out _ _ ⟨cell_go hH0.1 hb11, cell_go hH0.2.1 hb11, bgo hH0.2.2 hb11⟩ (fun hH1 => ?_)⟩
        clear hK K
        simp only [Act.put, List.setIfInBounds_toArray, List.set_cons_zero, List.set_cons_succ, List.getElem_toArray, List.getElem_cons_succ, List.getElem_cons_zero, getElem?_pos]
        refine wpAnyH_ready (rs := [8]) (by kernel_rfl) (by simp) (AllReadyH.cons rfl (fun K hK => ?_) AllReadyH.nil)
        refine callOp (by rfl) (by go_simp) ((Y1.out _).mono ?_)
        rintro e w12 ⟨rfl, hb12⟩
        refine ⟨_, rfl, hK.out _ _ ⟨cell_go hH1.1 hb12, cell_go hH1.2.1 hb12, bgo hH1.2.2 hb12⟩ (fun hH2 => ?_)⟩
        clear hK K
        simp only [Act.put, List.setIfInBounds_toArray, List.set_cons_zero, List.set_cons_succ, List.getElem_toArray, List.getElem_cons_succ, List.getElem_cons_zero, getElem?_pos]
        refine wpAnyH_ready (rs := [9]) (by kernel_rfl) (by simp) (AllReadyH.cons rfl (fun K hK => ?_) AllReadyH.nil)
        refine callOp (by rfl) (by go_simp) ((C6.out _).mono ?_)
        rintro e w13 ⟨rfl, hb13⟩
        refine ⟨_, rfl, hK.out _ _ ⟨cell_go hH2.1 hb13, cell_go hH2.2.1 hb13, bgo hH2.2.2 hb13⟩ (fun hH3 => ?_)⟩
        clear hK K
        simp only [Act.put, List.setIfInBounds_toArray, List.set_cons_zero, List.set_cons_succ, List.getElem_toArray, List.getElem_cons_succ, List.getElem_cons_zero, getElem?_pos]
        refine wpAnyH_take (i := 10) (v := .bool true) rfl (by kernel_rfl) (by kernel_rfl) (by kernel_rfl) (fun _ _ _ h => h) (Or.inl ⟨by rfl, by intro w hw; clear hw; go_simp⟩) hH3 ?_
        simp only [Act.put, List.setIfInBounds_toArray, List.set_cons_zero, List.set_cons_succ, List.getElem_toArray, List.getElem_cons_succ, List.getElem_cons_zero, getElem?_pos]
        refine wpAnyH_take (i := 11) (v := .bool true) rfl (by kernel_rfl) (by kernel_rfl) (by kernel_rfl) (fun _ _ _ h => h) (Or.inl ⟨by rfl, by intro w hw; clear hw; go_simp⟩) hH3 ?_
        simp only [Act.put, List.setIfInBounds_toArray, List.set_cons_zero, List.set_cons_succ, List.getElem_toArray, List.getElem_cons_succ, List.getElem_cons_zero, getElem?_pos]
        refine wpAnyH_done (by kernel_rfl) ?_ _
        go_wp2_with fail
        go_ret
        exact ⟨rfl, hH3.2.2⟩
      · obtain ⟨d0, rfl, hpv⟩ := one_digit hl
        have hb0 : (((Ct.b 105 [d0] x y).bytes[0]'hp).toNat : Int) = 105 := congrArg (fun b : UInt8 => (b.toNat : Int)) hh
        have hd0 : Cv (hx d0) := by rw [← hpv]; exact pv_cv hd
        obtain ⟨p, hpn⟩ : ∃ p : Nat, hx d0 = p := ⟨_, (Int.toNat_of_nonneg hd0.1).symm⟩
        have hp16 : p < 16 := by have := hd0.2; omega
        obtain ⟨q0, hq0⟩ : ∃ q0, q0 = dgb (15 - (p : Int)) := ⟨_, rfl⟩
        have hq : hx q0 = bandn 15 (hx d0) := by rw [hq0, compl_num hd0, hpn]; exact hx_dgb (by omega) (by omega)
        have hdd : d0 = dgb (p : Int) := by rw [← hpn]; exact (dgb_hx hd0.1).symm
        obtain ⟨P, hP⟩ : ∃ P : ByteArray, P = bts [d0] := ⟨_, rfl⟩
        obtain ⟨Q, hQ⟩ : ∃ Q : ByteArray, Q = bts [q0] := ⟨_, rfl⟩
        have zP : P.size ≤ 1 := by rw [hP, bts_size]; exact Nat.le_refl _
        have zQ : Q.size ≤ 1 := by rw [hQ, bts_size]; exact Nat.le_refl _
        obtain ⟨A1, hA1⟩ : ∃ A : ByteArray, A = bts ([124, 59, 33] ++ [d0]) := ⟨_, rfl⟩
        have KA1 := Lib.hid (show (⟨#[124, 59, 33]⟩ : ByteArray) ++ P = A1 by rw [hA1]; exact cat_eq (by simp [bts_list, Ct.bytes_list, hP, hQ]))
        have zA1 : A1.size ≤ 4 := by rw [hA1, bts_size]; simp <;> omega
        obtain ⟨A2, hA2⟩ : ∃ A : ByteArray, A = bts ([124, 59, 33] ++ [d0] ++ x.tx) := ⟨_, rfl⟩
        have KA2 := Lib.hid (show A1 ++ x.bytes = A2 by rw [hA2]; exact cat_eq (by simp [bts_list, Ct.bytes_list, hP, hQ, hA1]))
        have zA2 : A2.size ≤ 59 := by rw [hA2, bts_size]; simp <;> omega
        obtain ⟨A3, hA3⟩ : ∃ A : ByteArray, A = bts ([124, 59, 33] ++ [d0] ++ x.tx ++ [59, 33]) := ⟨_, rfl⟩
        have KA3 := Lib.hid (show A2 ++ (⟨#[59, 33]⟩ : ByteArray) = A3 by rw [hA3]; exact cat_eq (by simp [bts_list, Ct.bytes_list, hP, hQ, hA2]))
        have zA3 : A3.size ≤ 61 := by rw [hA3, bts_size]; simp <;> omega
        obtain ⟨A4, hA4⟩ : ∃ A : ByteArray, A = bts ([124, 59, 33] ++ [d0] ++ x.tx ++ [59, 33] ++ [q0]) := ⟨_, rfl⟩
        have KA4 := Lib.hid (show A3 ++ Q = A4 by rw [hA4]; exact cat_eq (by simp [bts_list, Ct.bytes_list, hP, hQ, hA3]))
        have zA4 : A4.size ≤ 62 := by rw [hA4, bts_size]; simp <;> omega
        obtain ⟨A5, hA5⟩ : ∃ A : ByteArray, A = bts ([124, 59, 33] ++ [d0] ++ x.tx ++ [59, 33] ++ [q0] ++ y.tx) := ⟨_, rfl⟩
        have KA5 := Lib.hid (show A4 ++ y.bytes = A5 by rw [hA5]; exact cat_eq (by simp [bts_list, Ct.bytes_list, hP, hQ, hA4]))
        have zA5 : A5.size ≤ 117 := by rw [hA5, bts_size]; simp <;> omega
        have tA : A5 = (Ct.b 124 [] (Ct.b 59 [] (Ct.z 33 [d0]) x) (Ct.b 59 [] (Ct.z 33 [q0]) y)).bytes := by rw [hA5]; show bts _ = bts _; simp [Ct.tx]
        obtain ⟨B1, hB1⟩ : ∃ A : ByteArray, A = bts ([38, 59, 63] ++ [d0]) := ⟨_, rfl⟩
        have KB1 := Lib.hid (show (⟨#[38, 59, 63]⟩ : ByteArray) ++ P = B1 by rw [hB1]; exact cat_eq (by simp [bts_list, Ct.bytes_list, hP, hQ]))
        have zB1 : B1.size ≤ 4 := by rw [hB1, bts_size]; simp <;> omega
        obtain ⟨B2, hB2⟩ : ∃ A : ByteArray, A = bts ([38, 59, 63] ++ [d0] ++ x.tx) := ⟨_, rfl⟩
        have KB2 := Lib.hid (show B1 ++ x.bytes = B2 by rw [hB2]; exact cat_eq (by simp [bts_list, Ct.bytes_list, hP, hQ, hB1]))
        have zB2 : B2.size ≤ 59 := by rw [hB2, bts_size]; simp <;> omega
        obtain ⟨B3, hB3⟩ : ∃ A : ByteArray, A = bts ([38, 59, 63] ++ [d0] ++ x.tx ++ [59, 63]) := ⟨_, rfl⟩
        have KB3 := Lib.hid (show B2 ++ (⟨#[59, 63]⟩ : ByteArray) = B3 by rw [hB3]; exact cat_eq (by simp [bts_list, Ct.bytes_list, hP, hQ, hB2]))
        have zB3 : B3.size ≤ 61 := by rw [hB3, bts_size]; simp <;> omega
        obtain ⟨B4, hB4⟩ : ∃ A : ByteArray, A = bts ([38, 59, 63] ++ [d0] ++ x.tx ++ [59, 63] ++ [q0]) := ⟨_, rfl⟩
        have KB4 := Lib.hid (show B3 ++ Q = B4 by rw [hB4]; exact cat_eq (by simp [bts_list, Ct.bytes_list, hP, hQ, hB3]))
        have zB4 : B4.size ≤ 62 := by rw [hB4, bts_size]; simp <;> omega
        obtain ⟨B5, hB5⟩ : ∃ A : ByteArray, A = bts ([38, 59, 63] ++ [d0] ++ x.tx ++ [59, 63] ++ [q0] ++ y.tx) := ⟨_, rfl⟩
        have KB5 := Lib.hid (show B4 ++ y.bytes = B5 by rw [hB5]; exact cat_eq (by simp [bts_list, Ct.bytes_list, hP, hQ, hB4]))
        have zB5 : B5.size ≤ 117 := by rw [hB5, bts_size]; simp <;> omega
        have tB : B5 = (Ct.b 38 [] (Ct.b 59 [] (Ct.z 63 [d0]) x) (Ct.b 59 [] (Ct.z 63 [q0]) y)).bytes := by rw [hB5]; show bts _ = bts _; simp [Ct.tx]
        have DA := Lib.hid (fun w => show Calls Try.prog 26 #[.string A5] w fun e w' => e = .returned (.string (txt 16 (tr (Ct.b 105 [d0] x y)))) ∧ Below w.heap.size w w' from by
          have wf1 : (Ct.b 124 [] (Ct.b 59 [] (Ct.z 33 [d0]) x) (Ct.b 59 [] (Ct.z 33 [q0]) y)).wf = true := wf_b' rfl rfl (wf_b' rfl rfl (by simp [Ct.wf, hxs]; exact ⟨by decide, hd0.1⟩) hxw) (wf_b' rfl rfl (by simp [Ct.wf, hxs]; exact ⟨by decide, by rw [hq]; exact (Cv.c15.andn hd0).1⟩) hyw)
          have h := laws_dcTrans (Ct.b 124 [] (Ct.b 59 [] (Ct.z 33 [d0]) x) (Ct.b 59 [] (Ct.z 33 [q0]) y)).bytes w (by rw [Ct.bytes_size]; unfold maxLen; simp [Ct.tx] <;> omega)
          rw [ctv_of wf1 (by simp [Ct.tx]; omega), parts_a hd0 hq hxw hyw] at h
          rw [tA]; exact h)
        have DB := Lib.hid (fun w => show Calls Try.prog 26 #[.string B5] w fun e w' => e = .returned (.string (txt 16 (tr (Ct.b 105 [d0] x y)))) ∧ Below w.heap.size w w' from by
          have wf1 : (Ct.b 38 [] (Ct.b 59 [] (Ct.z 63 [d0]) x) (Ct.b 59 [] (Ct.z 63 [q0]) y)).wf = true := wf_b' rfl rfl (wf_b' rfl rfl (by simp [Ct.wf, hxs]; exact ⟨by decide, hd0.1⟩) hxw) (wf_b' rfl rfl (by simp [Ct.wf, hxs]; exact ⟨by decide, by rw [hq]; exact (Cv.c15.andn hd0).1⟩) hyw)
          have h := laws_dcTrans (Ct.b 38 [] (Ct.b 59 [] (Ct.z 63 [d0]) x) (Ct.b 59 [] (Ct.z 63 [q0]) y)).bytes w (by rw [Ct.bytes_size]; unfold maxLen; simp [Ct.tx] <;> omega)
          rw [ctv_of wf1 (by simp [Ct.tx]; omega), parts_d hd0 hq hxw hyw] at h
          rw [tB]; exact h)
        have hcut : (Ct.b 105 [d0] x y).bytes.extract 1 2 = P := by
          rw [hP]
          refine bts_of ?_
          rw [extract_list, Ct.bytes_list]
          simp [Ct.tx]
        have hlen2 : (2 : Int) ≤ ((Ct.b 105 [d0] x y).bytes.size : Int) := by rw [Ct.bytes_size]; simp [Ct.tx]; omega
        have h190 : decide ((190 : Int) < ((Ct.b 105 [d0] x y).bytes.size : Int)) = false := decide_eq_false (by omega)
        have eP : ∀ k : Nat, k < 16 → (((ByteArray.mk #[48, 49, 50, 51, 52, 53, 54, 55, 56, 57, 97, 98, 99, 100, 101, 102]).extract k (k + 1)).toList == P.toList) = decide (k = p) := fun k hk => by
          have h1 := dgt_extract (n := (k : Int)) (by omega) (by omega)
          have h2 : (ByteArray.mk #[48, 49, 50, 51, 52, 53, 54, 55, 56, 57, 97, 98, 99, 100, 101, 102]).extract k (k + 1) = dgt k := h1
          rw [h2, eq_bytes, hP, hdd, show dgt (k : Int) = bts [dgb k] from rfl]
          rw [decide_eq_decide]
          constructor
          · intro h
            have h3 := congrArg (fun b : ByteArray => hx (b.data.toList.getD 0 0)) h
            simp only [bts_list] at h3
            have h4 : hx (dgb (k : Int)) = hx (dgb (p : Int)) := h3
            rw [hx_dgb (by omega) (by omega), hx_dgb (by omega) (by omega)] at h4
            omega
          · rintro rfl; rfl
        have eQ : (ByteArray.mk #[48, 49, 50, 51, 52, 53, 54, 55, 56, 57, 97, 98, 99, 100, 101, 102]).extract (15 - p) (16 - p) = Q := by
          have h1 := dgt_extract (n := ((15 - p : Nat) : Int)) (by omega) (by omega)
          have h2 : (ByteArray.mk #[48, 49, 50, 51, 52, 53, 54, 55, 56, 57, 97, 98, 99, 100, 101, 102]).extract (15 - p) (15 - p + 1) = dgt ((15 - p : Nat) : Int) := h1
          rw [show 16 - p = 15 - p + 1 by omega, h2, hQ, hq0, show ((15 - p : Nat) : Int) = 15 - (p : Int) by omega]
          rfl
        have EP := Lib.hid eP
        have EQ := Lib.hid eQ
        have HCUT := Lib.hid hcut
        have hxz : x.bytes.size ≤ 55 := by rw [Ct.bytes_size]; exact hxl
        have hyz : y.bytes.size ≤ 55 := by rw [Ct.bytes_size]; exact hyl
        clear hl hd hxw hyw hX hY hxl hyl hs hh hw hsz hP hQ hq0 hq hpn hpv hd0 hdd tA tB hA1 hA2 hA3 hA4 hA5 hB1 hB2 hB3 hB4 hB5 eP eQ hcut
        generalize txt 16 (tr (Ct.b 105 [d0] x y)) = T at *
        have hcut := HCUT.out
        have HW := Lib.hid (Below.refl w4.heap.size w4)
        obtain ⟨qf, hqf⟩ : ∃ qf : Nat → ByteArray, qf = fun k => if p < k then Q else P := ⟨_, rfl⟩
        have Q0 := Lib.hid (show P = qf 0 by rw [hqf]; exact (if_neg (Nat.not_lt_zero _)).symm)
        have Q16 := Lib.hid (show qf 16 = Q by rw [hqf]; exact if_pos hp16)
        have QS := Lib.hid (show ∀ k, ¬ k = p → qf k = qf (k + 1) from fun k hk => by
          rw [hqf]
          by_cases h : p < k
          · show (if p < k then Q else P) = (if p < k + 1 then Q else P)
            rw [if_pos h, if_pos (by omega)]
          · show (if p < k then Q else P) = (if p < k + 1 then Q else P)
            rw [if_neg h, if_neg (by omega)])
        have QP := Lib.hid (show Q = qf (p + 1) by rw [hqf]; exact (if_pos (Nat.lt_succ_self _)).symm)
        clear hqf
        go_wp2_with fail
        go_loopg [14, 15] 16 (fun gk q i wr => ∃ k : Nat, k ≤ 16 ∧ gk = 16 - k ∧ i = .int .i64 k ∧ q = .string (qf k) ∧ w4 = wr)
        case atStart => exact ⟨0, by omega, rfl, rfl, congrArg Value.string Q0.out, rfl⟩
        case round =>
          obtain ⟨k, hk, rfl, rfl, rfl, rfl⟩ := hrel
          by_cases hlt : k < 16
          case pos =>
            have hdk : decide ((k : Int) < 16) = true := decide_eq_true (by omega)
            have ep := EP.out k hlt
            by_cases hkp : k = p
            case pos =>
              subst hkp
              rw [decide_eq_true rfl] at ep
              have eq1 := EQ.out
              have eq2 : (ByteArray.mk #[48, 49, 50, 51, 52, 53, 54, 55, 56, 57, 97, 98, 99, 100, 101, 102]).extract (15 - (k : Int)).toNat (16 - (k : Int)).toNat = Q := by rw [show (15 - (k : Int)).toNat = 15 - k by omega, show (16 - (k : Int)).toNat = 16 - k by omega]; exact eq1
              clear DA DB KA1 KA2 KA3 KA4 KA5 KB1 KB2 KB3 KB4 KB5 EP EQ QS Q0 Q16
              generalize qf k = cur at *
              go_wp2_with fail
              go_roundg (16 - (k + 1))
              case rel => exact ⟨k + 1, by omega, rfl, by go_num, congrArg Value.string QP.out, rfl⟩
              case measure => omega
            case neg =>
              rw [decide_eq_false hkp] at ep
              have HS1 := Lib.hid (QS.out k hkp)
              clear DA DB KA1 KA2 KA3 KA4 KA5 KB1 KB2 KB3 KB4 KB5 EP EQ QS Q0 Q16
              generalize qf k = cur at *
              go_wp2_with fail
              go_roundg (16 - (k + 1))
              case rel => exact ⟨k + 1, by omega, rfl, by go_num, congrArg Value.string HS1.out, rfl⟩
              case measure => omega
          case neg =>
            obtain rfl : k = 16 := by omega
            rw [Q16.out]
            clear EP EQ QS QP Q0 Q16
            go_wp2_with fail
            refine wp_region_held_drew (S := (fun w' => w'.cell? ⟨g, 0, none⟩ = some (.string x.bytes) ∧ w'.cell? ⟨g, 1, none⟩ = some (.string y.bytes) ∧ Below w.heap.size w w')) (by kernel_rfl) ⟨cell_go HC.out.1 HW.out.drew, cell_go HC.out.2 HW.out.drew, HB.out.drew⟩ (fun hH0 => ?_)
            refine wpAnyH_take (i := 0) (v := .string T) rfl (by kernel_rfl) (by kernel_rfl) (by kernel_rfl) (fun _ _ _ h => h) (Or.inl ⟨by rfl, by intro w hw; clear hw; go_simp⟩) hH0 ?_
            simp only [Act.put, List.setIfInBounds_toArray, List.set_cons_zero, List.set_cons_succ, List.getElem_toArray, List.getElem_cons_succ, List.getElem_cons_zero, getElem?_pos]
            refine wpAnyH_take (i := 1) (v := .string P) rfl (by kernel_rfl) (by kernel_rfl) (by kernel_rfl) (fun _ _ _ h => h) (Or.inl ⟨by rfl, by intro w hw; clear hw; go_simp⟩) hH0 ?_
            simp only [Act.put, List.setIfInBounds_toArray, List.set_cons_zero, List.set_cons_succ, List.getElem_toArray, List.getElem_cons_succ, List.getElem_cons_zero, getElem?_pos]
            refine wpAnyH_take (i := 2) (v := .string A1) rfl (by kernel_rfl) (by kernel_rfl) (by kernel_rfl) (fun _ _ _ h => h) (Or.inl ⟨by rfl, by intro w hw; clear hw; go_simp; rw [if_neg (by omega)]; exact congrArg (fun s => Result.ok (Next.value (Value.string s)) w) KA1.out⟩) hH0 ?_
            simp only [Act.put, List.setIfInBounds_toArray, List.set_cons_zero, List.set_cons_succ, List.getElem_toArray, List.getElem_cons_succ, List.getElem_cons_zero, getElem?_pos]
            refine wpAnyH_take (i := 3) (v := .slice (some ⟨g, 0, none⟩) 2 cap) rfl (by kernel_rfl) (by kernel_rfl) (by kernel_rfl) (fun _ _ _ h => h) (Or.inl ⟨by rfl, by intro w hw; clear hw; go_simp⟩) hH0 ?_
            simp only [Act.put, List.setIfInBounds_toArray, List.set_cons_zero, List.set_cons_succ, List.getElem_toArray, List.getElem_cons_succ, List.getElem_cons_zero, getElem?_pos]
            refine wpAnyH_take (i := 4) (v := .pointer (some ⟨g, 0, none⟩)) rfl (by kernel_rfl) (by kernel_rfl) (by kernel_rfl) (fun _ _ _ h => h) (Or.inl ⟨by rfl, by intro w hw; clear hw; go_simp⟩) hH0 ?_
            simp only [Act.put, List.setIfInBounds_toArray, List.set_cons_zero, List.set_cons_succ, List.getElem_toArray, List.getElem_cons_succ, List.getElem_cons_zero, getElem?_pos]
            refine wpAnyH_take (i := 5) (v := .string x.bytes) rfl (by kernel_rfl) (by kernel_rfl) (by kernel_rfl) (fun _ _ _ h => h) (Or.inl ⟨by rfl, by intro w hw; have hc := hw.1; clear hw; go_simp⟩) hH0 ?_
            simp only [Act.put, List.setIfInBounds_toArray, List.set_cons_zero, List.set_cons_succ, List.getElem_toArray, List.getElem_cons_succ, List.getElem_cons_zero, getElem?_pos]
            refine wpAnyH_take (i := 6) (v := .string A2) rfl (by kernel_rfl) (by kernel_rfl) (by kernel_rfl) (fun _ _ _ h => h) (Or.inl ⟨by rfl, by intro w hw; clear hw; go_simp; rw [if_neg (by omega)]; exact congrArg (fun s => Result.ok (Next.value (Value.string s)) w) KA2.out⟩) hH0 ?_
            simp only [Act.put, List.setIfInBounds_toArray, List.set_cons_zero, List.set_cons_succ, List.getElem_toArray, List.getElem_cons_succ, List.getElem_cons_zero, getElem?_pos]
            refine wpAnyH_take (i := 7) (v := .string A3) rfl (by kernel_rfl) (by kernel_rfl) (by kernel_rfl) (fun _ _ _ h => h) (Or.inl ⟨by rfl, by intro w hw; clear hw; go_simp; rw [if_neg (by omega)]; exact congrArg (fun s => Result.ok (Next.value (Value.string s)) w) KA3.out⟩) hH0 ?_
            simp only [Act.put, List.setIfInBounds_toArray, List.set_cons_zero, List.set_cons_succ, List.getElem_toArray, List.getElem_cons_succ, List.getElem_cons_zero, getElem?_pos]
            refine wpAnyH_take (i := 8) (v := .string Q) rfl (by kernel_rfl) (by kernel_rfl) (by kernel_rfl) (fun _ _ _ h => h) (Or.inl ⟨by rfl, by intro w hw; clear hw; go_simp⟩) hH0 ?_
            simp only [Act.put, List.setIfInBounds_toArray, List.set_cons_zero, List.set_cons_succ, List.getElem_toArray, List.getElem_cons_succ, List.getElem_cons_zero, getElem?_pos]
            refine wpAnyH_take (i := 9) (v := .string A4) rfl (by kernel_rfl) (by kernel_rfl) (by kernel_rfl) (fun _ _ _ h => h) (Or.inl ⟨by rfl, by intro w hw; clear hw; go_simp; rw [if_neg (by omega)]; exact congrArg (fun s => Result.ok (Next.value (Value.string s)) w) KA4.out⟩) hH0 ?_
            simp only [Act.put, List.setIfInBounds_toArray, List.set_cons_zero, List.set_cons_succ, List.getElem_toArray, List.getElem_cons_succ, List.getElem_cons_zero, getElem?_pos]
            refine wpAnyH_take (i := 10) (v := .slice (some ⟨g, 0, none⟩) 2 cap) rfl (by kernel_rfl) (by kernel_rfl) (by kernel_rfl) (fun _ _ _ h => h) (Or.inl ⟨by rfl, by intro w hw; clear hw; go_simp⟩) hH0 ?_
            simp only [Act.put, List.setIfInBounds_toArray, List.set_cons_zero, List.set_cons_succ, List.getElem_toArray, List.getElem_cons_succ, List.getElem_cons_zero, getElem?_pos]
            refine wpAnyH_take (i := 11) (v := .pointer (some ⟨g, 1, none⟩)) rfl (by kernel_rfl) (by kernel_rfl) (by kernel_rfl) (fun _ _ _ h => h) (Or.inl ⟨by rfl, by intro w hw; clear hw; go_simp⟩) hH0 ?_
            simp only [Act.put, List.setIfInBounds_toArray, List.set_cons_zero, List.set_cons_succ, List.getElem_toArray, List.getElem_cons_succ, List.getElem_cons_zero, getElem?_pos]
            refine wpAnyH_take (i := 12) (v := .string y.bytes) rfl (by kernel_rfl) (by kernel_rfl) (by kernel_rfl) (fun _ _ _ h => h) (Or.inl ⟨by rfl, by intro w hw; have hc := hw.2.1; clear hw; go_simp⟩) hH0 ?_
            simp only [Act.put, List.setIfInBounds_toArray, List.set_cons_zero, List.set_cons_succ, List.getElem_toArray, List.getElem_cons_succ, List.getElem_cons_zero, getElem?_pos]
            refine wpAnyH_take (i := 13) (v := .string A5) rfl (by kernel_rfl) (by kernel_rfl) (by kernel_rfl) (fun _ _ _ h => h) (Or.inl ⟨by rfl, by intro w hw; clear hw; go_simp; rw [if_neg (by omega)]; exact congrArg (fun s => Result.ok (Next.value (Value.string s)) w) KA5.out⟩) hH0 ?_
            simp only [Act.put, List.setIfInBounds_toArray, List.set_cons_zero, List.set_cons_succ, List.getElem_toArray, List.getElem_cons_succ, List.getElem_cons_zero, getElem?_pos]
            refine wpAnyH_ready (rs := [14]) (by kernel_rfl) (by simp) (AllReadyH.cons rfl (fun K hK => ?_) AllReadyH.nil)
            refine callOp (by rfl) (by go_simp) ((DA.out _).mono ?_)
            rintro e w11 ⟨rfl, hb11⟩
            refine ⟨_, rfl, hK.out _ _ ⟨cell_go hH0.1 hb11, cell_go hH0.2.1 hb11, bgo hH0.2.2 hb11⟩ (fun hH1 => ?_)⟩
            clear hK K
            simp only [Act.put, List.setIfInBounds_toArray, List.set_cons_zero, List.set_cons_succ, List.getElem_toArray, List.getElem_cons_succ, List.getElem_cons_zero, getElem?_pos]
            refine wpAnyH_take (i := 15) (v := .bool true) rfl (by kernel_rfl) (by kernel_rfl) (by kernel_rfl) (fun _ _ _ h => h) (Or.inl ⟨by rfl, by intro w hw; clear hw; go_simp⟩) hH1 ?_
            simp only [Act.put, List.setIfInBounds_toArray, List.set_cons_zero, List.set_cons_succ, List.getElem_toArray, List.getElem_cons_succ, List.getElem_cons_zero, getElem?_pos]
            refine wpAnyH_take (i := 16) (v := .bool true) rfl (by kernel_rfl) (by kernel_rfl) (by kernel_rfl) (fun _ _ _ h => h) (Or.inl ⟨by rfl, by intro w hw; clear hw; go_simp⟩) hH1 ?_
            simp only [Act.put, List.setIfInBounds_toArray, List.set_cons_zero, List.set_cons_succ, List.getElem_toArray, List.getElem_cons_succ, List.getElem_cons_zero, getElem?_pos]
            refine wpAnyH_take (i := 17) (v := .string T) rfl (by kernel_rfl) (by kernel_rfl) (by kernel_rfl) (fun _ _ _ h => h) (Or.inl ⟨by rfl, by intro w hw; clear hw; go_simp⟩) hH1 ?_
            simp only [Act.put, List.setIfInBounds_toArray, List.set_cons_zero, List.set_cons_succ, List.getElem_toArray, List.getElem_cons_succ, List.getElem_cons_zero, getElem?_pos]
            refine wpAnyH_take (i := 18) (v := .string P) rfl (by kernel_rfl) (by kernel_rfl) (by kernel_rfl) (fun _ _ _ h => h) (Or.inl ⟨by rfl, by intro w hw; clear hw; go_simp⟩) hH1 ?_
            simp only [Act.put, List.setIfInBounds_toArray, List.set_cons_zero, List.set_cons_succ, List.getElem_toArray, List.getElem_cons_succ, List.getElem_cons_zero, getElem?_pos]
            refine wpAnyH_take (i := 19) (v := .string B1) rfl (by kernel_rfl) (by kernel_rfl) (by kernel_rfl) (fun _ _ _ h => h) (Or.inl ⟨by rfl, by intro w hw; clear hw; go_simp; rw [if_neg (by omega)]; exact congrArg (fun s => Result.ok (Next.value (Value.string s)) w) KB1.out⟩) hH1 ?_
            simp only [Act.put, List.setIfInBounds_toArray, List.set_cons_zero, List.set_cons_succ, List.getElem_toArray, List.getElem_cons_succ, List.getElem_cons_zero, getElem?_pos]
            refine wpAnyH_take (i := 20) (v := .slice (some ⟨g, 0, none⟩) 2 cap) rfl (by kernel_rfl) (by kernel_rfl) (by kernel_rfl) (fun _ _ _ h => h) (Or.inl ⟨by rfl, by intro w hw; clear hw; go_simp⟩) hH1 ?_
            simp only [Act.put, List.setIfInBounds_toArray, List.set_cons_zero, List.set_cons_succ, List.getElem_toArray, List.getElem_cons_succ, List.getElem_cons_zero, getElem?_pos]
            refine wpAnyH_take (i := 21) (v := .pointer (some ⟨g, 0, none⟩)) rfl (by kernel_rfl) (by kernel_rfl) (by kernel_rfl) (fun _ _ _ h => h) (Or.inl ⟨by rfl, by intro w hw; clear hw; go_simp⟩) hH1 ?_
            simp only [Act.put, List.setIfInBounds_toArray, List.set_cons_zero, List.set_cons_succ, List.getElem_toArray, List.getElem_cons_succ, List.getElem_cons_zero, getElem?_pos]
            refine wpAnyH_take (i := 22) (v := .string x.bytes) rfl (by kernel_rfl) (by kernel_rfl) (by kernel_rfl) (fun _ _ _ h => h) (Or.inl ⟨by rfl, by intro w hw; have hc := hw.1; clear hw; go_simp⟩) hH1 ?_
            simp only [Act.put, List.setIfInBounds_toArray, List.set_cons_zero, List.set_cons_succ, List.getElem_toArray, List.getElem_cons_succ, List.getElem_cons_zero, getElem?_pos]
            refine wpAnyH_take (i := 23) (v := .string B2) rfl (by kernel_rfl) (by kernel_rfl) (by kernel_rfl) (fun _ _ _ h => h) (Or.inl ⟨by rfl, by intro w hw; clear hw; go_simp; rw [if_neg (by omega)]; exact congrArg (fun s => Result.ok (Next.value (Value.string s)) w) KB2.out⟩) hH1 ?_
            simp only [Act.put, List.setIfInBounds_toArray, List.set_cons_zero, List.set_cons_succ, List.getElem_toArray, List.getElem_cons_succ, List.getElem_cons_zero, getElem?_pos]
            refine wpAnyH_take (i := 24) (v := .string B3) rfl (by kernel_rfl) (by kernel_rfl) (by kernel_rfl) (fun _ _ _ h => h) (Or.inl ⟨by rfl, by intro w hw; clear hw; go_simp; rw [if_neg (by omega)]; exact congrArg (fun s => Result.ok (Next.value (Value.string s)) w) KB3.out⟩) hH1 ?_
            simp only [Act.put, List.setIfInBounds_toArray, List.set_cons_zero, List.set_cons_succ, List.getElem_toArray, List.getElem_cons_succ, List.getElem_cons_zero, getElem?_pos]
            refine wpAnyH_take (i := 25) (v := .string Q) rfl (by kernel_rfl) (by kernel_rfl) (by kernel_rfl) (fun _ _ _ h => h) (Or.inl ⟨by rfl, by intro w hw; clear hw; go_simp⟩) hH1 ?_
            simp only [Act.put, List.setIfInBounds_toArray, List.set_cons_zero, List.set_cons_succ, List.getElem_toArray, List.getElem_cons_succ, List.getElem_cons_zero, getElem?_pos]
            refine wpAnyH_take (i := 26) (v := .string B4) rfl (by kernel_rfl) (by kernel_rfl) (by kernel_rfl) (fun _ _ _ h => h) (Or.inl ⟨by rfl, by intro w hw; clear hw; go_simp; rw [if_neg (by omega)]; exact congrArg (fun s => Result.ok (Next.value (Value.string s)) w) KB4.out⟩) hH1 ?_
            simp only [Act.put, List.setIfInBounds_toArray, List.set_cons_zero, List.set_cons_succ, List.getElem_toArray, List.getElem_cons_succ, List.getElem_cons_zero, getElem?_pos]
            refine wpAnyH_take (i := 27) (v := .slice (some ⟨g, 0, none⟩) 2 cap) rfl (by kernel_rfl) (by kernel_rfl) (by kernel_rfl) (fun _ _ _ h => h) (Or.inl ⟨by rfl, by intro w hw; clear hw; go_simp⟩) hH1 ?_
            simp only [Act.put, List.setIfInBounds_toArray, List.set_cons_zero, List.set_cons_succ, List.getElem_toArray, List.getElem_cons_succ, List.getElem_cons_zero, getElem?_pos]
            refine wpAnyH_take (i := 28) (v := .pointer (some ⟨g, 1, none⟩)) rfl (by kernel_rfl) (by kernel_rfl) (by kernel_rfl) (fun _ _ _ h => h) (Or.inl ⟨by rfl, by intro w hw; clear hw; go_simp⟩) hH1 ?_
            simp only [Act.put, List.setIfInBounds_toArray, List.set_cons_zero, List.set_cons_succ, List.getElem_toArray, List.getElem_cons_succ, List.getElem_cons_zero, getElem?_pos]
            refine wpAnyH_take (i := 29) (v := .string y.bytes) rfl (by kernel_rfl) (by kernel_rfl) (by kernel_rfl) (fun _ _ _ h => h) (Or.inl ⟨by rfl, by intro w hw; have hc := hw.2.1; clear hw; go_simp⟩) hH1 ?_
            simp only [Act.put, List.setIfInBounds_toArray, List.set_cons_zero, List.set_cons_succ, List.getElem_toArray, List.getElem_cons_succ, List.getElem_cons_zero, getElem?_pos]
            refine wpAnyH_take (i := 30) (v := .string B5) rfl (by kernel_rfl) (by kernel_rfl) (by kernel_rfl) (fun _ _ _ h => h) (Or.inl ⟨by rfl, by intro w hw; clear hw; go_simp; rw [if_neg (by omega)]; exact congrArg (fun s => Result.ok (Next.value (Value.string s)) w) KB5.out⟩) hH1 ?_
            simp only [Act.put, List.setIfInBounds_toArray, List.set_cons_zero, List.set_cons_succ, List.getElem_toArray, List.getElem_cons_succ, List.getElem_cons_zero, getElem?_pos]
            refine wpAnyH_ready (rs := [31]) (by kernel_rfl) (by simp) (AllReadyH.cons rfl (fun K hK => ?_) AllReadyH.nil)
            refine callOp (by rfl) (by go_simp) ((DB.out _).mono ?_)
            rintro e w12 ⟨rfl, hb12⟩
            refine ⟨_, rfl, hK.out _ _ ⟨cell_go hH1.1 hb12, cell_go hH1.2.1 hb12, bgo hH1.2.2 hb12⟩ (fun hH2 => ?_)⟩
            clear hK K
            simp only [Act.put, List.setIfInBounds_toArray, List.set_cons_zero, List.set_cons_succ, List.getElem_toArray, List.getElem_cons_succ, List.getElem_cons_zero, getElem?_pos]
            refine wpAnyH_take (i := 32) (v := .bool true) rfl (by kernel_rfl) (by kernel_rfl) (by kernel_rfl) (fun _ _ _ h => h) (Or.inl ⟨by rfl, by intro w hw; clear hw; go_simp⟩) hH2 ?_
            simp only [Act.put, List.setIfInBounds_toArray, List.set_cons_zero, List.set_cons_succ, List.getElem_toArray, List.getElem_cons_succ, List.getElem_cons_zero, getElem?_pos]
            refine wpAnyH_take (i := 33) (v := .bool true) rfl (by kernel_rfl) (by kernel_rfl) (by kernel_rfl) (fun _ _ _ h => h) (Or.inl ⟨by rfl, by intro w hw; clear hw; go_simp⟩) hH2 ?_
            simp only [Act.put, List.setIfInBounds_toArray, List.set_cons_zero, List.set_cons_succ, List.getElem_toArray, List.getElem_cons_succ, List.getElem_cons_zero, getElem?_pos]
            refine wpAnyH_take (i := 34) (v := .bool true) rfl (by kernel_rfl) (by kernel_rfl) (by kernel_rfl) (fun _ _ _ h => h) (Or.inl ⟨by rfl, by intro w hw; clear hw; go_simp⟩) hH2 ?_
            simp only [Act.put, List.setIfInBounds_toArray, List.set_cons_zero, List.set_cons_succ, List.getElem_toArray, List.getElem_cons_succ, List.getElem_cons_zero, getElem?_pos]
            refine wpAnyH_done (by kernel_rfl) ?_ _
            go_wp2_with fail
            go_ret
            exact ⟨rfl, hH2.2.2⟩
set_option maxRecDepth 100000 in
theorem lifted (os : Os) (started : os.Started) (H : Type) (enc : TypeId × Value → H) :
    ReturnsInHanded {} Try.checked os 5 .any (Rows.fnContractPartsSpec.pre6 enc Try.prog Try.f5 Rows.fnContractPartsRow.domain false) (Rows.fnContractPartsSpec.post enc Try.prog Try.f5 false true false false) := by
  refine returnsInHanded_of_change (C := Try.checked) own started (by kernel_rfl) Try.func5
    (ChangeSpec.witness6 (enc := enc) (C := Try.checked) false ⟨#[], #[.slice none 0 0], []⟩ 8 (by kernel_rfl) (by kernel_rfl) (by kernel_rfl) (by kernel_rfl)) ?_
  intro W base args ds gs before hval0 hW hcnd _
  have hval : ∀ (j : Nat) t v, Try.f5.params[j]? = some t → args[j]? = some v → Value.okWide Try.prog W .any base t v := hval0
  have hW' := hW
  obtain ⟨p, q, hA0, hV, rfl, hfz, hnd⟩ := hW
  have hA : DataW.TrodAll enc Try.prog W 0 (fun _ => true) true Try.f5.params.toList args.toList ds p := hA0
  rw [Try.params5] at hA hval
  obtain ⟨v0, vs0, d0, ds0, p0, q0, hargs, rfl, rfl, h0, r0⟩ := trodAll_cons hA
  obtain ⟨rfl, rfl, rfl⟩ := trodAll_nil r0
  obtain rfl : args = #[v0] := by cases args; simp_all
  obtain ⟨rfl, rfl⟩ := trodVars_none hV
  obtain ⟨a0, len0, cap0, rfl⟩ := okWide_slice Try.underlying22 (hval 0 22 v0 rfl rfl)
  have k0 := h0
  have lt0 : ∀ x ∈ p0, x.block < W.heap.size := by obtain ⟨m, hm⟩ := k0; exact DataW.trod_lt m _ _ _ hm
  obtain ⟨z0, w0⟩ : ∃ zs, IsRow .u8 W a0 len0 cap0 zs := by
    obtain ⟨fuel, hf⟩ := h0
    rcases open_ints Try.underlying22 Try.underlying5 (by kernel_rfl) hf with ⟨hcs, _⟩ | ⟨x, l, c, zs, hcs, _, hl, hm, hz, _, hcell, hwz⟩
    · simp [Value.cells] at hcs
      obtain ⟨rfl, rfl, rfl⟩ := hcs
      exact ⟨[], .inl ⟨rfl, rfl, rfl, rfl⟩⟩
    · simp [Value.cells] at hcs
      obtain ⟨rfl, rfl, rfl⟩ := hcs
      exact ⟨zs, .inr ⟨_, rfl, hl, hm, by simpa using hz, hcell, hwz⟩⟩
  clear hA0 hval0
  refine (walk a0 len0 cap0 z0 W w0).mono fun e W' ⟨he, bel⟩ => ?_
  subst he
  exact ⟨_, rfl, _, _, _, [], _, [], hW', trodAll_mk1 (shut_bool Try.underlying4 _), (trodAll_cons_mk (Below.trod laidOut (by kernel_rfl) (of_decide_eq_true (by kernel_rfl)) k0 bel lt0) trodAll_mk0), rfl, bel.frame _, fun h => by cases h⟩
theorem over : Rows.fnContractPartsRow.holds Try.pinned (OpenSpec.ofChange Rows.fnContractPartsSpec) :=
  OpenClaim.holds_of_wide 5 Try.f5 rfl rfl rfl rfl rfl rfl rfl ⟨rfl, rfl, rfl, rfl, rfl⟩ rfl rfl rfl rfl rfl (by kernel_rfl) Try.func5 (by kernel_rfl)
    (of_decide_eq_true (by kernel_rfl)) (by unfold Func.isWrapper; first | (rw [if_pos (by decide +kernel)]; kernel_rfl) | (rw [if_neg (by decide +kernel)]; exact ⟨rfl, rfl⟩))
    (fun os started H enc _ => lifted os started H enc)
end Go.Proofs.Ytfajaikkagmkeaa.fnContractParts
namespace Go.Proofs.Ytfajaikkagmkeaa
theorem fnContractParts_holds : Rows.FnContractPartsSaid := fnContractParts.over
#print axioms fnContractParts_holds
end Go.Proofs.Ytfajaikkagmkeaa
