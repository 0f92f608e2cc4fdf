/-
  Contracts of the reference's functions on the dual contract.
-/
import Derived.Test.YtfajaikkagmkeaaD3
import Derived.Test.YtfajaikkagmkeaaG2
import Derived.Test.YtfajaikkagmkeaaG1
namespace Go.Proofs.Ytfajaikkagmkeaa
open Go.RowKit Go.DC
set_option maxHeartbeats 2000000
set_option linter.unusedVariables false
set_option linter.unusedSimpArgs false

set_option maxRecDepth 100000 in
theorem spec_l5Dual (n : Nat) (hn : n ≤ 200) : ∀ (t : Ct) (w : World), t.wf = true → t.tx.length ≤ n → cnt loopOps t = 0 →
    Calls Try.prog 96 #[.string t.bytes] w fun e w' => e = .returned (.string (bts (du t).tx)) ∧ Below w.heap.size w w' := by
  induction n with
  | zero => intro t w _ h; exact absurd h (by have := t.tx_pos; omega)
  | succ n ih =>
    intro t w hw hl hc
    have Ih := Lib.hid (ih (by omega))
    clear ih
    have hp := bytes_pos t
    have hp' : (0 : Int) < (t.bytes.size : Int) := by omega
    have hh := bytes_head t
    obtain ⟨kk, hs, _⟩ := wf_shp hw
    obtain ⟨m, hm, hm11, hext⟩ := duF_yes hs (noloop_o hc)
    have cf := fun w => spec_l14Find duF t.o w (by decide)
    rw [hm, ← hh] at cf
    have Cf := Lib.hid cf
    have Hext := Lib.hid hext
    have hft := head_fits t
    have Htail := Lib.hid (tail_cut t)
    have hd4 := ds_le hw
    have Hhead := Lib.hid (fun w => spec_l5Head t hw w)
    have Hparts := Lib.hid (fun w => spec_l5Parts t hw (by omega) w)
    have Hfin := Lib.hid (du_tx t)
    have hlen := congrArg List.length (du_tx t)
    rw [du_len] at hlen
    have hk2 := kids_le t
    have Hkl := Lib.hid (fun x (hx : x ∈ t.kids) => (⟨kid_wf hw hx, by have := kid_lt hx; omega, noloop_kid hc hx⟩ : x.wf = true ∧ x.tx.length ≤ n ∧ cnt loopOps x = 0))
    have Hlen := Lib.hid (show (duO t.o :: (t.ds ++ txs (t.kids.map du))).length ≤ 200 by omega)
    clear hlen hl hc hw hs hm hext cf hh
    go_enter Try.func96, Try.ntmps96
    go_wp2_with fail
    refine (Cf.out _).mono ?_
    rintro e w' ⟨rfl, rfl⟩
    go_wp2_with fail
    refine wp_region_held_drew (S := fun w' => Below w.heap.size w w') (by kernel_rfl) (below_drewN (Below.refl _ _) 1) (fun hH => ?_)
    refine wpAnyH_take (i := 0) (v := .string duT) rfl (by kernel_rfl) (by kernel_rfl) (by kernel_rfl) (fun _ _ _ h => h) (Or.inl ⟨by rfl, by intro w hw; clear hw; go_simp; try rfl⟩) hH ?_
    simp only [Act.put, List.setIfInBounds_toArray, List.set_cons_zero, List.set_cons_succ, List.getElem_toArray, List.getElem_cons_succ, List.getElem_cons_zero, getElem?_pos]
    refine wpAnyH_take (i := 1) (v := .int .i64 m) rfl (by kernel_rfl) (by kernel_rfl) (by kernel_rfl) (fun _ _ _ h => h) (Or.inl ⟨by rfl, by intro w hw; clear hw; go_simp⟩) hH ?_
    simp only [Act.put, List.setIfInBounds_toArray, List.set_cons_zero, List.set_cons_succ, List.getElem_toArray, List.getElem_cons_succ, List.getElem_cons_zero, getElem?_pos]
    refine wpAnyH_take (i := 2) (v := .int .i64 m) rfl (by kernel_rfl) (by kernel_rfl) (by kernel_rfl) (fun _ _ _ h => h) (Or.inl ⟨by rfl, by intro w hw; clear hw; go_simp⟩) hH ?_
    simp only [Act.put, List.setIfInBounds_toArray, List.set_cons_zero, List.set_cons_succ, List.getElem_toArray, List.getElem_cons_succ, List.getElem_cons_zero, getElem?_pos]
    refine wpAnyH_take (i := 3) (v := .int .i64 ((m : Int) + 1)) rfl (by kernel_rfl) (by kernel_rfl) (by kernel_rfl) (fun _ _ _ h => h) (Or.inl ⟨by rfl, by intro w hw; clear hw; go_simp; exact IntWalk.i64_in _ (by omega)⟩) hH ?_
    simp only [Act.put, List.setIfInBounds_toArray, List.set_cons_zero, List.set_cons_succ, List.getElem_toArray, List.getElem_cons_succ, List.getElem_cons_zero, getElem?_pos]
    refine wpAnyH_take (i := 4) (v := .string (bts [duO t.o])) rfl (by kernel_rfl) (by kernel_rfl) (by kernel_rfl) (fun _ _ _ h => h) (Or.inl ⟨by rfl, by intro w hw; clear hw; go_simp; rw [if_pos ⟨by omega, by show (m : Int) + 1 ≤ 11; omega⟩, if_pos (by omega)]; exact congrArg (fun s => Result.ok (Next.value (Value.string s)) w) Hext.out⟩) hH ?_
    simp only [Act.put, List.setIfInBounds_toArray, List.set_cons_zero, List.set_cons_succ, List.getElem_toArray, List.getElem_cons_succ, List.getElem_cons_zero, getElem?_pos]
    refine wpAnyH_take (i := 5) (v := .string t.bytes) rfl (by kernel_rfl) (by kernel_rfl) (by kernel_rfl) (fun _ _ _ h => h) (Or.inl ⟨by rfl, by intro w hw; clear hw; go_simp⟩) hH ?_
    simp only [Act.put, List.setIfInBounds_toArray, List.set_cons_zero, List.set_cons_succ, List.getElem_toArray, List.getElem_cons_succ, List.getElem_cons_zero, getElem?_pos]
    refine wpAnyH_take (i := 6) (v := .string t.bytes) rfl (by kernel_rfl) (by kernel_rfl) (by kernel_rfl) (fun _ _ _ h => h) (Or.inl ⟨by rfl, by intro w hw; clear hw; go_simp⟩) hH ?_
    simp only [Act.put, List.setIfInBounds_toArray, List.set_cons_zero, List.set_cons_succ, List.getElem_toArray, List.getElem_cons_succ, List.getElem_cons_zero, getElem?_pos]
    refine wpAnyH_ready (rs := [7]) (by kernel_rfl) (by simp) (AllReadyH.cons rfl (fun K hK => ?_) AllReadyH.nil)
    refine callOp (by rfl) (by go_simp) ((Hhead.out _).mono ?_)
    rintro e w' ⟨rfl, rfl⟩
    refine ⟨_, rfl, hK.out _ _ hH (fun hH2 => ?_)⟩
    clear hK K
    simp only [Act.put, List.setIfInBounds_toArray, List.set_cons_zero, List.set_cons_succ, List.getElem_toArray, List.getElem_cons_succ, List.getElem_cons_zero, getElem?_pos]
    refine wpAnyH_take (i := 8) (v := .string (bts t.ds)) rfl (by kernel_rfl) (by kernel_rfl) (by kernel_rfl) (fun _ _ _ h => h) (Or.inl ⟨by rfl, by intro w hw; clear hw; go_simp; rw [if_pos ⟨by omega, by omega⟩, if_pos (by omega)]; exact congrArg (fun s => Result.ok (Next.value (Value.string s)) w) Htail.out⟩) hH2 ?_
    simp only [Act.put, List.setIfInBounds_toArray, List.set_cons_zero, List.set_cons_succ, List.getElem_toArray, List.getElem_cons_succ, List.getElem_cons_zero, getElem?_pos]
    refine wpAnyH_take (i := 9) (v := .string (bts (duO t.o :: t.ds))) rfl (by kernel_rfl) (by kernel_rfl) (by kernel_rfl) (fun _ _ _ h => h) (Or.inl ⟨by rfl, by intro w hw; clear hw; go_simp; rw [if_neg (by rw [bts_size, bts_size]; simp; omega), bts_app]; rfl⟩) hH2 ?_
    simp only [Act.put, List.setIfInBounds_toArray, List.set_cons_zero, List.set_cons_succ, List.getElem_toArray, List.getElem_cons_succ, List.getElem_cons_zero, getElem?_pos]
    refine wpAnyH_take (i := 10) (v := .string (bts (duO t.o :: t.ds))) rfl (by kernel_rfl) (by kernel_rfl) (by kernel_rfl) (fun _ _ _ h => h) (Or.inl ⟨by rfl, by intro w hw; clear hw; go_simp⟩) hH2 ?_
    simp only [Act.put, List.setIfInBounds_toArray, List.set_cons_zero, List.set_cons_succ, List.getElem_toArray, List.getElem_cons_succ, List.getElem_cons_zero, getElem?_pos]
    refine wpAnyH_done (by kernel_rfl) ?_ _
    go_wp2_with fail
    refine (Hparts.out _).mono ?_
    rintro e w2 ⟨v, rfl, ⟨g, cap, rfl, hg, hcs⟩, hb⟩
    have Hcs := Lib.hid hcs
    have Hb := Lib.hid (bgo hH2 hb)
    rw [List.length_map]
    clear hcs hb hg
    go_wp2_with fail
    go_loopg [6, 8] t.kids.length (fun gk a i wr => ∃ m : Nat, m ≤ t.kids.length ∧ gk = t.kids.length - m ∧ i = .int .i64 m ∧ a = .string (bts (duO t.o :: (t.ds ++ txs ((t.kids.map du).take m)))) ∧ Below w2.heap.size w2 wr)
    case atStart => exact ⟨0, by omega, rfl, rfl, by rw [List.take_zero]; simp [txs], Below.refl _ _⟩
    case round =>
      obtain ⟨m, hm, rfl, rfl, rfl, hb⟩ := hrel
      have Hb2 := Lib.hid hb
      clear hb
      by_cases hlt : m < t.kids.length
      case pos =>
        have hcx := cell_go (Hcs.out m (by simpa using hlt)) Hb2.out
        rw [List.getElem_map] at hcx
        have Hkx := Lib.hid (Hkl.out _ (List.getElem_mem hlt))
        have hst : txs ((t.kids.map du).take (m + 1)) = txs ((t.kids.map du).take m) ++ (du t.kids[m]).tx := by
          rw [txs_take (by simpa using hlt)]; simp
        have hle : (duO t.o :: (t.ds ++ txs ((t.kids.map du).take m))).length + (du t.kids[m]).tx.length ≤ 9223372036854775807 := by
          have h1 := Hlen.out
          have h2 : txs (t.kids.map du) = txs ((t.kids.map du).take (m + 1)) ++ txs ((t.kids.map du).drop (m + 1)) := by rw [← txs_app, List.take_append_drop]
          rw [h2, hst] at h1
          simp only [List.length_cons, List.length_append] at h1 ⊢
          omega
        have hadd := fun w => run_bts_add (P := Try.prog) (duO t.o :: (t.ds ++ txs ((t.kids.map du).take m))) ((du t.kids[m]).tx) w hle
        have Hst := Lib.hid hst
        clear hst hle
        go_wp2_with fail
        refine (Ih.out _ _ Hkx.out.1 Hkx.out.2.1 Hkx.out.2.2).mono ?_
        rintro e w3 ⟨rfl, hb3⟩
        have Hb3 := Lib.hid (bgo Hb2.out hb3)
        clear hb3
        go_wp2_with fail
        go_roundg (t.kids.length - (m + 1))
        case rel => exact ⟨m + 1, by omega, rfl, by go_num, by rw [Hst.out] <;> simp, Hb3.out⟩
        case measure => omega
      case neg =>
        have hmk : m = t.kids.length := by omega
        have hdt : decide ((m : Int) < t.kids.length) = false := by simp; omega
        have Hm := Lib.hid hmk
        clear hmk
        go_wp2_with fail
        go_ret
        exact ⟨by rw [Hfin.out, Hm.out, List.take_of_length_le (by simp)] <;> rfl, bgo Hb.out Hb2.out⟩
theorem spec_DualContract (c : ByteArray) (w : World) (hm : c.size ≤ maxLen) :
    Calls Try.prog 48 #[.string c] w fun e w' => e = .returned (.tuple #[.string (ctv c ByteArray.empty fun t => if 0 < cnt loopOps t then ByteArray.empty else (du t).bytes), .bool (ctv c false fun t => !decide (0 < cnt loopOps t))]) ∧ Below w.heap.size w w' := by
  have hv := fun w => spec_ContractValid c w hm
  cases hc : cto c with
  | none =>
    rw [hc] at hv
    have Hv := Lib.hid hv
    have Hn := Lib.hid hc
    clear hv hc
    go_enter Try.func48, Try.ntmps48
    go_wp2_with fail
    refine (Hv.out _).mono ?_
    rintro e w' ⟨rfl, rfl⟩
    go_wp2_with fail
    go_ret2
    exact ⟨by rw [ctv_none _ _ Hn.out, ctv_none _ _ Hn.out]; rfl, Below.refl _ _⟩
  | some t =>
    rw [hc] at hv
    have Hv := Lib.hid hv
    have Hn := Lib.hid hc
    have hh := fun w => spec_HasLoops c w hm
    rw [ctv_some _ _ hc] at hh
    have Hh := Lib.hid hh
    obtain ⟨rfl, hw, hl⟩ := cto_some.1 hc
    have Hd := Lib.hid (fun (h0 : cnt loopOps t = 0) w => spec_l5Dual 200 (Nat.le_refl _) t w hw hl h0)
    clear hv hc hh hw hl
    by_cases hl : 0 < cnt loopOps t
    · have Hl := Lib.hid hl
      have hd : decide (0 < cnt [119, 42, 43] t) = true := decide_eq_true hl
      have Hdd := Lib.hid hd
      clear hl hd
      go_enter Try.func48, Try.ntmps48
      go_wp2_with fail
      refine (Hv.out _).mono ?_
      rintro e w' ⟨rfl, rfl⟩
      go_wp2_with fail
      refine (Hh.out _).mono ?_
      rintro e w2 ⟨rfl, hb⟩
      rw [Hdd.out]
      go_wp2_with fail
      go_ret2
      exact ⟨by rw [ctv_some _ _ Hn.out, ctv_some _ _ Hn.out, if_pos Hl.out, decide_eq_true Hl.out]; rfl, hb⟩
    · have Hl := Lib.hid hl
      have hd : decide (0 < cnt [119, 42, 43] t) = false := decide_eq_false hl
      have Hdd := Lib.hid hd
      have h0 : cnt loopOps t = 0 := by have := (cnt_rng loopOps t).1; omega
      have Hdu := Lib.hid (Hd.out h0)
      clear hl hd h0 Hd
      go_enter Try.func48, Try.ntmps48
      go_wp2_with fail
      refine (Hv.out _).mono ?_
      rintro e w' ⟨rfl, rfl⟩
      go_wp2_with fail
      refine (Hh.out _).mono ?_
      rintro e w2 ⟨rfl, hb⟩
      rw [Hdd.out]
      have Hb := Lib.hid hb
      clear hb
      go_wp2_with fail
      refine (Hdu.out _).mono ?_
      rintro e w3 ⟨rfl, hb3⟩
      have Hb3 := Lib.hid (bgo Hb.out hb3)
      clear hb3
      go_wp2_with fail
      go_ret2
      exact ⟨by rw [ctv_some _ _ Hn.out, ctv_some _ _ Hn.out, if_neg (show ¬ 0 < cnt loopOps t by have := Hl.out; omega), decide_eq_false (show ¬ 0 < cnt loopOps t by have := Hl.out; omega)]; rfl, Hb3.out⟩
end Go.Proofs.Ytfajaikkagmkeaa
