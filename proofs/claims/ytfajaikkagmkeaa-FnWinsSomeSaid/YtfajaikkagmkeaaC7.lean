/-
  Contracts of the program's functions on the dual contract.
-/
import Derived.Test.YtfajaikkagmkeaaC3
import Derived.Test.YtfajaikkagmkeaaG2
import Derived.Test.YtfajaikkagmkeaaG1
namespace Go.Proofs.Ytfajaikkagmkeaa
open Go.RowKit Go.DC
set_option maxHeartbeats 2000000
set_option linter.unusedVariables false
set_option linter.unusedSimpArgs false

theorem contract_head (t : Ct) (hw : t.wf = true) (b : Nat) (w : World) (hh : Held w t b) :
    Calls Try.prog 70 #[.pointer (some ⟨b, 0, none⟩)] w fun e w' => e = .returned (.string (bts (t.o :: t.ds))) ∧ w = w' := by
  obtain ⟨v, hr, _⟩ := hh.parts
  have hc0 := hr.c0
  have hc7 := hr.c7
  obtain ⟨k, hs, _⟩ := wf_shp hw
  have hT : shT t.o = ((k : Int), (t.ds.length : Int)) := by unfold shT; rw [hs]
  have cs := fun w => impl_shapeOf t.o w
  rw [hT] at cs
  have hf := head_fits t
  have hd4 := ds_le hw
  have hcut := head_cut t
  have Hcut := Lib.hid hcut
  have Cs := Lib.hid cs
  clear hT hs cs hr hh hw hcut
  generalize t.ds.length = dl at *
  have hf' : (1 : Int) + dl ≤ t.bytes.size := by omega
  go_enter Try.func70, Try.ntmps70
  go_wp2_with fail
  refine (Cs.out _).mono ?_
  rintro e w' ⟨rfl, rfl⟩
  go_wp2_with fail
  go_ret
  exact ⟨by rw [← Hcut.out]; rfl, rfl⟩
theorem impl_DualContract1 (t : Ct) (hw : t.wf = true) (b : Nat) (w : World) (hh : Held w t b) :
    Calls Try.prog 69 #[.pointer (some ⟨b, 0, none⟩)] w fun e w' => e = .returned (.string (bts (duO t.o :: t.ds))) ∧ Below w.heap.size w w' := by
  obtain ⟨v, hr, _⟩ := hh.parts
  have hc0 := hr.c0
  have Hh := Lib.hid (fun w hh => contract_head t hw b w hh)
  have HH := Lib.hid hh
  have ci := fun w => strings_IndexByte ⟨#[97, 109, 33, 63, 65, 68, 38, 124]⟩ t.o w
  have hd4 := ds_le hw
  clear hr hh hw
  by_cases hx : 0 ≤ Lib.indexByte duA t.o
  case neg =>
    have hn := duA_no hx
    have hi : decide (0 ≤ Lib.indexByte duA t.o) = false := by simpa using hx
    have e : Lib.indexByte (ByteArray.mk #[97, 109, 33, 63, 65, 68, 38, 124]).data.toList t.o = Lib.indexByte duA t.o := rfl
    rw [e] at ci
    generalize Lib.indexByte duA t.o = ix at *
    have Ci := Lib.hid ci
    have Hn := Lib.hid hn
    clear ci hn hx e
    go_enter Try.func69, Try.ntmps69
    go_wp2_with fail
    refine (Hh.out _ HH.out).mono ?_
    rintro e w' ⟨rfl, rfl⟩
    go_wp2_with fail
    refine (Ci.out _).mono ?_
    rintro e w' ⟨rfl, rfl⟩
    go_wp2_with fail
    go_ret
    exact ⟨by rw [Hn.out]; rfl, Below.refl _ _⟩
  case pos =>
    obtain ⟨m, hm, hm8, hext⟩ := duA_yes hx
    have e : Lib.indexByte (ByteArray.mk #[97, 109, 33, 63, 65, 68, 38, 124]).data.toList t.o = (m : Int) := hm
    rw [e] at ci
    have Ci := Lib.hid ci
    have Hext := Lib.hid hext
    have Hcc := Lib.hid (cons_cut t.o t.ds)
    have Hsz := Lib.hid (bts_size (t.o :: t.ds))
    have Hadd := Lib.hid (fun w => run_bts_add (P := Try.prog) [duO t.o] t.ds w (by simp; omega))
    clear ci hm hx e hext
    go_enter Try.func69, Try.ntmps69
    go_wp2_with fail
    refine (Hh.out _ HH.out).mono ?_
    rintro e w' ⟨rfl, rfl⟩
    go_wp2_with fail
    refine (Ci.out _).mono ?_
    rintro e w' ⟨rfl, rfl⟩
    go_wp2_with fail
    refine wp_region_held_drew (S := fun w' => Below w.heap.size w w') (by kernel_rfl) (below_drewN (Below.refl _ _) 1) (fun hH => ?_)
    refine wpAnyH_take (i := 0) (v := .int .i64 m) rfl (by kernel_rfl) (by kernel_rfl) (by kernel_rfl) (fun _ _ _ h => h) (Or.inl ⟨by rfl, by intro w hw; clear hw; go_simp⟩) hH ?_
    simp only [Act.put, List.setIfInBounds_toArray, List.set_cons_zero, List.set_cons_succ, List.getElem_toArray, List.getElem_cons_succ, List.getElem_cons_zero, getElem?_pos]
    refine wpAnyH_take (i := 1) (v := .int .i64 m) rfl (by kernel_rfl) (by kernel_rfl) (by kernel_rfl) (fun _ _ _ h => h) (Or.inl ⟨by rfl, by intro w hw; clear hw; go_simp⟩) hH ?_
    simp only [Act.put, List.setIfInBounds_toArray, List.set_cons_zero, List.set_cons_succ, List.getElem_toArray, List.getElem_cons_succ, List.getElem_cons_zero, getElem?_pos]
    refine wpAnyH_take (i := 2) (v := .int .i64 ((m : Int) + 1)) rfl (by kernel_rfl) (by kernel_rfl) (by kernel_rfl) (fun _ _ _ h => h) (Or.inl ⟨by rfl, by intro w hw; clear hw; go_simp; exact IntWalk.i64_in _ (by omega)⟩) hH ?_
    simp only [Act.put, List.setIfInBounds_toArray, List.set_cons_zero, List.set_cons_succ, List.getElem_toArray, List.getElem_cons_succ, List.getElem_cons_zero, getElem?_pos]
    refine wpAnyH_take (i := 3) (v := .string (bts [duO t.o])) rfl (by kernel_rfl) (by kernel_rfl) (by kernel_rfl) (fun _ _ _ h => h) (Or.inl ⟨by rfl, by intro w hw; clear hw; go_simp; rw [if_pos ⟨by omega, by omega⟩, if_pos (by omega)]; exact congrArg (fun s => Result.ok (Next.value (Value.string s)) w) Hext.out⟩) hH ?_
    simp only [Act.put, List.setIfInBounds_toArray, List.set_cons_zero, List.set_cons_succ, List.getElem_toArray, List.getElem_cons_succ, List.getElem_cons_zero, getElem?_pos]
    refine wpAnyH_take (i := 4) (v := .string (bts (t.o :: t.ds))) rfl (by kernel_rfl) (by kernel_rfl) (by kernel_rfl) (fun _ _ _ h => h) (Or.inl ⟨by rfl, by intro w hw; clear hw; go_simp⟩) hH ?_
    simp only [Act.put, List.setIfInBounds_toArray, List.set_cons_zero, List.set_cons_succ, List.getElem_toArray, List.getElem_cons_succ, List.getElem_cons_zero, getElem?_pos]
    refine wpAnyH_take (i := 5) (v := .string (bts t.ds)) rfl (by kernel_rfl) (by kernel_rfl) (by kernel_rfl) (fun _ _ _ h => h) (Or.inl ⟨by rfl, by intro w hw; clear hw; go_simp; rw [if_pos (by rw [Hsz.out]; simp; omega)]; refine congrArg (fun s => Result.ok (Next.value (Value.string s)) w) ?_; rw [Hsz.out, List.length_cons, Nat.add_comm]; exact Hcc.out⟩) hH ?_
    simp only [Act.put, List.setIfInBounds_toArray, List.set_cons_zero, List.set_cons_succ, List.getElem_toArray, List.getElem_cons_succ, List.getElem_cons_zero, getElem?_pos]
    refine wpAnyH_take (i := 6) (v := .string (bts (duO t.o :: t.ds))) rfl (by kernel_rfl) (by kernel_rfl) (by kernel_rfl) (fun _ _ _ h => h) (Or.inl ⟨by rfl, by intro w hw; clear hw; go_simp; rw [if_neg (by rw [bts_size, bts_size]; simp; omega), bts_app]; rfl⟩) hH ?_
    simp only [Act.put, List.setIfInBounds_toArray, List.set_cons_zero, List.set_cons_succ, List.getElem_toArray, List.getElem_cons_succ, List.getElem_cons_zero, getElem?_pos]
    refine wpAnyH_take (i := 7) (v := .string (bts (duO t.o :: t.ds))) rfl (by kernel_rfl) (by kernel_rfl) (by kernel_rfl) (fun _ _ _ h => h) (Or.inl ⟨by rfl, by intro w hw; clear hw; go_simp⟩) hH ?_
    simp only [Act.put, List.setIfInBounds_toArray, List.set_cons_zero, List.set_cons_succ, List.getElem_toArray, List.getElem_cons_succ, List.getElem_cons_zero, getElem?_pos]
    refine wpAnyH_done (by kernel_rfl) ?_ _
    go_wp2_with fail
    go_ret
    exact ⟨rfl, hH⟩
theorem contract_mapped (n : Nat) (hn : n ≤ 200) : ∀ (t : Ct) (b : Nat) (w : World), t.wf = true → t.tx.length ≤ n → Held w t b →
    Calls Try.prog 68 #[.pointer (some ⟨b, 0, none⟩), .func (.func 69) #[] #[]] w fun e w' => e = .returned (.string (bts (du t).tx)) ∧ Below w.heap.size w w' := by
  induction n with
  | zero => intro t b w _ h; exact absurd h (by have := t.tx_pos; omega)
  | succ n ih =>
    intro t b w hw hl hh
    have Ih := Lib.hid (ih (by omega))
    clear ih
    obtain ⟨v, hr, hk⟩ := hh.parts
    have hc6 := hr.c6
    have hk2 := kids_le t
    have hd4 := ds_le hw
    have Hf := Lib.hid (impl_DualContract1 t hw b w hh)
    have Hfin := Lib.hid (du_tx t)
    have hlen := congrArg List.length (du_tx t)
    rw [du_len] at hlen
    have Hkl := Lib.hid (fun x (hx : x ∈ t.kids) => (⟨kid_wf hw hx, by have := kid_lt hx; omega⟩ : x.wf = true ∧ x.tx.length ≤ n))
    clear hh hr hw
    have Hlen := Lib.hid (show (duO t.o :: (t.ds ++ txs (t.kids.map du))).length ≤ 200 by omega)
    clear hlen hl
    rcases hk with ⟨hk, rfl⟩ | ⟨g, cap, rfl, hk⟩
    · have Hk := Lib.hid hk
      clear hk
      have hcall := Try.call69
      go_enter Try.func68, Try.ntmps68
      go_wp2_with fail
      refine Hf.out.mono ?_
      rintro e w2 ⟨rfl, hb⟩
      have hc6' := cell_go hc6 hb
      have Hb := Lib.hid hb
      clear hb
      go_wp2_with fail
      refine wp_loop_rounds 1 ?_
      rw [rounds_succ]
      go_wp2_with fail
      go_ret
      exact ⟨by rw [Hfin.out, Hk.out]; simp [txs], Hb.out⟩
    · have Hk := Lib.hid hk
      clear hk
      have hcall := Try.call69
      go_enter Try.func68, Try.ntmps68
      go_wp2_with fail
      refine Hf.out.mono ?_
      rintro e w2 ⟨rfl, hb⟩
      have hc6' := cell_go hc6 hb
      have Hb := Lib.hid hb
      clear hb
      go_wp2_with fail
      go_loopg [5, 16] t.kids.length (fun gk a i wr => ∃ m : Nat, m ≤ t.kids.length ∧ gk = t.kids.length - m ∧ i = .int .i64 m ∧ a = .string (bts (duO t.o :: (t.ds ++ txs ((t.kids.map du).take m)))) ∧ Below w.heap.size w wr)
      case atStart => exact ⟨0, by omega, rfl, rfl, by rw [List.take_zero]; simp [txs], Hb.out⟩
      case round =>
        obtain ⟨m, hm, rfl, rfl, rfl, hb⟩ := hrel
        have Hb2 := Lib.hid hb
        clear hb
        by_cases hlt : m < t.kids.length
        case pos =>
          obtain ⟨bx, hcx, hx⟩ := Hk.out m hlt
          have hcx' := cell_go hcx Hb2.out
          have Hx := Lib.hid (Held.go Hb2.out hx)
          have Hkx := Lib.hid (Hkl.out _ (List.getElem_mem hlt))
          have hst : txs ((t.kids.map du).take (m + 1)) = txs ((t.kids.map du).take m) ++ (du t.kids[m]).tx := by
            rw [txs_take (by simpa using hlt)]; simp
          have hle : (duO t.o :: (t.ds ++ txs ((t.kids.map du).take m))).length + (du t.kids[m]).tx.length ≤ 9223372036854775807 := by
            have h1 := Hlen.out
            have h2 : txs (t.kids.map du) = txs ((t.kids.map du).take (m + 1)) ++ txs ((t.kids.map du).drop (m + 1)) := by rw [← txs_app, List.take_append_drop]
            rw [h2, hst] at h1
            simp only [List.length_cons, List.length_append] at h1 ⊢
            omega
          have hadd := fun w => run_bts_add (P := Try.prog) (duO t.o :: (t.ds ++ txs ((t.kids.map du).take m))) ((du t.kids[m]).tx) w hle
          have Hst := Lib.hid hst
          have Hadd := Lib.hid hadd
          clear hcx hx hst hle
          go_wp2_with fail
          refine (Ih.out _ bx _ Hkx.out.1 Hkx.out.2 Hx.out).mono ?_
          rintro e w3 ⟨rfl, hb3⟩
          have Hb3 := Lib.hid (bgo Hb2.out hb3)
          clear hb3
          have hadd2 := Hadd.out
          clear hadd
          go_wp2_with fail
          go_roundg (t.kids.length - (m + 1))
          case rel => exact ⟨m + 1, by omega, rfl, by go_num, by rw [Hst.out] <;> simp, Hb3.out⟩
          case measure => omega
        case neg =>
          have hmk : m = t.kids.length := by omega
          have Hm := Lib.hid hmk
          have hdt : decide ((m : Int) < t.kids.length) = false := by simp; omega
          clear hmk
          go_wp2_with fail
          go_ret
          exact ⟨by rw [Hfin.out, Hm.out, List.take_of_length_le (by simp)] <;> rfl, Hb2.out⟩
theorem impl_DualContract (c : ByteArray) (w : World) (hm : c.size ≤ maxLen) :
    Calls Try.prog 16 #[.string c] w fun e w' => e = .returned (.tuple #[.string (ctv c ByteArray.empty fun t => if 0 < cnt loopOps t then ByteArray.empty else (du t).bytes), .bool (ctv c false fun t => !decide (0 < cnt loopOps t))]) ∧ Below w.heap.size w w' := by
  have hr := impl_read c w hm
  have Hr := Lib.hid hr
  clear hr
  go_enter Try.func16, Try.ntmps16
  go_wp2_with fail
  refine Hr.out.mono ?_
  rintro e w2 ⟨hb, ⟨hno, rfl⟩ | ⟨t, b, hyes, rfl, hx⟩⟩
  · have Hb := Lib.hid hb
    have Hn := Lib.hid hno
    clear hb hno
    go_wp2_with fail
    go_ret2
    exact ⟨by rw [ctv_none _ _ Hn.out, ctv_none _ _ Hn.out]; rfl, Hb.out⟩
  · have Hb := Lib.hid hb
    have Hn := Lib.hid hyes
    have Hw := Lib.hid (cto_some.1 hyes).2
    have Hx := Lib.hid hx
    have hc := fun w hh => contract_count ⟨#[119, 42, 43]⟩ 200 (Nat.le_refl _) t b w (cto_some.1 hyes).2.2 hh
    have e : (ByteArray.mk #[119, 42, 43]).data.toList = loopOps := rfl
    rw [e] at hc
    have Hc := Lib.hid hc
    clear hb hyes hx hc e
    by_cases hl : 0 < cnt loopOps t
    · have Hl := Lib.hid hl
      have hd : decide (0 < cnt loopOps t) = true := by simpa using hl
      go_wp2_with fail
      refine (Hc.out _ Hx.out).mono ?_
      rintro e w3 ⟨rfl, hb3⟩
      have Hb3 := Lib.hid (bgo Hb.out hb3)
      clear hb3
      go_wp2_with fail
      go_ret2
      exact ⟨by rw [ctv_some _ _ Hn.out, ctv_some _ _ Hn.out, if_pos Hl.out, decide_eq_true Hl.out]; rfl, Hb3.out⟩
    · have Hl := Lib.hid hl
      have hd : decide (0 < cnt loopOps t) = false := by simpa using hl
      clear hl
      go_wp2_with fail
      refine (Hc.out _ Hx.out).mono ?_
      rintro e w3 ⟨rfl, hb3⟩
      have Hb3 := Lib.hid (bgo Hb.out hb3)
      have Hx3 := Lib.hid (Held.go hb3 Hx.out)
      clear hb3
      go_wp2_with fail
      refine (contract_mapped 200 (Nat.le_refl _) t b _ Hw.out.1 Hw.out.2 Hx3.out).mono ?_
      rintro e w4 ⟨rfl, hb4⟩
      have Hb4 := Lib.hid (bgo Hb3.out hb4)
      clear hb4
      go_wp2_with fail
      go_ret2
      exact ⟨by rw [ctv_some _ _ Hn.out, ctv_some _ _ Hn.out, if_neg (show ¬ 0 < cnt loopOps t by have := Hl.out; omega), decide_eq_false (show ¬ 0 < cnt loopOps t by have := Hl.out; omega)]; rfl, Hb4.out⟩
end Go.Proofs.Ytfajaikkagmkeaa
