/-
  Contracts of the reference's exported functions on what contracts tell.
-/
import Derived.Test.YtfajaikkagmkeaaD5
namespace Go.Proofs.Ytfajaikkagmkeaa
open Go.RowKit Go.DC
set_option maxHeartbeats 1000000
set_option linter.unusedVariables false
set_option linter.unusedSimpArgs false

/-- What a text that is a contract is good for. -/
theorem cto_bytes_of {c : ByteArray} {t : Ct} (h : cto c = some t) : c = t.bytes ∧ t.wf = true ∧ t.tx.length ≤ 200 := cto_some.1 h
theorem spec_TransOfContract (c : ByteArray) (w : World) (hm : c.size ≤ maxLen) :
    Calls Try.prog 30 #[.string c] w fun e w' => e = .returned (.tuple #[.string (ctv c ByteArray.empty fun t => txt 16 (tr t)), .bool (cto c).isSome]) ∧ Below w.heap.size w w' := by
  have hv := fun w => spec_ContractValid c w hm
  cases hc : cto c with
  | none =>
    rw [hc] at hv
    have Hv := Lib.hid hv
    have Hn := Lib.hid hc
    clear hv hc
    go_enter Try.func30, Try.ntmps30
    go_wp2_with fail
    refine (Hv.out _).mono ?_
    rintro e w' ⟨rfl, rfl⟩
    go_wp2_with fail
    go_ret2
    exact ⟨by rw [ctv_none _ _ Hn.out]; rfl, Below.refl _ _⟩
  | some t =>
    rw [hc] at hv
    have Hv := Lib.hid hv
    have Hn := Lib.hid hc
    obtain ⟨rfl, hw, hl⟩ := cto_bytes_of hc
    have ht := fun w => spec_l5Trans 200 (Nat.le_refl _) t w hw hl
    have Ht := Lib.hid ht
    clear hv hc ht hw hl
    go_enter Try.func30, Try.ntmps30
    go_wp2_with fail
    refine (Hv.out _).mono ?_
    rintro e w' ⟨rfl, rfl⟩
    go_wp2_with fail
    refine (Ht.out _).mono ?_
    rintro e w' ⟨rfl, hb⟩
    go_wp2_with fail
    go_ret2
    exact ⟨by rw [ctv_some _ _ Hn.out]; rfl, hb⟩
theorem spec_NeedsBefore (c : ByteArray) (p : Int) (w : World) (hm : c.size ≤ maxLen) :
    Calls Try.prog 39 #[.string c, .int .i64 p] w fun e w' => e = .returned (.int .i64 (need c p)) ∧ Below w.heap.size w w' := by
  have hv := fun w => spec_ContractValid c w hm
  have cp := fun w => spec_ConditionValid p w
  cases hc : cto c with
  | none =>
    rw [hc] at hv
    have Hv := Lib.hid hv
    have Hn := Lib.hid hc
    clear hv hc
    go_enter Try.func39, Try.ntmps39
    go_wp2_with fail
    refine (Hv.out _).mono ?_
    rintro e w' ⟨rfl, rfl⟩
    go_wp2_with fail
    go_ret
    exact ⟨by unfold need; rw [ctv_none _ _ Hn.out]; rfl, Below.refl _ _⟩
  | some t =>
    rw [hc] at hv
    have Hv := Lib.hid hv
    have Hn := Lib.hid hc
    obtain ⟨rfl, hw, hl⟩ := cto_bytes_of hc
    have ht := fun w => spec_l5Trans 200 (Nat.le_refl _) t w hw hl
    have Ht := Lib.hid ht
    have hT := tr_Tr hw
    clear hv hc ht hw hl
    cases hp : cv p
    all_goals
      rw [hp] at cp
      have Cp := Lib.hid cp
      have Hp := Lib.hid hp
      clear cp hp
    · clear hT
      go_enter Try.func39, Try.ntmps39
      go_wp2_with fail
      refine (Hv.out _).mono ?_
      rintro e w' ⟨rfl, rfl⟩
      go_wp2_with fail
      refine (Cp.out _).mono ?_
      rintro e w' ⟨rfl, rfl⟩
      go_wp2_with fail
      go_ret
      exact ⟨by unfold need; rw [ctv_some _ _ Hn.out, Hp.out]; rfl, Below.refl _ _⟩
    · obtain ⟨p0, p1⟩ := cv_iff.1 Hp.out
      have hval := fun w => spec_l3Value (txt 16 (tr t)) p w p0 (by rw [txt_size]; omega)
      have e : dg (txt 16 (tr t)) p.toNat = ap (tr t) p := dg_txt hT.dg (by omega)
      rw [e] at hval
      have Hval := Lib.hid hval
      clear hval e hT
      go_enter Try.func39, Try.ntmps39
      go_wp2_with fail
      refine (Hv.out _).mono ?_
      rintro e w' ⟨rfl, rfl⟩
      go_wp2_with fail
      refine (Cp.out _).mono ?_
      rintro e w' ⟨rfl, rfl⟩
      go_wp2_with fail
      refine (Ht.out _).mono ?_
      rintro e w2 ⟨rfl, hb⟩
      go_wp2_with fail
      refine (Hval.out _).mono ?_
      rintro e w' ⟨rfl, rfl⟩
      go_wp2_with fail
      go_ret
      exact ⟨by unfold need; rw [ctv_some _ _ Hn.out, Hp.out]; rfl, hb⟩
theorem spec_l6Ready (c : ByteArray) (s : Int) (w : World) (hm : c.size ≤ maxLen) :
    Calls Try.prog 61 #[.string c, .int .i64 s] w fun e w' => e = .returned (.bool ((cto c).isSome && sv s)) ∧ w = w' := by
  have hv := fun w => spec_ContractValid c w hm
  have hs := fun w => spec_l1State s w
  generalize (cto c).isSome = b at *
  generalize sv s = b2 at *
  have Hv := Lib.hid hv
  have Hs := Lib.hid hs
  clear hv hs
  cases b
  · go_enter Try.func61, Try.ntmps61
    go_wp2_with fail
    refine (Hv.out _).mono ?_
    rintro e w' ⟨rfl, rfl⟩
    go_wp2_with fail
    go_ret
    exact ⟨rfl, rfl⟩
  · go_enter Try.func61, Try.ntmps61
    go_wp2_with fail
    refine (Hv.out _).mono ?_
    rintro e w' ⟨rfl, rfl⟩
    go_wp2_with fail
    refine (Hs.out _).mono ?_
    rintro e w' ⟨rfl, rfl⟩
    go_wp2_with fail
    go_ret
    exact ⟨rfl, rfl⟩
theorem wins_no {c : ByteArray} {s p : Int} (h : (((cto c).isSome && sv s) && cv p) = false) : hasState (need c p) s = false := by
  unfold need ctv
  cases hc : cto c with
  | none => unfold hasState; rw [show cv (-1) = false from rfl]; rfl
  | some t =>
    rw [hc] at h
    show hasState (askV (cv p) (ap (tr t) p)) s = false
    cases hp : cv p
    · unfold hasState; rw [askV_false, show cv (-1) = false from rfl]; rfl
    · rw [hp] at h
      have hs : sv s = false := by simpa using h
      unfold hasState; rw [hs, Bool.and_false]; rfl
theorem spec_AngelWins (c : ByteArray) (s p : Int) (w : World) (hm : c.size ≤ maxLen) :
    Calls Try.prog 13 #[.string c, .int .i64 s, .int .i64 p] w fun e w' => e = .returned (.bool (hasState (need c p) s)) ∧ Below w.heap.size w w' := by
  have hr := fun w => spec_l6Ready c s w hm
  have cp := fun w => spec_ConditionValid p w
  cases hb : ((cto c).isSome && sv s)
  case false =>
    have Hz := Lib.hid (wins_no (c := c) (s := s) (p := p) (by rw [hb]; rfl))
    rw [hb] at hr
    have Hr := Lib.hid hr
    clear hr hb
    go_enter Try.func13, Try.ntmps13
    go_wp2_with fail
    refine (Hr.out _).mono ?_
    rintro e w' ⟨rfl, rfl⟩
    go_wp2_with fail
    go_ret
    exact ⟨by rw [Hz.out]; rfl, Below.refl _ _⟩
  case true =>
    obtain ⟨hb1, hs⟩ := Bool.and_eq_true_iff.1 hb
    obtain ⟨t, hc⟩ := Option.isSome_iff_exists.1 hb1
    cases hp : cv p
    case false =>
      have Hz := Lib.hid (wins_no (c := c) (s := s) (p := p) (by rw [hb, hp]; rfl))
      rw [hb] at hr
      rw [hp] at cp
      have Hr := Lib.hid hr
      have Cp := Lib.hid cp
      clear hr hb hb1 hs hc hp cp
      go_enter Try.func13, Try.ntmps13
      go_wp2_with fail
      refine (Hr.out _).mono ?_
      rintro e w' ⟨rfl, rfl⟩
      go_wp2_with fail
      refine (Cp.out _).mono ?_
      rintro e w' ⟨rfl, rfl⟩
      go_wp2_with fail
      go_ret
      exact ⟨by rw [Hz.out]; rfl, Below.refl _ _⟩
    case true =>
      rw [hb] at hr
      rw [hp] at cp
      have Hr := Lib.hid hr
      have Cp := Lib.hid cp
      obtain ⟨p0, p1⟩ := cv_iff.1 hp
      obtain ⟨s0, s1⟩ := sv_iff.1 hs
      obtain ⟨rfl, hw, hl⟩ := cto_bytes_of hc
      have ht := fun w => spec_l5Trans 200 (Nat.le_refl _) t w hw hl
      have Ht := Lib.hid ht
      have hT := tr_Tr hw
      have hval := fun w => spec_l3Value (txt 16 (tr t)) p w p0 (by rw [txt_size]; omega)
      have e : dg (txt 16 (tr t)) p.toNat = ap (tr t) p := dg_txt hT.dg (by omega)
      rw [e] at hval
      have hcv := hT.cv (⟨p0, p1⟩ : Cv p)
      have hfin : hasState (need t.bytes p) s = hasb (ap (tr t) p) s.toNat := by
        unfold need
        rw [ctv_some _ _ hc, hp, askV_true]
        unfold hasState
        rw [cv_iff.2 hcv, hs]; rfl
      have Hval := Lib.hid hval
      have Hfin := Lib.hid hfin
      generalize ap (tr t) p = v at *
      obtain ⟨v0, v1⟩ := hcv
      clear hr hb hb1 hs hc hp cp hval e hT ht hw hl hfin
      go_enter Try.func13, Try.ntmps13
      go_wp2_with fail
      refine (Hr.out _).mono ?_
      rintro e w' ⟨rfl, rfl⟩
      go_wp2_with fail
      refine (Cp.out _).mono ?_
      rintro e w' ⟨rfl, rfl⟩
      go_wp2_with fail
      refine (Ht.out _).mono ?_
      rintro e w2 ⟨rfl, hb⟩
      go_wp2_with fail
      refine (Hval.out _).mono ?_
      rintro e w' ⟨rfl, rfl⟩
      go_wp2_with fail
      refine (spec_l1Has v s _ v0 (by omega) s0 (by omega)).mono ?_
      rintro e w' ⟨rfl, rfl⟩
      go_wp2_with fail
      go_ret
      exact ⟨by rw [Hfin.out]; rfl, hb⟩
theorem spec_l5Both (c d : ByteArray) (w : World) (hm : c.size ≤ maxLen) (hm2 : d.size ≤ maxLen) :
    Calls Try.prog 76 #[.string c, .string d] w fun e w' => e = .returned (.bool ((cto c).isSome && (cto d).isSome)) ∧ w = w' := by
  have hv := fun w => spec_ContractValid c w hm
  have hs := fun w => spec_ContractValid d w hm2
  generalize (cto c).isSome = b at *
  generalize (cto d).isSome = b2 at *
  have Hv := Lib.hid hv
  have Hs := Lib.hid hs
  clear hv hs
  cases b
  · go_enter Try.func76, Try.ntmps76
    go_wp2_with fail
    refine (Hv.out _).mono ?_
    rintro e w' ⟨rfl, rfl⟩
    go_wp2_with fail
    go_ret
    exact ⟨rfl, rfl⟩
  · go_enter Try.func76, Try.ntmps76
    go_wp2_with fail
    refine (Hv.out _).mono ?_
    rintro e w' ⟨rfl, rfl⟩
    go_wp2_with fail
    refine (Hs.out _).mono ?_
    rintro e w' ⟨rfl, rfl⟩
    go_wp2_with fail
    go_ret
    exact ⟨rfl, rfl⟩
theorem spec_RefinesTrans (r q : ByteArray) (w : World) (hr : r.size ≤ maxLen) (hq : q.size ≤ maxLen) :
    Calls Try.prog 77 #[.string r, .string q] w fun e w' => e = .returned (.bool ((tvB r && tvB q) && refB (dg r) (dg q))) ∧ w = w' := by
  have hb := fun w => spec_l3Both r q w hr hq
  cases hv : (tvB r && tvB q)
  case false =>
    rw [hv] at hb
    have Hb := Lib.hid hb
    clear hb hv
    go_enter Try.func77, Try.ntmps77
    go_wp2_with fail
    refine (Hb.out _).mono ?_
    rintro e w' ⟨rfl, rfl⟩
    go_wp2_with fail
    go_ret
    exact ⟨rfl, rfl⟩
  case true =>
    rw [hv] at hb
    obtain ⟨h1, h2⟩ := Bool.and_eq_true_iff.1 hv
    have hj := fun w => spec_l3Join r q w (Nat.le_of_eq (tvB_size h1).symm) (tvB_Dg h1) (Nat.le_of_eq (tvB_size h2).symm) (tvB_Dg h2)
    have hfin := ref_join (tvB_Dg h1) (tvB_dv h2)
    rw [← eq_bytes] at hfin
    have Hfin := Lib.hid hfin
    have Hj := Lib.hid hj
    have Hb := Lib.hid hb
    clear hb hv h1 h2 hj hfin
    go_enter Try.func77, Try.ntmps77
    go_wp2_with fail
    refine (Hb.out _).mono ?_
    rintro e w' ⟨rfl, rfl⟩
    go_wp2_with fail
    refine (Hj.out _).mono ?_
    rintro e w' ⟨rfl, rfl⟩
    go_wp2_with fail
    go_ret
    exact ⟨by rw [← Hfin.out]; rfl, rfl⟩
theorem spec_RefinesContract (c d : ByteArray) (w : World) (hm : c.size ≤ maxLen) (hm2 : d.size ≤ maxLen) :
    Calls Try.prog 23 #[.string c, .string d] w fun e w' => e = .returned (.bool (ctv c false fun t => ctv d false fun u => refB (tr t) (tr u))) ∧ Below w.heap.size w w' := by
  have hb := fun w => spec_l5Both c d w hm hm2
  cases hc : cto c with
  | none =>
    have Hc := Lib.hid hc
    rw [hc] at hb
    have Hb := Lib.hid hb
    clear hb hc
    go_enter Try.func23, Try.ntmps23
    go_wp2_with fail
    refine (Hb.out _).mono ?_
    rintro e w' ⟨rfl, rfl⟩
    go_wp2_with fail
    go_ret
    exact ⟨by rw [ctv_none _ _ Hc.out]; rfl, Below.refl _ _⟩
  | some t =>
    have Hc := Lib.hid hc
    rw [hc] at hb
    cases hd : cto d with
    | none =>
      have Hd := Lib.hid hd
      rw [hd] at hb
      have Hb := Lib.hid hb
      clear hb hc hd
      go_enter Try.func23, Try.ntmps23
      go_wp2_with fail
      refine (Hb.out _).mono ?_
      rintro e w' ⟨rfl, rfl⟩
      go_wp2_with fail
      go_ret
      exact ⟨by rw [ctv_some _ _ Hc.out, ctv_none _ _ Hd.out]; rfl, Below.refl _ _⟩
    | some u =>
      have Hd := Lib.hid hd
      rw [hd] at hb
      have Hb := Lib.hid hb
      obtain ⟨rfl, hw, hl⟩ := cto_bytes_of hc
      obtain ⟨rfl, hw2, hl2⟩ := cto_bytes_of hd
      have Ht := Lib.hid (fun w => spec_l5Trans 200 (Nat.le_refl _) t w hw hl)
      have Hu := Lib.hid (fun w => spec_l5Trans 200 (Nat.le_refl _) u w hw2 hl2)
      have hT := tr_Tr hw
      have hU := tr_Tr hw2
      have hj := fun w => spec_RefinesTrans (txt 16 (tr t)) (txt 16 (tr u)) w (by rw [txt_size]; decide) (by rw [txt_size]; decide)
      rw [tvB_txt hT, tvB_txt hU, refB_txt hT.dg hU.dg] at hj
      have Hj := Lib.hid hj
      clear hj
      clear hb hc hd hw hl hw2 hl2 hT hU
      go_enter Try.func23, Try.ntmps23
      go_wp2_with fail
      refine (Hb.out _).mono ?_
      rintro e w' ⟨rfl, rfl⟩
      go_wp2_with fail
      refine (Ht.out _).mono ?_
      rintro e w2 ⟨rfl, hb2⟩
      have Hb2 := Lib.hid hb2
      clear hb2
      go_wp2_with fail
      refine (Hu.out _).mono ?_
      rintro e w3 ⟨rfl, hb3⟩
      have Hb3 := Lib.hid (bgo Hb2.out hb3)
      clear hb3
      go_wp2_with fail
      refine (Hj.out _).mono ?_
      rintro e w' ⟨rfl, rfl⟩
      go_wp2_with fail
      go_ret
      exact ⟨by rw [ctv_some _ _ Hc.out, ctv_some _ _ Hd.out]; rfl, Hb3.out⟩
end Go.Proofs.Ytfajaikkagmkeaa
