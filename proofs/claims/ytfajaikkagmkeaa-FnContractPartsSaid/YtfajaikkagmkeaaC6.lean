/-
  Contracts of the program's exported functions on what contracts tell.
-/
import Derived.Test.YtfajaikkagmkeaaC5
import Derived.Test.YtfajaikkagmkeaaA10
import Derived.Test.YtfajaikkagmkeaaG2
import Derived.ChangeKeysEq
namespace Go.Proofs.Ytfajaikkagmkeaa
open Go.RowKit Go.DC
set_option maxHeartbeats 1000000
set_option linter.unusedVariables false
set_option linter.unusedSimpArgs false

theorem impl_TransOfContract (c : ByteArray) (w : World) (hm : c.size ≤ maxLen) :
    Calls Try.prog 29 #[.string c] w fun e w' => e = .returned (.tuple #[.string (ctv c ByteArray.empty fun t => txt 16 (tr t)), .bool (cto c).isSome]) ∧ Below w.heap.size w w' := by
  have hr := impl_read c w hm
  have Hr := Lib.hid hr
  clear hr
  go_enter Try.func29, Try.ntmps29
  go_wp2_with fail
  refine Hr.out.mono ?_
  rintro e w2 ⟨hb, ⟨hno, rfl⟩ | ⟨t, b, hyes, rfl, hx⟩⟩
  · have Hb := Lib.hid hb
    have Hn := Lib.hid hno
    clear hb hno
    go_wp2_with fail
    go_ret2
    exact ⟨by rw [ctv_none _ _ Hn.out, Hn.out]; rfl, Hb.out⟩
  · have Hb := Lib.hid hb
    have Hn := Lib.hid hyes
    have Hw := Lib.hid (cto_some.1 hyes).2.1
    have Hx := Lib.hid hx
    clear hb hyes hx
    go_wp2_with fail
    refine (contract_trans _ t b _ Hw.out (Nat.le_refl _) Hx.out).mono ?_
    rintro e w3 ⟨rfl, hb3⟩
    have Hb3 := Lib.hid (bgo Hb.out hb3)
    clear hb3
    go_wp2_with fail
    refine (trans_text (tr t) (tr_Tr Hw.out).dg _).mono ?_
    rintro e w4 ⟨rfl, hb4⟩
    have Hb4 := Lib.hid (bgo Hb3.out hb4)
    clear hb4
    go_wp2_with fail
    go_ret2
    exact ⟨by rw [ctv_some _ _ Hn.out, Hn.out]; rfl, Hb4.out⟩
theorem impl_NeedsBefore (c : ByteArray) (p : Int) (w : World) (hm : c.size ≤ maxLen) :
    Calls Try.prog 19 #[.string c, .int .i64 p] w fun e w' => e = .returned (.int .i64 (need c p)) ∧ Below w.heap.size w w' := by
  have hr := impl_read c w hm
  have Hr := Lib.hid hr
  have cp := fun w => impl_ConditionValid p w
  clear hr
  cases hp : cv p
  all_goals
    rw [hp] at cp
    have Cp := Lib.hid cp
    have Hp := Lib.hid hp
    clear cp hp
    go_enter Try.func19, Try.ntmps19
    go_wp2_with fail
    refine Hr.out.mono ?_
    rintro e w2 ⟨hb, ⟨hno, rfl⟩ | ⟨t, b, hyes, rfl, hx⟩⟩
  · have Hb := Lib.hid hb
    have Hn := Lib.hid hno
    clear hb hno
    go_wp2_with fail
    go_ret
    exact ⟨by unfold need; rw [ctv_none _ _ Hn.out]; rfl, Hb.out⟩
  · have Hb := Lib.hid hb
    have Hn := Lib.hid hyes
    clear hb hyes hx
    go_wp2_with fail
    refine (Cp.out _).mono ?_
    rintro e w' ⟨rfl, rfl⟩
    go_wp2_with fail
    go_ret
    exact ⟨by unfold need; rw [ctv_some _ _ Hn.out, Hp.out]; rfl, Hb.out⟩
  · have Hb := Lib.hid hb
    have Hn := Lib.hid hno
    clear hb hno
    go_wp2_with fail
    go_ret
    exact ⟨by unfold need; rw [ctv_none _ _ Hn.out]; rfl, Hb.out⟩
  · have Hb := Lib.hid hb
    have Hn := Lib.hid hyes
    have Hw := Lib.hid (cto_some.1 hyes).2.1
    have Hx := Lib.hid hx
    obtain ⟨p0, p1⟩ := cv_iff.1 Hp.out
    obtain ⟨q, rfl⟩ := Int.eq_ofNat_of_zero_le p0
    have hq : q < 16 := by omega
    have hix := idx16 (tr t) hq
    clear hb hyes hx p0
    go_wp2_with fail
    refine (Cp.out _).mono ?_
    rintro e w' ⟨rfl, rfl⟩
    go_wp2_with fail
    refine (contract_trans _ t b _ Hw.out (Nat.le_refl _) Hx.out).mono ?_
    rintro e w3 ⟨rfl, hb3⟩
    have Hb3 := Lib.hid (bgo Hb.out hb3)
    clear hb3
    go_wp2_with fail
    go_ret
    exact ⟨by unfold need; rw [ctv_some _ _ Hn.out, Hp.out]; rfl, Hb3.out⟩
theorem impl_AngelWins (c : ByteArray) (s p : Int) (w : World) (hm : c.size ≤ maxLen) :
    Calls Try.prog 12 #[.string c, .int .i64 s, .int .i64 p] w fun e w' => e = .returned (.bool (hasState (need c p) s)) ∧ Below w.heap.size w w' := by
  have hr := impl_NeedsBefore c p w hm
  generalize need c p = v at *
  have Hr := Lib.hid hr
  have hs := fun w => impl_HasState v s w
  have Hs := Lib.hid hs
  clear hr hs
  by_cases h0 : 0 ≤ v
  · go_enter Try.func12, Try.ntmps12
    go_wp2_with fail
    refine Hr.out.mono ?_
    rintro e w2 ⟨rfl, hb⟩
    go_wp2_with fail
    refine (Hs.out _).mono ?_
    rintro e w' ⟨rfl, rfl⟩
    go_wp2_with fail
    go_ret
    exact ⟨rfl, hb⟩
  · have Hz := Lib.hid (show hasState v s = false by unfold hasState; rw [cv_false.2 (by omega)]; rfl)
    have hd : decide (0 ≤ v) = false := by simpa using h0
    clear h0
    go_enter Try.func12, Try.ntmps12
    go_wp2_with fail
    refine Hr.out.mono ?_
    rintro e w2 ⟨rfl, hb⟩
    go_wp2_with fail
    go_ret
    exact ⟨by rw [Hz.out]; rfl, hb⟩
theorem impl_RefinesContract (c d : ByteArray) (w : World) (hm : c.size ≤ maxLen) (hm2 : d.size ≤ maxLen) :
    Calls Try.prog 22 #[.string c, .string d] w fun e w' => e = .returned (.bool (ctv c false fun t => ctv d false fun u => refB (tr t) (tr u))) ∧ Below w.heap.size w w' := by
  have hr := impl_read c w hm
  have Hr := Lib.hid hr
  have Hr2 := Lib.hid (fun w => impl_read d w hm2)
  clear hr
  go_enter Try.func22, Try.ntmps22
  go_wp2_with fail
  refine Hr.out.mono ?_
  rintro e w2 ⟨hb, ⟨hno, rfl⟩ | ⟨t, b, hyes, rfl, hx⟩⟩
  · have Hb := Lib.hid hb
    have Hn := Lib.hid hno
    clear hb hno
    go_wp2_with fail
    refine (Hr2.out _).mono ?_
    rintro e w3 ⟨hb2, ⟨hno2, rfl⟩ | ⟨u, b2, hyes2, rfl, hx2⟩⟩
    all_goals
      have Hb2 := Lib.hid (bgo Hb.out hb2)
      clear hb2
      go_wp2_with fail
      go_ret
      exact ⟨by rw [ctv_none _ _ Hn.out]; rfl, Hb2.out⟩
  · have Hb := Lib.hid hb
    have Hn := Lib.hid hyes
    have Hw := Lib.hid (cto_some.1 hyes).2.1
    have Hx := Lib.hid hx
    clear hb hyes hx
    go_wp2_with fail
    refine (Hr2.out _).mono ?_
    rintro e w3 ⟨hb2, ⟨hno2, rfl⟩ | ⟨u, b2, hyes2, rfl, hx2⟩⟩
    · have Hb2 := Lib.hid (bgo Hb.out hb2)
      have Hn2 := Lib.hid hno2
      clear hb2 hno2
      go_wp2_with fail
      go_ret
      exact ⟨by rw [ctv_some _ _ Hn.out, ctv_none _ _ Hn2.out]; rfl, Hb2.out⟩
    · have Hb2 := Lib.hid (bgo Hb.out hb2)
      have Hn2 := Lib.hid hyes2
      have Hw2 := Lib.hid (cto_some.1 hyes2).2.1
      have Hx2 := Lib.hid hx2
      have Hx1 := Lib.hid (Held.go hb2 Hx.out)
      clear hb2 hyes2 hx2
      go_wp2_with fail
      refine (contract_trans _ t b _ Hw.out (Nat.le_refl _) Hx1.out).mono ?_
      rintro e w4 ⟨rfl, hb4⟩
      have Hb4 := Lib.hid (bgo Hb2.out hb4)
      have Hx4 := Lib.hid (Held.go hb4 Hx2.out)
      clear hb4
      go_wp2_with fail
      refine (contract_trans _ u b2 _ Hw2.out (Nat.le_refl _) Hx4.out).mono ?_
      rintro e w5 ⟨rfl, hb5⟩
      have Hb5 := Lib.hid (bgo Hb4.out hb5)
      clear hb5
      go_wp2_with fail
      refine (trans_refined (tr t) (tr u) _).mono ?_
      rintro e w6 ⟨rfl, hb6⟩
      have Hb6 := Lib.hid (bgo Hb5.out hb6)
      clear hb6
      go_wp2_with fail
      go_ret
      exact ⟨by rw [ctv_some _ _ Hn.out, ctv_some _ _ Hn2.out]; rfl, Hb6.out⟩
theorem eqItems16 (x y : Nat → Int) (w : World) : ∀ is : List Nat, (∀ i ∈ is, i < 16) → (Op.eqItems 9999 3 (Try.prog.cellsOf 3) (cellsF 16 x) (cellsF 16 y) is).run Try.prog w = .ok (is.all fun k => x k == y k) w
  | [], _ => rfl
  | i :: is, h => by
    have ih := eqItems16 x y w is fun j hj => h j (by simp [hj])
    have hi := h i (by simp)
    have hcx := cellsF_get 16 x hi
    have hcy := cellsF_get 16 y hi
    have hc : Try.prog.cellsOf 3 = 1 := by kernel_rfl
    have h1 : (isAgg 3).run Try.prog w = .ok false w := by kernel_rfl
    have p1 : (part 3 (cellsF 16 x) (i * 1)).run Try.prog w = .ok (.int .i64 (x i)) w := by simp [part, h1, hcx]
    have p2 : (part 3 (cellsF 16 y) (i * 1)).run Try.prog w = .ok (.int .i64 (y i)) w := by simp [part, h1, hcy]
    rw [hc] at ih ⊢
    simp only [Op.eqItems, Sem.run_bind, p1, p2, Result.andThen_ok, run_equalIn_int w 9998 3 .i64 .i64 (x i) (y i) Try.underlying3]
    cases hv : (x i == y i)
    · simp [hv]
    · simp only [Bool.not_true, Bool.false_eq_true, if_false, List.all_cons, hv, Bool.true_and]
      exact ih
theorem eq16 (x y : Nat → Int) (w : World) : (Op.equalIn 10000 66 (.agg (cellsF 16 x)) (.agg (cellsF 16 y))).run Try.prog w = .ok (eqT x y) w := by
  obtain ⟨i, hi, _⟩ := info_parts (show (Try.prog.info? 3).map (fun i => (i.zero, i.size, i.bytes)) = some (some (.int .i64 0), 1, 8) by kernel_rfl)
  rw [run_equalIn_array w 9999 (cellsF 16 x) (cellsF 16 y) Try.underlying66 hi, eqItems16 x y w _ (fun i hi => List.mem_range.1 hi)]
  rfl
theorem impl_EqualContracts (c d : ByteArray) (w : World) (hm : c.size ≤ maxLen) (hm2 : d.size ≤ maxLen) :
    Calls Try.prog 27 #[.string c, .string d] w fun e w' => e = .returned (.bool (ctv c false fun t => ctv d false fun u => eqT (tr t) (tr u))) ∧ Below w.heap.size w w' := by
  have hr := impl_read c w hm
  have Hr := Lib.hid hr
  have Hr2 := Lib.hid (fun w => impl_read d w hm2)
  clear hr
  go_enter Try.func27, Try.ntmps27
  go_wp2_with fail
  refine Hr.out.mono ?_
  rintro e w2 ⟨hb, ⟨hno, rfl⟩ | ⟨t, b, hyes, rfl, hx⟩⟩
  · have Hb := Lib.hid hb
    have Hn := Lib.hid hno
    clear hb hno
    go_wp2_with fail
    refine (Hr2.out _).mono ?_
    rintro e w3 ⟨hb2, ⟨hno2, rfl⟩ | ⟨u, b2, hyes2, rfl, hx2⟩⟩
    all_goals
      have Hb2 := Lib.hid (bgo Hb.out hb2)
      clear hb2
      go_wp2_with fail
      go_ret
      exact ⟨by rw [ctv_none _ _ Hn.out]; rfl, Hb2.out⟩
  · have Hb := Lib.hid hb
    have Hn := Lib.hid hyes
    have Hw := Lib.hid (cto_some.1 hyes).2.1
    have Hx := Lib.hid hx
    clear hb hyes hx
    go_wp2_with fail
    refine (Hr2.out _).mono ?_
    rintro e w3 ⟨hb2, ⟨hno2, rfl⟩ | ⟨u, b2, hyes2, rfl, hx2⟩⟩
    · have Hb2 := Lib.hid (bgo Hb.out hb2)
      have Hn2 := Lib.hid hno2
      clear hb2 hno2
      go_wp2_with fail
      go_ret
      exact ⟨by rw [ctv_some _ _ Hn.out, ctv_none _ _ Hn2.out]; rfl, Hb2.out⟩
    · have Hb2 := Lib.hid (bgo Hb.out hb2)
      have Hn2 := Lib.hid hyes2
      have Hw2 := Lib.hid (cto_some.1 hyes2).2.1
      have Hx2 := Lib.hid hx2
      have Hx1 := Lib.hid (Held.go hb2 Hx.out)
      clear hb2 hyes2 hx2
      go_wp2_with fail
      refine (contract_trans _ t b _ Hw.out (Nat.le_refl _) Hx1.out).mono ?_
      rintro e w4 ⟨rfl, hb4⟩
      have Hb4 := Lib.hid (bgo Hb2.out hb4)
      have Hx4 := Lib.hid (Held.go hb4 Hx2.out)
      clear hb4
      go_wp2_with fail
      refine (contract_trans _ u b2 _ Hw2.out (Nat.le_refl _) Hx4.out).mono ?_
      rintro e w5 ⟨rfl, hb5⟩
      have Hb5 := Lib.hid (bgo Hb4.out hb5)
      clear hb5
      have he := eq16 (tr t) (tr u)
      go_wp2_with fail
      go_ret
      exact ⟨by rw [ctv_some _ _ Hn.out, ctv_some _ _ Hn2.out]; rfl, Hb5.out⟩
end Go.Proofs.Ytfajaikkagmkeaa
