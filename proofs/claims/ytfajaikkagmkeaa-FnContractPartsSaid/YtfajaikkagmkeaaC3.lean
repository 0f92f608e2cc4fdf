/-
  Contracts of the program's functions that count statements.
-/
import Derived.Test.YtfajaikkagmkeaaC2
import Derived.Test.YtfajaikkagmkeaaG2
namespace Go.Proofs.Ytfajaikkagmkeaa
open Go.RowKit Go.DC
set_option maxHeartbeats 1000000
set_option linter.unusedVariables false
set_option linter.unusedSimpArgs false

theorem contract_count (ops : ByteArray) (n : Nat) (hn : n ≤ 200) : ∀ (t : Ct) (b : Nat) (w : World), t.tx.length ≤ n → Held w t b →
    Calls Try.prog 67 #[.pointer (some ⟨b, 0, none⟩), .string ops] w fun e w' => e = .returned (.int .i64 (cnt ops.data.toList t)) ∧ Below w.heap.size w w' := by
  induction n with
  | zero => intro t b w h; exact absurd h (by have := t.tx_pos; omega)
  | succ n ih =>
    intro t b w hl hh
    have Ih := Lib.hid (ih (by omega))
    clear ih
    obtain ⟨v, hr, hk⟩ := hh.parts
    have hc0 := hr.c0
    have hc6 := hr.c6
    have hk2 := kids_le t
    have ho := one_rng ops.data.toList t.o
    have hfin := cnt_kids ops.data.toList t
    have hkl : ∀ x ∈ t.kids, x.tx.length ≤ n := fun x hx => by have := kid_lt hx; omega
    have hi : (decide (0 ≤ Lib.indexByte ops.data.toList t.o) = true ∧ one ops.data.toList t.o = 1) ∨ (decide (0 ≤ Lib.indexByte ops.data.toList t.o) = false ∧ one ops.data.toList t.o = 0) := by
      unfold one
      by_cases h : 0 ≤ Lib.indexByte ops.data.toList t.o
      · exact .inl ⟨by simpa using h, by rw [if_pos h]⟩
      · exact .inr ⟨by simpa using h, by rw [if_neg h]⟩
    have cs := fun w => strings_IndexByte ops t.o w
    generalize Lib.indexByte ops.data.toList t.o = ix at *
    have Cs := Lib.hid cs
    have Hfin := Lib.hid hfin
    have Hkl := Lib.hid hkl
    clear cs hfin hkl hh hr
    rcases hi with ⟨hi, h1⟩ | ⟨hi, h1⟩
    all_goals
      have H1 := Lib.hid h1
      clear h1 ho
      rcases hk with ⟨hk, rfl⟩ | ⟨g, cap, rfl, hk⟩
    case succ.inl.inl | succ.inr.inl =>
      have Hk := Lib.hid hk
      clear hk
      go_enter Try.func67, Try.ntmps67
      go_wp2_with (go_at_call 71; refine (Cs.out _).mono ?_; rintro e w' ⟨rfl, rfl⟩)
      refine wp_loop_rounds 1 ?_
      rw [rounds_succ]
      go_wp2_with fail
      go_ret
      exact ⟨by rw [← Hfin.out, Hk.out, H1.out]; rfl, Below.refl _ _⟩
    all_goals
      have Hk := Lib.hid hk
      clear hk
      go_enter Try.func67, Try.ntmps67
      go_wp2_with (go_at_call 71; refine (Cs.out _).mono ?_; rintro e w' ⟨rfl, rfl⟩)
      go_loopg [5, 20] t.kids.length (fun gk a i wr => ∃ m : Nat, m ≤ t.kids.length ∧ gk = t.kids.length - m ∧ i = .int .i64 m ∧ a = .int .i64 (cntL ops.data.toList (one ops.data.toList t.o) (t.kids.take m)) ∧ Below w.heap.size w wr)
      case atStart => exact ⟨0, by omega, rfl, rfl, by rw [H1.out]; rfl, Below.refl _ _⟩
      case round =>
        obtain ⟨m, hm, rfl, rfl, rfl, hb⟩ := hrel
        have Hb := Lib.hid hb
        clear hb
        by_cases hlt : m < t.kids.length
        case pos =>
          obtain ⟨bx, hcx, hx⟩ := Hk.out m hlt
          have hcx' := cell_go hcx Hb.out
          have Hx := Lib.hid (Held.go Hb.out hx)
          have Hle := Lib.hid (Hkl.out _ (List.getElem_mem hlt))
          have Hst := Lib.hid (cntL_take ops.data.toList (a := one ops.data.toList t.o) hlt)
          have hr1 := cntL_rng ops.data.toList (t.kids.take m) (one ops.data.toList t.o) (fun x hx => by have := Hkl.out x (List.mem_of_mem_take hx); omega) (one_rng _ _).1
          have hr2 := cnt_rng ops.data.toList t.kids[m]
          have hr3 : ((t.kids.take m).length : Int) ≤ 2 := by simp; omega
          have hr4 : one ops.data.toList t.o ≤ 1 := (one_rng _ _).2
          have hr5 : (t.kids[m].tx.length : Int) ≤ 200 := by have := Hle.out; omega
          have hA0 : 0 ≤ cntL ops.data.toList (one ops.data.toList t.o) (t.kids.take m) := hr1.1
          have hA1 : cntL ops.data.toList (one ops.data.toList t.o) (t.kids.take m) ≤ 401 := by omega
          have hB0 : 0 ≤ cnt ops.data.toList t.kids[m] := hr2.1
          have hB1 : cnt ops.data.toList t.kids[m] ≤ 200 := by omega
          clear hcx hx hr1 hr2 hr3 hr4 hr5
          go_wp2_with fail
          refine (Ih.out _ bx _ Hle.out Hx.out).mono ?_
          rintro e w2 ⟨rfl, hb2⟩
          have Hb2 := Lib.hid (bgo Hb.out hb2)
          clear hb2
          go_wp2_with fail
          go_roundg (t.kids.length - (m + 1))
          case rel => exact ⟨m + 1, by omega, rfl, by go_num, by rw [Hst.out], Hb2.out⟩
          case measure => omega
        case neg =>
          have hmk : m = t.kids.length := by omega
          have Hm := Lib.hid hmk
          have hdt : decide ((m : Int) < t.kids.length) = false := by simp; omega
          clear hmk
          go_wp2_with fail
          go_ret
          exact ⟨by rw [← Hfin.out, Hm.out, List.take_length]; rfl, Hb.out⟩
theorem impl_ContractValid (c : ByteArray) (w : World) (hm : c.size ≤ maxLen) :
    Calls Try.prog 14 #[.string c] w fun e w' => e = .returned (.bool (cto c).isSome) ∧ Below w.heap.size w w' := by
  have hr := impl_read c w hm
  have Hr := Lib.hid hr
  clear hr
  go_enter Try.func14, Try.ntmps14
  go_wp2_with fail
  refine Hr.out.mono ?_
  rintro e w2 ⟨hb, ⟨hno, rfl⟩ | ⟨t, b, hyes, rfl, hx⟩⟩
  · have Hb := Lib.hid hb
    have Hn := Lib.hid hno
    clear hb hno
    go_wp2_with fail
    go_ret
    exact ⟨by rw [Hn.out]; rfl, Hb.out⟩
  · have Hb := Lib.hid hb
    have Hn := Lib.hid hyes
    clear hb hyes hx
    go_wp2_with fail
    go_ret
    exact ⟨by rw [Hn.out]; rfl, Hb.out⟩
theorem cto_len {c : ByteArray} {t : Ct} (h : cto c = some t) : t.tx.length ≤ 200 := (cto_some.1 h).2.2
theorem impl_SizeOfContract (c : ByteArray) (w : World) (hm : c.size ≤ maxLen) :
    Calls Try.prog 51 #[.string c] w fun e w' => e = .returned (.int .i64 (ctv c (-1) (cnt anyOps))) ∧ Below w.heap.size w w' := by
  have hr := impl_read c w hm
  have Hr := Lib.hid hr
  clear hr
  go_enter Try.func51, Try.ntmps51
  go_wp2_with fail
  refine Hr.out.mono ?_
  rintro e w2 ⟨hb, ⟨hno, rfl⟩ | ⟨t, b, hyes, rfl, hx⟩⟩
  · have Hb := Lib.hid hb
    have Hn := Lib.hid hno
    clear hb hno
    go_wp2_with fail
    go_ret
    exact ⟨by rw [ctv_none _ _ Hn.out]; rfl, Hb.out⟩
  · have Hb := Lib.hid hb
    have Hn := Lib.hid hyes
    have Hl := Lib.hid (cto_len hyes)
    have Hx := Lib.hid hx
    clear hb hyes hx
    go_wp2_with fail
    refine (contract_count ⟨#[115, 97, 109, 33, 63, 65, 68, 59, 38, 124, 105, 119, 42, 43]⟩ 200 (Nat.le_refl _) t b _ Hl.out Hx.out).mono ?_
    rintro e w3 ⟨rfl, hb3⟩
    have Hb3 := Lib.hid (bgo Hb.out hb3)
    have Hx3 := Lib.hid (Held.go hb3 Hx.out)
    clear hb3
    go_wp2_with fail
    go_ret
    exact ⟨by rw [ctv_some _ _ Hn.out]; rfl, Hb3.out⟩
theorem impl_HasLoops (c : ByteArray) (w : World) (hm : c.size ≤ maxLen) :
    Calls Try.prog 49 #[.string c] w fun e w' => e = .returned (.bool (ctv c false fun t => decide (0 < cnt [119, 42, 43] t))) ∧ Below w.heap.size w w' := by
  have hr := impl_read c w hm
  have Hr := Lib.hid hr
  clear hr
  go_enter Try.func49, Try.ntmps49
  go_wp2_with fail
  refine Hr.out.mono ?_
  rintro e w2 ⟨hb, ⟨hno, rfl⟩ | ⟨t, b, hyes, rfl, hx⟩⟩
  · have Hb := Lib.hid hb
    have Hn := Lib.hid hno
    clear hb hno
    go_wp2_with fail
    go_ret
    exact ⟨by rw [ctv_none _ _ Hn.out]; rfl, Hb.out⟩
  · have Hb := Lib.hid hb
    have Hn := Lib.hid hyes
    have Hl := Lib.hid (cto_len hyes)
    have Hx := Lib.hid hx
    clear hb hyes hx
    go_wp2_with fail
    refine (contract_count ⟨#[119, 42, 43]⟩ 200 (Nat.le_refl _) t b _ Hl.out Hx.out).mono ?_
    rintro e w3 ⟨rfl, hb3⟩
    have Hb3 := Lib.hid (bgo Hb.out hb3)
    have Hx3 := Lib.hid (Held.go hb3 Hx.out)
    clear hb3
    go_wp2_with fail
    go_ret
    exact ⟨by rw [ctv_some _ _ Hn.out]; rfl, Hb3.out⟩
theorem impl_ChoosesIn (c : ByteArray) (w : World) (hm : c.size ≤ maxLen) :
    Calls Try.prog 43 #[.string c] w fun e w' => e = .returned (.tuple #[.bool (ctv c false fun t => decide (0 < cnt [65, 124, 43] t)), .bool (ctv c false fun t => decide (0 < cnt [68, 38, 42] t))]) ∧ Below w.heap.size w w' := by
  have hr := impl_read c w hm
  have Hr := Lib.hid hr
  clear hr
  go_enter Try.func43, Try.ntmps43
  go_wp2_with fail
  refine Hr.out.mono ?_
  rintro e w2 ⟨hb, ⟨hno, rfl⟩ | ⟨t, b, hyes, rfl, hx⟩⟩
  · have Hb := Lib.hid hb
    have Hn := Lib.hid hno
    clear hb hno
    go_wp2_with fail
    go_ret2
    exact ⟨by rw [ctv_none _ _ Hn.out]; rw [ctv_none _ _ Hn.out]; rfl, Hb.out⟩
  · have Hb := Lib.hid hb
    have Hn := Lib.hid hyes
    have Hl := Lib.hid (cto_len hyes)
    have Hx := Lib.hid hx
    clear hb hyes hx
    go_wp2_with fail
    refine (contract_count ⟨#[65, 124, 43]⟩ 200 (Nat.le_refl _) t b _ Hl.out Hx.out).mono ?_
    rintro e w3 ⟨rfl, hb3⟩
    have Hb3 := Lib.hid (bgo Hb.out hb3)
    have Hx3 := Lib.hid (Held.go hb3 Hx.out)
    clear hb3
    go_wp2_with fail
    refine (contract_count ⟨#[68, 38, 42]⟩ 200 (Nat.le_refl _) t b _ Hl.out Hx3.out).mono ?_
    rintro e w4 ⟨rfl, hb4⟩
    have Hb4 := Lib.hid (bgo Hb3.out hb4)
    have Hx4 := Lib.hid (Held.go hb4 Hx3.out)
    clear hb4
    go_wp2_with fail
    go_ret2
    exact ⟨by rw [ctv_some _ _ Hn.out]; rw [ctv_some _ _ Hn.out]; rfl, Hb4.out⟩
end Go.Proofs.Ytfajaikkagmkeaa
