/-
  Contracts of the reference's functions on parts and letters of contracts.
-/
import Derived.Test.YtfajaikkagmkeaaD1
import Derived.Test.YtfajaikkagmkeaaG2
import Derived.Lib.SmallJoins
namespace Go.Proofs.Ytfajaikkagmkeaa
open Go.RowKit Go.DC
set_option maxHeartbeats 1000000
set_option linter.unusedVariables false
set_option linter.unusedSimpArgs false

theorem spec_l5Head (t : Ct) (hw : t.wf = true) (w : World) :
    Calls Try.prog 144 #[.string t.bytes] w fun e w' => e = .returned (.int .i64 ((1 + t.ds.length : Nat) : Int)) ∧ w = w' := by
  obtain ⟨k, hs, _⟩ := wf_shp hw
  have hp := bytes_pos t
  have hp' : (0 : Int) < (t.bytes.size : Int) := by omega
  have hh := bytes_head t
  rcases shp_d hs with ⟨hd, ho⟩ | ⟨hd, ho⟩ | ⟨hd, h1, h2, h3, h4, h5, h6⟩
  · rw [hd]
    clear hs hd
    rcases ho with ho | ho | ho | ho
    all_goals
      rw [ho] at hh
      have hb : ((t.bytes[0]'hp).toNat : Int) = _ := congrArg (fun b : UInt8 => (b.toNat : Int)) hh
      clear hh ho hw
      go_enter Try.func144, Try.ntmps144
      go_wp2_with fail
      go_ret
      exact ⟨rfl, rfl⟩
  · rw [hd]
    clear hs hd
    rcases ho with ho | ho
    all_goals
      rw [ho] at hh
      have hb : ((t.bytes[0]'hp).toNat : Int) = _ := congrArg (fun b : UInt8 => (b.toNat : Int)) hh
      clear hh ho hw
      go_enter Try.func144, Try.ntmps144
      go_wp2_with fail
      go_ret
      exact ⟨rfl, rfl⟩
  · rw [hd]
    rw [← hh] at h1 h2 h3 h4 h5 h6
    have n1 : (((t.bytes[0]'hp).toNat : Int) == (33 : Int)) = false := byte_no h1
    have n2 : (((t.bytes[0]'hp).toNat : Int) == (63 : Int)) = false := byte_no h2
    have n3 : (((t.bytes[0]'hp).toNat : Int) == (105 : Int)) = false := byte_no h3
    have n4 : (((t.bytes[0]'hp).toNat : Int) == (119 : Int)) = false := byte_no h4
    have n5 : (((t.bytes[0]'hp).toNat : Int) == (65 : Int)) = false := byte_no h5
    have n6 : (((t.bytes[0]'hp).toNat : Int) == (68 : Int)) = false := byte_no h6
    clear hs hd h1 h2 h3 h4 h5 h6 hh hw
    go_enter Try.func144, Try.ntmps144
    go_wp2_with fail
    go_ret
    exact ⟨rfl, rfl⟩
theorem infoS : (Try.prog.info? 9).map (fun i => (i.zero, i.size, i.bytes)) = some (some (.string ByteArray.empty), 1, 16) := by kernel_rfl
/-- What taking a contract apart leaves. -/
def Apart (l : List Ct) (w : World) (e : Ending) (w' : World) : Prop := ∃ v, e = .returned v ∧ Strs w' v (l.map Ct.bytes) ∧ Below w.heap.size w w'
set_option maxRecDepth 100000 in
theorem spec_l5Parts (t : Ct) (hw : t.wf = true) (hl : t.tx.length ≤ 200) (w : World) :
    Calls Try.prog 98 #[.string t.bytes] w (Apart t.kids w) := by
  have hc : t.bytes.size ≤ 200 := by rw [Ct.bytes_size]; exact hl
  have hd : 1 + t.ds.length ≤ t.bytes.size := by
    rw [Ct.bytes_size, tx_kids]; simp; omega
  have Hk := Lib.hid (drop_kids t)
  have Hkw := Lib.hid (fun x (hx : x ∈ t.kids) => kid_wf hw hx)
  have hk2 := kids_le t
  have ho := World.ownsRow_made (base := w.heap.size) (e := 9) (size := 1) w #[] 0 (Nat.le_refl _) (by decide) rfl
  have Ho := Lib.hid ho
  have Hb0 := Lib.hid (ba1 w (.cells #[] 9))
  obtain ⟨i0, hi, hz0, hz1, hz2⟩ := info_parts infoS
  obtain ⟨L, hL⟩ : ∃ L, L = (t.kids.map Ct.bytes).map Value.string := ⟨_, rfl⟩
  have HL := Lib.hid hL
  clear ho hL
  go_enter Try.func98, Try.ntmps98
  go_wp2_with fail
  refine (spec_l5Head t hw _).mono ?_
  rintro e w' ⟨rfl, rfl⟩
  go_wp2_with fail
  go_loopg [3, 4] t.kids.length (fun gk v at' wr => ∃ (m q g cap : Nat), m ≤ t.kids.length ∧ gk = t.kids.length - m ∧ at' = .int .i64 q ∧ v = .slice (some ⟨g, 0, none⟩) m cap ∧ q ≤ t.bytes.size ∧
    wr.ownsRow w.heap.size 9 1 (.slice (some ⟨g, 0, none⟩) m cap) m (L.take m) ∧ t.bytes.data.toList.drop q = txs (t.kids.drop m) ∧ Below w.heap.size w wr)
  case atStart => exact ⟨0, 1 + t.ds.length, w.heap.size, 0, Nat.zero_le _, rfl, by go_num, rfl, hd, Ho.out, Hk.out, Hb0.out⟩
  case round =>
    clear Ho Hb0
    obtain ⟨m, q, g, cap, hm, rfl, rfl, rfl, hq, ho, hdr, hb⟩ := hrel
    have Ho := Lib.hid ho
    have Hb := Lib.hid hb
    by_cases hlt : m < t.kids.length
    case pos =>
      rw [List.drop_eq_getElem_cons hlt] at hdr
      have hx : t.kids[m].wf = true := Hkw.out _ (List.getElem_mem hlt)
      obtain ⟨p1, p2, p3, p4⟩ := part_at hx hdr
      have hmore := part_more hdr
      have he := fun w => spec_l5End t.bytes hc (t.bytes.size + 1) q w (.inr ⟨by omega, by omega, by omega⟩)
      rw [p1] at he
      have He := Lib.hid he
      have P3 := Lib.hid p3
      have P4 := Lib.hid p4
      have Hpos := Lib.hid t.kids[m].tx_pos
      generalize hln : t.kids[m].tx.length = ln at *
      have hq1 : (q : Int) < t.bytes.size := by omega
      have hq2 : (q : Int) ≤ (q : Int) + ln := by omega
      have hq3 : (q : Int) + ln ≤ t.bytes.size := by omega
      clear he p1 p3 p4 hdr hx ho hb hln
      go_wp2_with fail
      refine (He.out _).mono ?_
      rintro e w' ⟨rfl, rfl⟩
      have hsl : t.bytes.extract q (q + ln) = t.kids[m].bytes := P3.out
      have hcx : (wr.alloc (.cells #[.string t.kids[m].bytes] 9)).cell? ⟨wr.heap.size, 0, none⟩ = some (.string t.kids[m].bytes) := by rw [World.cell?_alloc_at _ _ _ _ rfl]; rfl
      have Hcx := Lib.hid hcx
      have Hown := Lib.hid (Ho.out.alloc (.cells #[.string t.kids[m].bytes] 9))
      have Hbs := Lib.hid (show w.heap.size ≤ (wr.alloc (.cells #[.string t.kids[m].bytes] 9)).heap.size by have := Hb.out.size; simp; omega)
      have hm1 : m ≤ 1 := by omega
      clear hcx
      go_wp2_with (at_builtin; refine wpList_push _ rfl (.tmp 16) (.tmp 21) 40 rfl w.heap.size 9 i0 (.string ByteArray.empty) 16 Try.underlying40 hi hz0 hz1 hz2 rfl _ m _ rfl Hown.out ⟨wr.heap.size, 0, none⟩ 1 (.string t.kids[m].bytes) rfl Hcx.out rfl (by unfold maxLen; omega) (by omega) Hbs.out ?_)
      intro v' w3 hown' hgrow hnew
      obtain ⟨g', cap', rfl⟩ := Joins.ownsRow_form hown' (by omega)
      have hlist : L.take m ++ [Value.string t.kids[m].bytes] = L.take (m + 1) := by
        rw [List.take_succ_eq_append_getElem (by rw [HL.out]; simpa using hlt)]; simp [HL.out]
      rw [hlist] at hown'
      have Hown' := Lib.hid hown'
      have Hb3 := Lib.hid (Below.grown (Hb.out.alloc Hb.out.size (.cells #[.string t.kids[m].bytes] 9)) hgrow Hbs.out (fun k hk => (Ho.out.lt k hk).1))
      clear hown' hgrow hnew hlist
      go_wp2_with fail
      go_roundg (t.kids.length - (m + 1))
      case rel => exact ⟨m + 1, q + ln, g', cap', by omega, rfl, by go_num, rfl, by omega, Hown'.out, P4.out, Hb3.out⟩
      case measure => omega
    case neg =>
      have hmk : m = t.kids.length := by omega
      rw [hmk, List.drop_length] at hdr
      have hend := no_part hdr
      have hdt : decide ((q : Int) < t.bytes.size) = false := by simp; omega
      have Hm := Lib.hid hmk
      clear ho hb hdr hmk
      go_wp2_with fail
      go_ret
      refine ⟨_, rfl, ?_, Hb.out⟩
      have := Ho.out
      rw [Hm.out, List.take_of_length_le (by rw [HL.out]; simp), HL.out] at this
      rw [Hm.out]
      exact Strs.of_own this (by simp)
set_option maxRecDepth 100000 in
theorem spec_l5Letters (n : Nat) (hn : n ≤ 200) : ∀ (t : Ct) (w : World), t.wf = true → t.tx.length ≤ n →
    Calls Try.prog 89 #[.string t.bytes] w fun e w' => e = .returned (.string (bts (lets t))) ∧ Below w.heap.size w w' := by
  induction n with
  | zero => intro t w _ h; exact absurd h (by have := t.tx_pos; omega)
  | succ n ih =>
    intro t w hw hl
    have Ih := Lib.hid (ih (by omega))
    clear ih
    have hsz := bytes_pos t
    have h1 : (1 : Int) ≤ t.bytes.size := by omega
    have hcut : t.bytes.extract 0 1 = bts [t.o] := by
      obtain ⟨r, h⟩ := tx_head t
      refine bts_of ?_
      rw [extract_list, Ct.bytes_list, h]; rfl
    have Hcut := Lib.hid hcut
    have Hfin := Lib.hid (lets_kids t)
    have Hkw := Lib.hid (fun x (hx : x ∈ t.kids) => (⟨kid_wf hw hx, by have := kid_lt hx; omega⟩ : x.wf = true ∧ x.tx.length ≤ n))
    have hk2 := kids_le t
    have hkl := lets_len t
    clear hcut
    go_enter Try.func89, Try.ntmps89
    go_wp2_with fail
    refine (spec_l5Parts t hw (by omega) _).mono ?_
    rintro e w2 ⟨v, rfl, ⟨g, cap, rfl, hg, hcs⟩, hb⟩
    have Hcs := Lib.hid hcs
    have Hb := Lib.hid hb
    rw [List.length_map]
    clear hcs hb hg
    go_wp2_with fail
    go_loopg [3, 5] t.kids.length (fun gk a i wr => ∃ m : Nat, m ≤ t.kids.length ∧ gk = t.kids.length - m ∧ i = .int .i64 m ∧ a = .string (bts (t.o :: letsL (t.kids.take m))) ∧ Below w2.heap.size w2 wr)
    case atStart => exact ⟨0, by omega, rfl, rfl, by rw [Hcut.out]; rfl, Below.refl _ _⟩
    case round =>
      obtain ⟨m, hm, rfl, rfl, rfl, hb⟩ := hrel
      have Hb2 := Lib.hid hb
      clear hb
      by_cases hlt : m < t.kids.length
      case pos =>
        have hcx := cell_go (Hcs.out m (by simpa using hlt)) Hb2.out
        rw [List.getElem_map] at hcx
        have hkx := Hkw.out _ (List.getElem_mem hlt)
        have Hkx := Lib.hid hkx
        have hstep := letsL_take hlt
        have hlen : (t.o :: letsL (t.kids.take m)).length + (lets t.kids[m]).length ≤ 9223372036854775807 := by
          have e1 : (t.o :: letsL (t.kids.take (m + 1))).length ≤ (lets t).length := by
            rw [lets_kids]
            simp only [List.length_cons]
            have : letsL t.kids = letsL (t.kids.take (m + 1)) ++ letsL (t.kids.drop (m + 1)) := by
              rw [← letsL_app, List.take_append_drop]
            rw [this, List.length_append]; omega
          rw [hstep] at e1
          simp only [List.length_append, List.length_cons] at e1 ⊢
          omega
        have hadd := fun w => run_bts_add (P := Try.prog) (t.o :: letsL (t.kids.take m)) (lets t.kids[m]) w hlen
        rw [List.cons_append, ← hstep] at hadd
        clear hkx hstep hlen
        go_wp2_with fail
        refine (Ih.out _ _ Hkx.out.1 Hkx.out.2).mono ?_
        rintro e w3 ⟨rfl, hb3⟩
        have Hb3 := Lib.hid (bgo Hb2.out hb3)
        clear hb3
        go_wp2_with fail
        go_roundg (t.kids.length - (m + 1))
        case rel => exact ⟨m + 1, by omega, rfl, by go_num, rfl, Hb3.out⟩
        case measure => omega
      case neg =>
        have hmk : m = t.kids.length := by omega
        have hdt : decide ((m : Int) < t.kids.length) = false := by simp; omega
        have Hm := Lib.hid hmk
        clear hmk
        go_wp2_with fail
        go_ret
        exact ⟨by rw [Hm.out, List.take_length, ← Hfin.out]; rfl, bgo Hb.out Hb2.out⟩
theorem spec_l5Any (s ops : ByteArray) (w : World) (hs : s.size ≤ maxLen) (ho : ops.size ≤ maxLen) :
    Calls Try.prog 88 #[.string s, .string ops] w fun e w' => e = .returned (.bool (anyB s.data.toList ops.data.toList)) ∧ w = w' := by
  unfold maxLen at ho
  have cf := fun b w => spec_l14Find s b w hs
  have Cf := Lib.hid cf
  clear cf
  go_enter Try.func88, Try.ntmps88
  go_wp2_with fail
  go_loopg [5] ops.size (fun gk i wr => ∃ k : Nat, k ≤ ops.size ∧ gk = ops.size - k ∧ i = .int .i64 k ∧ w = wr ∧ (ops.data.toList.take k).any (fun b => decide (0 ≤ Lib.indexByte s.data.toList b)) = false)
  case atStart => exact ⟨0, Nat.zero_le _, rfl, rfl, rfl, rfl⟩
  case round =>
    obtain ⟨k, hk, rfl, rfl, rfl, hn⟩ := hrel
    have Hn := Lib.hid hn
    clear hn
    by_cases hlt : k < ops.size
    case pos =>
      have hl : k < ops.data.toList.length := hlt
      have hst : ops.data.toList.take (k + 1) = ops.data.toList.take k ++ [ops[k]] := by rw [List.take_succ_eq_append_getElem hl]; rfl
      have hall : anyB s.data.toList ops.data.toList = ((ops.data.toList.take (k + 1)).any (fun b => decide (0 ≤ Lib.indexByte s.data.toList b)) || (ops.data.toList.drop (k + 1)).any (fun b => decide (0 ≤ Lib.indexByte s.data.toList b))) := by
        unfold anyB
        conv => lhs; rw [← List.take_append_drop (k + 1) ops.data.toList]
        rw [List.any_append]
      rw [hst, List.any_append, Hn.out] at hall
      have Hst := Lib.hid hst
      have Hall := Lib.hid hall
      clear hst hall
      cases hv : decide (0 ≤ Lib.indexByte s.data.toList ops[k])
      case false =>
        have Hv := Lib.hid hv
        go_wp2_with fail
        refine (Cf.out _ _).mono ?_
        rintro e w' ⟨rfl, rfl⟩
        go_wp2_with fail
        go_roundg (ops.size - (k + 1))
        case rel => exact ⟨k + 1, by omega, rfl, by go_num, rfl, by rw [Hst.out, List.any_append, Hn.out]; simp [Hv.out]⟩
        case measure => omega
      case true =>
        have Hv := Lib.hid hv
        go_wp2_with fail
        refine (Cf.out _ _).mono ?_
        rintro e w' ⟨rfl, rfl⟩
        go_wp2_with fail
        go_ret
        exact ⟨by rw [Hall.out]; simp [Hv.out], rfl⟩
    case neg =>
      have hkz : k = ops.size := by omega
      have hdt : decide ((k : Int) < ops.size) = false := by simp; omega
      have Hk := Lib.hid hkz
      clear hkz
      go_wp2_with fail
      go_ret
      have := Hn.out
      rw [Hk.out, List.take_of_length_le (show ops.data.toList.length ≤ ops.size from Nat.le_refl _)] at this
      exact ⟨by unfold anyB; rw [this]; rfl, rfl⟩
end Go.Proofs.Ytfajaikkagmkeaa
