/-
  Contracts of the program's functions that show conditions and contracts, and take contracts apart.
-/
import Derived.Test.YtfajaikkagmkeaaC3
import Derived.Test.YtfajaikkagmkeaaG3
import Derived.Test.YtfajaikkagmkeaaD8
import Derived.Test.YtfajaikkagmkeaaA3
import Derived.Test.YtfajaikkagmkeaaSf
import Derived.Test.YtfajaikkagmkeaaG2
import Derived.Lib.Join
namespace Go.Proofs.Ytfajaikkagmkeaa
open Go.RowKit Go.DC
set_option maxHeartbeats 2000000
set_option linter.unusedVariables false
set_option linter.unusedSimpArgs false
set_option maxRecDepth 100000 in
theorem impl_FormatCondition (p : Int) (hp : Cv p) (w : World) :
    Calls Try.prog 147 #[.int .i64 p] w fun e w' => e = .returned (.string (bts (fmt p))) ∧ w = w' := by
  have hv := fun w => impl_ConditionValid p w
  rw [cv_iff.2 hp] at hv
  have Hv := Lib.hid hv
  clear hv
  go_enter Try.func147, Try.ntmps147
  (go_wp2_with fail; refine (Hv.out _).mono ?_; rintro e w' ⟨rfl, rfl⟩)
  go_wp2_with fail
  go_loopg [3, 8] 4 (fun gk o i wr => ∃ n : Nat, n ≤ 4 ∧ gk = 4 - n ∧ i = .int .i64 n ∧ o = .string (bts (fmtF p n)) ∧ w = wr)
  case atStart => exact ⟨0, by omega, rfl, rfl, rfl, rfl⟩
  case round =>
    obtain ⟨n, hn, rfl, rfl, rfl, rfl⟩ := hrel
    by_cases hlt : n < 4
    case pos =>
      have hdn : decide ((n : Int) < 4) = true := decide_eq_true (by omega)
      cases hb : hasb p n
      case false =>
        have Hst := Lib.hid (show fmtF p (n + 1) = fmtF p n by simp [fmtF, hb])
        have hb' : (bits .and .i64 (p / 2 ^ n) 1 == 1) = false := hb
        clear hb
        go_wp2_with fail
        go_roundg (4 - (n + 1))
        case rel => exact ⟨n + 1, by omega, rfl, by go_num, by rw [Hst.out], rfl⟩
        case measure => omega
      case true =>
        have Hst := Lib.hid (show fmtF p (n + 1) = fmtF p n ++ [dgb n] by simp [fmtF, hb])
        have hb' : (bits .and .i64 (p / 2 ^ n) 1 == 1) = true := hb
        have hll := fmtF_len p n
        clear hb
        generalize fmtF p n = l at *
        rcases (show n = 0 ∨ n = 1 ∨ n = 2 ∨ n = 3 by omega) with rfl | rfl | rfl | rfl
        · have e0 : Utf8.encode 48 = dgt 0 := by decide +kernel
          have hb0 : (bits .and .i64 (p) 1 == 1) = true := by simpa using hb'
          have hadd : ∀ w, (Op.stringOp .add (bts l) (dgt 0)).run Try.prog w = .ok (.string (bts (l ++ [dgb 0]))) w := fun w => run_bts_add (P := Try.prog) l [dgb 0] w (by simp; omega)
          go_wp2_with fail
          go_roundg (4 - (0 + 1))
          case rel => exact ⟨0 + 1, by omega, rfl, by go_num, by rw [Hst.out] <;> rfl, rfl⟩
          case measure => omega
        · have e0 : Utf8.encode 49 = dgt 1 := by decide +kernel
          have hb0 : (bits .and .i64 (p / 2) 1 == 1) = true := by simpa using hb'
          have hadd : ∀ w, (Op.stringOp .add (bts l) (dgt 1)).run Try.prog w = .ok (.string (bts (l ++ [dgb 1]))) w := fun w => run_bts_add (P := Try.prog) l [dgb 1] w (by simp; omega)
          go_wp2_with fail
          go_roundg (4 - (1 + 1))
          case rel => exact ⟨1 + 1, by omega, rfl, by go_num, by rw [Hst.out] <;> rfl, rfl⟩
          case measure => omega
        · have e0 : Utf8.encode 50 = dgt 2 := by decide +kernel
          have hb0 : (bits .and .i64 (p / 4) 1 == 1) = true := by simpa using hb'
          have hadd : ∀ w, (Op.stringOp .add (bts l) (dgt 2)).run Try.prog w = .ok (.string (bts (l ++ [dgb 2]))) w := fun w => run_bts_add (P := Try.prog) l [dgb 2] w (by simp; omega)
          go_wp2_with fail
          go_roundg (4 - (2 + 1))
          case rel => exact ⟨2 + 1, by omega, rfl, by go_num, by rw [Hst.out] <;> rfl, rfl⟩
          case measure => omega
        · have e0 : Utf8.encode 51 = dgt 3 := by decide +kernel
          have hb0 : (bits .and .i64 (p / 8) 1 == 1) = true := by simpa using hb'
          have hadd : ∀ w, (Op.stringOp .add (bts l) (dgt 3)).run Try.prog w = .ok (.string (bts (l ++ [dgb 3]))) w := fun w => run_bts_add (P := Try.prog) l [dgb 3] w (by simp; omega)
          go_wp2_with fail
          go_roundg (4 - (3 + 1))
          case rel => exact ⟨3 + 1, by omega, rfl, by go_num, by rw [Hst.out] <;> rfl, rfl⟩
          case measure => omega
    case neg =>
      obtain rfl : n = 4 := by omega
      by_cases he : fmtF p 4 = []
      case pos =>
        have Hf := Lib.hid (show fmt p = [45] by unfold fmt; rw [if_pos he])
        rw [he]
        have e0 : bts [] = ByteArray.mk #[] := rfl
        rw [e0]
        clear he
        go_wp2_with fail
        go_ret
        exact ⟨by rw [Hf.out]; rfl, rfl⟩
      case neg =>
        have Hf := Lib.hid (show fmt p = fmtF p 4 by unfold fmt; rw [if_neg he])
        have hne := bts_ne he
        clear he
        generalize fmtF p 4 = l at *
        go_wp2_with fail
        go_ret
        exact ⟨by rw [Hf.out] <;> rfl, rfl⟩
theorem ownB {w w' : World} {base : Nat} {e : TypeId} {v : Value} {n : Nat} {xs : List Value} (h : w.ownsRow base e 1 v n xs) (hb : Below w.heap.size w w') : w'.ownsRow base e 1 v n xs :=
  h.kept (row := none) ⟨hb.os, hb.tape, hb.output, hb.size, fun k hk _ => hb.block k hk⟩ (by cases hv : v.ownBlock <;> simp)
/-- A row of texts of the call's own. -/
def Owned (w : World) (B : Nat) (v : Value) (l : List ByteArray) : Prop := ∃ g cap, v = .slice (some ⟨g, 0, none⟩) l.length cap ∧ w.ownsRow B 9 1 v l.length (l.map Value.string)
theorem Owned.strs {w : World} {B : Nat} {v : Value} {l : List ByteArray} (h : Owned w B v l) : Strs w v l := by
  obtain ⟨g, cap, rfl, h⟩ := h
  exact Strs.of_own h rfl
/-- What taking a text apart leaves, in memory of its own. -/
def ApartO (l : List ByteArray) (w : World) (e : Ending) (w' : World) : Prop := ∃ v, e = .returned v ∧ Owned w' w.heap.size v l ∧ Below w.heap.size w w'
theorem Els.grown2 {b : Nat} {u w w' : World} {o : Option Nat} (h : Els b u w) (hg : w.grownBy w' o) (ho : ∀ k, o = some k → k = b ∨ u.heap.size ≤ k) : Els b u w' :=
  ⟨hg.os.trans h.os, hg.tape.trans h.tape, hg.output.trans h.output, Nat.le_trans h.size hg.size, fun k hk hkb => (hg.block k (Nat.lt_of_lt_of_le hk h.size) (fun e => by
    rcases ho k e.symm with e2 | e2
    · exact hkb e2
    · omega)).trans (h.block k hk hkb)⟩
/-- Block k is empty. -/
def Bare (w : World) (k : Nat) : Prop := ∃ T, w.heap[k]? = some (.cells #[] T (0, 0))
theorem cell_els {w w' : World} {k g i : Nat} {v : Value} (hE : Els k w w') (h0 : Bare w k) (h : w.cell? ⟨g, i, none⟩ = some v) : w'.cell? ⟨g, i, none⟩ = some v := by
  have hg : g < w.heap.size := block_lt_of_cell h
  have hk : g ≠ k := fun e => by
    subst e
    obtain ⟨T, h0⟩ := h0
    rw [cell_of_row w g i _ T _ h0] at h
    simp at h
  rw [World.cell?_of_block (w := w) (hE.block g hg hk)]
  exact h
theorem Rec.els {w w' : World} {k b : Nat} {o : UInt8} {p : Int} {x : Nat → Int} {v : Value} {t : ByteArray} (h : Rec w b o p x v t) (hE : Els k w w') (h0 : Bare w k) : Rec w' b o p x v t := by
  have hl := h.lt
  obtain ⟨T, h⟩ := h
  have hk : b ≠ k := fun e => by
    subst e
    obtain ⟨T', h0⟩ := h0
    rw [h] at h0
    simp [recC] at h0
  exact ⟨T, by rw [hE.block b hl hk]; exact h⟩
theorem Held.els {w w' : World} {k : Nat} (hE : Els k w w') (h0 : Bare w k) : ∀ {t : Ct} {b : Nat}, Held w t b → Held w' t b
  | .z _ _, _, h => Rec.els h hE h0
  | .u _ _ _, _, ⟨g, cap, bx, h1, h2, h3⟩ => ⟨g, cap, bx, Rec.els h1 hE h0, cell_els hE h0 h2, Held.els hE h0 h3⟩
  | .b _ _ _ _, _, ⟨g, cap, bx, by', h1, h2, h3, h4, h5⟩ => ⟨g, cap, bx, by', Rec.els h1 hE h0, cell_els hE h0 h2, cell_els hE h0 h3, Held.els hE h0 h4, Held.els hE h0 h5⟩
set_option maxRecDepth 100000 in
theorem impl_PartsOfContract (c : ByteArray) (w : World) (hm : c.size ≤ maxLen) :
    Calls Try.prog 31 #[.string c] w (ApartO (partsOf c) w) := by
  have Hr := Lib.hid (fun w => impl_read c w hm)
  have ho := World.ownsRow_made (base := w.heap.size) (e := 9) (size := 1) w #[] 0 (Nat.le_refl _) (by decide) rfl
  have Ho := Lib.hid ho
  have Hb0 := Lib.hid (ba1 w (.cells #[] 9))
  have Hbare := Lib.hid (show Bare (w.alloc (.cells #[] 9)) w.heap.size from ⟨_, heap_alloc_new w _⟩)
  obtain ⟨i0, hi, hz0, hz1, hz2⟩ := info_parts infoS
  clear ho
  go_enter Try.func31, Try.ntmps31
  go_wp2_with fail
  refine (Hr.out _).mono ?_
  rintro e w2 ⟨hb, ⟨hno, rfl⟩ | ⟨t, b, hyes, rfl, hx⟩⟩
  · have Hb := Lib.hid (bgo Hb0.out hb)
    have Ho2 := Lib.hid (ownB Ho.out hb)
    have Hn := Lib.hid hno
    clear hb hno Ho Hb0
    go_wp2_with fail
    go_ret
    refine ⟨_, rfl, ?_, Hb.out⟩
    rw [show partsOf c = [] from ctv_none _ _ Hn.out]
    exact ⟨_, _, rfl, Ho2.out⟩
  · have Hb := Lib.hid (bgo Hb0.out hb)
    have Ho2 := Lib.hid (ownB Ho.out hb)
    have Hn := Lib.hid hyes
    have HB2 := Lib.hid (show Bare w2 w.heap.size by obtain ⟨T, h⟩ := Hbare.out; exact ⟨T, by rw [hb.block _ (by simp)]; exact h⟩)
    have Hsz := Lib.hid (show w.heap.size < w2.heap.size by have := hb.size; simp at this; omega)
    have hk2 := kids_le t
    obtain ⟨v6, hr, hk⟩ := hx.parts
    have hc6 := hr.c6
    clear hb hyes Ho Hb0 hr hx
    rcases hk with ⟨hk, rfl⟩ | ⟨g6, cap6, rfl, hk⟩
    · have Hk := Lib.hid hk
      clear hk
      go_wp2_with fail
      refine wp_loop_rounds 1 ?_
      rw [rounds_succ]
      go_wp2_with fail
      go_ret
      refine ⟨_, rfl, ?_, Hb.out⟩
      rw [show partsOf c = t.kids.map Ct.bytes from ctv_some _ _ Hn.out, Hk.out]
      exact ⟨_, _, rfl, Ho2.out⟩
    · have Hk := Lib.hid hk
      obtain ⟨L, hL⟩ : ∃ L, L = (t.kids.map Ct.bytes).map Value.string := ⟨_, rfl⟩
      have HL := Lib.hid hL
      clear hk hL
      go_wp2_with fail
      go_loopg [3, 18] t.kids.length (fun gk v i wr => ∃ (m g cap : Nat), m ≤ t.kids.length ∧ gk = t.kids.length - m ∧ i = .int .i64 m ∧ v = .slice (some ⟨g, 0, none⟩) m cap ∧
        wr.ownsRow w.heap.size 9 1 (.slice (some ⟨g, 0, none⟩) m cap) m (L.take m) ∧ (g = w.heap.size ∨ w2.heap.size ≤ g) ∧ Els w.heap.size w2 wr ∧ Below w.heap.size w wr)
      case atStart => exact ⟨0, w.heap.size, 0, Nat.zero_le _, rfl, rfl, rfl, Ho2.out, .inl rfl, Els.refl _ _, Hb.out⟩
      case round =>
        clear Ho2 Hb
        obtain ⟨m, g, cap, hm', rfl, rfl, rfl, ho, hg, hb2, hb⟩ := hrel
        have HG := Lib.hid hg
        have Ho := Lib.hid ho
        have Hb2 := Lib.hid hb2
        have Hb := Lib.hid hb
        clear ho hb2 hb hg
        by_cases hlt : m < t.kids.length
        case pos =>
          obtain ⟨bx, hcx0, hx⟩ := Hk.out m hlt
          have hcx1 := cell_els Hb2.out HB2.out hcx0
          obtain ⟨vx, hrx, _⟩ := (Held.els Hb2.out HB2.out hx).parts
          have hc7 := hrx.c7
          generalize hxt : t.kids[m].bytes = xt at *
          have Hxt := Lib.hid hxt
          have hcx : (wr.alloc (.cells #[.string xt] 9)).cell? ⟨wr.heap.size, 0, none⟩ = some (.string xt) := by rw [World.cell?_alloc_at _ _ _ _ rfl]; rfl
          have Hcx := Lib.hid hcx
          have Hown := Lib.hid (Ho.out.alloc (.cells #[.string xt] 9))
          have Hbs := Lib.hid (show w.heap.size ≤ (wr.alloc (.cells #[.string xt] 9)).heap.size by have := Hb.out.size; simp; omega)
          have hm1 : m ≤ 1 := by omega
          clear hcx hcx0 hx hrx hxt
          go_wp2_with (at_builtin; refine wpList_push _ rfl (.tmp 22) (.tmp 27) 40 rfl w.heap.size 9 i0 (.string ByteArray.empty) 16 Try.underlying40 hi hz0 hz1 hz2 rfl _ m _ rfl Hown.out ⟨wr.heap.size, 0, none⟩ 1 (.string xt) rfl Hcx.out rfl (by unfold maxLen; omega) (by omega) Hbs.out ?_)
          intro v' w3 hown' hgrow hnew
          obtain ⟨g', cap', rfl⟩ := Joins.ownsRow_form hown' (by omega)
          have hlist : L.take m ++ [Value.string xt] = L.take (m + 1) := by
            rw [List.take_succ_eq_append_getElem (by rw [HL.out]; simpa using hlt)]; simp [HL.out, Hxt.out]
          rw [hlist] at hown'
          have Hown' := Lib.hid hown'
          have Hb3 := Lib.hid (Below.grown (Hb.out.alloc Hb.out.size (.cells #[.string xt] 9)) hgrow Hbs.out (fun k hk => (Ho.out.lt k hk).1))
          have HbX := Lib.hid (show Els w.heap.size w2 w3 from Els.grown2 (Hb2.out.alloc _) hgrow (fun k hk => by
            have e : k = g := by simpa [Value.ownBlock] using hk.symm
            rw [e]; exact HG.out))
          have HG' := Lib.hid (show g' = w.heap.size ∨ w2.heap.size ≤ g' by
            rcases hnew with h | h
            · have e : g' = g := by simpa [Value.ownBlock] using h
              rw [e]; exact HG.out
            · have h1 := h g' (by simp [Value.ownBlock])
              have h3 := Hb2.out.size
              exact .inr (by omega))
          clear hown' hgrow hnew hlist
          go_wp2_with fail
          go_roundg (t.kids.length - (m + 1))
          case rel => exact ⟨m + 1, g', cap', by omega, rfl, by go_num, rfl, Hown'.out, HG'.out, HbX.out, Hb3.out⟩
          case measure => omega
        case neg =>
          have hmk : m = t.kids.length := by omega
          have Hm := Lib.hid hmk
          have hdt : decide ((m : Int) < t.kids.length) = false := by simp; omega
          clear hmk
          go_wp2_with fail
          go_ret
          refine ⟨_, rfl, ?_, Hb.out⟩
          rw [show partsOf c = t.kids.map Ct.bytes from ctv_some _ _ Hn.out]
          have := Ho.out
          rw [Hm.out, List.take_of_length_le (by rw [HL.out]; simp), HL.out] at this
          rw [Hm.out]
          exact ⟨g, cap, by rw [List.length_map] <;> rfl, by rw [List.length_map]; exact this⟩
set_option maxRecDepth 100000 in
theorem contract_show (n : Nat) (hn : n ≤ 200) : ∀ (t : Ct) (b : Nat) (w : World), t.wf = true → t.tx.length ≤ n → Held w t b →
    Calls Try.prog 99 #[.pointer (some ⟨b, 0, none⟩)] w fun e w' => e = .returned (.string (bts (sh t))) ∧ Below w.heap.size w w' := by
  induction n with
  | zero => intro t b w _ h; exact absurd h (by have := t.tx_pos; omega)
  | succ n ih =>
    intro t b w hw hl hh
    have Ih := Lib.hid (ih (by omega))
    clear ih
    by_cases hz : t.kids = []
    case pos =>
      cases t with
      | z o d =>
        obtain ⟨hs, hd⟩ := Ct.wf_z hw
        have Hd := Lib.hid hd
        have Hpc := Lib.hid (pv_cv hd)
        have hr : Rec w b o (pv d) (xv d) (.slice none 0 0) (Ct.z o d).bytes := hh
        have hc6 := cell_go hr.c6 (ba1 w (.cells #[] 9))
        have hc1 := cell_go hr.c1 (ba1 w (.cells #[] 9))
        clear hw hd hl hz hh
        rcases shp0 hs with ⟨rfl, hl⟩ | ⟨rfl, hl⟩ | ⟨rfl, hl⟩ | ⟨rfl, hl⟩ | ⟨rfl, hl⟩ | ⟨rfl, hl⟩ | ⟨rfl, hl⟩
        · have hc0 : w.cell? ⟨b, 0, none⟩ = some (.int .u8 115) := hr.c0
          clear hr hs hl
          have HB0 := Lib.hid (ba1 w (.cells #[] 9))
          have HC0 := Lib.hid hc0
          clear hc0
          go_enter Try.func99, Try.ntmps99
          go_wp2_with fail
          refine wp_loop_rounds 1 ?_
          rw [rounds_succ]
          go_wp2_with fail
          refine (impl_FormatCondition (pv d) Hpc.out _).mono ?_
          rintro e w' ⟨rfl, rfl⟩
          have hc0 := cell_go HC0.out HB0.out
          have Hb := HB0
          go_wp2_with fail
          go_ret
          exact ⟨rfl, Hb.out⟩
        · have hc0 : w.cell? ⟨b, 0, none⟩ = some (.int .u8 97) := hr.c0
          clear hr hs hl
          have HB0 := Lib.hid (ba1 w (.cells #[] 9))
          have HC0 := Lib.hid hc0
          clear hc0
          go_enter Try.func99, Try.ntmps99
          go_wp2_with fail
          refine wp_loop_rounds 1 ?_
          rw [rounds_succ]
          go_wp2_with fail
          refine (impl_FormatCondition (pv d) Hpc.out _).mono ?_
          rintro e w' ⟨rfl, rfl⟩
          have hc0 := cell_go HC0.out HB0.out
          have Hb := HB0
          go_wp2_with fail
          go_ret
          exact ⟨rfl, Hb.out⟩
        · have hc0 : w.cell? ⟨b, 0, none⟩ = some (.int .u8 109) := hr.c0
          clear hr hs hl
          have HB0 := Lib.hid (ba1 w (.cells #[] 9))
          have HC0 := Lib.hid hc0
          clear hc0
          go_enter Try.func99, Try.ntmps99
          go_wp2_with fail
          refine wp_loop_rounds 1 ?_
          rw [rounds_succ]
          go_wp2_with fail
          refine (impl_FormatCondition (pv d) Hpc.out _).mono ?_
          rintro e w' ⟨rfl, rfl⟩
          have hc0 := cell_go HC0.out HB0.out
          have Hb := HB0
          go_wp2_with fail
          go_ret
          exact ⟨rfl, Hb.out⟩
        · have hc0 : w.cell? ⟨b, 0, none⟩ = some (.int .u8 33) := hr.c0
          have hfl : (bts (fmt (pv d))).size ≤ 4 := by rw [bts_size]; exact fmt_len _
          clear hr hs hl
          have HB0 := Lib.hid (ba1 w (.cells #[] 9))
          have HC0 := Lib.hid hc0
          clear hc0
          go_enter Try.func99, Try.ntmps99
          go_wp2_with fail
          refine wp_loop_rounds 1 ?_
          rw [rounds_succ]
          go_wp2_with fail
          refine (impl_FormatCondition (pv d) Hpc.out _).mono ?_
          rintro e w' ⟨rfl, rfl⟩
          have hc0 := cell_go HC0.out HB0.out
          have Hb := HB0
          go_wp2_with fail
          go_ret
          exact ⟨congrArg (fun s => Ending.returned (Value.string s)) (show bts [123] ++ bts (fmt (pv d)) ++ bts [125] = bts (sh (.z 33 d)) by rw [bts_app, bts_app]; rfl), Hb.out⟩
        · have hc0 : w.cell? ⟨b, 0, none⟩ = some (.int .u8 63) := hr.c0
          have hfl : (bts (fmt (pv d))).size ≤ 4 := by rw [bts_size]; exact fmt_len _
          clear hr hs hl
          have HB0 := Lib.hid (ba1 w (.cells #[] 9))
          have HC0 := Lib.hid hc0
          clear hc0
          go_enter Try.func99, Try.ntmps99
          go_wp2_with fail
          refine wp_loop_rounds 1 ?_
          rw [rounds_succ]
          go_wp2_with fail
          refine (impl_FormatCondition (pv d) Hpc.out _).mono ?_
          rintro e w' ⟨rfl, rfl⟩
          have hc0 := cell_go HC0.out HB0.out
          have Hb := HB0
          go_wp2_with fail
          go_ret
          exact ⟨congrArg (fun s => Ending.returned (Value.string s)) (show bts [91] ++ bts (fmt (pv d)) ++ bts [93] = bts (sh (.z 63 d)) by rw [bts_app, bts_app]; rfl), Hb.out⟩
        · have hc0 : w.cell? ⟨b, 0, none⟩ = some (.int .u8 65) := hr.c0
          have e4 : xv d = rv d := by unfold xv; rw [if_pos hl]
          rw [e4] at hr
          have hq0 := hr.cr (i := 0) (by decide)
          have hq1 := hr.cr (i := 1) (by decide)
          have hq2 := hr.cr (i := 2) (by decide)
          have hq3 := hr.cr (i := 3) (by decide)
          have HQ0 := Lib.hid hq0
          have HQ1 := Lib.hid hq1
          have HQ2 := Lib.hid hq2
          have HQ3 := Lib.hid hq3
          clear hq0 hq1 hq2 hq3
          have ex : (Value.agg (cellsF 4 (rv d))) = .agg #[.int .i64 (rv d 0), .int .i64 (rv d 1), .int .i64 (rv d 2), .int .i64 (rv d 3)] := rfl
          have hf := fun w => rel_text (rv d) (rv_Dg Hd.out hl) w
          rw [ex, txt_rv Hd.out hl] at hf
          have Hf := Lib.hid hf
          have hdl : (bts d).size ≤ 4 := by rw [bts_size, hl]; exact Nat.le_refl _
          clear hf ex e4 hr hs hl
          have HB0 := Lib.hid (ba1 w (.cells #[] 9))
          have HC0 := Lib.hid hc0
          clear hc0
          go_enter Try.func99, Try.ntmps99
          go_wp2_with fail
          refine wp_loop_rounds 1 ?_
          rw [rounds_succ]
          go_wp2_with fail
          refine (impl_FormatCondition (pv d) Hpc.out _).mono ?_
          rintro e w' ⟨rfl, rfl⟩
          have hc0 := cell_go HC0.out HB0.out
          have Hb := HB0
          have hr0 := cell_go HQ0.out Hb.out
          have hr1 := cell_go HQ1.out Hb.out
          have hr2 := cell_go HQ2.out Hb.out
          have hr3 := cell_go HQ3.out Hb.out
          simp only [Nat.add_zero, Nat.reduceAdd] at hr0 hr1 hr2 hr3
          go_wp2_with fail
          refine (Hf.out _).mono ?_
          rintro e w3 ⟨rfl, hb3⟩
          have Hb3 := Lib.hid (bgo Hb.out hb3)
          clear hb3
          go_wp2_with fail
          go_ret
          exact ⟨congrArg (fun s => Ending.returned (Value.string s)) (show bts [97, 110, 103, 101, 108, 32] ++ bts d = bts (sh (.z 65 d)) by rw [bts_app]; rfl), Hb3.out⟩
        · have hc0 : w.cell? ⟨b, 0, none⟩ = some (.int .u8 68) := hr.c0
          have e4 : xv d = rv d := by unfold xv; rw [if_pos hl]
          rw [e4] at hr
          have hq0 := hr.cr (i := 0) (by decide)
          have hq1 := hr.cr (i := 1) (by decide)
          have hq2 := hr.cr (i := 2) (by decide)
          have hq3 := hr.cr (i := 3) (by decide)
          have HQ0 := Lib.hid hq0
          have HQ1 := Lib.hid hq1
          have HQ2 := Lib.hid hq2
          have HQ3 := Lib.hid hq3
          clear hq0 hq1 hq2 hq3
          have ex : (Value.agg (cellsF 4 (rv d))) = .agg #[.int .i64 (rv d 0), .int .i64 (rv d 1), .int .i64 (rv d 2), .int .i64 (rv d 3)] := rfl
          have hf := fun w => rel_text (rv d) (rv_Dg Hd.out hl) w
          rw [ex, txt_rv Hd.out hl] at hf
          have Hf := Lib.hid hf
          have hdl : (bts d).size ≤ 4 := by rw [bts_size, hl]; exact Nat.le_refl _
          clear hf ex e4 hr hs hl
          have HB0 := Lib.hid (ba1 w (.cells #[] 9))
          have HC0 := Lib.hid hc0
          clear hc0
          go_enter Try.func99, Try.ntmps99
          go_wp2_with fail
          refine wp_loop_rounds 1 ?_
          rw [rounds_succ]
          go_wp2_with fail
          refine (impl_FormatCondition (pv d) Hpc.out _).mono ?_
          rintro e w' ⟨rfl, rfl⟩
          have hc0 := cell_go HC0.out HB0.out
          have Hb := HB0
          have hr0 := cell_go HQ0.out Hb.out
          have hr1 := cell_go HQ1.out Hb.out
          have hr2 := cell_go HQ2.out Hb.out
          have hr3 := cell_go HQ3.out Hb.out
          simp only [Nat.add_zero, Nat.reduceAdd] at hr0 hr1 hr2 hr3
          go_wp2_with fail
          refine (Hf.out _).mono ?_
          rintro e w3 ⟨rfl, hb3⟩
          have Hb3 := Lib.hid (bgo Hb.out hb3)
          clear hb3
          go_wp2_with fail
          go_ret
          exact ⟨congrArg (fun s => Ending.returned (Value.string s)) (show bts [100, 101, 109, 111, 110, 32] ++ bts d = bts (sh (.z 68 d)) by rw [bts_app]; rfl), Hb3.out⟩
      | u o d x => simp [Ct.kids] at hz
      | b o d x y => simp [Ct.kids] at hz
    case neg =>
      obtain ⟨v6, hr, hk⟩ := hh.parts
      have hk2 := kids_le t
      have Hkl := Lib.hid (fun x (hx : x ∈ t.kids) => (⟨kid_wf hw hx, by have := kid_lt hx; omega⟩ : x.wf = true ∧ x.tx.length ≤ n))
      have HC0 := Lib.hid hr.c0
      have HC1 := Lib.hid hr.c1
      have hc6 := cell_go hr.c6 (ba1 w (.cells #[] 9))
      have Hw := Lib.hid hw
      have Hz := Lib.hid hz
      rcases hk with ⟨hk, rfl⟩ | ⟨g6, cap6, rfl, hk⟩
      · exact absurd hk hz
      have Hk := Lib.hid hk
      obtain ⟨L, hL⟩ : ∃ L, L = (t.kids.map fun x => bts (sh x)).map Value.string := ⟨_, rfl⟩
      have HL := Lib.hid hL
      have ho := World.ownsRow_made (base := w.heap.size) (e := 9) (size := 1) w #[] 0 (Nat.le_refl _) (by decide) rfl
      have Ho := Lib.hid ho
      have Hb0 := Lib.hid (ba1 w (.cells #[] 9))
      obtain ⟨i0, hi, hz0, hz1, hz2⟩ := info_parts infoS
      clear hk hL ho hr hw hl hh hz
      go_enter Try.func99, Try.ntmps99
      go_wp2_with fail
      go_loopg [3, 13] t.kids.length (fun gk v i wr => ∃ (m g cap : Nat), m ≤ t.kids.length ∧ gk = t.kids.length - m ∧ i = .int .i64 m ∧ v = .slice (some ⟨g, 0, none⟩) m cap ∧
        wr.ownsRow w.heap.size 9 1 (.slice (some ⟨g, 0, none⟩) m cap) m (L.take m) ∧ Below w.heap.size w wr)
      case atStart => exact ⟨0, w.heap.size, 0, Nat.zero_le _, rfl, rfl, rfl, Ho.out, Hb0.out⟩
      case round =>
        clear Ho Hb0
        obtain ⟨m, g, cap, hm', rfl, rfl, rfl, ho, hb⟩ := hrel
        have Ho := Lib.hid ho
        have Hb := Lib.hid hb
        clear ho hb
        by_cases hlt : m < t.kids.length
        case pos =>
          obtain ⟨bx, hcx0, hx⟩ := Hk.out m hlt
          have hcx1 := cell_go hcx0 Hb.out
          have Hx := Lib.hid (Held.go Hb.out hx)
          have Hkx := Lib.hid (Hkl.out _ (List.getElem_mem hlt))
          have hm1 : m ≤ 1 := by omega
          clear hcx0 hx
          go_wp2_with fail
          refine (Ih.out _ bx _ Hkx.out.1 Hkx.out.2 Hx.out).mono ?_
          rintro e w4 ⟨rfl, hb4⟩
          have Ho4 := Lib.hid (ownB Ho.out hb4)
          have Hb4 := Lib.hid (bgo Hb.out hb4)
          generalize hxt : bts (sh t.kids[m]) = xt at *
          have Hxt := Lib.hid hxt
          have hcx : (w4.alloc (.cells #[.string xt] 9)).cell? ⟨w4.heap.size, 0, none⟩ = some (.string xt) := by rw [World.cell?_alloc_at _ _ _ _ rfl]; rfl
          have Hcx := Lib.hid hcx
          have Hown := Lib.hid (Ho4.out.alloc (.cells #[.string xt] 9))
          have Hbs := Lib.hid (show w.heap.size ≤ (w4.alloc (.cells #[.string xt] 9)).heap.size by have := Hb4.out.size; simp; omega)
          clear hcx hxt hb4
          go_wp2_with (at_builtin; refine wpList_push _ rfl (.tmp 17) (.tmp 20) 40 rfl w.heap.size 9 i0 (.string ByteArray.empty) 16 Try.underlying40 hi hz0 hz1 hz2 rfl _ m _ rfl Hown.out ⟨w4.heap.size, 0, none⟩ 1 (.string xt) rfl Hcx.out rfl (by unfold maxLen; omega) (by omega) Hbs.out ?_)
          intro v' w3 hown' hgrow hnew
          obtain ⟨g', cap', rfl⟩ := Joins.ownsRow_form hown' (by omega)
          have hlist : L.take m ++ [Value.string xt] = L.take (m + 1) := by
            rw [List.take_succ_eq_append_getElem (by rw [HL.out]; simpa using hlt)]; simp [HL.out, Hxt.out]
          rw [hlist] at hown'
          have Hown' := Lib.hid hown'
          have Hb3 := Lib.hid (Below.grown (Hb4.out.alloc Hb4.out.size (.cells #[.string xt] 9)) hgrow Hbs.out (fun k hk => (Ho4.out.lt k hk).1))
          clear hown' hgrow hnew hlist
          go_wp2_with fail
          go_roundg (t.kids.length - (m + 1))
          case rel => exact ⟨m + 1, g', cap', by omega, rfl, by go_num, rfl, Hown'.out, Hb3.out⟩
          case measure => omega
        case neg =>
          have hmk : m = t.kids.length := by omega
          subst hmk
          have hdt : decide ((t.kids.length : Int) < t.kids.length) = false := by simp
          have ho := Ho.out
          rw [List.take_of_length_le (by rw [HL.out]; simp), HL.out] at ho
          have hcap : t.kids.length ≤ cap := by
            rcases ho.2 with ⟨h, _⟩ | ⟨g', cap', cur, h, _, _, h4, _⟩
            · simp at h
            · injection h with _ _ h
              omega
          have hstr : ∀ i x, t.kids[i]? = some x → wr.cell? ⟨g, i, none⟩ = some (.string (bts (sh x))) := fun i x hi => by
            have := ho.cells (g := g) rfl i (.string (bts (sh x))) (by simp [hi])
            have hadd : (⟨g, 0, none⟩ : Addr).add i = ⟨g, i, none⟩ := by unfold Addr.add; split <;> simp_all
            rwa [hadd] at this
          have hc0 := cell_go HC0.out Hb.out
          have hc1 := cell_go HC1.out Hb.out
          clear ho Ho HL Hk HC0 HC1 hc6 hlt hm'
          generalize hK : t.kids.length = K at *
          cases t with
          | z o d => exact absurd rfl Hz.out
          | u o d x =>
            obtain ⟨hs, hd, hxw⟩ := Ct.wf_u Hw.out
            have Hpc := Lib.hid (pv_cv hd)
            have hxl : (bts (sh x)).size ≤ 8000 := by rw [bts_size]; have h1 := sh_len hxw; have h2 := (Hkl.out x (by simp [Ct.kids])).2; omega
            have hc1 : wr.cell? ⟨b, 1, none⟩ = some (.int .i64 (pv d)) := hc1
            have hs0 : wr.cell? ⟨g, 0, none⟩ = some (.string (bts (sh x))) := hstr 0 x rfl
            obtain rfl : K = 1 := hK.symm
            clear hd hxw hstr hK hk2 hcap
            go_wp2_with fail
            refine (impl_FormatCondition (pv d) Hpc.out _).mono ?_
            rintro e w' ⟨rfl, rfl⟩
            rcases shp1 hs with ⟨rfl, hl⟩ | ⟨rfl, hl⟩ | ⟨rfl, hl⟩
            · have hc0 : wr.cell? ⟨b, 0, none⟩ = some (.int .u8 119) := hc0
              have hfl : (bts (fmt (pv d))).size ≤ 4 := by rw [bts_size]; exact fmt_len _
              clear hs hl
              go_wp2_with fail
              go_ret
              exact ⟨congrArg (fun s => Ending.returned (Value.string s)) (show bts [119, 104, 105, 108, 101, 32] ++ bts (fmt (pv d)) ++ bts [32, 40] ++ bts (sh x) ++ bts [41] = bts (sh (Ct.u 119 d x)) by rw [bts_app, bts_app, bts_app, bts_app]; rfl), Hb.out⟩
            · have hc0 : wr.cell? ⟨b, 0, none⟩ = some (.int .u8 42) := hc0
              clear hs hl
              go_wp2_with fail
              go_ret
              exact ⟨congrArg (fun s => Ending.returned (Value.string s)) (show bts [97, 115, 32, 111, 102, 116, 101, 110, 32, 97, 115, 32, 116, 104, 101, 32, 100, 101, 109, 111, 110, 32, 119, 97, 110, 116, 115, 32, 40] ++ bts (sh x) ++ bts [41] = bts (sh (Ct.u 42 d x)) by rw [bts_app, bts_app]; rfl), Hb.out⟩
            · have hc0 : wr.cell? ⟨b, 0, none⟩ = some (.int .u8 43) := hc0
              clear hs hl
              go_wp2_with fail
              go_ret
              exact ⟨congrArg (fun s => Ending.returned (Value.string s)) (show bts [97, 115, 32, 111, 102, 116, 101, 110, 32, 97, 115, 32, 116, 104, 101, 32, 97, 110, 103, 101, 108, 32, 119, 97, 110, 116, 115, 32, 40] ++ bts (sh x) ++ bts [41] = bts (sh (Ct.u 43 d x)) by rw [bts_app, bts_app]; rfl), Hb.out⟩
          | b o d x y =>
            obtain ⟨hs, hd, hxw, hyw⟩ := Ct.wf_b Hw.out
            have Hpc := Lib.hid (pv_cv hd)
            have hxl : (bts (sh x)).size ≤ 8000 := by rw [bts_size]; have h1 := sh_len hxw; have h2 := (Hkl.out x (by simp [Ct.kids])).2; omega
            have hyl : (bts (sh y)).size ≤ 8000 := by rw [bts_size]; have h1 := sh_len hyw; have h2 := (Hkl.out y (by simp [Ct.kids])).2; omega
            have hc1 : wr.cell? ⟨b, 1, none⟩ = some (.int .i64 (pv d)) := hc1
            have hs0 : wr.cell? ⟨g, 0, none⟩ = some (.string (bts (sh x))) := hstr 0 x rfl
            have hs1 : wr.cell? ⟨g, 1, none⟩ = some (.string (bts (sh y))) := hstr 1 y rfl
            obtain rfl : K = 2 := hK.symm
            have HCAP := Lib.hid (show [bts (sh x), bts (sh y)].length ≤ cap from hcap)
            clear hd hxw hyw hstr hK hk2 hcap
            go_wp2_with fail
            refine (impl_FormatCondition (pv d) Hpc.out _).mono ?_
            rintro e w' ⟨rfl, rfl⟩
            rcases shp2 hs with ⟨rfl, hl⟩ | ⟨rfl, hl⟩ | ⟨rfl, hl⟩ | ⟨rfl, hl⟩
            · have hc0 : wr.cell? ⟨b, 0, none⟩ = some (.int .u8 59) := hc0
              clear hs hl
              have HS0 := Lib.hid hs0
              have HS1 := Lib.hid hs1
              have hj := Try.strings_Join g 0 cap [bts (sh x), bts (sh y)] ⟨#[59, 32]⟩ wr (fun j z hz => by
                match j, hz with
                | 0, hz => simp at hz; subst hz; exact HS0.out
                | 1, hz => simp at hz; subst hz; exact HS1.out) (block_lt_of_cell HS0.out) (by simp) HCAP.out (by simp [Lib.join, List.intercalate, List.intersperse]; omega)
              rw [show Lib.join ([bts (sh x), bts (sh y)].map (·.data.toList)) (ByteArray.mk #[59, 32]).data.toList = sh x ++ [59, 32] ++ sh y by simp [Lib.join, List.intercalate, List.intersperse, bts_list]] at hj
              have hj' : Calls Try.prog 149 #[.slice (some ⟨g, 0, none⟩) 2 cap, .string (ByteArray.mk #[59, 32])] wr fun e w' => e = .returned (.string (bts (sh x ++ [59, 32] ++ sh y))) ∧ Below wr.heap.size wr w' := hj
              have Hj := Lib.hid hj'
              have hjl : (bts (sh x ++ [59, 32] ++ sh y)).size ≤ 16100 := by simp only [bts_size] at hxl hyl ⊢; simp; omega
              clear hj hj'
              clear hs0 hs1
              go_wp2_with fail
              refine Hj.out.mono ?_
              rintro e w3 ⟨rfl, hb3⟩
              have Hb3 := Lib.hid (bgo Hb.out hb3)
              clear hb3
              generalize hJ : bts (sh x ++ [59, 32] ++ sh y) = J at *
              have HJ := Lib.hid hJ
              clear hJ
              go_wp2_with fail
              go_ret
              exact ⟨congrArg (fun s => Ending.returned (Value.string s)) (show J = bts (sh (Ct.b 59 d x y)) by rw [← HJ.out]; rfl), Hb3.out⟩
            · have hc0 : wr.cell? ⟨b, 0, none⟩ = some (.int .u8 38) := hc0
              clear hs hl
              have HS0 := Lib.hid hs0
              have HS1 := Lib.hid hs1
              have hj := Try.strings_Join g 0 cap [bts (sh x), bts (sh y)] ⟨#[32, 111, 114, 32, 98, 121, 32, 116, 104, 101, 32, 100, 101, 109, 111, 110, 32]⟩ wr (fun j z hz => by
                match j, hz with
                | 0, hz => simp at hz; subst hz; exact HS0.out
                | 1, hz => simp at hz; subst hz; exact HS1.out) (block_lt_of_cell HS0.out) (by simp) HCAP.out (by simp [Lib.join, List.intercalate, List.intersperse]; omega)
              rw [show Lib.join ([bts (sh x), bts (sh y)].map (·.data.toList)) (ByteArray.mk #[32, 111, 114, 32, 98, 121, 32, 116, 104, 101, 32, 100, 101, 109, 111, 110, 32]).data.toList = sh x ++ [32, 111, 114, 32, 98, 121, 32, 116, 104, 101, 32, 100, 101, 109, 111, 110, 32] ++ sh y by simp [Lib.join, List.intercalate, List.intersperse, bts_list]] at hj
              have hj' : Calls Try.prog 149 #[.slice (some ⟨g, 0, none⟩) 2 cap, .string (ByteArray.mk #[32, 111, 114, 32, 98, 121, 32, 116, 104, 101, 32, 100, 101, 109, 111, 110, 32])] wr fun e w' => e = .returned (.string (bts (sh x ++ [32, 111, 114, 32, 98, 121, 32, 116, 104, 101, 32, 100, 101, 109, 111, 110, 32] ++ sh y))) ∧ Below wr.heap.size wr w' := hj
              have Hj := Lib.hid hj'
              have hjl : (bts (sh x ++ [32, 111, 114, 32, 98, 121, 32, 116, 104, 101, 32, 100, 101, 109, 111, 110, 32] ++ sh y)).size ≤ 16100 := by simp only [bts_size] at hxl hyl ⊢; simp; omega
              clear hj hj'
              clear hs0 hs1
              go_wp2_with fail
              refine Hj.out.mono ?_
              rintro e w3 ⟨rfl, hb3⟩
              have Hb3 := Lib.hid (bgo Hb.out hb3)
              clear hb3
              generalize hJ : bts (sh x ++ [32, 111, 114, 32, 98, 121, 32, 116, 104, 101, 32, 100, 101, 109, 111, 110, 32] ++ sh y) = J at *
              have HJ := Lib.hid hJ
              clear hJ
              go_wp2_with fail
              go_ret
              exact ⟨congrArg (fun s => Ending.returned (Value.string s)) (show bts [40] ++ J ++ bts [41] = bts (sh (Ct.b 38 d x y)) by rw [← HJ.out, bts_app, bts_app]; rfl), Hb3.out⟩
            · have hc0 : wr.cell? ⟨b, 0, none⟩ = some (.int .u8 124) := hc0
              clear hs hl
              have HS0 := Lib.hid hs0
              have HS1 := Lib.hid hs1
              have hj := Try.strings_Join g 0 cap [bts (sh x), bts (sh y)] ⟨#[32, 111, 114, 32, 98, 121, 32, 116, 104, 101, 32, 97, 110, 103, 101, 108, 32]⟩ wr (fun j z hz => by
                match j, hz with
                | 0, hz => simp at hz; subst hz; exact HS0.out
                | 1, hz => simp at hz; subst hz; exact HS1.out) (block_lt_of_cell HS0.out) (by simp) HCAP.out (by simp [Lib.join, List.intercalate, List.intersperse]; omega)
              rw [show Lib.join ([bts (sh x), bts (sh y)].map (·.data.toList)) (ByteArray.mk #[32, 111, 114, 32, 98, 121, 32, 116, 104, 101, 32, 97, 110, 103, 101, 108, 32]).data.toList = sh x ++ [32, 111, 114, 32, 98, 121, 32, 116, 104, 101, 32, 97, 110, 103, 101, 108, 32] ++ sh y by simp [Lib.join, List.intercalate, List.intersperse, bts_list]] at hj
              have hj' : Calls Try.prog 149 #[.slice (some ⟨g, 0, none⟩) 2 cap, .string (ByteArray.mk #[32, 111, 114, 32, 98, 121, 32, 116, 104, 101, 32, 97, 110, 103, 101, 108, 32])] wr fun e w' => e = .returned (.string (bts (sh x ++ [32, 111, 114, 32, 98, 121, 32, 116, 104, 101, 32, 97, 110, 103, 101, 108, 32] ++ sh y))) ∧ Below wr.heap.size wr w' := hj
              have Hj := Lib.hid hj'
              have hjl : (bts (sh x ++ [32, 111, 114, 32, 98, 121, 32, 116, 104, 101, 32, 97, 110, 103, 101, 108, 32] ++ sh y)).size ≤ 16100 := by simp only [bts_size] at hxl hyl ⊢; simp; omega
              clear hj hj'
              clear hs0 hs1
              go_wp2_with fail
              refine Hj.out.mono ?_
              rintro e w3 ⟨rfl, hb3⟩
              have Hb3 := Lib.hid (bgo Hb.out hb3)
              clear hb3
              generalize hJ : bts (sh x ++ [32, 111, 114, 32, 98, 121, 32, 116, 104, 101, 32, 97, 110, 103, 101, 108, 32] ++ sh y) = J at *
              have HJ := Lib.hid hJ
              clear hJ
              go_wp2_with fail
              go_ret
              exact ⟨congrArg (fun s => Ending.returned (Value.string s)) (show bts [40] ++ J ++ bts [41] = bts (sh (Ct.b 124 d x y)) by rw [← HJ.out, bts_app, bts_app]; rfl), Hb3.out⟩
            · have hc0 : wr.cell? ⟨b, 0, none⟩ = some (.int .u8 105) := hc0
              have hfl : (bts (fmt (pv d))).size ≤ 4 := by rw [bts_size]; exact fmt_len _
              clear hs hl
              obtain ⟨A1, hA1⟩ : ∃ A : ByteArray, A = bts ([105, 102, 32] ++ fmt (pv d)) := ⟨_, rfl⟩
              have K1 := Lib.hid (show (⟨#[105, 102, 32]⟩ : ByteArray) ++ (bts (fmt (pv d))) = A1 by rw [hA1]; exact cat_eq (by simp [bts_list]))
              have z1 : A1.size ≤ 7 := by rw [hA1, bts_size]; simp only [bts_size] at hxl hyl hfl; simp; omega
              obtain ⟨A2, hA2⟩ : ∃ A : ByteArray, A = bts ([105, 102, 32] ++ fmt (pv d) ++ [32, 40]) := ⟨_, rfl⟩
              have K2 := Lib.hid (show A1 ++ (⟨#[32, 40]⟩ : ByteArray) = A2 by rw [hA2]; exact cat_eq (by simp [bts_list, hA1]))
              have z2 : A2.size ≤ 9 := by rw [hA2, bts_size]; simp only [bts_size] at hxl hyl hfl; simp; omega
              obtain ⟨A3, hA3⟩ : ∃ A : ByteArray, A = bts ([105, 102, 32] ++ fmt (pv d) ++ [32, 40] ++ sh x) := ⟨_, rfl⟩
              have K3 := Lib.hid (show A2 ++ (bts (sh x)) = A3 by rw [hA3]; exact cat_eq (by simp [bts_list, hA2]))
              have z3 : A3.size ≤ 8009 := by rw [hA3, bts_size]; simp only [bts_size] at hxl hyl hfl; simp; omega
              obtain ⟨A4, hA4⟩ : ∃ A : ByteArray, A = bts ([105, 102, 32] ++ fmt (pv d) ++ [32, 40] ++ sh x ++ [41, 32, 101, 108, 115, 101, 32, 40]) := ⟨_, rfl⟩
              have K4 := Lib.hid (show A3 ++ (⟨#[41, 32, 101, 108, 115, 101, 32, 40]⟩ : ByteArray) = A4 by rw [hA4]; exact cat_eq (by simp [bts_list, hA3]))
              have z4 : A4.size ≤ 8017 := by rw [hA4, bts_size]; simp only [bts_size] at hxl hyl hfl; simp; omega
              obtain ⟨A5, hA5⟩ : ∃ A : ByteArray, A = bts ([105, 102, 32] ++ fmt (pv d) ++ [32, 40] ++ sh x ++ [41, 32, 101, 108, 115, 101, 32, 40] ++ sh y) := ⟨_, rfl⟩
              have K5 := Lib.hid (show A4 ++ (bts (sh y)) = A5 by rw [hA5]; exact cat_eq (by simp [bts_list, hA4]))
              have z5 : A5.size ≤ 16017 := by rw [hA5, bts_size]; simp only [bts_size] at hxl hyl hfl; simp; omega
              obtain ⟨A6, hA6⟩ : ∃ A : ByteArray, A = bts ([105, 102, 32] ++ fmt (pv d) ++ [32, 40] ++ sh x ++ [41, 32, 101, 108, 115, 101, 32, 40] ++ sh y ++ [41]) := ⟨_, rfl⟩
              have K6 := Lib.hid (show A5 ++ (⟨#[41]⟩ : ByteArray) = A6 by rw [hA6]; exact cat_eq (by simp [bts_list, hA5]))
              have z6 : A6.size ≤ 16018 := by rw [hA6, bts_size]; simp only [bts_size] at hxl hyl hfl; simp; omega
              have Hfin := Lib.hid (show Ending.returned (Value.string A6) = Ending.returned (Value.string (bts (sh (Ct.b 105 d x y)))) by rw [hA6]; rfl)
              clear hA1 hA2 hA3 hA4 hA5 hA6
              have HS := Lib.hid (And.intro hs0 hs1)
              clear hs0 hs1
              go_wp2_with fail
              refine wp_region_held_drew (S := (fun w' => w'.cell? ⟨g, 0, none⟩ = some (.string (bts (sh x))) ∧ w'.cell? ⟨g, 1, none⟩ = some (.string (bts (sh y))) ∧ Below w.heap.size w w')) (by kernel_rfl) ⟨HS.out.1, HS.out.2, Hb.out.drew⟩ (fun hH0 => ?_)
              refine wpAnyH_take (i := 0) (v := .string (bts (fmt (pv d)))) rfl (by kernel_rfl) (by kernel_rfl) (by kernel_rfl) (fun _ _ _ h => h) (Or.inl ⟨by rfl, by intro w hw; clear hw; go_simp⟩) hH0 ?_
              simp only [Act.put, List.setIfInBounds_toArray, List.set_cons_zero, List.set_cons_succ, List.getElem_toArray, List.getElem_cons_succ, List.getElem_cons_zero, getElem?_pos]
              refine wpAnyH_take (i := 1) (v := .string A1) rfl (by kernel_rfl) (by kernel_rfl) (by kernel_rfl) (fun _ _ _ h => h) (Or.inl ⟨by rfl, by intro w hw; clear hw; go_simp; rw [if_neg (by omega)]; exact congrArg (fun s => Result.ok (Next.value (Value.string s)) w) K1.out⟩) hH0 ?_
              simp only [Act.put, List.setIfInBounds_toArray, List.set_cons_zero, List.set_cons_succ, List.getElem_toArray, List.getElem_cons_succ, List.getElem_cons_zero, getElem?_pos]
              refine wpAnyH_take (i := 2) (v := .string A2) rfl (by kernel_rfl) (by kernel_rfl) (by kernel_rfl) (fun _ _ _ h => h) (Or.inl ⟨by rfl, by intro w hw; clear hw; go_simp; rw [if_neg (by omega)]; exact congrArg (fun s => Result.ok (Next.value (Value.string s)) w) K2.out⟩) hH0 ?_
              simp only [Act.put, List.setIfInBounds_toArray, List.set_cons_zero, List.set_cons_succ, List.getElem_toArray, List.getElem_cons_succ, List.getElem_cons_zero, getElem?_pos]
              refine wpAnyH_take (i := 3) (v := .slice (some ⟨g, 0, none⟩) 2 cap) rfl (by kernel_rfl) (by kernel_rfl) (by kernel_rfl) (fun _ _ _ h => h) (Or.inl ⟨by rfl, by intro w hw; clear hw; go_simp⟩) hH0 ?_
              simp only [Act.put, List.setIfInBounds_toArray, List.set_cons_zero, List.set_cons_succ, List.getElem_toArray, List.getElem_cons_succ, List.getElem_cons_zero, getElem?_pos]
              refine wpAnyH_take (i := 4) (v := .pointer (some ⟨g, 0, none⟩)) rfl (by kernel_rfl) (by kernel_rfl) (by kernel_rfl) (fun _ _ _ h => h) (Or.inl ⟨by rfl, by intro w hw; clear hw; go_simp⟩) hH0 ?_
              simp only [Act.put, List.setIfInBounds_toArray, List.set_cons_zero, List.set_cons_succ, List.getElem_toArray, List.getElem_cons_succ, List.getElem_cons_zero, getElem?_pos]
              refine wpAnyH_take (i := 5) (v := .string (bts (sh x))) rfl (by kernel_rfl) (by kernel_rfl) (by kernel_rfl) (fun _ _ _ h => h) (Or.inl ⟨by rfl, by intro w hw; have hc := hw.1; clear hw; go_simp⟩) hH0 ?_
              simp only [Act.put, List.setIfInBounds_toArray, List.set_cons_zero, List.set_cons_succ, List.getElem_toArray, List.getElem_cons_succ, List.getElem_cons_zero, getElem?_pos]
              refine wpAnyH_take (i := 6) (v := .string A3) rfl (by kernel_rfl) (by kernel_rfl) (by kernel_rfl) (fun _ _ _ h => h) (Or.inl ⟨by rfl, by intro w hw; clear hw; go_simp; rw [if_neg (by omega)]; exact congrArg (fun s => Result.ok (Next.value (Value.string s)) w) K3.out⟩) hH0 ?_
              simp only [Act.put, List.setIfInBounds_toArray, List.set_cons_zero, List.set_cons_succ, List.getElem_toArray, List.getElem_cons_succ, List.getElem_cons_zero, getElem?_pos]
              refine wpAnyH_take (i := 7) (v := .string A4) rfl (by kernel_rfl) (by kernel_rfl) (by kernel_rfl) (fun _ _ _ h => h) (Or.inl ⟨by rfl, by intro w hw; clear hw; go_simp; rw [if_neg (by omega)]; exact congrArg (fun s => Result.ok (Next.value (Value.string s)) w) K4.out⟩) hH0 ?_
              simp only [Act.put, List.setIfInBounds_toArray, List.set_cons_zero, List.set_cons_succ, List.getElem_toArray, List.getElem_cons_succ, List.getElem_cons_zero, getElem?_pos]
              refine wpAnyH_take (i := 8) (v := .slice (some ⟨g, 0, none⟩) 2 cap) rfl (by kernel_rfl) (by kernel_rfl) (by kernel_rfl) (fun _ _ _ h => h) (Or.inl ⟨by rfl, by intro w hw; clear hw; go_simp⟩) hH0 ?_
              simp only [Act.put, List.setIfInBounds_toArray, List.set_cons_zero, List.set_cons_succ, List.getElem_toArray, List.getElem_cons_succ, List.getElem_cons_zero, getElem?_pos]
              refine wpAnyH_take (i := 9) (v := .pointer (some ⟨g, 1, none⟩)) rfl (by kernel_rfl) (by kernel_rfl) (by kernel_rfl) (fun _ _ _ h => h) (Or.inl ⟨by rfl, by intro w hw; clear hw; go_simp⟩) hH0 ?_
              simp only [Act.put, List.setIfInBounds_toArray, List.set_cons_zero, List.set_cons_succ, List.getElem_toArray, List.getElem_cons_succ, List.getElem_cons_zero, getElem?_pos]
              refine wpAnyH_take (i := 10) (v := .string (bts (sh y))) rfl (by kernel_rfl) (by kernel_rfl) (by kernel_rfl) (fun _ _ _ h => h) (Or.inl ⟨by rfl, by intro w hw; have hc := hw.2.1; clear hw; go_simp⟩) hH0 ?_
              simp only [Act.put, List.setIfInBounds_toArray, List.set_cons_zero, List.set_cons_succ, List.getElem_toArray, List.getElem_cons_succ, List.getElem_cons_zero, getElem?_pos]
              refine wpAnyH_take (i := 11) (v := .string A5) rfl (by kernel_rfl) (by kernel_rfl) (by kernel_rfl) (fun _ _ _ h => h) (Or.inl ⟨by rfl, by intro w hw; clear hw; go_simp; rw [if_neg (by omega)]; exact congrArg (fun s => Result.ok (Next.value (Value.string s)) w) K5.out⟩) hH0 ?_
              simp only [Act.put, List.setIfInBounds_toArray, List.set_cons_zero, List.set_cons_succ, List.getElem_toArray, List.getElem_cons_succ, List.getElem_cons_zero, getElem?_pos]
              refine wpAnyH_take (i := 12) (v := .string A6) rfl (by kernel_rfl) (by kernel_rfl) (by kernel_rfl) (fun _ _ _ h => h) (Or.inl ⟨by rfl, by intro w hw; clear hw; go_simp; rw [if_neg (by omega)]; exact congrArg (fun s => Result.ok (Next.value (Value.string s)) w) K6.out⟩) hH0 ?_
              simp only [Act.put, List.setIfInBounds_toArray, List.set_cons_zero, List.set_cons_succ, List.getElem_toArray, List.getElem_cons_succ, List.getElem_cons_zero, getElem?_pos]
              refine wpAnyH_take (i := 13) (v := .string A6) rfl (by kernel_rfl) (by kernel_rfl) (by kernel_rfl) (fun _ _ _ h => h) (Or.inl ⟨by rfl, by intro w hw; clear hw; go_simp⟩) hH0 ?_
              simp only [Act.put, List.setIfInBounds_toArray, List.set_cons_zero, List.set_cons_succ, List.getElem_toArray, List.getElem_cons_succ, List.getElem_cons_zero, getElem?_pos]
              refine wpAnyH_done (by kernel_rfl) ?_ _
              go_wp2_with fail
              go_ret
              exact ⟨Hfin.out, hH0.2.2⟩
theorem impl_ShowContract (c : ByteArray) (w : World) (hm : c.size ≤ maxLen) :
    Calls Try.prog 54 #[.string c] w fun e w' => e = .returned (.string (ctv c ByteArray.empty fun t => bts (sh t))) ∧ Below w.heap.size w w' := by
  have Hr := Lib.hid (impl_read c w hm)
  go_enter Try.func54, Try.ntmps54
  go_wp2_with fail
  refine Hr.out.mono ?_
  rintro e w2 ⟨hb, ⟨hno, rfl⟩ | ⟨t, b, hyes, rfl, hx⟩⟩
  · have Hb := Lib.hid hb
    have Hn := Lib.hid hno
    clear hb hno
    go_wp2_with fail
    go_ret
    exact ⟨by rw [ctv_none _ _ Hn.out]; rfl, Hb.out⟩
  · have Hb := Lib.hid hb
    have Hn := Lib.hid hyes
    have Hw := Lib.hid (cto_some.1 hyes).2
    have Hx := Lib.hid hx
    clear hb hyes hx
    go_wp2_with fail
    refine (contract_show 200 (Nat.le_refl _) t b _ Hw.out.1 Hw.out.2 Hx.out).mono ?_
    rintro e w3 ⟨rfl, hb3⟩
    have Hb3 := Lib.hid (bgo Hb.out hb3)
    clear hb3
    go_wp2_with fail
    go_ret
    exact ⟨by rw [ctv_some _ _ Hn.out] <;> rfl, Hb3.out⟩
end Go.Proofs.Ytfajaikkagmkeaa
