/-
  The contract of the program's reader of contracts.
-/
import Derived.Test.YtfajaikkagmkeaaC1
import Derived.Lib.SmallJoins
namespace Go.Proofs.Ytfajaikkagmkeaa
open Go.RowKit Go.DC
set_option maxHeartbeats 2000000
set_option linter.unusedVariables false
set_option linter.unusedSimpArgs false

theorem infoC : (Try.prog.info? 54).map (fun i => (i.zero, i.size, i.bytes)) = some (some (.pointer none), 1, 8) := by kernel_rfl
/-- What the reader leaves. -/
def RdC (l : List UInt8) (p : Nat) (w : World) (e : Ending) (w' : World) : Prop :=
  Below w.heap.size w w' ∧ ((pr (l.drop p) = none ∧ e = .returned (.tuple #[.pointer none, .int .i64 0])) ∨
    ∃ t b, pr (l.drop p) = some (t, l.drop (p + t.tx.length)) ∧ p + t.tx.length ≤ l.length ∧ e = .returned (.tuple #[.pointer (some ⟨b, 0, none⟩), .int .i64 (((p + t.tx.length : Nat)) : Int)]) ∧ HeldIn w.heap.size w'.heap.size w' t b)
theorem impl_readFrom (c : ByteArray) (hc : c.size ≤ 200) (n : Nat) : ∀ (p : Nat) (w : World), c.size - p < n → p ≤ c.size → Calls Try.prog 112 #[.string c, .int .i64 p] w (RdC c.data.toList p w) := by
  induction n with
  | zero => intro p w h; exact absurd h (Nat.not_lt_zero _)
  | succ n ih =>
    intro p w hn hp
    have Ih := Lib.hid ih
    clear ih
    by_cases hlt : p < c.size
    case neg =>
      have hpz : p = c.size := by omega
      have Hz := Lib.hid hpz
      have hd : decide ((c.size : Int) ≤ p) = true := by simp; omega
      clear hpz
      go_enter Try.func112, Try.ntmps112
      go_wp2_with fail
      go_ret2
      refine ⟨Below.refl _ _, .inl ⟨?_, rfl⟩⟩
      rw [Hz.out, List.drop_eq_nil_of_le (show c.data.toList.length ≤ c.size from Nat.le_of_eq rfl)]
      exact pr_nil
    case pos =>
      have Hat := Lib.hid (drop_at hlt)
      cases hs : shp c[p] with
      | none =>
        have Hs := Lib.hid hs
        have hT : shT c[p] = (-1, 0) := by unfold shT; rw [hs]
        have cs := fun w => impl_shapeOf c[p] w
        rw [hT] at cs
        have Cs := Lib.hid cs
        clear hs hT cs
        go_enter Try.func112, Try.ntmps112
        go_wp2_with fail
        refine (Cs.out _).mono ?_
        rintro e w' ⟨rfl, rfl⟩
        go_wp2_with fail
        go_ret2
        exact ⟨Below.refl _ _, .inl ⟨by rw [Hat.out]; exact pr_noshape _ _ Hs.out, rfl⟩⟩
      | some kd =>
        obtain ⟨k, d⟩ := kd
        obtain ⟨hk, hd4⟩ := shp_k hs
        have Hs := Lib.hid hs
        have hT : shT c[p] = ((k : Int), (d : Int)) := by unfold shT; rw [hs]
        have cs := fun w => impl_shapeOf c[p] w
        rw [hT] at cs
        have Cs := Lib.hid cs
        clear hs hT cs
        have Hk := Lib.hid hk
        clear hk
        by_cases hen : p + 1 + d ≤ c.size
        case neg =>
          go_enter Try.func112, Try.ntmps112
          go_wp2_with fail
          refine (Cs.out _).mono ?_
          rintro e w' ⟨rfl, rfl⟩
          go_wp2_with fail
          go_ret2
          exact ⟨Below.refl _ _, .inl ⟨by rw [Hat.out]; exact pr_short _ _ Hs.out (by have : c.data.toList.length = c.size := rfl; simp; omega), rfl⟩⟩
        case pos =>
          have Hr := Lib.hid (Rec.new w 63 c[p])
          have Hb := Lib.hid (ba1 w (.cells #[.int .u8 (c[p].toNat : Int), .int .i64 0, .int .i64 0, .int .i64 0, .int .i64 0, .int .i64 0, .slice none 0 0, .string ByteArray.empty] 63))
          go_enter Try.func112, Try.ntmps112
          go_wp2_with fail
          refine (Cs.out _).mono ?_
          rintro e w' ⟨rfl, rfl⟩
          go_wp2_with fail
          go_loopg [10] d (fun gk i wr => ∃ j : Nat, j ≤ d ∧ gk = d - j ∧ i = .int .i64 ((p : Int) + 1 + j) ∧ hxs ((c.data.toList.drop (p + 1)).take j) = true ∧
            Rec wr w.heap.size c[p] (pv ((c.data.toList.drop (p + 1)).take j)) (xr d j ((c.data.toList.drop (p + 1)).take d)) (.slice none 0 0) ByteArray.empty ∧ Below w.heap.size w wr)
          case atStart => exact ⟨0, Nat.zero_le _, rfl, by simp, rfl, Hr.out.xr fun i _ => xr_zero _ _ _, Hb.out⟩
          case round =>
            clear Hr Hb
            obtain ⟨j, hj, rfl, rfl, hh, hr, hb⟩ := hrel
            have Hh := Lib.hid hh
            clear hh
            by_cases hjd : j < d
            case pos =>
              have hq : p + 1 + j < c.size := by omega
              have Hts := Lib.hid (take_step (c := c) (q := p + 1) (j := j) hq)
              have Hrv := Lib.hid (rv_at (c := c) (q := p + 1) (j := j) hjd hq)
              have hdt : decide ((p : Int) + 1 + j < (p : Int) + 1 + d) = true := by simp; omega
              cases hneg : decide (hx c[p + 1 + j] < 0)
              case true =>
                have Hneg := Lib.hid (show ¬ 0 ≤ hx c[p + 1 + j] by simpa using hneg)
                have cd := fun w => impl_digitOf c[p + 1 + j] w
                have Cd := Lib.hid cd
                clear cd
                go_wp2_with (go_at_call 131; refine (Cd.out _).mono ?_; rintro e w' ⟨rfl, rfl⟩)
                go_ret2
                refine ⟨hb, .inl ⟨?_, rfl⟩⟩
                rw [Hat.out]
                refine pr_short _ _ Hs.out fun h => ?_
                exact no_digits hjd hq (by have := Hneg.out; omega) h.2
              case false =>
                have Hneg := Lib.hid (show 0 ≤ hx c[p + 1 + j] by simpa using hneg)
                have cd := fun w => impl_digitOf c[p + 1 + j] w
                have Cd := Lib.hid cd
                have hc1 := hr.c1
                have hf1 := hr.free 1
                by_cases hd4' : d = 4
                case neg =>
                  have hdd : ((d : Int) == 4) = false := by simp; omega
                  have Hr := Lib.hid hr
                  have Hb := Lib.hid hb
                  clear cd hr hb
                  go_wp2_with (go_at_call 131; refine (Cd.out _).mono ?_; rintro e w' ⟨rfl, rfl⟩)
                  go_roundg (d - (j + 1))
                  case rel => exact ⟨j + 1, by omega, rfl, by go_num, by rw [Hts.out, hxs_snoc, Hh.out]; simpa using Hneg.out, by rw [Hts.out, pv_snoc]; exact (Hr.out.setp _).xr fun i _ => by rw [xr_none hd4', xr_none hd4'], Hb.out.setCell (by simp) _⟩
                  case measure => omega
                case pos =>
                  subst hd4'
                  have hc2 := (hr.setp (hx c[p + 1 + j])).cr hjd
                  have hf2 := (hr.setp (hx c[p + 1 + j])).free (2 + j)
                  have Hr := Lib.hid hr
                  have Hb := Lib.hid hb
                  have e1 : (p : Int) + 1 + j - p - 1 = j := by omega
                  clear cd hr hb
                  go_wp2_with (go_at_call 131; refine (Cd.out _).mono ?_; rintro e w' ⟨rfl, rfl⟩)
                  go_roundg (4 - (j + 1))
                  case rel => exact ⟨j + 1, by omega, rfl, by go_num, by rw [Hts.out, hxs_snoc, Hh.out]; simpa using Hneg.out, by rw [Hts.out, pv_snoc, xr_four]; exact Rec.pre_succ (by rw [← xr_four]; exact (Hr.out.setp _).setr hjd _) Hrv.out.symm, (Hb.out.setCell (by simp) _).setCell (by simp) _⟩
                  case measure => omega
            case neg =>
              obtain rfl : j = d := by omega
              have hdt : decide ((p : Int) + 1 + j < (p : Int) + 1 + j) = false := by simp
              have Hr := Lib.hid hr
              have Hb := Lib.hid hb
              clear hr hb
              go_wp2_with fail
              have Hx := Lib.hid Hr.out.lt
              have Hps := Lib.hid (PS.start (c := c.data.toList) (l0 := c.data.toList.drop (p + 1 + j)) (k := k) (e := 54) (b := w.heap.size) (wr := wr) rfl)
              obtain ⟨i0, hi, hz0, hz1, hz2⟩ := info_parts infoC
              go_loopg [8, 71] k (fun gk en i wr => ∃ (m q : Nat) (v : Value) (bs : List Nat), m ≤ k ∧ gk = k - m ∧ i = .int .i64 m ∧ en = .int .i64 q ∧ p < q ∧ q ≤ c.size ∧ PS c.data.toList (c.data.toList.drop (p + 1 + j)) k m 54 w.heap.size wr v q bs ∧
                Rec wr w.heap.size c[p] (pv ((c.data.toList.drop (p + 1)).take j)) (xr j j ((c.data.toList.drop (p + 1)).take j)) v ByteArray.empty ∧ Below w.heap.size w wr)
              case atStart => exact ⟨0, p + 1 + j, _, [], Nat.zero_le _, rfl, rfl, by go_num, by omega, by omega, Hps.out, Hr.out, Hb.out⟩
              case round =>
                clear Hr Hb Hps Hx
                obtain ⟨m, q, v, bs, hm, rfl, rfl, rfl, hq1, hq2, hps, hr, hb⟩ := hrel
                have Hps := Lib.hid hps
                have Hr := Lib.hid hr
                have Hb := Lib.hid hb
                clear hps hr hb
                by_cases hmk : m < k
                case pos =>
                  go_wp2_with fail
                  refine (Ih.out q _ (by omega) hq2).mono ?_
                  rintro e w2 ⟨hb2, ⟨hno, rfl⟩ | ⟨x, bx, hyes, hle, rfl, hx⟩⟩
                  case inl =>
                    have Hno := Lib.hid (Hps.out.bad hmk hno)
                    have Hb2 := Lib.hid hb2
                    clear hno hb2
                    go_wp2_with fail
                    go_ret2
                    refine ⟨bgo Hb.out Hb2.out, .inl ⟨?_, rfl⟩⟩
                    rw [Hat.out, pr_parts _ _ Hs.out (by have : c.data.toList.length = c.size := rfl; simp; omega) Hh.out, List.drop_drop, Hno.out]
                    rfl
                  case inr =>
                    have hk2 := Hk.out
                    have hm2 : m ≤ 1 := by omega
                    clear hk2
                    have hlt2 := Hr.out.lt
                    have hr2 := Hr.out.go hb2
                    have hc6 := hr2.c6
                    have hown := (Hps.out.below hb2).own.alloc (.cells #[ptr bx] 54)
                    have hcx : (w2.alloc (.cells #[ptr bx] 54)).cell? ⟨w2.heap.size, 0, none⟩ = some (ptr bx) := by rw [World.cell?_alloc_at _ _ _ _ rfl]; rfl
                    have hbs : w.heap.size + 1 ≤ (w2.alloc (.cells #[ptr bx] 54)).heap.size := by have := hr2.lt; simp; omega
                    have Hown := Lib.hid hown
                    have Hcx := Lib.hid hcx
                    have Hbs := Lib.hid hbs
                    have Hr2 := Lib.hid hr2
                    have Hyes := Lib.hid hyes
                    have Hx := Lib.hid hx
                    have Hb2 := Lib.hid hb2
                    clear hown hcx hbs hr2 hyes hx hb2
                    go_wp2_with (at_builtin; refine wpList_push _ rfl (.tmp 85) (.tmp 87) 61 rfl (w.heap.size + 1) 54 i0 (.pointer none) 8 Try.underlying61 hi hz0 hz1 hz2 rfl v m (bs.map ptr) rfl Hown.out ⟨w2.heap.size, 0, none⟩ 1 (ptr bx) rfl Hcx.out rfl (by unfold maxLen; omega) (by omega) Hbs.out ?_)
                    intro v' w3 hown' hgrow hnew
                    obtain ⟨g, cap, rfl⟩ := Joins.ownsRow_form hown' (by omega)
                    have hown0 := Hps.out.own
                    have hne : some w.heap.size ≠ v.ownBlock := fun e => by have := (hown0.lt _ e.symm).1; omega
                    have hr3 := Hr2.out.keep (w' := w3) (by rw [hgrow.block _ (by have := Hr2.out.lt; simp; omega) hne, Below.heap_alloc w2 _ _ Hr2.out.lt])
                    have hps3 := Hps.out.step hmk Hyes.out Hb2.out Hx.out hlt2 (.cells #[ptr bx] 54) hown' hgrow hnew
                    have hb3 : Below w.heap.size w w3 := Below.grown ((bgo Hb.out Hb2.out).alloc (by have := Hr2.out.lt; omega) (.cells #[ptr bx] 54)) hgrow (by have := Hr2.out.lt; simp; omega) (fun k hk => by have := (hown0.lt k hk).1; omega)
                    have hc3 := hr3.c6
                    have hf3 := hr3.free 6
                    have Hr3 := Lib.hid hr3
                    have Hps3 := Lib.hid hps3
                    have Hb3 := Lib.hid hb3
                    clear hown' hgrow hnew hne hr3 hps3 hb3 hown0 Hown Hcx Hbs Hr2 Hx Hb2 Hps Hr Hb
                    have Hle := Lib.hid hle
                    go_wp2_with fail
                    go_roundg (k - (m + 1))
                    case rel => exact ⟨m + 1, q + x.tx.length, _, bs ++ [bx], by omega, rfl, by go_num, by go_num, by omega, Hle.out, Hps3.out.set _ _, Hr3.out.setv _, Hb3.out.setCell (by simp) _⟩
                    case measure => omega
                case neg =>
                  obtain rfl : m = k := by omega
                  have hkt : decide ((m : Int) < m) = false := by simp
                  obtain ⟨ts, hts⟩ := Hps.out.all
                  have hc7 := Hr.out.c7
                  have hf7 := Hr.out.free 7
                  have Hts := Lib.hid hts
                  clear hts
                  have hqi : (q : Int) ≤ c.size := by omega
                  have hpi : (p : Int) ≤ q := by omega
                  go_wp2_with fail
                  go_ret2
                  have hall := pr_parts c[p] (c.data.toList.drop (p + 1)) Hs.out (by have : c.data.toList.length = c.size := rfl; simp; omega) Hh.out
                  rw [List.drop_drop, Hts.out, ← Hat.out] at hall
                  have htx := text_of hall hq2 (by omega)
                  have hd := (Hps.out.set 7 (.string (c.extract p q))).done Hk.out ((Hr.out.sett (c.extract p q)).xr fun i hi => xr_all (by have : c.data.toList.length = c.size := rfl; simp; omega) i hi) Hts.out htx.2
                  refine ⟨Hb.out.setCell (by simp) _, .inr ⟨_, w.heap.size, ?_, ?_, ?_, hd.1⟩⟩
                  · rw [← htx.1]; exact hall
                  · rw [← htx.1]; exact hq2
                  · rw [← htx.1]; rfl
/-- What reading a text leaves. -/
def RdA (c : ByteArray) (w : World) (e : Ending) (w' : World) : Prop :=
  Below w.heap.size w w' ∧ ((cto c = none ∧ e = .returned (.pointer none)) ∨ ∃ t b, cto c = some t ∧ e = .returned (.pointer (some ⟨b, 0, none⟩)) ∧ Held w' t b)
theorem impl_read (c : ByteArray) (w : World) (hm : c.size ≤ maxLen) : Calls Try.prog 66 #[.string c] w (RdA c w) := by
  unfold maxLen at hm
  by_cases hc : c.size ≤ 200
  case neg =>
    have hd : decide ((200 : Int) < c.size) = true := by simp; omega
    have Hn := Lib.hid (show cto c = none by unfold cto; rw [if_neg hc])
    go_enter Try.func66, Try.ntmps66
    go_wp2_with fail
    go_ret
    exact ⟨Below.refl _ _, .inl ⟨Hn.out, rfl⟩⟩
  case pos =>
    have hd : decide ((200 : Int) < c.size) = false := by simp; omega
    have hr := impl_readFrom c hc (c.size + 1) 0 w (by omega) (Nat.zero_le _)
    have Hr := Lib.hid hr
    clear hr
    go_enter Try.func66, Try.ntmps66
    go_wp2_with fail
    refine Hr.out.mono ?_
    rintro e w2 ⟨hb, ⟨hno, rfl⟩ | ⟨t, b, hyes, hle, rfl, hx⟩⟩
    case inl =>
      have Hb := Lib.hid hb
      rw [List.drop_zero] at hno
      have Hn := Lib.hid (show cto c = none by unfold cto; rw [if_pos hc, hno])
      clear hb hno
      go_wp2_with fail
      go_ret
      exact ⟨Hb.out, .inl ⟨Hn.out, rfl⟩⟩
    case inr =>
      have Hb := Lib.hid hb
      have Hx := Lib.hid hx.held
      simp only [Nat.zero_add, List.drop_zero] at hyes hle ⊢
      have hsz : c.data.toList.length = c.size := rfl
      by_cases hq : t.tx.length = c.size
      case pos =>
        have Hn := Lib.hid (show cto c = some t by unfold cto; rw [if_pos hc, hyes, hq, ← hsz, List.drop_length])
        have hq' : ((t.tx.length : Int) != c.size) = false := by simp; omega
        clear hb hx hyes hle hq hsz
        go_wp2_with fail
        go_ret
        exact ⟨Hb.out, .inr ⟨t, b, Hn.out, rfl, Hx.out⟩⟩
      case neg =>
        have hlt : t.tx.length < c.data.toList.length := by omega
        have Hn := Lib.hid (show cto c = none by unfold cto; rw [if_pos hc, hyes, List.drop_eq_getElem_cons hlt])
        have hq' : ((t.tx.length : Int) != c.size) = true := by simp; omega
        clear hb hx hyes hle hq hsz hlt
        go_wp2_with fail
        go_ret
        exact ⟨Hb.out, .inl ⟨Hn.out, rfl⟩⟩
end Go.Proofs.Ytfajaikkagmkeaa
