/-
  Contracts of the reference's functions that show conditions and contracts, and take contracts apart.
-/
import Derived.Test.YtfajaikkagmkeaaD3
import Derived.Test.YtfajaikkagmkeaaG3
import Derived.Test.YtfajaikkagmkeaaG1
import Derived.Laws.BytesArg
namespace Go.Proofs.Ytfajaikkagmkeaa
open Go.RowKit Go.DC
set_option maxHeartbeats 2000000
set_option linter.unusedVariables false
set_option linter.unusedSimpArgs false
set_option maxRecDepth 100000 in
theorem spec_l14Dec (n : Nat) (hn : n < 4) (w : World) :
    Calls Try.prog 169 #[.int .i64 n] w fun e w' => e = .returned (.string (dgt n)) ∧ Below w.heap.size w w' := by
  have hcv := fun (v : Int) (x : ByteArray) (hx : strOfNums [v] = x) => show (convert 22 9 (.slice (some ⟨w.heap.size, 0, none⟩) 1 1)).run Try.prog (w.alloc (.cells #[.int .u8 v] 5)) = .ok (.string x) (w.alloc (.cells #[.int .u8 v] 5)) by
    rw [← hx]
    refine run_convert_bytes_arg (P := Try.prog) (w.alloc (.cells #[.int .u8 v] 5)) 22 5 Try.underlying22 Try.underlying5 w.heap.size 0 1 1 [v] rfl (fun i hi => ?_) 9 Try.underlying9
    obtain rfl : i = 0 := by omega
    rw [World.cell?_alloc_at _ _ _ _ rfl]
    rfl
  have ha := fun (x : ByteArray) (hx : x.size = 1) => show ∀ w, (Op.stringOp .add x (ByteArray.mk #[])).run Try.prog w = .ok (.string x) w from fun w => by
    rw [run_string_add_sum w x _ (by rw [hx]; decide)]
    have : x ++ ByteArray.mk #[] = x := by
      have h := bts_of (c := x) rfl
      rw [h, show ByteArray.mk #[] = bts [] from rfl, bts_app, List.append_nil]
    rw [this]
  rcases (show n = 0 ∨ n = 1 ∨ n = 2 ∨ n = 3 by omega) with rfl | rfl | rfl | rfl
  · have h1 := hcv 48 (dgt 0) rfl
    have h2 := ha (dgt 0) rfl
    clear hcv ha
    go_enter Try.func169, Try.ntmps169
    go_wp2_with fail
    refine wp_loop_rounds 1 ?_
    rw [rounds_succ]
    go_wp2_with fail
    go_ret
    exact ⟨rfl, ba1 _ _⟩
  · have h1 := hcv 49 (dgt 1) rfl
    have h2 := ha (dgt 1) rfl
    clear hcv ha
    go_enter Try.func169, Try.ntmps169
    go_wp2_with fail
    refine wp_loop_rounds 1 ?_
    rw [rounds_succ]
    go_wp2_with fail
    go_ret
    exact ⟨rfl, ba1 _ _⟩
  · have h1 := hcv 50 (dgt 2) rfl
    have h2 := ha (dgt 2) rfl
    clear hcv ha
    go_enter Try.func169, Try.ntmps169
    go_wp2_with fail
    refine wp_loop_rounds 1 ?_
    rw [rounds_succ]
    go_wp2_with fail
    go_ret
    exact ⟨rfl, ba1 _ _⟩
  · have h1 := hcv 51 (dgt 3) rfl
    have h2 := ha (dgt 3) rfl
    clear hcv ha
    go_enter Try.func169, Try.ntmps169
    go_wp2_with fail
    refine wp_loop_rounds 1 ?_
    rw [rounds_succ]
    go_wp2_with fail
    go_ret
    exact ⟨rfl, ba1 _ _⟩
theorem bts_ne {l : List UInt8} (h : l ≠ []) : (bts l).toList.isEmpty = false := by
  rw [ByteArray.toList_eq, bts_list]
  cases l with
  | nil => exact absurd rfl h
  | cons a l => rfl
theorem spec_FormatCondition (p : Int) (hp : Cv p) (w : World) :
    Calls Try.prog 150 #[.int .i64 p] w fun e w' => e = .returned (.string (bts (fmt p))) ∧ Below w.heap.size w w' := by
  have hv := fun w => spec_ConditionValid p w
  rw [cv_iff.2 hp] at hv
  have Hv := Lib.hid hv
  have Hh := Lib.hid (fun (n : Nat) (hn : n < 4) w => spec_l1Has p (n : Int) w hp.1 (by have := hp.2; omega) (by omega) (by omega))
  clear hv hp
  go_enter Try.func150, Try.ntmps150
  (go_wp2_with fail; refine (Hv.out _).mono ?_; rintro e w' ⟨rfl, rfl⟩)
  go_wp2_with fail
  go_loopg [3, 4] 4 (fun gk o i wr => ∃ n : Nat, n ≤ 4 ∧ gk = 4 - n ∧ i = .int .i64 n ∧ o = .string (bts (fmtF p n)) ∧ Below w.heap.size w wr)
  case atStart => exact ⟨0, by omega, rfl, rfl, rfl, Below.refl _ _⟩
  case round =>
    obtain ⟨n, hn, rfl, rfl, rfl, hb⟩ := hrel
    have HB := Lib.hid hb
    clear hb
    by_cases hlt : n < 4
    case pos =>
      have hdn : decide ((n : Int) < 4) = true := decide_eq_true (by omega)
      have HH := Lib.hid (Hh.out n hlt)
      rw [Int.toNat_natCast] at HH
      cases hb : hasb p n
      case false =>
        rw [hb] at HH
        have Hst := Lib.hid (show fmtF p (n + 1) = fmtF p n by simp [fmtF, hb])
        clear hb
        (go_wp2_with fail; refine (HH.out _).mono ?_; rintro e w' ⟨rfl, rfl⟩)
        go_wp2_with fail
        go_roundg (4 - (n + 1))
        case rel => exact ⟨n + 1, by omega, rfl, by go_num, by rw [Hst.out], HB.out⟩
        case measure => omega
      case true =>
        rw [hb] at HH
        have Hst := Lib.hid (show fmtF p (n + 1) = fmtF p n ++ [dgb n] by simp [fmtF, hb])
        have Hd := Lib.hid (spec_l14Dec n hlt)
        have hadd := fun w => run_bts_add (P := Try.prog) (fmtF p n) [dgb n] w (by have := fmtF_len p n; simp; omega)
        rw [show bts [dgb n] = dgt n from rfl] at hadd
        have Hadd := Lib.hid hadd
        clear hb hadd
        (go_wp2_with fail; refine (HH.out _).mono ?_; rintro e w' ⟨rfl, rfl⟩)
        (go_wp2_with fail; refine (Hd.out _).mono ?_; rintro e w' ⟨rfl, hb⟩; have HB := Lib.hid (bgo HB.out hb); clear hb)
        have hadd := Hadd.out
        go_wp2_with fail
        go_roundg (4 - (n + 1))
        case rel => exact ⟨n + 1, by omega, rfl, by go_num, by rw [Hst.out], HB.out⟩
        case measure => omega
    case neg =>
      obtain rfl : n = 4 := by omega
      by_cases he : fmtF p 4 = []
      case pos =>
        have Hf := Lib.hid (show fmt p = [45] by unfold fmt; rw [if_pos he])
        rw [he]
        have e0 : bts [] = ByteArray.mk #[] := rfl
        rw [e0]
        clear he
        go_wp2_with fail
        go_ret
        exact ⟨by rw [Hf.out]; rfl, HB.out⟩
      case neg =>
        have Hf := Lib.hid (show fmt p = fmtF p 4 by unfold fmt; rw [if_neg he])
        have hne := bts_ne he
        clear he
        generalize fmtF p 4 = l at *
        go_wp2_with fail
        go_ret
        exact ⟨by rw [Hf.out] <;> rfl, HB.out⟩
theorem cat_eq {x y z : ByteArray} (h : x.data.toList ++ y.data.toList = z.data.toList) : x ++ y = z := by
  have hx := bts_of (c := x) rfl
  have hy := bts_of (c := y) rfl
  have hz' := bts_of (c := z) rfl
  rw [hx, hy, bts_app, h, ← hz']
set_option maxRecDepth 100000 in
theorem spec_l5Show (n : Nat) (hn : n ≤ 200) : ∀ (t : Ct) (w : World), t.wf = true → t.tx.length ≤ n →
    Calls Try.prog 100 #[.string t.bytes] w fun e w' => e = .returned (.string (bts (sh t))) ∧ Below w.heap.size w w' := by
  induction n with
  | zero => intro t w _ h; exact absurd h (by have := t.tx_pos; omega)
  | succ n ih =>
    intro t w hw hl
    have Ih := Lib.hid (ih (by omega))
    clear ih
    have hp := bytes_pos t
    have hp' : (0 : Int) < (t.bytes.size : Int) := by omega
    have hh := bytes_head t
    have Hparts := Lib.hid (spec_l5Parts t hw (by omega) w)
    have Hshl := Lib.hid (sh_len hw)
    cases t with
    | z o d =>
      obtain ⟨hs, hd⟩ := Ct.wf_z hw
      have Hd := Lib.hid hd
      have Hw := Lib.hid hw
      clear hw hd hl
      rcases shp0 hs with ⟨rfl, hl⟩ | ⟨rfl, hl⟩ | ⟨rfl, hl⟩ | ⟨rfl, hl⟩ | ⟨rfl, hl⟩ | ⟨rfl, hl⟩ | ⟨rfl, hl⟩
      · have hb0 : (((Ct.z 115 d).bytes[0]'hp).toNat : Int) = 115 := congrArg (fun b : UInt8 => (b.toNat : Int)) hh
        clear hs hl hh
        go_enter Try.func100, Try.ntmps100
        go_wp2_with fail
        refine Hparts.out.mono ?_
        rintro e w2 ⟨v, rfl, ⟨g, cap, hv, hg, hcs⟩, hb⟩
        have hv' : v = .slice (some ⟨g, 0, none⟩) 0 cap := hv
        subst hv'
        clear hv hg hcs
        have Hb := Lib.hid hb
        clear hb
        go_wp2_with fail
        go_ret
        exact ⟨rfl, Hb.out⟩
      · have hb0 : (((Ct.z 97 d).bytes[0]'hp).toNat : Int) = 97 := congrArg (fun b : UInt8 => (b.toNat : Int)) hh
        clear hs hl hh
        go_enter Try.func100, Try.ntmps100
        go_wp2_with fail
        refine Hparts.out.mono ?_
        rintro e w2 ⟨v, rfl, ⟨g, cap, hv, hg, hcs⟩, hb⟩
        have hv' : v = .slice (some ⟨g, 0, none⟩) 0 cap := hv
        subst hv'
        clear hv hg hcs
        have Hb := Lib.hid hb
        clear hb
        go_wp2_with fail
        go_ret
        exact ⟨rfl, Hb.out⟩
      · have hb0 : (((Ct.z 109 d).bytes[0]'hp).toNat : Int) = 109 := congrArg (fun b : UInt8 => (b.toNat : Int)) hh
        clear hs hl hh
        go_enter Try.func100, Try.ntmps100
        go_wp2_with fail
        refine Hparts.out.mono ?_
        rintro e w2 ⟨v, rfl, ⟨g, cap, hv, hg, hcs⟩, hb⟩
        have hv' : v = .slice (some ⟨g, 0, none⟩) 0 cap := hv
        subst hv'
        clear hv hg hcs
        have Hb := Lib.hid hb
        clear hb
        go_wp2_with fail
        go_ret
        exact ⟨rfl, Hb.out⟩
      · have hb0 : (((Ct.z 33 d).bytes[0]'hp).toNat : Int) = 33 := congrArg (fun b : UInt8 => (b.toNat : Int)) hh
        obtain ⟨d0, hd0, hpv⟩ := one_digit hl
        obtain ⟨h1, hb1⟩ := bytes_one (t := Ct.z 33 d) hd0
        have h1' : (1 : Int) < ((Ct.z 33 d).bytes.size : Int) := by omega
        have hc := fun w => spec_l2Hex ((Ct.z 33 d).bytes[1]'h1) w
        have e : hx ((Ct.z 33 d).bytes[1]'h1) = pv d := by rw [hb1, hpv]
        rw [e] at hc
        have Hc := Lib.hid hc
        have Hpc := Lib.hid (pv_cv Hd.out)
        have hfl : (bts (fmt (pv d))).size ≤ 4 := by rw [bts_size]; exact fmt_len _
        clear hc e hb1 hpv hd0
        clear hs hl hh
        go_enter Try.func100, Try.ntmps100
        go_wp2_with fail
        refine Hparts.out.mono ?_
        rintro e w2 ⟨v, rfl, ⟨g, cap, hv, hg, hcs⟩, hb⟩
        have hv' : v = .slice (some ⟨g, 0, none⟩) 0 cap := hv
        subst hv'
        clear hv hg hcs
        have Hb := Lib.hid hb
        clear hb
        go_wp2_with fail
        refine (Hc.out _).mono ?_
        rintro e w' ⟨rfl, rfl⟩
        go_wp2_with fail
        refine (spec_FormatCondition (pv d) Hpc.out _).mono ?_
        rintro e w3 ⟨rfl, hb3⟩
        have Hb3 := Lib.hid (bgo Hb.out hb3)
        clear hb3
        go_wp2_with fail
        go_ret
        exact ⟨congrArg (fun s => Ending.returned (Value.string s)) (show bts [123] ++ bts (fmt (pv d)) ++ bts [125] = bts (sh (.z 33 d)) by rw [bts_app, bts_app]; rfl), Hb3.out⟩
      · have hb0 : (((Ct.z 63 d).bytes[0]'hp).toNat : Int) = 63 := congrArg (fun b : UInt8 => (b.toNat : Int)) hh
        obtain ⟨d0, hd0, hpv⟩ := one_digit hl
        obtain ⟨h1, hb1⟩ := bytes_one (t := Ct.z 63 d) hd0
        have h1' : (1 : Int) < ((Ct.z 63 d).bytes.size : Int) := by omega
        have hc := fun w => spec_l2Hex ((Ct.z 63 d).bytes[1]'h1) w
        have e : hx ((Ct.z 63 d).bytes[1]'h1) = pv d := by rw [hb1, hpv]
        rw [e] at hc
        have Hc := Lib.hid hc
        have Hpc := Lib.hid (pv_cv Hd.out)
        have hfl : (bts (fmt (pv d))).size ≤ 4 := by rw [bts_size]; exact fmt_len _
        clear hc e hb1 hpv hd0
        clear hs hl hh
        go_enter Try.func100, Try.ntmps100
        go_wp2_with fail
        refine Hparts.out.mono ?_
        rintro e w2 ⟨v, rfl, ⟨g, cap, hv, hg, hcs⟩, hb⟩
        have hv' : v = .slice (some ⟨g, 0, none⟩) 0 cap := hv
        subst hv'
        clear hv hg hcs
        have Hb := Lib.hid hb
        clear hb
        go_wp2_with fail
        refine (Hc.out _).mono ?_
        rintro e w' ⟨rfl, rfl⟩
        go_wp2_with fail
        refine (spec_FormatCondition (pv d) Hpc.out _).mono ?_
        rintro e w3 ⟨rfl, hb3⟩
        have Hb3 := Lib.hid (bgo Hb.out hb3)
        clear hb3
        go_wp2_with fail
        go_ret
        exact ⟨congrArg (fun s => Ending.returned (Value.string s)) (show bts [91] ++ bts (fmt (pv d)) ++ bts [93] = bts (sh (.z 63 d)) by rw [bts_app, bts_app]; rfl), Hb3.out⟩
      · have hb0 : (((Ct.z 65 d).bytes[0]'hp).toNat : Int) = 65 := congrArg (fun b : UInt8 => (b.toNat : Int)) hh
        obtain ⟨h5, hcut⟩ := bytes_four (t := Ct.z 65 d) hl
        have h5' : (5 : Int) ≤ ((Ct.z 65 d).bytes.size : Int) := by omega
        have Hcut := Lib.hid hcut
        have hdl : d.length = 4 := hl
        clear hcut
        clear hs hh hl
        go_enter Try.func100, Try.ntmps100
        go_wp2_with fail
        refine Hparts.out.mono ?_
        rintro e w2 ⟨v, rfl, ⟨g, cap, hv, hg, hcs⟩, hb⟩
        have hv' : v = .slice (some ⟨g, 0, none⟩) 0 cap := hv
        subst hv'
        clear hv hg hcs
        have Hb := Lib.hid hb
        clear hb
        go_wp2_with fail
        go_ret
        exact ⟨congrArg (fun s => Ending.returned (Value.string s)) (show bts [97, 110, 103, 101, 108, 32] ++ (Ct.z 65 d).bytes.extract 1 5 = bts (sh (Ct.z 65 d)) by rw [Hcut.out]; show bts [97, 110, 103, 101, 108, 32] ++ bts d = _; rw [bts_app]; rfl), Hb.out⟩
      · have hb0 : (((Ct.z 68 d).bytes[0]'hp).toNat : Int) = 68 := congrArg (fun b : UInt8 => (b.toNat : Int)) hh
        obtain ⟨h5, hcut⟩ := bytes_four (t := Ct.z 68 d) hl
        have h5' : (5 : Int) ≤ ((Ct.z 68 d).bytes.size : Int) := by omega
        have Hcut := Lib.hid hcut
        have hdl : d.length = 4 := hl
        clear hcut
        clear hs hh hl
        go_enter Try.func100, Try.ntmps100
        go_wp2_with fail
        refine Hparts.out.mono ?_
        rintro e w2 ⟨v, rfl, ⟨g, cap, hv, hg, hcs⟩, hb⟩
        have hv' : v = .slice (some ⟨g, 0, none⟩) 0 cap := hv
        subst hv'
        clear hv hg hcs
        have Hb := Lib.hid hb
        clear hb
        go_wp2_with fail
        go_ret
        exact ⟨congrArg (fun s => Ending.returned (Value.string s)) (show bts [100, 101, 109, 111, 110, 32] ++ (Ct.z 68 d).bytes.extract 1 5 = bts (sh (Ct.z 68 d)) by rw [Hcut.out]; show bts [100, 101, 109, 111, 110, 32] ++ bts d = _; rw [bts_app]; rfl), Hb.out⟩
    | u o d x =>
      have Hw := Lib.hid hw
      obtain ⟨hs, hd, hxw⟩ := Ct.wf_u hw
      have Hxw := Lib.hid hxw
      have Hd := Lib.hid hd
      have Hl := Lib.hid (show x.tx.length ≤ n by simp [Ct.tx] at hl; omega)
      have hxl : (bts (sh x)).size ≤ 8000 := by rw [bts_size]; have h1 := sh_len hxw; have h2 := Hl.out; omega
      clear hw hd hxw hl
      rcases shp1 hs with ⟨rfl, hl⟩ | ⟨rfl, hl⟩ | ⟨rfl, hl⟩
      · have hb0 : (((Ct.u 119 d x).bytes[0]'hp).toNat : Int) = 119 := congrArg (fun b : UInt8 => (b.toNat : Int)) hh
        obtain ⟨d0, hd0, hpv⟩ := one_digit hl
        obtain ⟨h1, hb1⟩ := bytes_one (t := Ct.u 119 d x) hd0
        have h1' : (1 : Int) < ((Ct.u 119 d x).bytes.size : Int) := by omega
        have hc := fun w => spec_l2Hex ((Ct.u 119 d x).bytes[1]'h1) w
        have e : hx ((Ct.u 119 d x).bytes[1]'h1) = pv d := by rw [hb1, hpv]
        rw [e] at hc
        have Hc := Lib.hid hc
        have Hpc := Lib.hid (pv_cv Hd.out)
        have hfl : (bts (fmt (pv d))).size ≤ 4 := by rw [bts_size]; exact fmt_len _
        clear hc e hb1 hpv hd0
        obtain ⟨A1, hA1⟩ : ∃ A : ByteArray, A = bts ([119, 104, 105, 108, 101, 32] ++ fmt (pv d)) := ⟨_, rfl⟩
        have K1 := Lib.hid (show (⟨#[119, 104, 105, 108, 101, 32]⟩ : ByteArray) ++ (bts (fmt (pv d))) = A1 by rw [hA1]; exact cat_eq (by simp [bts_list]))
        have z1 : A1.size ≤ 10 := by rw [hA1, bts_size]; simp only [bts_size] at hxl hfl; simp; omega
        obtain ⟨A2, hA2⟩ : ∃ A : ByteArray, A = bts ([119, 104, 105, 108, 101, 32] ++ fmt (pv d) ++ [32, 40]) := ⟨_, rfl⟩
        have K2 := Lib.hid (show A1 ++ (⟨#[32, 40]⟩ : ByteArray) = A2 by rw [hA2]; exact cat_eq (by simp [bts_list, hA1]))
        have z2 : A2.size ≤ 12 := by rw [hA2, bts_size]; simp only [bts_size] at hxl hfl; simp; omega
        obtain ⟨A3, hA3⟩ : ∃ A : ByteArray, A = bts ([119, 104, 105, 108, 101, 32] ++ fmt (pv d) ++ [32, 40] ++ sh x) := ⟨_, rfl⟩
        have K3 := Lib.hid (show A2 ++ (bts (sh x)) = A3 by rw [hA3]; exact cat_eq (by simp [bts_list, hA2]))
        have z3 : A3.size ≤ 8012 := by rw [hA3, bts_size]; simp only [bts_size] at hxl hfl; simp; omega
        obtain ⟨A4, hA4⟩ : ∃ A : ByteArray, A = bts ([119, 104, 105, 108, 101, 32] ++ fmt (pv d) ++ [32, 40] ++ sh x ++ [41]) := ⟨_, rfl⟩
        have K4 := Lib.hid (show A3 ++ (⟨#[41]⟩ : ByteArray) = A4 by rw [hA4]; exact cat_eq (by simp [bts_list, hA3]))
        have z4 : A4.size ≤ 8013 := by rw [hA4, bts_size]; simp only [bts_size] at hxl hfl; simp; omega
        have Hfin := Lib.hid (show Ending.returned (Value.string A4) = Ending.returned (Value.string (bts (sh (Ct.u 119 d x)))) by rw [hA4]; rfl)
        clear hA1 hA2 hA3 hA4
        have Hsx := Lib.hid (show (bts (sh x)).size ≤ 8000 from hxl)
        clear hs hl hh
        go_enter Try.func100, Try.ntmps100
        go_wp2_with fail
        refine Hparts.out.mono ?_
        rintro e w2 ⟨v, rfl, ⟨g, cap, hv, hg, hcs⟩, hb⟩
        have hv' : v = .slice (some ⟨g, 0, none⟩) 1 cap := hv
        subst hv'
        have hc0 : w2.cell? ⟨g, 0, none⟩ = some (.string x.bytes) := hcs 0 (by simp [Ct.kids])
        clear hv hg hcs
        have Hb := Lib.hid hb
        clear hb
        have HS := Lib.hid hc0
        clear hc0
        go_wp2_with fail
        refine wp_region_held_drew (S := (fun w' => w'.cell? ⟨g, 0, none⟩ = some (.string x.bytes) ∧ Below w.heap.size w w')) (by kernel_rfl) ⟨HS.out, Hb.out.drew⟩ (fun hH0 => ?_)
        refine wpAnyH_take (i := 0) (v := .string (Ct.u 119 d x).bytes) rfl (by kernel_rfl) (by kernel_rfl) (by kernel_rfl) (fun _ _ _ h => h) (Or.inl ⟨by rfl, by intro w hw; clear hw; go_simp⟩) hH0 ?_
        simp only [Act.put, List.setIfInBounds_toArray, List.set_cons_zero, List.set_cons_succ, List.getElem_toArray, List.getElem_cons_succ, List.getElem_cons_zero, getElem?_pos]
        refine wpAnyH_take (i := 1) (v := .int .u8 ((((Ct.u 119 d x).bytes)[1]'h1).toNat : Int)) rfl (by kernel_rfl) (by kernel_rfl) (by kernel_rfl) (fun _ _ _ h => h) (Or.inl ⟨by rfl, by intro w hw; clear hw; go_simp⟩) hH0 ?_
        simp only [Act.put, List.setIfInBounds_toArray, List.set_cons_zero, List.set_cons_succ, List.getElem_toArray, List.getElem_cons_succ, List.getElem_cons_zero, getElem?_pos]
        refine wpAnyH_take (i := 6) (v := .slice (some ⟨g, 0, none⟩) 1 cap) rfl (by kernel_rfl) (by kernel_rfl) (by kernel_rfl) (fun _ _ _ h => h) (Or.inl ⟨by rfl, by intro w hw; clear hw; go_simp⟩) hH0 ?_
        simp only [Act.put, List.setIfInBounds_toArray, List.set_cons_zero, List.set_cons_succ, List.getElem_toArray, List.getElem_cons_succ, List.getElem_cons_zero, getElem?_pos]
        refine wpAnyH_take (i := 7) (v := .pointer (some ⟨g, 0, none⟩)) rfl (by kernel_rfl) (by kernel_rfl) (by kernel_rfl) (fun _ _ _ h => h) (Or.inl ⟨by rfl, by intro w hw; clear hw; go_simp⟩) hH0 ?_
        simp only [Act.put, List.setIfInBounds_toArray, List.set_cons_zero, List.set_cons_succ, List.getElem_toArray, List.getElem_cons_succ, List.getElem_cons_zero, getElem?_pos]
        refine wpAnyH_take (i := 8) (v := .string x.bytes) rfl (by kernel_rfl) (by kernel_rfl) (by kernel_rfl) (fun _ _ _ h => h) (Or.inl ⟨by rfl, by intro w hw; have hc := hw.1; clear hw; go_simp⟩) hH0 ?_
        simp only [Act.put, List.setIfInBounds_toArray, List.set_cons_zero, List.set_cons_succ, List.getElem_toArray, List.getElem_cons_succ, List.getElem_cons_zero, getElem?_pos]
        refine wpAnyH_ready (rs := [2]) (by kernel_rfl) (by simp) (AllReadyH.cons rfl (fun K hK => ?_) AllReadyH.nil)
        refine callOp (by rfl) (by go_simp) ((Hc.out _).mono ?_)
        rintro e w' ⟨rfl, rfl⟩
        refine ⟨_, rfl, hK.out _ _ hH0 (fun hH1 => ?_)⟩
        clear hK K
        simp only [Act.put, List.setIfInBounds_toArray, List.set_cons_zero, List.set_cons_succ, List.getElem_toArray, List.getElem_cons_succ, List.getElem_cons_zero, getElem?_pos]
        refine wpAnyH_ready (rs := [3]) (by kernel_rfl) (by simp) (AllReadyH.cons rfl (fun K hK => ?_) AllReadyH.nil)
        refine callOp (by rfl) (by go_simp) ((spec_FormatCondition (pv d) Hpc.out _).mono ?_)
        rintro e w12 ⟨rfl, hb12⟩
        refine ⟨_, rfl, hK.out _ _ ⟨cell_go hH1.1 hb12, bgo hH1.2 hb12⟩ (fun hH2 => ?_)⟩
        clear hK K
        simp only [Act.put, List.setIfInBounds_toArray, List.set_cons_zero, List.set_cons_succ, List.getElem_toArray, List.getElem_cons_succ, List.getElem_cons_zero, getElem?_pos]
        refine wpAnyH_take (i := 4) (v := .string A1) rfl (by kernel_rfl) (by kernel_rfl) (by kernel_rfl) (fun _ _ _ h => h) (Or.inl ⟨by rfl, by intro w hw; clear hw; go_simp; rw [if_neg (by omega)]; exact congrArg (fun s => Result.ok (Next.value (Value.string s)) w) K1.out⟩) hH2 ?_
        simp only [Act.put, List.setIfInBounds_toArray, List.set_cons_zero, List.set_cons_succ, List.getElem_toArray, List.getElem_cons_succ, List.getElem_cons_zero, getElem?_pos]
        refine wpAnyH_take (i := 5) (v := .string A2) rfl (by kernel_rfl) (by kernel_rfl) (by kernel_rfl) (fun _ _ _ h => h) (Or.inl ⟨by rfl, by intro w hw; clear hw; go_simp; rw [if_neg (by omega)]; exact congrArg (fun s => Result.ok (Next.value (Value.string s)) w) K2.out⟩) hH2 ?_
        simp only [Act.put, List.setIfInBounds_toArray, List.set_cons_zero, List.set_cons_succ, List.getElem_toArray, List.getElem_cons_succ, List.getElem_cons_zero, getElem?_pos]
        refine wpAnyH_ready (rs := [9]) (by kernel_rfl) (by simp) (AllReadyH.cons rfl (fun K hK => ?_) AllReadyH.nil)
        refine callOp (by rfl) (by go_simp) ((Ih.out x _ Hxw.out Hl.out).mono ?_)
        rintro e w13 ⟨rfl, hb13⟩
        refine ⟨_, rfl, hK.out _ _ ⟨cell_go hH2.1 hb13, bgo hH2.2 hb13⟩ (fun hH3 => ?_)⟩
        clear hK K
        simp only [Act.put, List.setIfInBounds_toArray, List.set_cons_zero, List.set_cons_succ, List.getElem_toArray, List.getElem_cons_succ, List.getElem_cons_zero, getElem?_pos]
        refine wpAnyH_take (i := 10) (v := .string A3) rfl (by kernel_rfl) (by kernel_rfl) (by kernel_rfl) (fun _ _ _ h => h) (Or.inl ⟨by rfl, by intro w hw; clear hw; go_simp; rw [if_neg (by omega)]; exact congrArg (fun s => Result.ok (Next.value (Value.string s)) w) K3.out⟩) hH3 ?_
        simp only [Act.put, List.setIfInBounds_toArray, List.set_cons_zero, List.set_cons_succ, List.getElem_toArray, List.getElem_cons_succ, List.getElem_cons_zero, getElem?_pos]
        refine wpAnyH_take (i := 11) (v := .string A4) rfl (by kernel_rfl) (by kernel_rfl) (by kernel_rfl) (fun _ _ _ h => h) (Or.inl ⟨by rfl, by intro w hw; clear hw; go_simp; rw [if_neg (by omega)]; exact congrArg (fun s => Result.ok (Next.value (Value.string s)) w) K4.out⟩) hH3 ?_
        simp only [Act.put, List.setIfInBounds_toArray, List.set_cons_zero, List.set_cons_succ, List.getElem_toArray, List.getElem_cons_succ, List.getElem_cons_zero, getElem?_pos]
        refine wpAnyH_take (i := 12) (v := .string A4) rfl (by kernel_rfl) (by kernel_rfl) (by kernel_rfl) (fun _ _ _ h => h) (Or.inl ⟨by rfl, by intro w hw; clear hw; go_simp⟩) hH3 ?_
        simp only [Act.put, List.setIfInBounds_toArray, List.set_cons_zero, List.set_cons_succ, List.getElem_toArray, List.getElem_cons_succ, List.getElem_cons_zero, getElem?_pos]
        refine wpAnyH_done (by kernel_rfl) ?_ _
        go_wp2_with fail
        go_ret
        exact ⟨Hfin.out, hH3.2⟩
      · have hb0 : (((Ct.u 42 d x).bytes[0]'hp).toNat : Int) = 42 := congrArg (fun b : UInt8 => (b.toNat : Int)) hh
        clear hs hl hh
        go_enter Try.func100, Try.ntmps100
        go_wp2_with fail
        refine Hparts.out.mono ?_
        rintro e w2 ⟨v, rfl, ⟨g, cap, hv, hg, hcs⟩, hb⟩
        have hv' : v = .slice (some ⟨g, 0, none⟩) 1 cap := hv
        subst hv'
        have hc0 : w2.cell? ⟨g, 0, none⟩ = some (.string x.bytes) := hcs 0 (by simp [Ct.kids])
        clear hv hg hcs
        have Hb := Lib.hid hb
        clear hb
        go_wp2_with fail
        refine (Ih.out x _ Hxw.out Hl.out).mono ?_
        rintro e w3 ⟨rfl, hb3⟩
        have Hb3 := Lib.hid (bgo Hb.out hb3)
        clear hb3
        go_wp2_with fail
        go_ret
        exact ⟨congrArg (fun s => Ending.returned (Value.string s)) (show bts [97, 115, 32, 111, 102, 116, 101, 110, 32, 97, 115, 32, 116, 104, 101, 32, 100, 101, 109, 111, 110, 32, 119, 97, 110, 116, 115, 32, 40] ++ bts (sh x) ++ bts [41] = bts (sh (Ct.u 42 d x)) by rw [bts_app, bts_app]; rfl), Hb3.out⟩
      · have hb0 : (((Ct.u 43 d x).bytes[0]'hp).toNat : Int) = 43 := congrArg (fun b : UInt8 => (b.toNat : Int)) hh
        clear hs hl hh
        go_enter Try.func100, Try.ntmps100
        go_wp2_with fail
        refine Hparts.out.mono ?_
        rintro e w2 ⟨v, rfl, ⟨g, cap, hv, hg, hcs⟩, hb⟩
        have hv' : v = .slice (some ⟨g, 0, none⟩) 1 cap := hv
        subst hv'
        have hc0 : w2.cell? ⟨g, 0, none⟩ = some (.string x.bytes) := hcs 0 (by simp [Ct.kids])
        clear hv hg hcs
        have Hb := Lib.hid hb
        clear hb
        go_wp2_with fail
        refine (Ih.out x _ Hxw.out Hl.out).mono ?_
        rintro e w3 ⟨rfl, hb3⟩
        have Hb3 := Lib.hid (bgo Hb.out hb3)
        clear hb3
        go_wp2_with fail
        go_ret
        exact ⟨congrArg (fun s => Ending.returned (Value.string s)) (show bts [97, 115, 32, 111, 102, 116, 101, 110, 32, 97, 115, 32, 116, 104, 101, 32, 97, 110, 103, 101, 108, 32, 119, 97, 110, 116, 115, 32, 40] ++ bts (sh x) ++ bts [41] = bts (sh (Ct.u 43 d x)) by rw [bts_app, bts_app]; rfl), Hb3.out⟩
    | b o d x y =>
      obtain ⟨hs, hd, hxw, hyw⟩ := Ct.wf_b hw
      have Hxw := Lib.hid hxw
      have Hyw := Lib.hid hyw
      have Hd := Lib.hid hd
      have Hl := Lib.hid (show x.tx.length ≤ n by simp [Ct.tx] at hl; omega)
      have Hly := Lib.hid (show y.tx.length ≤ n by simp [Ct.tx] at hl; omega)
      have hxl : (bts (sh x)).size ≤ 8000 := by rw [bts_size]; have h1 := sh_len hxw; have h2 := Hl.out; omega
      have hyl : (bts (sh y)).size ≤ 8000 := by rw [bts_size]; have h1 := sh_len hyw; have h2 := Hly.out; omega
      clear hw hd hxw hyw hl
      rcases shp2 hs with ⟨rfl, hl⟩ | ⟨rfl, hl⟩ | ⟨rfl, hl⟩ | ⟨rfl, hl⟩
      · have hb0 : (((Ct.b 59 d x y).bytes[0]'hp).toNat : Int) = 59 := congrArg (fun b : UInt8 => (b.toNat : Int)) hh
        obtain ⟨A1, hA1⟩ : ∃ A : ByteArray, A = bts (sh x ++ [59, 32]) := ⟨_, rfl⟩
        have K1 := Lib.hid (show (bts (sh x)) ++ (⟨#[59, 32]⟩ : ByteArray) = A1 by rw [hA1]; exact cat_eq (by simp [bts_list]))
        have z1 : A1.size ≤ 8002 := by rw [hA1, bts_size]; simp only [bts_size] at hxl hyl; simp; omega
        obtain ⟨A2, hA2⟩ : ∃ A : ByteArray, A = bts (sh x ++ [59, 32] ++ sh y) := ⟨_, rfl⟩
        have K2 := Lib.hid (show A1 ++ (bts (sh y)) = A2 by rw [hA2]; exact cat_eq (by simp [bts_list, hA1]))
        have z2 : A2.size ≤ 16002 := by rw [hA2, bts_size]; simp only [bts_size] at hxl hyl; simp; omega
        have Hfin := Lib.hid (show Ending.returned (Value.string A2) = Ending.returned (Value.string (bts (sh (Ct.b 59 d x y)))) by rw [hA2]; rfl)
        clear hA1 hA2
        clear hs hl hh
        go_enter Try.func100, Try.ntmps100
        go_wp2_with fail
        refine Hparts.out.mono ?_
        rintro e w2 ⟨v, rfl, ⟨g, cap, hv, hg, hcs⟩, hb⟩
        have hv' : v = .slice (some ⟨g, 0, none⟩) 2 cap := hv
        subst hv'
        have hc0 : w2.cell? ⟨g, 0, none⟩ = some (.string x.bytes) := hcs 0 (by simp [Ct.kids])
        have hc1 : w2.cell? ⟨g, 1, none⟩ = some (.string y.bytes) := hcs 1 (by simp [Ct.kids])
        clear hv hg hcs
        have Hb := Lib.hid hb
        clear hb
        have HS := Lib.hid (And.intro hc0 hc1)
        clear hc0 hc1
        go_wp2_with fail
        refine wp_region_held_drew (S := (fun w' => w'.cell? ⟨g, 0, none⟩ = some (.string x.bytes) ∧ w'.cell? ⟨g, 1, none⟩ = some (.string y.bytes) ∧ Below w.heap.size w w')) (by kernel_rfl) ⟨HS.out.1, HS.out.2, Hb.out.drew⟩ (fun hH0 => ?_)
        refine wpAnyH_take (i := 0) (v := .slice (some ⟨g, 0, none⟩) 2 cap) rfl (by kernel_rfl) (by kernel_rfl) (by kernel_rfl) (fun _ _ _ h => h) (Or.inl ⟨by rfl, by intro w hw; clear hw; go_simp⟩) hH0 ?_
        simp only [Act.put, List.setIfInBounds_toArray, List.set_cons_zero, List.set_cons_succ, List.getElem_toArray, List.getElem_cons_succ, List.getElem_cons_zero, getElem?_pos]
        refine wpAnyH_take (i := 1) (v := .pointer (some ⟨g, 0, none⟩)) rfl (by kernel_rfl) (by kernel_rfl) (by kernel_rfl) (fun _ _ _ h => h) (Or.inl ⟨by rfl, by intro w hw; clear hw; go_simp⟩) hH0 ?_
        simp only [Act.put, List.setIfInBounds_toArray, List.set_cons_zero, List.set_cons_succ, List.getElem_toArray, List.getElem_cons_succ, List.getElem_cons_zero, getElem?_pos]
        refine wpAnyH_take (i := 2) (v := .string x.bytes) rfl (by kernel_rfl) (by kernel_rfl) (by kernel_rfl) (fun _ _ _ h => h) (Or.inl ⟨by rfl, by intro w hw; have hc := hw.1; clear hw; go_simp⟩) hH0 ?_
        simp only [Act.put, List.setIfInBounds_toArray, List.set_cons_zero, List.set_cons_succ, List.getElem_toArray, List.getElem_cons_succ, List.getElem_cons_zero, getElem?_pos]
        refine wpAnyH_take (i := 5) (v := .slice (some ⟨g, 0, none⟩) 2 cap) rfl (by kernel_rfl) (by kernel_rfl) (by kernel_rfl) (fun _ _ _ h => h) (Or.inl ⟨by rfl, by intro w hw; clear hw; go_simp⟩) hH0 ?_
        simp only [Act.put, List.setIfInBounds_toArray, List.set_cons_zero, List.set_cons_succ, List.getElem_toArray, List.getElem_cons_succ, List.getElem_cons_zero, getElem?_pos]
        refine wpAnyH_take (i := 6) (v := .pointer (some ⟨g, 1, none⟩)) rfl (by kernel_rfl) (by kernel_rfl) (by kernel_rfl) (fun _ _ _ h => h) (Or.inl ⟨by rfl, by intro w hw; clear hw; go_simp⟩) hH0 ?_
        simp only [Act.put, List.setIfInBounds_toArray, List.set_cons_zero, List.set_cons_succ, List.getElem_toArray, List.getElem_cons_succ, List.getElem_cons_zero, getElem?_pos]
        refine wpAnyH_take (i := 7) (v := .string y.bytes) rfl (by kernel_rfl) (by kernel_rfl) (by kernel_rfl) (fun _ _ _ h => h) (Or.inl ⟨by rfl, by intro w hw; have hc := hw.2.1; clear hw; go_simp⟩) hH0 ?_
        simp only [Act.put, List.setIfInBounds_toArray, List.set_cons_zero, List.set_cons_succ, List.getElem_toArray, List.getElem_cons_succ, List.getElem_cons_zero, getElem?_pos]
        refine wpAnyH_ready (rs := [3]) (by kernel_rfl) (by simp) (AllReadyH.cons rfl (fun K hK => ?_) AllReadyH.nil)
        refine callOp (by rfl) (by go_simp) ((Ih.out x _ Hxw.out Hl.out).mono ?_)
        rintro e w11 ⟨rfl, hb11⟩
        refine ⟨_, rfl, hK.out _ _ ⟨cell_go hH0.1 hb11, cell_go hH0.2.1 hb11, bgo hH0.2.2 hb11⟩ (fun hH1 => ?_)⟩
        clear hK K
        simp only [Act.put, List.setIfInBounds_toArray, List.set_cons_zero, List.set_cons_succ, List.getElem_toArray, List.getElem_cons_succ, List.getElem_cons_zero, getElem?_pos]
        refine wpAnyH_take (i := 4) (v := .string A1) rfl (by kernel_rfl) (by kernel_rfl) (by kernel_rfl) (fun _ _ _ h => h) (Or.inl ⟨by rfl, by intro w hw; clear hw; go_simp; rw [if_neg (by omega)]; exact congrArg (fun s => Result.ok (Next.value (Value.string s)) w) K1.out⟩) hH1 ?_
        simp only [Act.put, List.setIfInBounds_toArray, List.set_cons_zero, List.set_cons_succ, List.getElem_toArray, List.getElem_cons_succ, List.getElem_cons_zero, getElem?_pos]
        refine wpAnyH_ready (rs := [8]) (by kernel_rfl) (by simp) (AllReadyH.cons rfl (fun K hK => ?_) AllReadyH.nil)
        refine callOp (by rfl) (by go_simp) ((Ih.out y _ Hyw.out Hly.out).mono ?_)
        rintro e w12 ⟨rfl, hb12⟩
        refine ⟨_, rfl, hK.out _ _ ⟨cell_go hH1.1 hb12, cell_go hH1.2.1 hb12, bgo hH1.2.2 hb12⟩ (fun hH2 => ?_)⟩
        clear hK K
        simp only [Act.put, List.setIfInBounds_toArray, List.set_cons_zero, List.set_cons_succ, List.getElem_toArray, List.getElem_cons_succ, List.getElem_cons_zero, getElem?_pos]
        refine wpAnyH_take (i := 9) (v := .string A2) rfl (by kernel_rfl) (by kernel_rfl) (by kernel_rfl) (fun _ _ _ h => h) (Or.inl ⟨by rfl, by intro w hw; clear hw; go_simp; rw [if_neg (by omega)]; exact congrArg (fun s => Result.ok (Next.value (Value.string s)) w) K2.out⟩) hH2 ?_
        simp only [Act.put, List.setIfInBounds_toArray, List.set_cons_zero, List.set_cons_succ, List.getElem_toArray, List.getElem_cons_succ, List.getElem_cons_zero, getElem?_pos]
        refine wpAnyH_take (i := 10) (v := .string A2) rfl (by kernel_rfl) (by kernel_rfl) (by kernel_rfl) (fun _ _ _ h => h) (Or.inl ⟨by rfl, by intro w hw; clear hw; go_simp⟩) hH2 ?_
        simp only [Act.put, List.setIfInBounds_toArray, List.set_cons_zero, List.set_cons_succ, List.getElem_toArray, List.getElem_cons_succ, List.getElem_cons_zero, getElem?_pos]
        refine wpAnyH_done (by kernel_rfl) ?_ _
        go_wp2_with fail
        go_ret
        exact ⟨Hfin.out, hH2.2.2⟩
      · have hb0 : (((Ct.b 38 d x y).bytes[0]'hp).toNat : Int) = 38 := congrArg (fun b : UInt8 => (b.toNat : Int)) hh
        obtain ⟨A1, hA1⟩ : ∃ A : ByteArray, A = bts ([40] ++ sh x) := ⟨_, rfl⟩
        have K1 := Lib.hid (show (⟨#[40]⟩ : ByteArray) ++ (bts (sh x)) = A1 by rw [hA1]; exact cat_eq (by simp [bts_list]))
        have z1 : A1.size ≤ 8001 := by rw [hA1, bts_size]; simp only [bts_size] at hxl hyl; simp; omega
        obtain ⟨A2, hA2⟩ : ∃ A : ByteArray, A = bts ([40] ++ sh x ++ [32, 111, 114, 32, 98, 121, 32, 116, 104, 101, 32, 100, 101, 109, 111, 110, 32]) := ⟨_, rfl⟩
        have K2 := Lib.hid (show A1 ++ (⟨#[32, 111, 114, 32, 98, 121, 32, 116, 104, 101, 32, 100, 101, 109, 111, 110, 32]⟩ : ByteArray) = A2 by rw [hA2]; exact cat_eq (by simp [bts_list, hA1]))
        have z2 : A2.size ≤ 8018 := by rw [hA2, bts_size]; simp only [bts_size] at hxl hyl; simp; omega
        obtain ⟨A3, hA3⟩ : ∃ A : ByteArray, A = bts ([40] ++ sh x ++ [32, 111, 114, 32, 98, 121, 32, 116, 104, 101, 32, 100, 101, 109, 111, 110, 32] ++ sh y) := ⟨_, rfl⟩
        have K3 := Lib.hid (show A2 ++ (bts (sh y)) = A3 by rw [hA3]; exact cat_eq (by simp [bts_list, hA2]))
        have z3 : A3.size ≤ 16018 := by rw [hA3, bts_size]; simp only [bts_size] at hxl hyl; simp; omega
        obtain ⟨A4, hA4⟩ : ∃ A : ByteArray, A = bts ([40] ++ sh x ++ [32, 111, 114, 32, 98, 121, 32, 116, 104, 101, 32, 100, 101, 109, 111, 110, 32] ++ sh y ++ [41]) := ⟨_, rfl⟩
        have K4 := Lib.hid (show A3 ++ (⟨#[41]⟩ : ByteArray) = A4 by rw [hA4]; exact cat_eq (by simp [bts_list, hA3]))
        have z4 : A4.size ≤ 16019 := by rw [hA4, bts_size]; simp only [bts_size] at hxl hyl; simp; omega
        have Hfin := Lib.hid (show Ending.returned (Value.string A4) = Ending.returned (Value.string (bts (sh (Ct.b 38 d x y)))) by rw [hA4]; simp [sh])
        clear hA1 hA2 hA3 hA4
        clear hs hl hh
        go_enter Try.func100, Try.ntmps100
        go_wp2_with fail
        refine Hparts.out.mono ?_
        rintro e w2 ⟨v, rfl, ⟨g, cap, hv, hg, hcs⟩, hb⟩
        have hv' : v = .slice (some ⟨g, 0, none⟩) 2 cap := hv
        subst hv'
        have hc0 : w2.cell? ⟨g, 0, none⟩ = some (.string x.bytes) := hcs 0 (by simp [Ct.kids])
        have hc1 : w2.cell? ⟨g, 1, none⟩ = some (.string y.bytes) := hcs 1 (by simp [Ct.kids])
        clear hv hg hcs
        have Hb := Lib.hid hb
        clear hb
        have HS := Lib.hid (And.intro hc0 hc1)
        clear hc0 hc1
        go_wp2_with fail
        refine wp_region_held_drew (S := (fun w' => w'.cell? ⟨g, 0, none⟩ = some (.string x.bytes) ∧ w'.cell? ⟨g, 1, none⟩ = some (.string y.bytes) ∧ Below w.heap.size w w')) (by kernel_rfl) ⟨HS.out.1, HS.out.2, Hb.out.drew⟩ (fun hH0 => ?_)
        refine wpAnyH_take (i := 0) (v := .slice (some ⟨g, 0, none⟩) 2 cap) rfl (by kernel_rfl) (by kernel_rfl) (by kernel_rfl) (fun _ _ _ h => h) (Or.inl ⟨by rfl, by intro w hw; clear hw; go_simp⟩) hH0 ?_
        simp only [Act.put, List.setIfInBounds_toArray, List.set_cons_zero, List.set_cons_succ, List.getElem_toArray, List.getElem_cons_succ, List.getElem_cons_zero, getElem?_pos]
        refine wpAnyH_take (i := 1) (v := .pointer (some ⟨g, 0, none⟩)) rfl (by kernel_rfl) (by kernel_rfl) (by kernel_rfl) (fun _ _ _ h => h) (Or.inl ⟨by rfl, by intro w hw; clear hw; go_simp⟩) hH0 ?_
        simp only [Act.put, List.setIfInBounds_toArray, List.set_cons_zero, List.set_cons_succ, List.getElem_toArray, List.getElem_cons_succ, List.getElem_cons_zero, getElem?_pos]
        refine wpAnyH_take (i := 2) (v := .string x.bytes) rfl (by kernel_rfl) (by kernel_rfl) (by kernel_rfl) (fun _ _ _ h => h) (Or.inl ⟨by rfl, by intro w hw; have hc := hw.1; clear hw; go_simp⟩) hH0 ?_
        simp only [Act.put, List.setIfInBounds_toArray, List.set_cons_zero, List.set_cons_succ, List.getElem_toArray, List.getElem_cons_succ, List.getElem_cons_zero, getElem?_pos]
        refine wpAnyH_take (i := 6) (v := .slice (some ⟨g, 0, none⟩) 2 cap) rfl (by kernel_rfl) (by kernel_rfl) (by kernel_rfl) (fun _ _ _ h => h) (Or.inl ⟨by rfl, by intro w hw; clear hw; go_simp⟩) hH0 ?_
        simp only [Act.put, List.setIfInBounds_toArray, List.set_cons_zero, List.set_cons_succ, List.getElem_toArray, List.getElem_cons_succ, List.getElem_cons_zero, getElem?_pos]
        refine wpAnyH_take (i := 7) (v := .pointer (some ⟨g, 1, none⟩)) rfl (by kernel_rfl) (by kernel_rfl) (by kernel_rfl) (fun _ _ _ h => h) (Or.inl ⟨by rfl, by intro w hw; clear hw; go_simp⟩) hH0 ?_
        simp only [Act.put, List.setIfInBounds_toArray, List.set_cons_zero, List.set_cons_succ, List.getElem_toArray, List.getElem_cons_succ, List.getElem_cons_zero, getElem?_pos]
        refine wpAnyH_take (i := 8) (v := .string y.bytes) rfl (by kernel_rfl) (by kernel_rfl) (by kernel_rfl) (fun _ _ _ h => h) (Or.inl ⟨by rfl, by intro w hw; have hc := hw.2.1; clear hw; go_simp⟩) hH0 ?_
        simp only [Act.put, List.setIfInBounds_toArray, List.set_cons_zero, List.set_cons_succ, List.getElem_toArray, List.getElem_cons_succ, List.getElem_cons_zero, getElem?_pos]
        refine wpAnyH_ready (rs := [3]) (by kernel_rfl) (by simp) (AllReadyH.cons rfl (fun K hK => ?_) AllReadyH.nil)
        refine callOp (by rfl) (by go_simp) ((Ih.out x _ Hxw.out Hl.out).mono ?_)
        rintro e w11 ⟨rfl, hb11⟩
        refine ⟨_, rfl, hK.out _ _ ⟨cell_go hH0.1 hb11, cell_go hH0.2.1 hb11, bgo hH0.2.2 hb11⟩ (fun hH1 => ?_)⟩
        clear hK K
        simp only [Act.put, List.setIfInBounds_toArray, List.set_cons_zero, List.set_cons_succ, List.getElem_toArray, List.getElem_cons_succ, List.getElem_cons_zero, getElem?_pos]
        refine wpAnyH_take (i := 4) (v := .string A1) rfl (by kernel_rfl) (by kernel_rfl) (by kernel_rfl) (fun _ _ _ h => h) (Or.inl ⟨by rfl, by intro w hw; clear hw; go_simp; rw [if_neg (by omega)]; exact congrArg (fun s => Result.ok (Next.value (Value.string s)) w) K1.out⟩) hH1 ?_
        simp only [Act.put, List.setIfInBounds_toArray, List.set_cons_zero, List.set_cons_succ, List.getElem_toArray, List.getElem_cons_succ, List.getElem_cons_zero, getElem?_pos]
        refine wpAnyH_take (i := 5) (v := .string A2) rfl (by kernel_rfl) (by kernel_rfl) (by kernel_rfl) (fun _ _ _ h => h) (Or.inl ⟨by rfl, by intro w hw; clear hw; go_simp; rw [if_neg (by omega)]; exact congrArg (fun s => Result.ok (Next.value (Value.string s)) w) K2.out⟩) hH1 ?_
        simp only [Act.put, List.setIfInBounds_toArray, List.set_cons_zero, List.set_cons_succ, List.getElem_toArray, List.getElem_cons_succ, List.getElem_cons_zero, getElem?_pos]
        refine wpAnyH_ready (rs := [9]) (by kernel_rfl) (by simp) (AllReadyH.cons rfl (fun K hK => ?_) AllReadyH.nil)
        refine callOp (by rfl) (by go_simp) ((Ih.out y _ Hyw.out Hly.out).mono ?_)
        rintro e w12 ⟨rfl, hb12⟩
        refine ⟨_, rfl, hK.out _ _ ⟨cell_go hH1.1 hb12, cell_go hH1.2.1 hb12, bgo hH1.2.2 hb12⟩ (fun hH2 => ?_)⟩
        clear hK K
        simp only [Act.put, List.setIfInBounds_toArray, List.set_cons_zero, List.set_cons_succ, List.getElem_toArray, List.getElem_cons_succ, List.getElem_cons_zero, getElem?_pos]
        refine wpAnyH_take (i := 10) (v := .string A3) rfl (by kernel_rfl) (by kernel_rfl) (by kernel_rfl) (fun _ _ _ h => h) (Or.inl ⟨by rfl, by intro w hw; clear hw; go_simp; rw [if_neg (by omega)]; exact congrArg (fun s => Result.ok (Next.value (Value.string s)) w) K3.out⟩) hH2 ?_
        simp only [Act.put, List.setIfInBounds_toArray, List.set_cons_zero, List.set_cons_succ, List.getElem_toArray, List.getElem_cons_succ, List.getElem_cons_zero, getElem?_pos]
        refine wpAnyH_take (i := 11) (v := .string A4) rfl (by kernel_rfl) (by kernel_rfl) (by kernel_rfl) (fun _ _ _ h => h) (Or.inl ⟨by rfl, by intro w hw; clear hw; go_simp; rw [if_neg (by omega)]; exact congrArg (fun s => Result.ok (Next.value (Value.string s)) w) K4.out⟩) hH2 ?_
        simp only [Act.put, List.setIfInBounds_toArray, List.set_cons_zero, List.set_cons_succ, List.getElem_toArray, List.getElem_cons_succ, List.getElem_cons_zero, getElem?_pos]
        refine wpAnyH_take (i := 12) (v := .string A4) rfl (by kernel_rfl) (by kernel_rfl) (by kernel_rfl) (fun _ _ _ h => h) (Or.inl ⟨by rfl, by intro w hw; clear hw; go_simp⟩) hH2 ?_
        simp only [Act.put, List.setIfInBounds_toArray, List.set_cons_zero, List.set_cons_succ, List.getElem_toArray, List.getElem_cons_succ, List.getElem_cons_zero, getElem?_pos]
        refine wpAnyH_done (by kernel_rfl) ?_ _
        go_wp2_with fail
        go_ret
        exact ⟨Hfin.out, hH2.2.2⟩
      · have hb0 : (((Ct.b 124 d x y).bytes[0]'hp).toNat : Int) = 124 := congrArg (fun b : UInt8 => (b.toNat : Int)) hh
        obtain ⟨A1, hA1⟩ : ∃ A : ByteArray, A = bts ([40] ++ sh x) := ⟨_, rfl⟩
        have K1 := Lib.hid (show (⟨#[40]⟩ : ByteArray) ++ (bts (sh x)) = A1 by rw [hA1]; exact cat_eq (by simp [bts_list]))
        have z1 : A1.size ≤ 8001 := by rw [hA1, bts_size]; simp only [bts_size] at hxl hyl; simp; omega
        obtain ⟨A2, hA2⟩ : ∃ A : ByteArray, A = bts ([40] ++ sh x ++ [32, 111, 114, 32, 98, 121, 32, 116, 104, 101, 32, 97, 110, 103, 101, 108, 32]) := ⟨_, rfl⟩
        have K2 := Lib.hid (show A1 ++ (⟨#[32, 111, 114, 32, 98, 121, 32, 116, 104, 101, 32, 97, 110, 103, 101, 108, 32]⟩ : ByteArray) = A2 by rw [hA2]; exact cat_eq (by simp [bts_list, hA1]))
        have z2 : A2.size ≤ 8018 := by rw [hA2, bts_size]; simp only [bts_size] at hxl hyl; simp; omega
        obtain ⟨A3, hA3⟩ : ∃ A : ByteArray, A = bts ([40] ++ sh x ++ [32, 111, 114, 32, 98, 121, 32, 116, 104, 101, 32, 97, 110, 103, 101, 108, 32] ++ sh y) := ⟨_, rfl⟩
        have K3 := Lib.hid (show A2 ++ (bts (sh y)) = A3 by rw [hA3]; exact cat_eq (by simp [bts_list, hA2]))
        have z3 : A3.size ≤ 16018 := by rw [hA3, bts_size]; simp only [bts_size] at hxl hyl; simp; omega
        obtain ⟨A4, hA4⟩ : ∃ A : ByteArray, A = bts ([40] ++ sh x ++ [32, 111, 114, 32, 98, 121, 32, 116, 104, 101, 32, 97, 110, 103, 101, 108, 32] ++ sh y ++ [41]) := ⟨_, rfl⟩
        have K4 := Lib.hid (show A3 ++ (⟨#[41]⟩ : ByteArray) = A4 by rw [hA4]; exact cat_eq (by simp [bts_list, hA3]))
        have z4 : A4.size ≤ 16019 := by rw [hA4, bts_size]; simp only [bts_size] at hxl hyl; simp; omega
        have Hfin := Lib.hid (show Ending.returned (Value.string A4) = Ending.returned (Value.string (bts (sh (Ct.b 124 d x y)))) by rw [hA4]; simp [sh])
        clear hA1 hA2 hA3 hA4
        clear hs hl hh
        go_enter Try.func100, Try.ntmps100
        go_wp2_with fail
        refine Hparts.out.mono ?_
        rintro e w2 ⟨v, rfl, ⟨g, cap, hv, hg, hcs⟩, hb⟩
        have hv' : v = .slice (some ⟨g, 0, none⟩) 2 cap := hv
        subst hv'
        have hc0 : w2.cell? ⟨g, 0, none⟩ = some (.string x.bytes) := hcs 0 (by simp [Ct.kids])
        have hc1 : w2.cell? ⟨g, 1, none⟩ = some (.string y.bytes) := hcs 1 (by simp [Ct.kids])
        clear hv hg hcs
        have Hb := Lib.hid hb
        clear hb
        have HS := Lib.hid (And.intro hc0 hc1)
        clear hc0 hc1
        go_wp2_with fail
        refine wp_region_held_drew (S := (fun w' => w'.cell? ⟨g, 0, none⟩ = some (.string x.bytes) ∧ w'.cell? ⟨g, 1, none⟩ = some (.string y.bytes) ∧ Below w.heap.size w w')) (by kernel_rfl) ⟨HS.out.1, HS.out.2, Hb.out.drew⟩ (fun hH0 => ?_)
        refine wpAnyH_take (i := 0) (v := .slice (some ⟨g, 0, none⟩) 2 cap) rfl (by kernel_rfl) (by kernel_rfl) (by kernel_rfl) (fun _ _ _ h => h) (Or.inl ⟨by rfl, by intro w hw; clear hw; go_simp⟩) hH0 ?_
        simp only [Act.put, List.setIfInBounds_toArray, List.set_cons_zero, List.set_cons_succ, List.getElem_toArray, List.getElem_cons_succ, List.getElem_cons_zero, getElem?_pos]
        refine wpAnyH_take (i := 1) (v := .pointer (some ⟨g, 0, none⟩)) rfl (by kernel_rfl) (by kernel_rfl) (by kernel_rfl) (fun _ _ _ h => h) (Or.inl ⟨by rfl, by intro w hw; clear hw; go_simp⟩) hH0 ?_
        simp only [Act.put, List.setIfInBounds_toArray, List.set_cons_zero, List.set_cons_succ, List.getElem_toArray, List.getElem_cons_succ, List.getElem_cons_zero, getElem?_pos]
        refine wpAnyH_take (i := 2) (v := .string x.bytes) rfl (by kernel_rfl) (by kernel_rfl) (by kernel_rfl) (fun _ _ _ h => h) (Or.inl ⟨by rfl, by intro w hw; have hc := hw.1; clear hw; go_simp⟩) hH0 ?_
        simp only [Act.put, List.setIfInBounds_toArray, List.set_cons_zero, List.set_cons_succ, List.getElem_toArray, List.getElem_cons_succ, List.getElem_cons_zero, getElem?_pos]
        refine wpAnyH_take (i := 6) (v := .slice (some ⟨g, 0, none⟩) 2 cap) rfl (by kernel_rfl) (by kernel_rfl) (by kernel_rfl) (fun _ _ _ h => h) (Or.inl ⟨by rfl, by intro w hw; clear hw; go_simp⟩) hH0 ?_
        simp only [Act.put, List.setIfInBounds_toArray, List.set_cons_zero, List.set_cons_succ, List.getElem_toArray, List.getElem_cons_succ, List.getElem_cons_zero, getElem?_pos]
        refine wpAnyH_take (i := 7) (v := .pointer (some ⟨g, 1, none⟩)) rfl (by kernel_rfl) (by kernel_rfl) (by kernel_rfl) (fun _ _ _ h => h) (Or.inl ⟨by rfl, by intro w hw; clear hw; go_simp⟩) hH0 ?_
        simp only [Act.put, List.setIfInBounds_toArray, List.set_cons_zero, List.set_cons_succ, List.getElem_toArray, List.getElem_cons_succ, List.getElem_cons_zero, getElem?_pos]
        refine wpAnyH_take (i := 8) (v := .string y.bytes) rfl (by kernel_rfl) (by kernel_rfl) (by kernel_rfl) (fun _ _ _ h => h) (Or.inl ⟨by rfl, by intro w hw; have hc := hw.2.1; clear hw; go_simp⟩) hH0 ?_
        simp only [Act.put, List.setIfInBounds_toArray, List.set_cons_zero, List.set_cons_succ, List.getElem_toArray, List.getElem_cons_succ, List.getElem_cons_zero, getElem?_pos]
        refine wpAnyH_ready (rs := [3]) (by kernel_rfl) (by simp) (AllReadyH.cons rfl (fun K hK => ?_) AllReadyH.nil)
        refine callOp (by rfl) (by go_simp) ((Ih.out x _ Hxw.out Hl.out).mono ?_)
        rintro e w11 ⟨rfl, hb11⟩
        refine ⟨_, rfl, hK.out _ _ ⟨cell_go hH0.1 hb11, cell_go hH0.2.1 hb11, bgo hH0.2.2 hb11⟩ (fun hH1 => ?_)⟩
        clear hK K
        simp only [Act.put, List.setIfInBounds_toArray, List.set_cons_zero, List.set_cons_succ, List.getElem_toArray, List.getElem_cons_succ, List.getElem_cons_zero, getElem?_pos]
        refine wpAnyH_take (i := 4) (v := .string A1) rfl (by kernel_rfl) (by kernel_rfl) (by kernel_rfl) (fun _ _ _ h => h) (Or.inl ⟨by rfl, by intro w hw; clear hw; go_simp; rw [if_neg (by omega)]; exact congrArg (fun s => Result.ok (Next.value (Value.string s)) w) K1.out⟩) hH1 ?_
        simp only [Act.put, List.setIfInBounds_toArray, List.set_cons_zero, List.set_cons_succ, List.getElem_toArray, List.getElem_cons_succ, List.getElem_cons_zero, getElem?_pos]
        refine wpAnyH_take (i := 5) (v := .string A2) rfl (by kernel_rfl) (by kernel_rfl) (by kernel_rfl) (fun _ _ _ h => h) (Or.inl ⟨by rfl, by intro w hw; clear hw; go_simp; rw [if_neg (by omega)]; exact congrArg (fun s => Result.ok (Next.value (Value.string s)) w) K2.out⟩) hH1 ?_
        simp only [Act.put, List.setIfInBounds_toArray, List.set_cons_zero, List.set_cons_succ, List.getElem_toArray, List.getElem_cons_succ, List.getElem_cons_zero, getElem?_pos]
        refine wpAnyH_ready (rs := [9]) (by kernel_rfl) (by simp) (AllReadyH.cons rfl (fun K hK => ?_) AllReadyH.nil)
        refine callOp (by rfl) (by go_simp) ((Ih.out y _ Hyw.out Hly.out).mono ?_)
        rintro e w12 ⟨rfl, hb12⟩
        refine ⟨_, rfl, hK.out _ _ ⟨cell_go hH1.1 hb12, cell_go hH1.2.1 hb12, bgo hH1.2.2 hb12⟩ (fun hH2 => ?_)⟩
        clear hK K
        simp only [Act.put, List.setIfInBounds_toArray, List.set_cons_zero, List.set_cons_succ, List.getElem_toArray, List.getElem_cons_succ, List.getElem_cons_zero, getElem?_pos]
        refine wpAnyH_take (i := 10) (v := .string A3) rfl (by kernel_rfl) (by kernel_rfl) (by kernel_rfl) (fun _ _ _ h => h) (Or.inl ⟨by rfl, by intro w hw; clear hw; go_simp; rw [if_neg (by omega)]; exact congrArg (fun s => Result.ok (Next.value (Value.string s)) w) K3.out⟩) hH2 ?_
        simp only [Act.put, List.setIfInBounds_toArray, List.set_cons_zero, List.set_cons_succ, List.getElem_toArray, List.getElem_cons_succ, List.getElem_cons_zero, getElem?_pos]
        refine wpAnyH_take (i := 11) (v := .string A4) rfl (by kernel_rfl) (by kernel_rfl) (by kernel_rfl) (fun _ _ _ h => h) (Or.inl ⟨by rfl, by intro w hw; clear hw; go_simp; rw [if_neg (by omega)]; exact congrArg (fun s => Result.ok (Next.value (Value.string s)) w) K4.out⟩) hH2 ?_
        simp only [Act.put, List.setIfInBounds_toArray, List.set_cons_zero, List.set_cons_succ, List.getElem_toArray, List.getElem_cons_succ, List.getElem_cons_zero, getElem?_pos]
        refine wpAnyH_take (i := 12) (v := .string A4) rfl (by kernel_rfl) (by kernel_rfl) (by kernel_rfl) (fun _ _ _ h => h) (Or.inl ⟨by rfl, by intro w hw; clear hw; go_simp⟩) hH2 ?_
        simp only [Act.put, List.setIfInBounds_toArray, List.set_cons_zero, List.set_cons_succ, List.getElem_toArray, List.getElem_cons_succ, List.getElem_cons_zero, getElem?_pos]
        refine wpAnyH_done (by kernel_rfl) ?_ _
        go_wp2_with fail
        go_ret
        exact ⟨Hfin.out, hH2.2.2⟩
      · have hb0 : (((Ct.b 105 d x y).bytes[0]'hp).toNat : Int) = 105 := congrArg (fun b : UInt8 => (b.toNat : Int)) hh
        obtain ⟨d0, hd0, hpv⟩ := one_digit hl
        obtain ⟨h1, hb1⟩ := bytes_one (t := Ct.b 105 d x y) hd0
        have h1' : (1 : Int) < ((Ct.b 105 d x y).bytes.size : Int) := by omega
        have hc := fun w => spec_l2Hex ((Ct.b 105 d x y).bytes[1]'h1) w
        have e : hx ((Ct.b 105 d x y).bytes[1]'h1) = pv d := by rw [hb1, hpv]
        rw [e] at hc
        have Hc := Lib.hid hc
        have Hpc := Lib.hid (pv_cv Hd.out)
        have hfl : (bts (fmt (pv d))).size ≤ 4 := by rw [bts_size]; exact fmt_len _
        clear hc e hb1 hpv hd0
        obtain ⟨A1, hA1⟩ : ∃ A : ByteArray, A = bts ([105, 102, 32] ++ fmt (pv d)) := ⟨_, rfl⟩
        have K1 := Lib.hid (show (⟨#[105, 102, 32]⟩ : ByteArray) ++ (bts (fmt (pv d))) = A1 by rw [hA1]; exact cat_eq (by simp [bts_list]))
        have z1 : A1.size ≤ 7 := by rw [hA1, bts_size]; simp only [bts_size] at hxl hyl hfl; simp; omega
        obtain ⟨A2, hA2⟩ : ∃ A : ByteArray, A = bts ([105, 102, 32] ++ fmt (pv d) ++ [32, 40]) := ⟨_, rfl⟩
        have K2 := Lib.hid (show A1 ++ (⟨#[32, 40]⟩ : ByteArray) = A2 by rw [hA2]; exact cat_eq (by simp [bts_list, hA1]))
        have z2 : A2.size ≤ 9 := by rw [hA2, bts_size]; simp only [bts_size] at hxl hyl hfl; simp; omega
        obtain ⟨A3, hA3⟩ : ∃ A : ByteArray, A = bts ([105, 102, 32] ++ fmt (pv d) ++ [32, 40] ++ sh x) := ⟨_, rfl⟩
        have K3 := Lib.hid (show A2 ++ (bts (sh x)) = A3 by rw [hA3]; exact cat_eq (by simp [bts_list, hA2]))
        have z3 : A3.size ≤ 8009 := by rw [hA3, bts_size]; simp only [bts_size] at hxl hyl hfl; simp; omega
        obtain ⟨A4, hA4⟩ : ∃ A : ByteArray, A = bts ([105, 102, 32] ++ fmt (pv d) ++ [32, 40] ++ sh x ++ [41, 32, 101, 108, 115, 101, 32, 40]) := ⟨_, rfl⟩
        have K4 := Lib.hid (show A3 ++ (⟨#[41, 32, 101, 108, 115, 101, 32, 40]⟩ : ByteArray) = A4 by rw [hA4]; exact cat_eq (by simp [bts_list, hA3]))
        have z4 : A4.size ≤ 8017 := by rw [hA4, bts_size]; simp only [bts_size] at hxl hyl hfl; simp; omega
        obtain ⟨A5, hA5⟩ : ∃ A : ByteArray, A = bts ([105, 102, 32] ++ fmt (pv d) ++ [32, 40] ++ sh x ++ [41, 32, 101, 108, 115, 101, 32, 40] ++ sh y) := ⟨_, rfl⟩
        have K5 := Lib.hid (show A4 ++ (bts (sh y)) = A5 by rw [hA5]; exact cat_eq (by simp [bts_list, hA4]))
        have z5 : A5.size ≤ 16017 := by rw [hA5, bts_size]; simp only [bts_size] at hxl hyl hfl; simp; omega
        obtain ⟨A6, hA6⟩ : ∃ A : ByteArray, A = bts ([105, 102, 32] ++ fmt (pv d) ++ [32, 40] ++ sh x ++ [41, 32, 101, 108, 115, 101, 32, 40] ++ sh y ++ [41]) := ⟨_, rfl⟩
        have K6 := Lib.hid (show A5 ++ (⟨#[41]⟩ : ByteArray) = A6 by rw [hA6]; exact cat_eq (by simp [bts_list, hA5]))
        have z6 : A6.size ≤ 16018 := by rw [hA6, bts_size]; simp only [bts_size] at hxl hyl hfl; simp; omega
        have Hfin := Lib.hid (show Ending.returned (Value.string A6) = Ending.returned (Value.string (bts (sh (Ct.b 105 d x y)))) by rw [hA6]; rfl)
        clear hA1 hA2 hA3 hA4 hA5 hA6
        clear hs hl hh
        go_enter Try.func100, Try.ntmps100
        go_wp2_with fail
        refine Hparts.out.mono ?_
        rintro e w2 ⟨v, rfl, ⟨g, cap, hv, hg, hcs⟩, hb⟩
        have hv' : v = .slice (some ⟨g, 0, none⟩) 2 cap := hv
        subst hv'
        have hc0 : w2.cell? ⟨g, 0, none⟩ = some (.string x.bytes) := hcs 0 (by simp [Ct.kids])
        have hc1 : w2.cell? ⟨g, 1, none⟩ = some (.string y.bytes) := hcs 1 (by simp [Ct.kids])
        clear hv hg hcs
        have Hb := Lib.hid hb
        clear hb
        have HS := Lib.hid (And.intro hc0 hc1)
        clear hc0 hc1
        go_wp2_with fail
        refine wp_region_held_drew (S := (fun w' => w'.cell? ⟨g, 0, none⟩ = some (.string x.bytes) ∧ w'.cell? ⟨g, 1, none⟩ = some (.string y.bytes) ∧ Below w.heap.size w w')) (by kernel_rfl) ⟨HS.out.1, HS.out.2, Hb.out.drew⟩ (fun hH0 => ?_)
        refine wpAnyH_take (i := 0) (v := .string (Ct.b 105 d x y).bytes) rfl (by kernel_rfl) (by kernel_rfl) (by kernel_rfl) (fun _ _ _ h => h) (Or.inl ⟨by rfl, by intro w hw; clear hw; go_simp⟩) hH0 ?_
        simp only [Act.put, List.setIfInBounds_toArray, List.set_cons_zero, List.set_cons_succ, List.getElem_toArray, List.getElem_cons_succ, List.getElem_cons_zero, getElem?_pos]
        refine wpAnyH_take (i := 1) (v := .int .u8 ((((Ct.b 105 d x y).bytes)[1]'h1).toNat : Int)) rfl (by kernel_rfl) (by kernel_rfl) (by kernel_rfl) (fun _ _ _ h => h) (Or.inl ⟨by rfl, by intro w hw; clear hw; go_simp⟩) hH0 ?_
        simp only [Act.put, List.setIfInBounds_toArray, List.set_cons_zero, List.set_cons_succ, List.getElem_toArray, List.getElem_cons_succ, List.getElem_cons_zero, getElem?_pos]
        refine wpAnyH_take (i := 6) (v := .slice (some ⟨g, 0, none⟩) 2 cap) rfl (by kernel_rfl) (by kernel_rfl) (by kernel_rfl) (fun _ _ _ h => h) (Or.inl ⟨by rfl, by intro w hw; clear hw; go_simp⟩) hH0 ?_
        simp only [Act.put, List.setIfInBounds_toArray, List.set_cons_zero, List.set_cons_succ, List.getElem_toArray, List.getElem_cons_succ, List.getElem_cons_zero, getElem?_pos]
        refine wpAnyH_take (i := 7) (v := .pointer (some ⟨g, 0, none⟩)) rfl (by kernel_rfl) (by kernel_rfl) (by kernel_rfl) (fun _ _ _ h => h) (Or.inl ⟨by rfl, by intro w hw; clear hw; go_simp⟩) hH0 ?_
        simp only [Act.put, List.setIfInBounds_toArray, List.set_cons_zero, List.set_cons_succ, List.getElem_toArray, List.getElem_cons_succ, List.getElem_cons_zero, getElem?_pos]
        refine wpAnyH_take (i := 8) (v := .string x.bytes) rfl (by kernel_rfl) (by kernel_rfl) (by kernel_rfl) (fun _ _ _ h => h) (Or.inl ⟨by rfl, by intro w hw; have hc := hw.1; clear hw; go_simp⟩) hH0 ?_
        simp only [Act.put, List.setIfInBounds_toArray, List.set_cons_zero, List.set_cons_succ, List.getElem_toArray, List.getElem_cons_succ, List.getElem_cons_zero, getElem?_pos]
        refine wpAnyH_take (i := 12) (v := .slice (some ⟨g, 0, none⟩) 2 cap) rfl (by kernel_rfl) (by kernel_rfl) (by kernel_rfl) (fun _ _ _ h => h) (Or.inl ⟨by rfl, by intro w hw; clear hw; go_simp⟩) hH0 ?_
        simp only [Act.put, List.setIfInBounds_toArray, List.set_cons_zero, List.set_cons_succ, List.getElem_toArray, List.getElem_cons_succ, List.getElem_cons_zero, getElem?_pos]
        refine wpAnyH_take (i := 13) (v := .pointer (some ⟨g, 1, none⟩)) rfl (by kernel_rfl) (by kernel_rfl) (by kernel_rfl) (fun _ _ _ h => h) (Or.inl ⟨by rfl, by intro w hw; clear hw; go_simp⟩) hH0 ?_
        simp only [Act.put, List.setIfInBounds_toArray, List.set_cons_zero, List.set_cons_succ, List.getElem_toArray, List.getElem_cons_succ, List.getElem_cons_zero, getElem?_pos]
        refine wpAnyH_take (i := 14) (v := .string y.bytes) rfl (by kernel_rfl) (by kernel_rfl) (by kernel_rfl) (fun _ _ _ h => h) (Or.inl ⟨by rfl, by intro w hw; have hc := hw.2.1; clear hw; go_simp⟩) hH0 ?_
        simp only [Act.put, List.setIfInBounds_toArray, List.set_cons_zero, List.set_cons_succ, List.getElem_toArray, List.getElem_cons_succ, List.getElem_cons_zero, getElem?_pos]
        refine wpAnyH_ready (rs := [2]) (by kernel_rfl) (by simp) (AllReadyH.cons rfl (fun K hK => ?_) AllReadyH.nil)
        refine callOp (by rfl) (by go_simp) ((Hc.out _).mono ?_)
        rintro e w' ⟨rfl, rfl⟩
        refine ⟨_, rfl, hK.out _ _ hH0 (fun hH1 => ?_)⟩
        clear hK K
        simp only [Act.put, List.setIfInBounds_toArray, List.set_cons_zero, List.set_cons_succ, List.getElem_toArray, List.getElem_cons_succ, List.getElem_cons_zero, getElem?_pos]
        refine wpAnyH_ready (rs := [3]) (by kernel_rfl) (by simp) (AllReadyH.cons rfl (fun K hK => ?_) AllReadyH.nil)
        refine callOp (by rfl) (by go_simp) ((spec_FormatCondition (pv d) Hpc.out _).mono ?_)
        rintro e w12 ⟨rfl, hb12⟩
        refine ⟨_, rfl, hK.out _ _ ⟨cell_go hH1.1 hb12, cell_go hH1.2.1 hb12, bgo hH1.2.2 hb12⟩ (fun hH2 => ?_)⟩
        clear hK K
        simp only [Act.put, List.setIfInBounds_toArray, List.set_cons_zero, List.set_cons_succ, List.getElem_toArray, List.getElem_cons_succ, List.getElem_cons_zero, getElem?_pos]
        refine wpAnyH_take (i := 4) (v := .string A1) rfl (by kernel_rfl) (by kernel_rfl) (by kernel_rfl) (fun _ _ _ h => h) (Or.inl ⟨by rfl, by intro w hw; clear hw; go_simp; rw [if_neg (by omega)]; exact congrArg (fun s => Result.ok (Next.value (Value.string s)) w) K1.out⟩) hH2 ?_
        simp only [Act.put, List.setIfInBounds_toArray, List.set_cons_zero, List.set_cons_succ, List.getElem_toArray, List.getElem_cons_succ, List.getElem_cons_zero, getElem?_pos]
        refine wpAnyH_take (i := 5) (v := .string A2) rfl (by kernel_rfl) (by kernel_rfl) (by kernel_rfl) (fun _ _ _ h => h) (Or.inl ⟨by rfl, by intro w hw; clear hw; go_simp; rw [if_neg (by omega)]; exact congrArg (fun s => Result.ok (Next.value (Value.string s)) w) K2.out⟩) hH2 ?_
        simp only [Act.put, List.setIfInBounds_toArray, List.set_cons_zero, List.set_cons_succ, List.getElem_toArray, List.getElem_cons_succ, List.getElem_cons_zero, getElem?_pos]
        refine wpAnyH_ready (rs := [9]) (by kernel_rfl) (by simp) (AllReadyH.cons rfl (fun K hK => ?_) AllReadyH.nil)
        refine callOp (by rfl) (by go_simp) ((Ih.out x _ Hxw.out Hl.out).mono ?_)
        rintro e w13 ⟨rfl, hb13⟩
        refine ⟨_, rfl, hK.out _ _ ⟨cell_go hH2.1 hb13, cell_go hH2.2.1 hb13, bgo hH2.2.2 hb13⟩ (fun hH3 => ?_)⟩
        clear hK K
        simp only [Act.put, List.setIfInBounds_toArray, List.set_cons_zero, List.set_cons_succ, List.getElem_toArray, List.getElem_cons_succ, List.getElem_cons_zero, getElem?_pos]
        refine wpAnyH_take (i := 10) (v := .string A3) rfl (by kernel_rfl) (by kernel_rfl) (by kernel_rfl) (fun _ _ _ h => h) (Or.inl ⟨by rfl, by intro w hw; clear hw; go_simp; rw [if_neg (by omega)]; exact congrArg (fun s => Result.ok (Next.value (Value.string s)) w) K3.out⟩) hH3 ?_
        simp only [Act.put, List.setIfInBounds_toArray, List.set_cons_zero, List.set_cons_succ, List.getElem_toArray, List.getElem_cons_succ, List.getElem_cons_zero, getElem?_pos]
        refine wpAnyH_take (i := 11) (v := .string A4) rfl (by kernel_rfl) (by kernel_rfl) (by kernel_rfl) (fun _ _ _ h => h) (Or.inl ⟨by rfl, by intro w hw; clear hw; go_simp; rw [if_neg (by omega)]; exact congrArg (fun s => Result.ok (Next.value (Value.string s)) w) K4.out⟩) hH3 ?_
        simp only [Act.put, List.setIfInBounds_toArray, List.set_cons_zero, List.set_cons_succ, List.getElem_toArray, List.getElem_cons_succ, List.getElem_cons_zero, getElem?_pos]
        refine wpAnyH_ready (rs := [15]) (by kernel_rfl) (by simp) (AllReadyH.cons rfl (fun K hK => ?_) AllReadyH.nil)
        refine callOp (by rfl) (by go_simp) ((Ih.out y _ Hyw.out Hly.out).mono ?_)
        rintro e w14 ⟨rfl, hb14⟩
        refine ⟨_, rfl, hK.out _ _ ⟨cell_go hH3.1 hb14, cell_go hH3.2.1 hb14, bgo hH3.2.2 hb14⟩ (fun hH4 => ?_)⟩
        clear hK K
        simp only [Act.put, List.setIfInBounds_toArray, List.set_cons_zero, List.set_cons_succ, List.getElem_toArray, List.getElem_cons_succ, List.getElem_cons_zero, getElem?_pos]
        refine wpAnyH_take (i := 16) (v := .string A5) rfl (by kernel_rfl) (by kernel_rfl) (by kernel_rfl) (fun _ _ _ h => h) (Or.inl ⟨by rfl, by intro w hw; clear hw; go_simp; rw [if_neg (by omega)]; exact congrArg (fun s => Result.ok (Next.value (Value.string s)) w) K5.out⟩) hH4 ?_
        simp only [Act.put, List.setIfInBounds_toArray, List.set_cons_zero, List.set_cons_succ, List.getElem_toArray, List.getElem_cons_succ, List.getElem_cons_zero, getElem?_pos]
        refine wpAnyH_take (i := 17) (v := .string A6) rfl (by kernel_rfl) (by kernel_rfl) (by kernel_rfl) (fun _ _ _ h => h) (Or.inl ⟨by rfl, by intro w hw; clear hw; go_simp; rw [if_neg (by omega)]; exact congrArg (fun s => Result.ok (Next.value (Value.string s)) w) K6.out⟩) hH4 ?_
        simp only [Act.put, List.setIfInBounds_toArray, List.set_cons_zero, List.set_cons_succ, List.getElem_toArray, List.getElem_cons_succ, List.getElem_cons_zero, getElem?_pos]
        refine wpAnyH_take (i := 18) (v := .string A6) rfl (by kernel_rfl) (by kernel_rfl) (by kernel_rfl) (fun _ _ _ h => h) (Or.inl ⟨by rfl, by intro w hw; clear hw; go_simp⟩) hH4 ?_
        simp only [Act.put, List.setIfInBounds_toArray, List.set_cons_zero, List.set_cons_succ, List.getElem_toArray, List.getElem_cons_succ, List.getElem_cons_zero, getElem?_pos]
        refine wpAnyH_done (by kernel_rfl) ?_ _
        go_wp2_with fail
        go_ret
        exact ⟨Hfin.out, hH4.2.2⟩
theorem spec_ShowContract (c : ByteArray) (w : World) (hm : c.size ≤ maxLen) :
    Calls Try.prog 56 #[.string c] w fun e w' => e = .returned (.string (ctv c ByteArray.empty fun t => bts (sh t))) ∧ Below w.heap.size w w' := by
  have hv := fun w => spec_ContractValid c w hm
  cases hc : cto c with
  | none =>
    rw [hc] at hv
    have Hv := Lib.hid hv
    have Hn := Lib.hid hc
    clear hv hc
    go_enter Try.func56, Try.ntmps56
    go_wp2_with fail
    refine (Hv.out _).mono ?_
    rintro e w' ⟨rfl, rfl⟩
    go_wp2_with fail
    go_ret
    exact ⟨by rw [ctv_none _ _ Hn.out]; rfl, Below.refl _ _⟩
  | some t =>
    rw [hc] at hv
    have Hv := Lib.hid hv
    have Hn := Lib.hid hc
    obtain ⟨rfl, hw, hl⟩ := cto_some.1 hc
    have Hd := Lib.hid (fun w => spec_l5Show 200 (Nat.le_refl _) t w hw hl)
    clear hv hc hw hl
    go_enter Try.func56, Try.ntmps56
    go_wp2_with fail
    refine (Hv.out _).mono ?_
    rintro e w' ⟨rfl, rfl⟩
    go_wp2_with fail
    refine (Hd.out _).mono ?_
    rintro e w3 ⟨rfl, hb3⟩
    have Hb3 := Lib.hid hb3
    clear hb3
    go_wp2_with fail
    go_ret
    exact ⟨by rw [ctv_some _ _ Hn.out] <;> rfl, Hb3.out⟩
/-- The parts of a text's contract. -/
def partsOf (c : ByteArray) : List ByteArray := ctv c [] fun t => t.kids.map Ct.bytes
/-- What taking a text apart leaves. -/
def ApartT (l : List ByteArray) (w : World) (e : Ending) (w' : World) : Prop := ∃ v, e = .returned v ∧ Strs w' v l ∧ Below w.heap.size w w'
theorem spec_PartsOfContract (c : ByteArray) (w : World) (hm : c.size ≤ maxLen) :
    Calls Try.prog 53 #[.string c] w (ApartT (partsOf c) w) := by
  have hv := fun w => spec_ContractValid c w hm
  cases hc : cto c with
  | none =>
    rw [hc] at hv
    have Hv := Lib.hid hv
    have Hn := Lib.hid hc
    clear hv hc
    go_enter Try.func53, Try.ntmps53
    go_wp2_with fail
    refine (Hv.out _).mono ?_
    rintro e w' ⟨rfl, rfl⟩
    go_wp2_with fail
    go_ret
    refine ⟨_, rfl, ?_, ba1 _ _⟩
    rw [show partsOf c = [] from ctv_none _ _ Hn.out]
    exact ⟨_, _, rfl, by simp, fun i hi => absurd hi (Nat.not_lt_zero _)⟩
  | some t =>
    rw [hc] at hv
    have Hv := Lib.hid hv
    have Hn := Lib.hid hc
    obtain ⟨rfl, hw, hl⟩ := cto_some.1 hc
    have Hd := Lib.hid (fun w => spec_l5Parts t hw hl w)
    clear hv hc hw hl
    go_enter Try.func53, Try.ntmps53
    go_wp2_with fail
    refine (Hv.out _).mono ?_
    rintro e w' ⟨rfl, rfl⟩
    go_wp2_with fail
    refine (Hd.out _).mono ?_
    rintro e w3 ⟨v, rfl, hs, hb3⟩
    have Hs := Lib.hid hs
    have Hb3 := Lib.hid hb3
    clear hb3 hs
    go_wp2_with fail
    go_ret
    refine ⟨_, rfl, ?_, Hb3.out⟩
    rw [show partsOf t.bytes = t.kids.map Ct.bytes from ctv_some _ _ Hn.out]
    exact Hs.out
end Go.Proofs.Ytfajaikkagmkeaa
