/-
  Contracts of the reference's functions on what contracts tell.
-/
import Derived.Test.YtfajaikkagmkeaaD3
import Derived.Test.YtfajaikkagmkeaaB4
import Derived.Test.YtfajaikkagmkeaaG2
import Derived.Test.YtfajaikkagmkeaaG1
namespace Go.Proofs.Ytfajaikkagmkeaa
open Go.RowKit Go.DC
set_option maxHeartbeats 2000000
set_option linter.unusedVariables false
set_option linter.unusedSimpArgs false

theorem spec_l3Meet (r q : ByteArray) (w : World) (hz : 16 ≤ r.size) (hd : Dg 16 (dg r)) (hz2 : 16 ≤ q.size) (hd2 : Dg 16 (dg q)) :
    Calls Try.prog 109 #[.string r, .string q] w fun e w' => e = .returned (.string (txt 16 (meetT (dg r) (dg q)))) ∧ w = w' := by
  go_enter Try.func109, Try.ntmps109
  go_wp2_with fail
  go_loopg [5, 6] 16 (fun gk o i wr => ∃ n : Nat, n ≤ 16 ∧ gk = 16 - n ∧ i = .int .i64 n ∧ o = .string (txt n (meetT (dg r) (dg q))) ∧ w = wr)
  case atStart => exact ⟨0, by omega, rfl, rfl, rfl, rfl⟩
  case round =>
    obtain ⟨n, hn, rfl, rfl, rfl, rfl⟩ := hrel
    by_cases hlt : n < 16
    · have hadd : ∀ w, (Op.stringOp .add (txt n (meetT (dg r) (dg q))) (dgt (bits BinOp.and IntKind.i64 (dg r n) (dg q n)))).run Try.prog w = .ok (.string (txt (n + 1) (meetT (dg r) (dg q)))) w := fun w => by
        rw [run_string_add_sum w _ _ (by rw [txt_size]; show n + 1 ≤ _; omega)]
        exact congrArg (fun x => Result.ok (Value.string x) w) (txt_succ n (meetT (dg r) (dg q)))
      obtain ⟨h0, h1⟩ := hd n hlt
      obtain ⟨h2, h3⟩ := hd2 n hlt
      have hg : 0 ≤ bits BinOp.and IntKind.i64 (dg r n) (dg q n) ∧ bits BinOp.and IntKind.i64 (dg r n) (dg q n) ≤ 15 := band_rng h0 h1 h2 h3
      obtain ⟨hg0, hg1⟩ := hg
      go_wp2_with (first | (go_at_call 64; refine (spec_l3Value _ _ _ (by omega) (by omega)).mono ?_; rintro e w' ⟨rfl, rfl⟩) | (go_at_call 142; refine (spec_l2Digit _ _ (by first | assumption | omega) (by first | assumption | omega)).mono ?_; rintro e w' ⟨rfl, rfl⟩))
      go_roundg (16 - (n + 1))
      case rel => exact ⟨n + 1, by omega, rfl, by go_num, rfl, rfl⟩
      case measure => omega
    · obtain rfl : n = 16 := by omega
      go_wp2_with fail
      go_ret
      exact ⟨rfl, rfl⟩
theorem spec_l5Turn (o : UInt8) (d : List UInt8) (x : Ct) (hw : (Ct.u o d x).wf = true) (a q : Int) (w : World) :
    Calls Try.prog 152 #[.string (Ct.u o d x).bytes, .int .i64 a, .int .i64 q] w fun e w' => e = .returned (.int .i64 (turnV o (pv d) a q)) ∧ w = w' := by
  have hp := bytes_pos (Ct.u o d x)
  have hp' : (0 : Int) < ((Ct.u o d x).bytes.size : Int) := by omega
  have hh := bytes_head (Ct.u o d x)
  rcases shp1 (Ct.wf_u hw).1 with ⟨rfl, hl⟩ | ⟨rfl, hl⟩ | ⟨rfl, hl⟩
  · obtain ⟨d0, hd0, hpv⟩ := one_digit hl
    obtain ⟨h1, hb1⟩ := bytes_one (t := Ct.u 119 d x) hd0
    have h1' : (1 : Int) < ((Ct.u 119 d x).bytes.size : Int) := by omega
    have hc := fun w => spec_l2Hex ((Ct.u 119 d x).bytes[1]'h1) w
    have e : hx ((Ct.u 119 d x).bytes[1]'h1) = pv d := by rw [hb1, hpv]
    rw [e] at hc
    have Hc := Lib.hid hc
    have hb : (((Ct.u 119 d x).bytes[0]'hp).toNat : Int) = 119 := congrArg (fun b : UInt8 => (b.toNat : Int)) hh
    clear hc e hb1 hpv hd0 hl hh hw
    generalize (Ct.u 119 d x).bytes = c at *
    go_enter Try.func152, Try.ntmps152
    go_wp2_with fail
    refine (Hc.out _).mono ?_
    rintro e w' ⟨rfl, rfl⟩
    go_wp2_with fail
    go_ret
    exact ⟨rfl, rfl⟩
  · have hb : (((Ct.u 42 d x).bytes[0]'hp).toNat : Int) = 42 := congrArg (fun b : UInt8 => (b.toNat : Int)) hh
    clear hl hh hw
    generalize (Ct.u 42 d x).bytes = c at *
    go_enter Try.func152, Try.ntmps152
    go_wp2_with fail
    go_ret
    exact ⟨rfl, rfl⟩
  · have hb : (((Ct.u 43 d x).bytes[0]'hp).toNat : Int) = 43 := congrArg (fun b : UInt8 => (b.toNat : Int)) hh
    clear hl hh hw
    generalize (Ct.u 43 d x).bytes = c at *
    go_enter Try.func152, Try.ntmps152
    go_wp2_with fail
    go_ret
    exact ⟨rfl, rfl⟩
/-- How many turns are still to come. -/
def turns (T : Int → Int) (before y : Int) : Nat := if before = y then 0 else if T y = y then 1 else 17 - y.toNat
theorem spec_l5Loop (o : UInt8) (d : List UInt8) (x : Ct) (hw : (Ct.u o d x).wf = true) (w : World) :
    Calls Try.prog 111 #[.string (Ct.u o d x).bytes, .string (txt 16 (tr x))] w fun e w' => e = .returned (.string (txt 16 (tr (.u o d x)))) ∧ w = w' := by
  have hxT := tr_Tr (Ct.wf_u hw).2.2
  have Hm := Lib.hid (fun (q : Nat) (hq : q < 16) => mono_loop hw (Cv.nat hq))
  have Htr := Lib.hid (fun q : Nat => tr_loop hw q)
  have Ht := Lib.hid (fun a q w => spec_l5Turn o d x hw a q w)
  have hsz : (txt 16 (tr x)).size = 16 := txt_size _ _
  have Hv := Lib.hid (fun (y : Int) (hy : Cv y) (w : World) => (by
    have h := spec_l3Value (txt 16 (tr x)) y w hy.1 (by rw [hsz]; have := hy.2; omega)
    have e : dg (txt 16 (tr x)) y.toNat = ap (tr x) y := dg_txt hxT.dg (by have := hy.1; have := hy.2; omega)
    rw [e] at h
    exact h : Calls Try.prog 64 #[.string (txt 16 (tr x)), .int .i64 y] w fun e w' => e = .returned (.int .i64 (ap (tr x) y)) ∧ w = w'))
  clear hxT hw hsz
  generalize (Ct.u o d x).bytes = c at *
  generalize hB : txt 16 (tr x) = B at *
  obtain ⟨T, hT⟩ : ∃ T : Nat → Int → Int, T = fun (q : Nat) (y : Int) => turnV o (pv d) (ap (tr x) y) (q : Int) := ⟨_, rfl⟩
  have HT := Lib.hid hT
  have Htr2 := Lib.hid (show ∀ q : Nat, tr (.u o d x) q = lp (T q) by rw [hT]; exact Htr.out)
  have Hm2 := Lib.hid (show ∀ q : Nat, q < 16 → Mono (T q) by rw [hT]; exact Hm.out)
  generalize tr (.u o d x) = F at *
  clear hT Htr Hm
  go_enter Try.func111, Try.ntmps111
  go_wp2_with fail
  go_loopg [5, 6] 16 (fun gk s i wr => ∃ n : Nat, n ≤ 16 ∧ gk = 16 - n ∧ i = .int .i64 n ∧ s = .string (txt n F) ∧ w = wr)
  case atStart => exact ⟨0, by omega, rfl, rfl, rfl, rfl⟩
  case round =>
    obtain ⟨n, hn, rfl, rfl, rfl, rfl⟩ := hrel
    by_cases hlt : n < 16
    case pos =>
      have hm := Hm2.out n hlt
      have Hmn := Lib.hid hm
      have hdn : decide ((n : Int) < 16) = true := decide_eq_true (by omega)
      clear hm
      go_wp2_with fail
      go_loopg [7, 8] (turns (T n) (-1) 0) (fun gk yv bv wr => ∃ y b : Int, Cv y ∧ gk = turns (T n) b y ∧ yv = .int .i64 y ∧ bv = .int .i64 b ∧ w = wr ∧ Sub y (T n y) ∧ lp (T n) = iter (16 - y.toNat) (T n) y ∧ (b = -1 ∨ T n b = y))
      case atStart => exact ⟨0, -1, Cv.c0, rfl, rfl, rfl, rfl, Sub.zero (Hmn.out.cv Cv.c0), rfl, .inl rfl⟩
      case round =>
        obtain ⟨y, b, hy, rfl, rfl, rfl, rfl, hs, hl, hor⟩ := hrel
        have Hs := Lib.hid hs
        have Hl := Lib.hid hl
        have Hor := Lib.hid hor
        have Hy := Lib.hid hy
        clear hs hl hor hy
        by_cases hby : b = y
        case neg =>
          have hbn : (b != y) = true := by simpa using hby
          have Hby := Lib.hid hby
          have Hturn := Lib.hid (show turnV o (pv d) (ap (tr x) y) n = T n y by rw [HT.out])
          clear hby
          go_wp2_with fail
          refine (Hv.out y Hy.out _).mono ?_
          rintro e w' ⟨rfl, rfl⟩
          go_wp2_with fail
          refine (Ht.out _ _ _).mono ?_
          rintro e w' ⟨rfl, rfl⟩
          rw [Hturn.out]
          go_wp2_with fail
          go_roundg (turns (T n) y (T n y))
          case rel =>
            by_cases he : T n y = y
            · exact ⟨T n y, y, Hmn.out.cv Hy.out, rfl, rfl, rfl, rfl, Hmn.out.sub Hy.out (Hmn.out.cv Hy.out) Hs.out, by rw [Hl.out, he], .inr rfl⟩
            · have hst := lp_step Hmn.out Hy.out Hs.out he
              exact ⟨T n y, y, Hmn.out.cv Hy.out, rfl, rfl, rfl, rfl, Hmn.out.sub Hy.out (Hmn.out.cv Hy.out) Hs.out, by rw [Hl.out, hst.1], .inr rfl⟩
          case measure =>
            have hb' := Hby.out
            unfold turns
            by_cases he : T n y = y
            · rw [he]; simp [hb', he]
            · have hst := lp_step Hmn.out Hy.out Hs.out he
              have h15 := Hy.out.2
              rw [if_neg hb', if_neg he, if_neg (fun h => he h.symm)]
              split <;> omega
        case pos =>
          have hbn : (b != y) = false := by simpa using hby
          have hlp : y = lp (T n) := by
            have h0 := Hy.out.1
            rcases Hor.out with h | h
            · omega
            · rw [Hl.out, lp_stop Hy.out (by rw [hby] at h; exact h)]
          have hF : F n = lp (T n) := Htr2.out n
          have hcv := lp_cv Hmn.out
          obtain ⟨h0, h1⟩ := hcv
          have hadd : ∀ w, (Op.stringOp .add (txt n F) (dgt y)).run Try.prog w = .ok (.string (txt (n + 1) F)) w := fun w => by
            rw [run_string_add_sum w _ _ (by rw [txt_size]; show n + 1 ≤ _; omega), hlp, ← hF, txt_succ]
          have hy0 := Hy.out.1
          have hy1 := Hy.out.2
          clear hby hlp hF h0 h1
          go_wp2_with fail
          refine (spec_l2Digit y _ hy0 hy1).mono ?_
          rintro e w' ⟨rfl, rfl⟩
          go_wp2_with fail
          go_roundg (16 - (n + 1))
          case rel => exact ⟨n + 1, by omega, rfl, by go_num, rfl, rfl⟩
          case measure => omega
    case neg =>
      obtain rfl : n = 16 := by omega
      go_wp2_with fail
      go_ret
      exact ⟨rfl, rfl⟩
end Go.Proofs.Ytfajaikkagmkeaa
