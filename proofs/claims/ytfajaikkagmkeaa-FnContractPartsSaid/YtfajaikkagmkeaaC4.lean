/-
  Contracts of the least fixed point and of the closures of the program's transformer of a contract.
-/
import Derived.Test.YtfajaikkagmkeaaC3
import Derived.Test.YtfajaikkagmkeaaA9
namespace Go.Proofs.Ytfajaikkagmkeaa
open Go.RowKit Go.DC
set_option maxHeartbeats 1000000
set_option linter.unusedVariables false
set_option linter.unusedSimpArgs false

theorem impl_leastPoint (k : Nat) (cap : Array Value) (T : Int → Int) (hT : Mono T) (w : World) (hk : ∀ xs w, (callFunc k xs).run Try.prog w = .ok (.enter k xs) w)
    (hf : ∀ (y : Int) (w1 : World), 0 ≤ y → y ≤ 15 → Below w.heap.size w w1 → Calls Try.prog k (#[.int .i64 y] ++ cap) w1 fun e w2 => e = .returned (.int .i64 (T y)) ∧ Below w1.heap.size w1 w2) :
    Calls Try.prog 119 #[.func (.func k) #[] cap] w fun e w' => e = .returned (.int .i64 (lp T)) ∧ Below w.heap.size w w' := by
  have Hf := Lib.hid hf
  have HT := Lib.hid hT
  clear hf hT
  go_enter Try.func119, Try.ntmps119
  go_wp2_with fail
  go_loopg [3] 15 (fun gk i wr => ∃ y : Int, 0 ≤ y ∧ y ≤ 15 ∧ gk = 15 - y.toNat ∧ i = .int .i64 y ∧ Sub y (T y) ∧ lp T = iter (16 - y.toNat) T y ∧ Below w.heap.size w wr)
  case atStart => exact ⟨0, by decide, by decide, rfl, rfl, Sub.zero (HT.out.cv Cv.c0), rfl, Below.refl _ _⟩
  case round =>
    obtain ⟨y, h0, h1, rfl, rfl, hs, hg, hb⟩ := hrel
    have Hs := Lib.hid hs
    have Hg := Lib.hid hg
    clear hs hg
    cases he : (T y != y)
    case false =>
      have H1 := Lib.hid (show T y = y by simpa using he)
      go_wp2_with ((with_reducible refine (Hf.out _ _ (by assumption) (by assumption) (by assumption)).mono ?_); rintro e w' ⟨rfl, hb1⟩)
      go_ret
      exact ⟨by rw [Hg.out, lp_stop ⟨h0, h1⟩ H1.out]; rfl, bgo hb hb1⟩
    case true =>
      have H1 := Lib.hid (show T y ≠ y by simpa using he)
      go_wp2_with fail
      refine (Hf.out _ _ (by assumption) (by assumption) (by assumption)).mono ?_
      rintro e w1 ⟨rfl, hb1⟩
      have hb2 := bgo hb hb1
      clear hb hb1
      go_wp2_with ((with_reducible refine (Hf.out _ _ (by assumption) (by assumption) (by assumption)).mono ?_); rintro e w' ⟨rfl, hb3⟩)
      have hr := HT.out.cv (⟨h0, h1⟩ : Cv y)
      have hstep := lp_step HT.out (⟨h0, h1⟩ : Cv y) Hs.out H1.out
      go_roundg (15 - (T y).toNat)
      case rel => exact ⟨T y, hr.1, hr.2, rfl, rfl, HT.out.sub ⟨h0, h1⟩ hr Hs.out, by rw [Hg.out, hstep.1], bgo hb2 hb3⟩
      case measure => have := hstep.2; omega
theorem impl_assume1 (b1 : Nat) (p : Int) (q : Nat) (w : World) (h1 : Row w b1 1 fun _ => p) :
    Calls Try.prog 155 #[.int .i64 q, .pointer (some ⟨b1, 0, none⟩)] w fun e w' => e = .returned (.int .i64 (bor q (bandn 15 p))) ∧ Below w.heap.size w w' := by
  have hc := h1.cell (i := 0) (by omega)
  go_enter Try.func155, Try.ntmps155
  go_wp2_with fail
  go_ret
  exact ⟨rfl, Below.refl _ _⟩
theorem impl_assume (p : Int) (w : World) :
    Calls Try.prog 116 #[.int .i64 p] w fun e w' => e = .returned (.agg (cellsF 16 (assumeT p))) ∧ Below w.heap.size w w' := by
  have h1 : Row ((w.alloc (.cells #[.int .i64 p] 3)).alloc (.cells #[.int .i64 0, .int .i64 0, .int .i64 0, .int .i64 0, .int .i64 0, .int .i64 0, .int .i64 0, .int .i64 0, .int .i64 0, .int .i64 0, .int .i64 0, .int .i64 0, .int .i64 0, .int .i64 0, .int .i64 0, .int .i64 0] 66)) w.heap.size 1 (fun _ => p) := (Row.new w 1 (fun _ => p) _ rfl).alloc _
  have h2 : Row ((w.alloc (.cells #[.int .i64 p] 3)).alloc (.cells #[.int .i64 0, .int .i64 0, .int .i64 0, .int .i64 0, .int .i64 0, .int .i64 0, .int .i64 0, .int .i64 0, .int .i64 0, .int .i64 0, .int .i64 0, .int .i64 0, .int .i64 0, .int .i64 0, .int .i64 0, .int .i64 0] 66)) (w.heap.size + 1) 16 _ := Row.new16 _ _ (by simp)
  have hf := impl_makeTrans 155 #[] #[(.pointer (some ⟨w.heap.size, 0, none⟩))] (assumeT p) ((w.alloc (.cells #[.int .i64 p] 3)).alloc (.cells #[.int .i64 0, .int .i64 0, .int .i64 0, .int .i64 0, .int .i64 0, .int .i64 0, .int .i64 0, .int .i64 0, .int .i64 0, .int .i64 0, .int .i64 0, .int .i64 0, .int .i64 0, .int .i64 0, .int .i64 0, .int .i64 0] 66)) Try.call155 (fun s w1 hs hb => impl_assume1 _ p s w1 (h1.go hb))
  have Hf := Lib.hid hf
  have Hr := Lib.hid h2
  clear hf h1 h2
  go_enter Try.func116, Try.ntmps116
  go_wp2_with (first | (go_at_call 117; refine Hf.out.mono ?_; rintro e w' ⟨rfl, hb⟩; have hr := Hr.out.go hb) | (refine st trans16 _ _ rfl rfl _ rfl _ rfl (f := ?_) ?_ ?_; rotate_left; first | (with_reducible assumption) | (with_reducible exact Row.new4 _ _ rfl) | (with_reducible exact Row.new16 _ _ rfl) | ((with_reducible refine Row.set ?_ _ _); (with_reducible assumption)) | ((with_reducible refine Row.other ?_ ?_ _); (with_reducible assumption); (focus first | (simp; done) | (simp; omega))) | ((with_reducible refine Row.alloc ?_ _); (with_reducible assumption)) | ((with_reducible refine Row.drew ?_); (with_reducible assumption))))
  exact ret_row trans16 rfl _ rfl (hr.setRow _) rfl ⟨rfl, below_setRow (bgo (ba2 w _ _) hb) (by omega) _⟩
theorem contract_trans21 (b1 b2 : Nat) (x : Nat → Int) (q y : Int) (h0 : 0 ≤ y) (h1 : y ≤ 15) (w : World) (hr1 : Row w b1 16 x) (hr2 : Row w b2 1 fun _ => q) :
    Calls Try.prog 122 #[.int .i64 y, .pointer (some ⟨b1, 0, none⟩), .pointer (some ⟨b2, 0, none⟩)] w fun e w' => e = .returned (.int .i64 (band (ap x y) q)) ∧ Below w.heap.size w w' := by
  have hc1 := hr1.cell (i := y.toNat) (by omega)
  have hc2 := hr2.cell (i := 0) (by omega)
  go_enter Try.func122, Try.ntmps122
  go_wp2_with fail
  go_quiet (fail)
  go_wp2_with fail
  go_ret
  exact ⟨rfl, below_drewN (Below.refl _ _) _⟩
theorem contract_trans31 (b1 b2 : Nat) (x : Nat → Int) (q y : Int) (h0 : 0 ≤ y) (h1 : y ≤ 15) (w : World) (hr1 : Row w b1 16 x) (hr2 : Row w b2 1 fun _ => q) :
    Calls Try.prog 124 #[.int .i64 y, .pointer (some ⟨b1, 0, none⟩), .pointer (some ⟨b2, 0, none⟩)] w fun e w' => e = .returned (.int .i64 (bor (ap x y) q)) ∧ Below w.heap.size w w' := by
  have hc1 := hr1.cell (i := y.toNat) (by omega)
  have hc2 := hr2.cell (i := 0) (by omega)
  go_enter Try.func124, Try.ntmps124
  go_wp2_with fail
  go_quiet (fail)
  go_wp2_with fail
  go_ret
  exact ⟨rfl, below_drewN (Below.refl _ _) _⟩
theorem contract_trans11 (b0 bc b1 b2 : Nat) (o : UInt8) (p : Int) (r : Nat → Int) (v : Value) (t : ByteArray) (x : Nat → Int) (q y : Int) (h0 : 0 ≤ y) (h1 : y ≤ 15) (w : World)
    (hb : w.cell? ⟨b0, 0, none⟩ = some (.pointer (some ⟨bc, 0, none⟩))) (hrec : Rec w bc o p r v t) (hr1 : Row w b1 16 x) (hr2 : Row w b2 1 fun _ => q) :
    Calls Try.prog 120 #[.int .i64 y, .pointer (some ⟨b0, 0, none⟩), .pointer (some ⟨b1, 0, none⟩), .pointer (some ⟨b2, 0, none⟩)] w fun e w' => e = .returned (.int .i64 (ifv p (ap x y) q)) ∧ Below w.heap.size w w' := by
  have hc1 := hr1.cell (i := y.toNat) (by omega)
  have hc2 := hr2.cell (i := 0) (by omega)
  have hc3 := hrec.c1
  clear hrec hr1 hr2
  go_enter Try.func120, Try.ntmps120
  go_wp2_with fail
  go_quiet (fail)
  go_wp2_with fail
  go_ret
  exact ⟨rfl, below_drewN (Below.refl _ _) _⟩
theorem contract_trans4 (b0 bc b1 b2 : Nat) (o : UInt8) (p : Int) (r : Nat → Int) (v : Value) (t : ByteArray) (x u : Nat → Int) (q : Nat) (hq : q < 16) (w : World)
    (hb : w.cell? ⟨b0, 0, none⟩ = some (.pointer (some ⟨bc, 0, none⟩))) (hrec : Rec w bc o p r v t) (hr1 : Row w b1 16 x) (hr2 : Row w b2 16 u) :
    Calls Try.prog 128 #[.int .i64 q, .pointer (some ⟨b0, 0, none⟩), .pointer (some ⟨b1, 0, none⟩), .pointer (some ⟨b2, 0, none⟩)] w fun e w' => e = .returned (.int .i64 (ifv p (x q) (u q))) ∧ Below w.heap.size w w' := by
  have hc1 := hr1.cell hq
  have hc2 := hr2.cell hq
  have hc3 := hrec.c1
  clear hrec hr1 hr2
  go_enter Try.func128, Try.ntmps128
  go_wp2_with fail
  go_quiet (fail)
  go_wp2_with fail
  go_ret
  exact ⟨rfl, below_drewN (Below.refl _ _) _⟩
theorem contract_trans2 (b1 : Nat) (x : Nat → Int) (hx : Tr x) (q : Nat) (hq : q < 16) (w : World) (hr1 : Row w b1 16 x) :
    Calls Try.prog 121 #[.int .i64 q, .pointer (some ⟨b1, 0, none⟩)] w fun e w' => e = .returned (.int .i64 (starD x q)) ∧ Below w.heap.size w w' := by
  have h1 : Row (w.alloc (.cells #[.int .i64 q] 3)) b1 16 x := hr1.alloc _
  have h2 : Row (w.alloc (.cells #[.int .i64 q] 3)) w.heap.size 1 (fun _ => (q : Int)) := Row.new w 1 (fun _ => (q : Int)) _ rfl
  have hf := impl_leastPoint 122 #[.pointer (some ⟨b1, 0, none⟩), (.pointer (some ⟨w.heap.size, 0, none⟩))] (fun y => band (ap x y) q) (mono_d hx (Cv.nat hq)) (w.alloc (.cells #[.int .i64 q] 3)) Try.call122
    (fun y w1 h0 h15 hb => contract_trans21 b1 w.heap.size x q y h0 h15 w1 (h1.go hb) (h2.go hb))
  have Hf := Lib.hid hf
  clear hf h1 h2 hr1
  go_enter Try.func121, Try.ntmps121
  go_wp2_with (go_at_call 119; refine Hf.out.mono ?_; rintro e w' ⟨rfl, hb⟩)
  go_ret
  exact ⟨rfl, bgo (ba1 w _) hb⟩
theorem contract_trans3 (b1 : Nat) (x : Nat → Int) (hx : Tr x) (q : Nat) (hq : q < 16) (w : World) (hr1 : Row w b1 16 x) :
    Calls Try.prog 123 #[.int .i64 q, .pointer (some ⟨b1, 0, none⟩)] w fun e w' => e = .returned (.int .i64 (starA x q)) ∧ Below w.heap.size w w' := by
  have h1 : Row (w.alloc (.cells #[.int .i64 q] 3)) b1 16 x := hr1.alloc _
  have h2 : Row (w.alloc (.cells #[.int .i64 q] 3)) w.heap.size 1 (fun _ => (q : Int)) := Row.new w 1 (fun _ => (q : Int)) _ rfl
  have hf := impl_leastPoint 124 #[.pointer (some ⟨b1, 0, none⟩), (.pointer (some ⟨w.heap.size, 0, none⟩))] (fun y => bor (ap x y) q) (mono_a hx (Cv.nat hq)) (w.alloc (.cells #[.int .i64 q] 3)) Try.call124
    (fun y w1 h0 h15 hb => contract_trans31 b1 w.heap.size x q y h0 h15 w1 (h1.go hb) (h2.go hb))
  have Hf := Lib.hid hf
  clear hf h1 h2 hr1
  go_enter Try.func123, Try.ntmps123
  go_wp2_with (go_at_call 119; refine Hf.out.mono ?_; rintro e w' ⟨rfl, hb⟩)
  go_ret
  exact ⟨rfl, bgo (ba1 w _) hb⟩
theorem contract_trans1 (b0 bc b1 : Nat) (o : UInt8) (p : Int) (r : Nat → Int) (v : Value) (t : ByteArray) (x : Nat → Int) (hp : Cv p) (hx : Tr x) (q : Nat) (hq : q < 16) (w : World)
    (hb : w.cell? ⟨b0, 0, none⟩ = some (.pointer (some ⟨bc, 0, none⟩))) (hrec : Rec w bc o p r v t) (hr1 : Row w b1 16 x) :
    Calls Try.prog 118 #[.int .i64 q, .pointer (some ⟨b0, 0, none⟩), .pointer (some ⟨b1, 0, none⟩)] w fun e w' => e = .returned (.int .i64 (whileT p x q)) ∧ Below w.heap.size w w' := by
  have h1 : Row (w.alloc (.cells #[.int .i64 q] 3)) b1 16 x := hr1.alloc _
  have h2 : Row (w.alloc (.cells #[.int .i64 q] 3)) w.heap.size 1 (fun _ => (q : Int)) := Row.new w 1 (fun _ => (q : Int)) _ rfl
  have h3 : Rec (w.alloc (.cells #[.int .i64 q] 3)) bc o p r v t := hrec.alloc _
  have h4 : ((w.alloc (.cells #[.int .i64 q] 3))).cell? ⟨b0, 0, none⟩ = some (.pointer (some ⟨bc, 0, none⟩)) := cell_go hb (ba1 _ _)
  have hf := impl_leastPoint 120 #[.pointer (some ⟨b0, 0, none⟩), .pointer (some ⟨b1, 0, none⟩), (.pointer (some ⟨w.heap.size, 0, none⟩))] (fun y => ifv p (ap x y) q) (mono_w hp hx (Cv.nat hq)) (w.alloc (.cells #[.int .i64 q] 3)) Try.call120
    (fun y w1 h0 h15 hb => contract_trans11 b0 bc b1 w.heap.size o p r v t x q y h0 h15 w1 (cell_go h4 hb) (h3.go hb) (h1.go hb) (h2.go hb))
  have Hf := Lib.hid hf
  clear hf h1 h2 h3 h4 hr1 hb hrec
  go_enter Try.func118, Try.ntmps118
  go_wp2_with (go_at_call 119; refine Hf.out.mono ?_; rintro e w' ⟨rfl, hb⟩)
  go_ret
  exact ⟨rfl, bgo (ba1 w _) hb⟩
end Go.Proofs.Ytfajaikkagmkeaa
