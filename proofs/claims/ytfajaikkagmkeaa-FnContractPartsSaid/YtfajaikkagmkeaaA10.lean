/-
  Contracts of the functions that read two transformers, compare them and lead states.
-/
import Derived.Test.YtfajaikkagmkeaaA4
import Derived.Test.YtfajaikkagmkeaaA7
import Derived.Test.YtfajaikkagmkeaaA9
import Derived.Test.YtfajaikkagmkeaaG1
namespace Go.Proofs.Ytfajaikkagmkeaa
open Go.RowKit Go.DC
set_option maxHeartbeats 1000000
set_option linter.unusedVariables false
set_option linter.unusedSimpArgs false

theorem trans_refined (x y : Nat → Int) (w : World) :
    Calls Try.prog 75 #[.agg (cellsF 16 x), .agg (cellsF 16 y)] w fun e w' => e = .returned (.bool (refB x y)) ∧ Below w.heap.size w w' := by
  have h0 : Row ((w.alloc (.cells (cellsF 16 x) 66)).alloc (.cells (cellsF 16 y) 66)) w.heap.size 16 x := (Row.new w 16 x _ rfl).alloc _
  have h1 : Row ((w.alloc (.cells (cellsF 16 x) 66)).alloc (.cells (cellsF 16 y) 66)) (w.heap.size + 1) 16 y := Row.new _ 16 y _ (by simp)
  have H0 := Lib.hid h0
  have H1 := Lib.hid h1
  clear h0 h1
  go_enter Try.func75, Try.ntmps75
  go_wp2_with fail
  go_loopg [6] 16 (fun gk i wr => ∃ n : Nat, n ≤ 16 ∧ gk = 16 - n ∧ i = .int .i64 n ∧ (∀ k, k < n → (bits BinOp.andNot IntKind.i64 (x k) (y k) != 0) = false) ∧ Row wr w.heap.size 16 x ∧ Row wr (w.heap.size + 1) 16 y ∧ Below w.heap.size w wr)
  case atStart => exact ⟨0, by omega, rfl, rfl, fun _ h => absurd h (Nat.not_lt_zero _), H0.out, H1.out, ba2 _ _ _⟩
  case round =>
    clear H0 H1
    obtain ⟨n, hn, rfl, rfl, ho, h0, h1, hb⟩ := hrel
    have Ho := Lib.hid ho
    clear ho
    by_cases hlt : n < 16
    · have hc0 := h0.cell hlt
      have hc1 := h1.cell hlt
      cases hv : (bits BinOp.andNot IntKind.i64 (x n) (y n) != 0)
      · go_wp2_with fail
        go_quiet (fail)
        go_wp2_with fail
        go_roundg (16 - (n + 1))
        case rel => exact ⟨n + 1, by omega, rfl, by go_num, fun k hk => if e : k = n then e ▸ hv else Ho.out k (by omega), h0, h1, below_drewN hb _⟩
        case measure => omega
      · have Hf := Lib.hid (refB_bad hlt hv)
        go_wp2_with fail
        go_quiet (fail)
        go_wp2_with fail
        go_ret
        exact ⟨by rw [Hf.out]; rfl, below_drewN hb _⟩
    · obtain rfl : n = 16 := by omega
      have Hf := Lib.hid (refB_ok Ho.out)
      go_wp2_with fail
      go_ret
      exact ⟨by rw [Hf.out]; rfl, hb⟩
theorem impl_both (k : Nat) (cap : Array Value) (F : Nat → Int) (r q : ByteArray) (w : World) (hF : Dg 16 F)
    (hf : tvB r = true → tvB q = true → ∀ w1, Below w.heap.size w w1 → Calls Try.prog k (#[.agg (cellsF 16 (dg r)), .agg (cellsF 16 (dg q))] ++ cap) w1 fun e w2 => e = .returned (.agg (cellsF 16 F)) ∧ Below w1.heap.size w1 w2)
    (hk : ∀ xs w, (callFunc k xs).run Try.prog w = .ok (.enter k xs) w) :
    Calls Try.prog 136 #[.string r, .string q, .func (.func k) #[] cap] w fun e w' => e = .returned (.tuple #[.string (orNo (tvB r && tvB q) (txt 16 F)), .bool (tvB r && tvB q)]) ∧ Below w.heap.size w w' := by
  have Hf := Lib.hid hf
  clear hf
  have Hr : ∃ b, tvB r = b := ⟨_, rfl⟩
  have Hq : ∃ b, tvB q = b := ⟨_, rfl⟩
  obtain ⟨br, hr⟩ := Hr
  obtain ⟨bq, hq⟩ := Hq
  have Hr := Lib.hid hr
  have Hq := Lib.hid hq
  clear hr hq
  go_enter Try.func136, Try.ntmps136
  go_wp2_with fail
  refine (impl_readTrans _ _).mono ?_
  rintro e w1 ⟨rfl, hb1⟩
  go_wp2_with (refine st trans16 _ _ rfl rfl _ rfl _ rfl (f := ?_) ?_ ?_; rotate_left; first | (with_reducible assumption) | (with_reducible exact Row.new4 _ _ rfl) | (with_reducible exact Row.new16 _ _ rfl) | ((with_reducible refine Row.set ?_ _ _); (with_reducible assumption)) | ((with_reducible refine Row.other ?_ ?_ _); (with_reducible assumption); (focus first | (simp; done) | (simp; omega))) | ((with_reducible refine Row.alloc ?_ _); (with_reducible assumption)) | ((with_reducible refine Row.drew ?_); (with_reducible assumption)))
  have hx : Row ((w1.alloc (.cells #[.int .i64 0, .int .i64 0, .int .i64 0, .int .i64 0, .int .i64 0, .int .i64 0, .int .i64 0, .int .i64 0, .int .i64 0, .int .i64 0, .int .i64 0, .int .i64 0, .int .i64 0, .int .i64 0, .int .i64 0, .int .i64 0] 66)).setRow w1.heap.size (cellsF 16 (rdF (tvB r) r))) w1.heap.size 16 (rdF (tvB r) r) := (Row.new16 _ _ rfl).setRow _
  have hbx : Below w.heap.size w ((w1.alloc (.cells #[.int .i64 0, .int .i64 0, .int .i64 0, .int .i64 0, .int .i64 0, .int .i64 0, .int .i64 0, .int .i64 0, .int .i64 0, .int .i64 0, .int .i64 0, .int .i64 0, .int .i64 0, .int .i64 0, .int .i64 0, .int .i64 0] 66)).setRow w1.heap.size (cellsF 16 (rdF (tvB r) r))) := below_setRow (bgo hb1 (ba1 _ _)) hb1.size _
  refine (impl_readTrans _ _).mono ?_
  rintro e w2 ⟨rfl, hb2⟩
  have hx2 := hx.go hb2
  have hb := bgo hbx hb2
  have hx3 : Row ((w2.alloc (.cells #[.int .i64 0, .int .i64 0, .int .i64 0, .int .i64 0, .int .i64 0, .int .i64 0, .int .i64 0, .int .i64 0, .int .i64 0, .int .i64 0, .int .i64 0, .int .i64 0, .int .i64 0, .int .i64 0, .int .i64 0, .int .i64 0] 66)).setRow w2.heap.size (cellsF 16 (rdF (tvB q) q))) w1.heap.size 16 (rdF (tvB r) r) := (hx2.alloc _).setRow_other (by have := hx2.lt; omega) _
  have hy : Row ((w2.alloc (.cells #[.int .i64 0, .int .i64 0, .int .i64 0, .int .i64 0, .int .i64 0, .int .i64 0, .int .i64 0, .int .i64 0, .int .i64 0, .int .i64 0, .int .i64 0, .int .i64 0, .int .i64 0, .int .i64 0, .int .i64 0, .int .i64 0] 66)).setRow w2.heap.size (cellsF 16 (rdF (tvB q) q))) w2.heap.size 16 (rdF (tvB q) q) := (Row.new16 _ _ rfl).setRow _
  have hb3 : Below w.heap.size w ((w2.alloc (.cells #[.int .i64 0, .int .i64 0, .int .i64 0, .int .i64 0, .int .i64 0, .int .i64 0, .int .i64 0, .int .i64 0, .int .i64 0, .int .i64 0, .int .i64 0, .int .i64 0, .int .i64 0, .int .i64 0, .int .i64 0, .int .i64 0] 66)).setRow w2.heap.size (cellsF 16 (rdF (tvB q) q))) := below_setRow (bgo hb (ba1 _ _)) hb.size _
  clear hx hbx hb2 hx2 hb hb1
  have e1 := Hr.out
  have e2 := Hq.out
  simp only [e1, e2] at hx3 hy hb3 ⊢
  clear e1 e2
  cases br <;> cases bq
  case true.true =>
    simp only [rdF_true] at hx3 hy hb3 ⊢
    go_wp2_with (first | (refine st trans16 _ _ rfl rfl _ rfl _ rfl (f := ?_) ?_ ?_; rotate_left; first | (with_reducible assumption) | (with_reducible exact Row.new4 _ _ rfl) | (with_reducible exact Row.new16 _ _ rfl) | ((with_reducible refine Row.set ?_ _ _); (with_reducible assumption)) | ((with_reducible refine Row.other ?_ ?_ _); (with_reducible assumption); (focus first | (simp; done) | (simp; omega))) | ((with_reducible refine Row.alloc ?_ _); (with_reducible assumption)) | ((with_reducible refine Row.drew ?_); (with_reducible assumption))) | (refine ld trans16 _ rfl rfl _ rfl (f := ?_) ?_ ?_; rotate_left; first | (with_reducible assumption) | (with_reducible exact Row.new4 _ _ rfl) | (with_reducible exact Row.new16 _ _ rfl) | ((with_reducible refine Row.set ?_ _ _); (with_reducible assumption)) | ((with_reducible refine Row.other ?_ ?_ _); (with_reducible assumption); (focus first | (simp; done) | (simp; omega))) | ((with_reducible refine Row.alloc ?_ _); (with_reducible assumption)) | ((with_reducible refine Row.drew ?_); (with_reducible assumption))))
    refine (Hf.out Hr.out Hq.out _ hb3).mono ?_
    rintro e w' ⟨rfl, hb⟩
    go_wp2_with (go_at_call 80; refine (trans_text _ hF _).mono ?_; rintro e w' ⟨rfl, hb4⟩)
    go_ret2
    exact ⟨by rw [Hr.out, Hq.out]; rfl, bgo (bgo hb3 hb) hb4⟩
  all_goals
    go_wp2_with (first | (refine st trans16 _ _ rfl rfl _ rfl _ rfl (f := ?_) ?_ ?_; rotate_left; first | (with_reducible assumption) | (with_reducible exact Row.new4 _ _ rfl) | (with_reducible exact Row.new16 _ _ rfl) | ((with_reducible refine Row.set ?_ _ _); (with_reducible assumption)) | ((with_reducible refine Row.other ?_ ?_ _); (with_reducible assumption); (focus first | (simp; done) | (simp; omega))) | ((with_reducible refine Row.alloc ?_ _); (with_reducible assumption)) | ((with_reducible refine Row.drew ?_); (with_reducible assumption))) | (refine ld trans16 _ rfl rfl _ rfl (f := ?_) ?_ ?_; rotate_left; first | (with_reducible assumption) | (with_reducible exact Row.new4 _ _ rfl) | (with_reducible exact Row.new16 _ _ rfl) | ((with_reducible refine Row.set ?_ _ _); (with_reducible assumption)) | ((with_reducible refine Row.other ?_ ?_ _); (with_reducible assumption); (focus first | (simp; done) | (simp; omega))) | ((with_reducible refine Row.alloc ?_ _); (with_reducible assumption)) | ((with_reducible refine Row.drew ?_); (with_reducible assumption))))
    go_ret2
    exact ⟨by rw [Hr.out, Hq.out]; rfl, hb3⟩
theorem impl_alone1 (k c : Nat) (fst cap : Array Value) (x y F : Nat → Int) (w : World) (hk : ∀ xs w, (callFunc k xs).run Try.prog w = .ok (.enter k xs) w) (hc : w.cell? ⟨c, 0, none⟩ = some (.func (.func k) fst cap))
    (hf : ∀ w1, Below w.heap.size w w1 → Calls Try.prog k (fst ++ #[.agg (cellsF 16 x)] ++ cap) w1 fun e w2 => e = .returned (.agg (cellsF 16 F)) ∧ Below w1.heap.size w1 w2) :
    Calls Try.prog 164 #[.agg (cellsF 16 x), .agg (cellsF 16 y), .pointer (some ⟨c, 0, none⟩)] w fun e w' => e = .returned (.agg (cellsF 16 F)) ∧ Below w.heap.size w w' := by
  have hb0 : Below w.heap.size w (((w.alloc (.cells (cellsF 16 x) 66)).alloc (.cells (cellsF 16 y) 66)).alloc (.cells #[.int .i64 0, .int .i64 0, .int .i64 0, .int .i64 0, .int .i64 0, .int .i64 0, .int .i64 0, .int .i64 0, .int .i64 0, .int .i64 0, .int .i64 0, .int .i64 0, .int .i64 0, .int .i64 0, .int .i64 0, .int .i64 0] 66)) := ba3 _ _ _ _
  have hlt := block_lt_of_cell hc
  have hcW : ((((w.alloc (.cells (cellsF 16 x) 66)).alloc (.cells (cellsF 16 y) 66)).alloc (.cells #[.int .i64 0, .int .i64 0, .int .i64 0, .int .i64 0, .int .i64 0, .int .i64 0, .int .i64 0, .int .i64 0, .int .i64 0, .int .i64 0, .int .i64 0, .int .i64 0, .int .i64 0, .int .i64 0, .int .i64 0, .int .i64 0] 66))).cell? ⟨c, 0, none⟩ = some (.func (.func k) fst cap) := by rw [hb0.cell (p := ⟨c, 0, none⟩) hlt]; exact hc
  have h1 : Row (((w.alloc (.cells (cellsF 16 x) 66)).alloc (.cells (cellsF 16 y) 66)).alloc (.cells #[.int .i64 0, .int .i64 0, .int .i64 0, .int .i64 0, .int .i64 0, .int .i64 0, .int .i64 0, .int .i64 0, .int .i64 0, .int .i64 0, .int .i64 0, .int .i64 0, .int .i64 0, .int .i64 0, .int .i64 0, .int .i64 0] 66)) w.heap.size 16 x := ((Row.new w 16 x _ rfl).alloc _).alloc _
  have h2 : Row (((w.alloc (.cells (cellsF 16 x) 66)).alloc (.cells (cellsF 16 y) 66)).alloc (.cells #[.int .i64 0, .int .i64 0, .int .i64 0, .int .i64 0, .int .i64 0, .int .i64 0, .int .i64 0, .int .i64 0, .int .i64 0, .int .i64 0, .int .i64 0, .int .i64 0, .int .i64 0, .int .i64 0, .int .i64 0, .int .i64 0] 66)) (w.heap.size + 2) 16 _ := Row.new16 _ _ (by simp)
  have Hc := Lib.hid (hf _ hb0)
  have H2 := Lib.hid h2
  clear hf hc hb0 h2 hlt
  go_enter Try.func164, Try.ntmps164
  go_wp2_with (refine ld trans16 _ rfl rfl _ rfl (f := ?_) ?_ ?_; rotate_left; first | (with_reducible assumption) | (with_reducible exact Row.new4 _ _ rfl) | (with_reducible exact Row.new16 _ _ rfl) | ((with_reducible refine Row.set ?_ _ _); (with_reducible assumption)) | ((with_reducible refine Row.other ?_ ?_ _); (with_reducible assumption); (focus first | (simp; done) | (simp; omega))) | ((with_reducible refine Row.alloc ?_ _); (with_reducible assumption)) | ((with_reducible refine Row.drew ?_); (with_reducible assumption)))
  refine Hc.out.mono ?_
  rintro e w' ⟨rfl, hb⟩
  have hr := H2.out.go hb
  go_wp2_with (refine st trans16 _ _ rfl rfl _ rfl _ rfl (f := ?_) ?_ ?_; rotate_left; first | (with_reducible assumption) | (with_reducible exact Row.new4 _ _ rfl) | (with_reducible exact Row.new16 _ _ rfl) | ((with_reducible refine Row.set ?_ _ _); (with_reducible assumption)) | ((with_reducible refine Row.other ?_ ?_ _); (with_reducible assumption); (focus first | (simp; done) | (simp; omega))) | ((with_reducible refine Row.alloc ?_ _); (with_reducible assumption)) | ((with_reducible refine Row.drew ?_); (with_reducible assumption)))
  exact ret_row trans16 rfl _ rfl (hr.setRow _) rfl ⟨rfl, below_setRow (bgo (ba3 w _ _ _) hb) (by omega) _⟩
theorem impl_alone (k : Nat) (F : Nat → Int) (r : ByteArray) (w : World) (hF : Dg 16 F)
    (hf : tvB r = true → ∀ w1, Below w.heap.size w w1 → Calls Try.prog k #[.agg (cellsF 16 (dg r))] w1 fun e w2 => e = .returned (.agg (cellsF 16 F)) ∧ Below w1.heap.size w1 w2)
    (hk : ∀ xs w, (callFunc k xs).run Try.prog w = .ok (.enter k xs) w) :
    Calls Try.prog 145 #[.string r, .func (.func k) #[] #[]] w fun e w' => e = .returned (.tuple #[.string (orNo (tvB r) (txt 16 F)), .bool (tvB r)]) ∧ Below w.heap.size w w' := by
  have hc : (w.alloc (.cells #[.func (.func k) #[] #[]] 94)).cell? ⟨w.heap.size, 0, none⟩ = some (.func (.func k) #[] #[]) := by rw [World.cell?_alloc_at _ _ _ _ rfl]; rfl
  have hb0 := impl_both 164 #[.pointer (some ⟨w.heap.size, 0, none⟩)] F r r (w.alloc (.cells #[.func (.func k) #[] #[]] 94)) hF
    (fun h _ w1 hb1 => impl_alone1 k w.heap.size #[] #[] (dg r) (dg r) F w1 hk (by rw [hb1.cell (p := ⟨w.heap.size, 0, none⟩) (by simp)]; exact hc) (fun w2 hb2 => hf h w2 (bgo (bgo (ba1 w _) hb1) hb2))) Try.call164
  rw [Bool.and_self] at hb0
  have Hb := Lib.hid hb0
  clear hb0 hf hc
  go_enter Try.func145, Try.ntmps145
  go_wp2_with (go_at_call 136; refine Hb.out.mono ?_; rintro e w' ⟨rfl, hb⟩)
  go_ret2
  exact ⟨rfl, bgo (ba1 w _) hb⟩
end Go.Proofs.Ytfajaikkagmkeaa
