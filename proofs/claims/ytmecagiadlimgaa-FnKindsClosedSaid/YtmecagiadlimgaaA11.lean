/-
  Contracts of the exported functions on transformers.
-/
import Derived.Test.YtmecagiadlimgaaA4
import Derived.Test.YtmecagiadlimgaaA7
import Derived.Test.YtmecagiadlimgaaA10
import Derived.Test.YtmecagiadlimgaaPL
namespace Go.Proofs.Ytmecagiadlimgaa
open Go.RowKit Go.DC
set_option maxHeartbeats 1000000
set_option linter.unusedVariables false
set_option linter.unusedSimpArgs false

theorem impl_ThenTrans (r q : ByteArray) (w : World) :
    Calls Try.prog 94 #[.string r, .string q] w fun e w' => e = .returned (.tuple #[.string (orNo (tvB r && tvB q) (txt 16 (thenT (dg r) (dg q)))), .bool (tvB r && tvB q)]) ∧ Below w.heap.size w w' := by
  cases hv : (tvB r && tvB q)
  case false =>
    have hf := impl_both 131 #[] (fun _ => 0) r q w (Dg_zero 16) (fun h h2 w1 _ => by simp [h, h2] at hv) Try.call131
    rw [hv] at hf
    have Hf := Lib.hid hf
    clear hf hv
    go_enter Try.func94, Try.ntmps94
    go_wp2_with (go_at_call 142; refine Hf.out.mono ?_; rintro e w' ⟨rfl, hb⟩)
    go_ret2
    exact ⟨rfl, hb⟩
  case true =>
    have hd : Dg 16 (dg r) ∧ Dg 16 (dg q) := by rw [Bool.and_eq_true] at hv; exact ⟨tvB_Dg hv.1, tvB_Dg hv.2⟩
    have hf := impl_both 131 #[] (thenT (dg r) (dg q)) r q w (thenT_Dg hd.1 hd.2) (fun h h2 w1 _ => trans_then _ _ (tvB_Dg h2) w1) Try.call131
    rw [hv] at hf
    have Hf := Lib.hid hf
    clear hf hv hd
    go_enter Try.func94, Try.ntmps94
    go_wp2_with (go_at_call 142; refine Hf.out.mono ?_; rintro e w' ⟨rfl, hb⟩)
    go_ret2
    exact ⟨rfl, hb⟩
theorem impl_MeetTrans (r q : ByteArray) (w : World) :
    Calls Try.prog 95 #[.string r, .string q] w fun e w' => e = .returned (.tuple #[.string (orNo (tvB r && tvB q) (txt 16 (meetT (dg r) (dg q)))), .bool (tvB r && tvB q)]) ∧ Below w.heap.size w w' := by
  cases hv : (tvB r && tvB q)
  case false =>
    have hf := impl_both 143 #[] (fun _ => 0) r q w (Dg_zero 16) (fun h h2 w1 _ => by simp [h, h2] at hv) Try.call143
    rw [hv] at hf
    have Hf := Lib.hid hf
    clear hf hv
    go_enter Try.func95, Try.ntmps95
    go_wp2_with (go_at_call 142; refine Hf.out.mono ?_; rintro e w' ⟨rfl, hb⟩)
    go_ret2
    exact ⟨rfl, hb⟩
  case true =>
    have hd : Dg 16 (dg r) ∧ Dg 16 (dg q) := by rw [Bool.and_eq_true] at hv; exact ⟨tvB_Dg hv.1, tvB_Dg hv.2⟩
    have hf := impl_both 143 #[] (meetT (dg r) (dg q)) r q w (meetT_Dg hd.1 hd.2) (fun h h2 w1 _ => trans_meet _ _ (tvB_Dg h2) w1) Try.call143
    rw [hv] at hf
    have Hf := Lib.hid hf
    clear hf hv hd
    go_enter Try.func95, Try.ntmps95
    go_wp2_with (go_at_call 142; refine Hf.out.mono ?_; rintro e w' ⟨rfl, hb⟩)
    go_ret2
    exact ⟨rfl, hb⟩
theorem impl_JoinTrans (r q : ByteArray) (w : World) :
    Calls Try.prog 97 #[.string r, .string q] w fun e w' => e = .returned (.tuple #[.string (orNo (tvB r && tvB q) (txt 16 (joinT (dg r) (dg q)))), .bool (tvB r && tvB q)]) ∧ Below w.heap.size w w' := by
  cases hv : (tvB r && tvB q)
  case false =>
    have hf := impl_both 145 #[] (fun _ => 0) r q w (Dg_zero 16) (fun h h2 w1 _ => by simp [h, h2] at hv) Try.call145
    rw [hv] at hf
    have Hf := Lib.hid hf
    clear hf hv
    go_enter Try.func97, Try.ntmps97
    go_wp2_with (go_at_call 142; refine Hf.out.mono ?_; rintro e w' ⟨rfl, hb⟩)
    go_ret2
    exact ⟨rfl, hb⟩
  case true =>
    have hd : Dg 16 (dg r) ∧ Dg 16 (dg q) := by rw [Bool.and_eq_true] at hv; exact ⟨tvB_Dg hv.1, tvB_Dg hv.2⟩
    have hf := impl_both 145 #[] (joinT (dg r) (dg q)) r q w (joinT_Dg hd.1 hd.2) (fun h h2 w1 _ => trans_join _ _ (tvB_Dg h2) w1) Try.call145
    rw [hv] at hf
    have Hf := Lib.hid hf
    clear hf hv hd
    go_enter Try.func97, Try.ntmps97
    go_wp2_with (go_at_call 142; refine Hf.out.mono ?_; rintro e w' ⟨rfl, hb⟩)
    go_ret2
    exact ⟨rfl, hb⟩
theorem impl_DualTrans (r : ByteArray) (w : World) :
    Calls Try.prog 76 #[.string r] w fun e w' => e = .returned (.tuple #[.string (orNo (tvB r) (txt 16 (dual (dg r)))), .bool (tvB r)]) ∧ Below w.heap.size w w' := by
  cases hv : tvB r
  case false =>
    have hf := impl_alone 110 (fun _ => 0) r w (Dg_zero 16) (fun h w1 _ => by simp [h] at hv) Try.call110
    rw [hv] at hf
    have Hf := Lib.hid hf
    clear hf hv
    go_enter Try.func76, Try.ntmps76
    go_wp2_with (go_at_call 106; refine Hf.out.mono ?_; rintro e w' ⟨rfl, hb⟩)
    go_ret2
    exact ⟨rfl, hb⟩
  case true =>
    have hd := tvB_Dg hv
    have hf := impl_alone 110 (dual (dg r)) r w (dual_Dg hd) (fun h w1 _ => trans_dual (dg r) w1) Try.call110
    rw [hv] at hf
    have Hf := Lib.hid hf
    clear hf hv hd
    go_enter Try.func76, Try.ntmps76
    go_wp2_with (go_at_call 106; refine Hf.out.mono ?_; rintro e w' ⟨rfl, hb⟩)
    go_ret2
    exact ⟨rfl, hb⟩
theorem impl_AngelTrans (r : ByteArray) (w : World) :
    Calls Try.prog 60 #[.string r] w fun e w' => e = .returned (.tuple #[.string (orNo (dvB 4 r) (txt 16 (angelT (dg r)))), .bool (dvB 4 r)]) ∧ Below w.heap.size w w' := by
  cases hr : dvB 4 r
  all_goals
    have Hr := Lib.hid hr
    have hbx := fun (w1 : World) (hb1 : Below w.heap.size w w1) => below_setRow (bgo hb1 (ba1 w1 (.cells #[.int .i64 0, .int .i64 0, .int .i64 0, .int .i64 0] 59))) hb1.size (cellsF 4 (rdF (dvB 4 r) r))
    have hx := fun (w1 : World) => (show Row ((w1.alloc (.cells #[.int .i64 0, .int .i64 0, .int .i64 0, .int .i64 0] 59)).setRow w1.heap.size (cellsF 4 (rdF (dvB 4 r) r))) w1.heap.size 4 (rdF (dvB 4 r) r) from (Row.new4 _ _ rfl).setRow _)
    rw [hr] at hbx hx
    have Hb := Lib.hid hbx
    have Hx := Lib.hid hx
    clear hbx hx hr
    go_enter Try.func60, Try.ntmps60
    go_wp2_with fail
    refine (impl_readRel _ _).mono ?_
    rintro e w1 ⟨rfl, hb1⟩
    rw [Hr.out]
    have hb2 := Hb.out w1 hb1
    have hx2 := Hx.out w1
    clear hb1
    try simp only [rdF_true] at hb2 hx2 ⊢
    go_wp2_with (first | (refine st rel4 _ _ rfl rfl _ rfl _ rfl (f := ?_) ?_ ?_; rotate_left; first | (with_reducible assumption) | (with_reducible exact Row.new4 _ _ rfl) | (with_reducible exact Row.new16 _ _ rfl) | ((with_reducible refine Row.set ?_ _ _); (with_reducible assumption)) | ((with_reducible refine Row.other ?_ ?_ _); (with_reducible assumption); (focus first | (simp; done) | (simp; omega))) | ((with_reducible refine Row.alloc ?_ _); (with_reducible assumption)) | ((with_reducible refine Row.drew ?_); (with_reducible assumption))) | (refine ld rel4 _ rfl rfl _ rfl (f := ?_) ?_ ?_; rotate_left; first | (with_reducible assumption) | (with_reducible exact Row.new4 _ _ rfl) | (with_reducible exact Row.new16 _ _ rfl) | ((with_reducible refine Row.set ?_ _ _); (with_reducible assumption)) | ((with_reducible refine Row.other ?_ ?_ _); (with_reducible assumption); (focus first | (simp; done) | (simp; omega))) | ((with_reducible refine Row.alloc ?_ _); (with_reducible assumption)) | ((with_reducible refine Row.drew ?_); (with_reducible assumption))) | (go_at_call 115; refine (impl_angel _ _).mono ?_; rintro e w' ⟨rfl, hb⟩) | (go_at_call 81; refine (trans_text _ (angelT_Dg _ 16) _).mono ?_; rintro e w3 ⟨rfl, hb3⟩))
    go_ret2
    first
      | exact ⟨rfl, bgo (bgo hb2 hb) hb3⟩
      | exact ⟨rfl, hb2⟩
theorem impl_DemonTrans (r : ByteArray) (w : World) :
    Calls Try.prog 62 #[.string r] w fun e w' => e = .returned (.tuple #[.string (orNo (dvB 4 r) (txt 16 (demonT (dg r)))), .bool (dvB 4 r)]) ∧ Below w.heap.size w w' := by
  cases hr : dvB 4 r
  all_goals
    have Hr := Lib.hid hr
    have hbx := fun (w1 : World) (hb1 : Below w.heap.size w w1) => below_setRow (bgo hb1 (ba1 w1 (.cells #[.int .i64 0, .int .i64 0, .int .i64 0, .int .i64 0] 59))) hb1.size (cellsF 4 (rdF (dvB 4 r) r))
    have hx := fun (w1 : World) => (show Row ((w1.alloc (.cells #[.int .i64 0, .int .i64 0, .int .i64 0, .int .i64 0] 59)).setRow w1.heap.size (cellsF 4 (rdF (dvB 4 r) r))) w1.heap.size 4 (rdF (dvB 4 r) r) from (Row.new4 _ _ rfl).setRow _)
    rw [hr] at hbx hx
    have Hb := Lib.hid hbx
    have Hx := Lib.hid hx
    clear hbx hx hr
    go_enter Try.func62, Try.ntmps62
    go_wp2_with fail
    refine (impl_readRel _ _).mono ?_
    rintro e w1 ⟨rfl, hb1⟩
    rw [Hr.out]
    have hb2 := Hb.out w1 hb1
    have hx2 := Hx.out w1
    clear hb1
    try simp only [rdF_true] at hb2 hx2 ⊢
    go_wp2_with (first | (refine st rel4 _ _ rfl rfl _ rfl _ rfl (f := ?_) ?_ ?_; rotate_left; first | (with_reducible assumption) | (with_reducible exact Row.new4 _ _ rfl) | (with_reducible exact Row.new16 _ _ rfl) | ((with_reducible refine Row.set ?_ _ _); (with_reducible assumption)) | ((with_reducible refine Row.other ?_ ?_ _); (with_reducible assumption); (focus first | (simp; done) | (simp; omega))) | ((with_reducible refine Row.alloc ?_ _); (with_reducible assumption)) | ((with_reducible refine Row.drew ?_); (with_reducible assumption))) | (refine ld rel4 _ rfl rfl _ rfl (f := ?_) ?_ ?_; rotate_left; first | (with_reducible assumption) | (with_reducible exact Row.new4 _ _ rfl) | (with_reducible exact Row.new16 _ _ rfl) | ((with_reducible refine Row.set ?_ _ _); (with_reducible assumption)) | ((with_reducible refine Row.other ?_ ?_ _); (with_reducible assumption); (focus first | (simp; done) | (simp; omega))) | ((with_reducible refine Row.alloc ?_ _); (with_reducible assumption)) | ((with_reducible refine Row.drew ?_); (with_reducible assumption))) | (go_at_call 117; refine (impl_demon _ _).mono ?_; rintro e w' ⟨rfl, hb⟩) | (go_at_call 81; refine (trans_text _ (demonT_Dg _ 16) _).mono ?_; rintro e w3 ⟨rfl, hb3⟩))
    go_ret2
    first
      | exact ⟨rfl, bgo (bgo hb2 hb) hb3⟩
      | exact ⟨rfl, hb2⟩
theorem impl_AngelRelOf (r : ByteArray) (w : World) :
    Calls Try.prog 69 #[.string r] w fun e w' => e = .returned (.tuple #[.string (orNo (tvB r && disjB (dg r) && (dg r 0 == 0)) (txt 4 fun s => mk 4 fun t => hasb (dg r (2 ^ t)) s)), .bool (tvB r && disjB (dg r) && (dg r 0 == 0))]) ∧ Below w.heap.size w w' := by
  cases hr : tvB r <;> cases h1 : disjB (dg r) <;> cases h2 : (dg r 0 == 0)
  all_goals
    have Hr := Lib.hid hr
    have H1 := Lib.hid h1
    have hbx := fun (w1 : World) (hb1 : Below w.heap.size w w1) => below_setRow (bgo hb1 (ba1 w1 (.cells #[.int .i64 0, .int .i64 0, .int .i64 0, .int .i64 0, .int .i64 0, .int .i64 0, .int .i64 0, .int .i64 0, .int .i64 0, .int .i64 0, .int .i64 0, .int .i64 0, .int .i64 0, .int .i64 0, .int .i64 0, .int .i64 0] 53))) hb1.size (cellsF 16 (rdF (tvB r) r))
    have hx := fun (w1 : World) => (show Row ((w1.alloc (.cells #[.int .i64 0, .int .i64 0, .int .i64 0, .int .i64 0, .int .i64 0, .int .i64 0, .int .i64 0, .int .i64 0, .int .i64 0, .int .i64 0, .int .i64 0, .int .i64 0, .int .i64 0, .int .i64 0, .int .i64 0, .int .i64 0] 53)).setRow w1.heap.size (cellsF 16 (rdF (tvB r) r))) w1.heap.size 16 (rdF (tvB r) r) from (Row.new16 _ _ rfl).setRow _)
    rw [hr] at hbx hx
    have Hb := Lib.hid hbx
    have Hx := Lib.hid hx
    have h3 : (dg r 0 != 0) = !(dg r 0 == 0) := rfl
    rw [h2] at h3
    clear hbx hx hr h1
    go_enter Try.func69, Try.ntmps69
    go_wp2_with fail
    refine (impl_readTrans _ _).mono ?_
    rintro e w1 ⟨rfl, hb1⟩
    rw [Hr.out]
    have hb2 := Hb.out w1 hb1
    have hx2 := Hx.out w1
    clear hb1
    try simp only [rdF_true] at hb2 hx2 ⊢
  all_goals
    go_wp2_with (first | (refine st trans16 _ _ rfl rfl _ rfl _ rfl (f := ?_) ?_ ?_; rotate_left; first | (with_reducible assumption) | (with_reducible exact Row.new4 _ _ rfl) | (with_reducible exact Row.new16 _ _ rfl) | ((with_reducible refine Row.set ?_ _ _); (with_reducible assumption)) | ((with_reducible refine Row.other ?_ ?_ _); (with_reducible assumption); (focus first | (simp; done) | (simp; omega))) | ((with_reducible refine Row.alloc ?_ _); (with_reducible assumption)) | ((with_reducible refine Row.drew ?_); (with_reducible assumption))) | (refine ld trans16 _ rfl rfl _ rfl (f := ?_) ?_ ?_; rotate_left; first | (with_reducible assumption) | (with_reducible exact Row.new4 _ _ rfl) | (with_reducible exact Row.new16 _ _ rfl) | ((with_reducible refine Row.set ?_ _ _); (with_reducible assumption)) | ((with_reducible refine Row.other ?_ ?_ _); (with_reducible assumption); (focus first | (simp; done) | (simp; omega))) | ((with_reducible refine Row.alloc ?_ _); (with_reducible assumption)) | ((with_reducible refine Row.drew ?_); (with_reducible assumption))))
    first
      | (go_ret2; exact ⟨rfl, hb2⟩)
      | skip
  all_goals
    have hd := tvB_Dg Hr.out
    refine (trans_disjunctive _ hd _).mono ?_
    rintro e w2 ⟨rfl, hb3⟩
    rw [H1.out]
    have hx3 := hx2.go hb3
    have hb4 := bgo hb2 hb3
    have hc := hx3.cell (i := 0) (by omega)
    clear hb3 hx2 hb2
    go_wp2_with fail
    first
      | (go_ret2; exact ⟨rfl, hb4⟩)
      | skip
  have hf := impl_makeRel 122 #[.pointer (some ⟨w1.heap.size, 0, none⟩)] (fun s t => hasb (dg r (2 ^ t)) s) w2 Try.call122
    (fun s t w3 hs ht hb => impl_AngelRelOf1 _ (dg r) hd s t hs ht w3 (hx3.go hb))
  refine hf.mono ?_
  rintro e w3 ⟨rfl, hb5⟩
  clear hf
  go_wp2_with (go_at_call 89; refine (rel_text _ (fun _ _ => ⟨mk4_ge _, mk4_le _⟩) _).mono ?_; rintro e w4 ⟨rfl, hb6⟩)
  go_ret2
  exact ⟨rfl, bgo (bgo hb4 hb5) hb6⟩
end Go.Proofs.Ytmecagiadlimgaa
