/-
  Contracts of the exported functions on transformers.
-/
import Derived.Test.YtfajaikkagmkeaaA4
import Derived.Test.YtfajaikkagmkeaaA7
import Derived.Test.YtfajaikkagmkeaaA10
import Derived.Test.YtfajaikkagmkeaaG1
namespace Go.Proofs.Ytfajaikkagmkeaa
open Go.RowKit Go.DC
set_option maxHeartbeats 1000000
set_option linter.unusedVariables false
set_option linter.unusedSimpArgs false

theorem impl_ThenTrans (r q : ByteArray) (w : World) :
    Calls Try.prog 85 #[.string r, .string q] w fun e w' => e = .returned (.tuple #[.string (orNo (tvB r && tvB q) (txt 16 (thenT (dg r) (dg q)))), .bool (tvB r && tvB q)]) ∧ Below w.heap.size w w' := by
  cases hv : (tvB r && tvB q)
  case false =>
    have hf := impl_both 125 #[] (fun _ => 0) r q w (Dg_zero 16) (fun h h2 w1 _ => by simp [h, h2] at hv) Try.call125
    rw [hv] at hf
    have Hf := Lib.hid hf
    clear hf hv
    go_enter Try.func85, Try.ntmps85
    go_wp2_with (go_at_call 136; refine Hf.out.mono ?_; rintro e w' ⟨rfl, hb⟩)
    go_ret2
    exact ⟨rfl, hb⟩
  case true =>
    have hd : Dg 16 (dg r) ∧ Dg 16 (dg q) := by rw [Bool.and_eq_true] at hv; exact ⟨tvB_Dg hv.1, tvB_Dg hv.2⟩
    have hf := impl_both 125 #[] (thenT (dg r) (dg q)) r q w (thenT_Dg hd.1 hd.2) (fun h h2 w1 _ => trans_then _ _ (tvB_Dg h2) w1) Try.call125
    rw [hv] at hf
    have Hf := Lib.hid hf
    clear hf hv hd
    go_enter Try.func85, Try.ntmps85
    go_wp2_with (go_at_call 136; refine Hf.out.mono ?_; rintro e w' ⟨rfl, hb⟩)
    go_ret2
    exact ⟨rfl, hb⟩
theorem impl_MeetTrans (r q : ByteArray) (w : World) :
    Calls Try.prog 86 #[.string r, .string q] w fun e w' => e = .returned (.tuple #[.string (orNo (tvB r && tvB q) (txt 16 (meetT (dg r) (dg q)))), .bool (tvB r && tvB q)]) ∧ Below w.heap.size w w' := by
  cases hv : (tvB r && tvB q)
  case false =>
    have hf := impl_both 126 #[] (fun _ => 0) r q w (Dg_zero 16) (fun h h2 w1 _ => by simp [h, h2] at hv) Try.call126
    rw [hv] at hf
    have Hf := Lib.hid hf
    clear hf hv
    go_enter Try.func86, Try.ntmps86
    go_wp2_with (go_at_call 136; refine Hf.out.mono ?_; rintro e w' ⟨rfl, hb⟩)
    go_ret2
    exact ⟨rfl, hb⟩
  case true =>
    have hd : Dg 16 (dg r) ∧ Dg 16 (dg q) := by rw [Bool.and_eq_true] at hv; exact ⟨tvB_Dg hv.1, tvB_Dg hv.2⟩
    have hf := impl_both 126 #[] (meetT (dg r) (dg q)) r q w (meetT_Dg hd.1 hd.2) (fun h h2 w1 _ => trans_meet _ _ (tvB_Dg h2) w1) Try.call126
    rw [hv] at hf
    have Hf := Lib.hid hf
    clear hf hv hd
    go_enter Try.func86, Try.ntmps86
    go_wp2_with (go_at_call 136; refine Hf.out.mono ?_; rintro e w' ⟨rfl, hb⟩)
    go_ret2
    exact ⟨rfl, hb⟩
theorem impl_JoinTrans (r q : ByteArray) (w : World) :
    Calls Try.prog 87 #[.string r, .string q] w fun e w' => e = .returned (.tuple #[.string (orNo (tvB r && tvB q) (txt 16 (joinT (dg r) (dg q)))), .bool (tvB r && tvB q)]) ∧ Below w.heap.size w w' := by
  cases hv : (tvB r && tvB q)
  case false =>
    have hf := impl_both 127 #[] (fun _ => 0) r q w (Dg_zero 16) (fun h h2 w1 _ => by simp [h, h2] at hv) Try.call127
    rw [hv] at hf
    have Hf := Lib.hid hf
    clear hf hv
    go_enter Try.func87, Try.ntmps87
    go_wp2_with (go_at_call 136; refine Hf.out.mono ?_; rintro e w' ⟨rfl, hb⟩)
    go_ret2
    exact ⟨rfl, hb⟩
  case true =>
    have hd : Dg 16 (dg r) ∧ Dg 16 (dg q) := by rw [Bool.and_eq_true] at hv; exact ⟨tvB_Dg hv.1, tvB_Dg hv.2⟩
    have hf := impl_both 127 #[] (joinT (dg r) (dg q)) r q w (joinT_Dg hd.1 hd.2) (fun h h2 w1 _ => trans_join _ _ (tvB_Dg h2) w1) Try.call127
    rw [hv] at hf
    have Hf := Lib.hid hf
    clear hf hv hd
    go_enter Try.func87, Try.ntmps87
    go_wp2_with (go_at_call 136; refine Hf.out.mono ?_; rintro e w' ⟨rfl, hb⟩)
    go_ret2
    exact ⟨rfl, hb⟩
theorem impl_DualTrans (r : ByteArray) (w : World) :
    Calls Try.prog 97 #[.string r] w fun e w' => e = .returned (.tuple #[.string (orNo (tvB r) (txt 16 (dual (dg r)))), .bool (tvB r)]) ∧ Below w.heap.size w w' := by
  cases hv : tvB r
  case false =>
    have hf := impl_alone 146 (fun _ => 0) r w (Dg_zero 16) (fun h w1 _ => by simp [h] at hv) Try.call146
    rw [hv] at hf
    have Hf := Lib.hid hf
    clear hf hv
    go_enter Try.func97, Try.ntmps97
    go_wp2_with (go_at_call 145; refine Hf.out.mono ?_; rintro e w' ⟨rfl, hb⟩)
    go_ret2
    exact ⟨rfl, hb⟩
  case true =>
    have hd := tvB_Dg hv
    have hf := impl_alone 146 (dual (dg r)) r w (dual_Dg hd) (fun h w1 _ => trans_dual (dg r) w1) Try.call146
    rw [hv] at hf
    have Hf := Lib.hid hf
    clear hf hv hd
    go_enter Try.func97, Try.ntmps97
    go_wp2_with (go_at_call 145; refine Hf.out.mono ?_; rintro e w' ⟨rfl, hb⟩)
    go_ret2
    exact ⟨rfl, hb⟩
theorem impl_AngelTrans (r : ByteArray) (w : World) :
    Calls Try.prog 32 #[.string r] w fun e w' => e = .returned (.tuple #[.string (orNo (dvB 4 r) (txt 16 (angelT (dg r)))), .bool (dvB 4 r)]) ∧ Below w.heap.size w w' := by
  cases hr : dvB 4 r
  all_goals
    have Hr := Lib.hid hr
    have hbx := fun (w1 : World) (hb1 : Below w.heap.size w w1) => below_setRow (bgo hb1 (ba1 w1 (.cells #[.int .i64 0, .int .i64 0, .int .i64 0, .int .i64 0] 60))) hb1.size (cellsF 4 (rdF (dvB 4 r) r))
    have hx := fun (w1 : World) => (show Row ((w1.alloc (.cells #[.int .i64 0, .int .i64 0, .int .i64 0, .int .i64 0] 60)).setRow w1.heap.size (cellsF 4 (rdF (dvB 4 r) r))) w1.heap.size 4 (rdF (dvB 4 r) r) from (Row.new4 _ _ rfl).setRow _)
    rw [hr] at hbx hx
    have Hb := Lib.hid hbx
    have Hx := Lib.hid hx
    clear hbx hx hr
    go_enter Try.func32, Try.ntmps32
    go_wp2_with fail
    refine (impl_readRel _ _).mono ?_
    rintro e w1 ⟨rfl, hb1⟩
    rw [Hr.out]
    have hb2 := Hb.out w1 hb1
    have hx2 := Hx.out w1
    clear hb1
    try simp only [rdF_true] at hb2 hx2 ⊢
    go_wp2_with (first | (refine st rel4 _ _ rfl rfl _ rfl _ rfl (f := ?_) ?_ ?_; rotate_left; first | (with_reducible assumption) | (with_reducible exact Row.new4 _ _ rfl) | (with_reducible exact Row.new16 _ _ rfl) | ((with_reducible refine Row.set ?_ _ _); (with_reducible assumption)) | ((with_reducible refine Row.other ?_ ?_ _); (with_reducible assumption); (focus first | (simp; done) | (simp; omega))) | ((with_reducible refine Row.alloc ?_ _); (with_reducible assumption)) | ((with_reducible refine Row.drew ?_); (with_reducible assumption))) | (refine ld rel4 _ rfl rfl _ rfl (f := ?_) ?_ ?_; rotate_left; first | (with_reducible assumption) | (with_reducible exact Row.new4 _ _ rfl) | (with_reducible exact Row.new16 _ _ rfl) | ((with_reducible refine Row.set ?_ _ _); (with_reducible assumption)) | ((with_reducible refine Row.other ?_ ?_ _); (with_reducible assumption); (focus first | (simp; done) | (simp; omega))) | ((with_reducible refine Row.alloc ?_ _); (with_reducible assumption)) | ((with_reducible refine Row.drew ?_); (with_reducible assumption))) | (go_at_call 83; refine (impl_angel _ _).mono ?_; rintro e w' ⟨rfl, hb⟩) | (go_at_call 80; refine (trans_text _ (angelT_Dg _ 16) _).mono ?_; rintro e w3 ⟨rfl, hb3⟩))
    go_ret2
    first
      | exact ⟨rfl, bgo (bgo hb2 hb) hb3⟩
      | exact ⟨rfl, hb2⟩
theorem impl_DemonTrans (r : ByteArray) (w : World) :
    Calls Try.prog 33 #[.string r] w fun e w' => e = .returned (.tuple #[.string (orNo (dvB 4 r) (txt 16 (demonT (dg r)))), .bool (dvB 4 r)]) ∧ Below w.heap.size w w' := by
  cases hr : dvB 4 r
  all_goals
    have Hr := Lib.hid hr
    have hbx := fun (w1 : World) (hb1 : Below w.heap.size w w1) => below_setRow (bgo hb1 (ba1 w1 (.cells #[.int .i64 0, .int .i64 0, .int .i64 0, .int .i64 0] 60))) hb1.size (cellsF 4 (rdF (dvB 4 r) r))
    have hx := fun (w1 : World) => (show Row ((w1.alloc (.cells #[.int .i64 0, .int .i64 0, .int .i64 0, .int .i64 0] 60)).setRow w1.heap.size (cellsF 4 (rdF (dvB 4 r) r))) w1.heap.size 4 (rdF (dvB 4 r) r) from (Row.new4 _ _ rfl).setRow _)
    rw [hr] at hbx hx
    have Hb := Lib.hid hbx
    have Hx := Lib.hid hx
    clear hbx hx hr
    go_enter Try.func33, Try.ntmps33
    go_wp2_with fail
    refine (impl_readRel _ _).mono ?_
    rintro e w1 ⟨rfl, hb1⟩
    rw [Hr.out]
    have hb2 := Hb.out w1 hb1
    have hx2 := Hx.out w1
    clear hb1
    try simp only [rdF_true] at hb2 hx2 ⊢
    go_wp2_with (first | (refine st rel4 _ _ rfl rfl _ rfl _ rfl (f := ?_) ?_ ?_; rotate_left; first | (with_reducible assumption) | (with_reducible exact Row.new4 _ _ rfl) | (with_reducible exact Row.new16 _ _ rfl) | ((with_reducible refine Row.set ?_ _ _); (with_reducible assumption)) | ((with_reducible refine Row.other ?_ ?_ _); (with_reducible assumption); (focus first | (simp; done) | (simp; omega))) | ((with_reducible refine Row.alloc ?_ _); (with_reducible assumption)) | ((with_reducible refine Row.drew ?_); (with_reducible assumption))) | (refine ld rel4 _ rfl rfl _ rfl (f := ?_) ?_ ?_; rotate_left; first | (with_reducible assumption) | (with_reducible exact Row.new4 _ _ rfl) | (with_reducible exact Row.new16 _ _ rfl) | ((with_reducible refine Row.set ?_ _ _); (with_reducible assumption)) | ((with_reducible refine Row.other ?_ ?_ _); (with_reducible assumption); (focus first | (simp; done) | (simp; omega))) | ((with_reducible refine Row.alloc ?_ _); (with_reducible assumption)) | ((with_reducible refine Row.drew ?_); (with_reducible assumption))) | (go_at_call 84; refine (impl_demon _ _).mono ?_; rintro e w' ⟨rfl, hb⟩) | (go_at_call 80; refine (trans_text _ (demonT_Dg _ 16) _).mono ?_; rintro e w3 ⟨rfl, hb3⟩))
    go_ret2
    first
      | exact ⟨rfl, bgo (bgo hb2 hb) hb3⟩
      | exact ⟨rfl, hb2⟩
end Go.Proofs.Ytfajaikkagmkeaa
