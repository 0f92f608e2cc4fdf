/-
  The contract of the program's transformer of a contract.
-/
import Derived.Test.YtfajaikkagmkeaaC4
namespace Go.Proofs.Ytfajaikkagmkeaa
open Go.RowKit Go.DC
set_option maxHeartbeats 4000000
set_option linter.unusedVariables false
set_option linter.unusedSimpArgs false

theorem contract_trans (n : Nat) : ∀ (t : Ct) (b : Nat) (w : World), t.wf = true → t.tx.length ≤ n → Held w t b →
    Calls Try.prog 73 #[.pointer (some ⟨b, 0, none⟩)] w fun e w' => e = .returned (.agg (cellsF 16 (tr t))) ∧ Below w.heap.size w w' := by
  induction n with
  | zero => intro t b w _ h; exact absurd h (by have := t.tx_pos; omega)
  | succ n ih =>
    have Ih := Lib.hid ih
    clear ih
    intro t b w hw hl hh
    have hB : Row ((w.alloc (.cells #[.pointer (some ⟨b, 0, none⟩)] 54)).alloc (.cells #[.int .i64 0, .int .i64 0, .int .i64 0, .int .i64 0, .int .i64 0, .int .i64 0, .int .i64 0, .int .i64 0, .int .i64 0, .int .i64 0, .int .i64 0, .int .i64 0, .int .i64 0, .int .i64 0, .int .i64 0, .int .i64 0] 66)) (w.heap.size + 1) 16 (fun _ => 0) := Row.new16 _ _ (by simp)
    have HB := Lib.hid hB
    have Hb := Lib.hid (show Below w.heap.size w ((w.alloc (.cells #[.pointer (some ⟨b, 0, none⟩)] 54)).alloc (.cells #[.int .i64 0, .int .i64 0, .int .i64 0, .int .i64 0, .int .i64 0, .int .i64 0, .int .i64 0, .int .i64 0, .int .i64 0, .int .i64 0, .int .i64 0, .int .i64 0, .int .i64 0, .int .i64 0, .int .i64 0, .int .i64 0] 66)) from ba2 _ _ _)
    clear hB
    cases t with
    | z o d =>
      obtain ⟨hs, hd⟩ := Ct.wf_z hw
      have hrW := Rec.go hh Hb.out
      have hlt := Rec.lt hh
      have Hd := Lib.hid hd
      clear hw hl hh hd
      rcases shp0 hs with ⟨rfl, hl⟩ | ⟨rfl, hl⟩ | ⟨rfl, hl⟩ | ⟨rfl, hl⟩ | ⟨rfl, hl⟩ | ⟨rfl, hl⟩ | ⟨rfl, hl⟩
      · have hc0 : (((w.alloc (.cells #[.pointer (some ⟨b, 0, none⟩)] 54)).alloc (.cells #[.int .i64 0, .int .i64 0, .int .i64 0, .int .i64 0, .int .i64 0, .int .i64 0, .int .i64 0, .int .i64 0, .int .i64 0, .int .i64 0, .int .i64 0, .int .i64 0, .int .i64 0, .int .i64 0, .int .i64 0, .int .i64 0] 66))).cell? ⟨b, 0, none⟩ = some (.int .u8 115) := hrW.c0
        clear hrW hs hl
        go_enter Try.func73, Try.ntmps73
        go_wp2_with fail
        refine (impl_assert 15 _).mono ?_
        rintro e w2 ⟨rfl, hb⟩
        have hB2 := HB.out.go hb
        have Hb2 := Lib.hid (bgo Hb.out hb)
        clear hb
        go_wp2_with (refine st trans16 _ _ rfl rfl _ rfl _ rfl (f := ?_) ?_ ?_; rotate_left; first | (with_reducible assumption) | (with_reducible exact Row.new4 _ _ rfl) | (with_reducible exact Row.new16 _ _ rfl) | ((with_reducible refine Row.set ?_ _ _); (with_reducible assumption)) | ((with_reducible refine Row.other ?_ ?_ _); (with_reducible assumption); (focus first | (simp; done) | (simp; omega))) | ((with_reducible refine Row.alloc ?_ _); (with_reducible assumption)) | ((with_reducible refine Row.drew ?_); (with_reducible assumption)))
        exact ret_row trans16 rfl _ rfl (hB2.setRow _) rfl ⟨rfl, below_setRow Hb2.out (by omega) _⟩
      · have hc0 : (((w.alloc (.cells #[.pointer (some ⟨b, 0, none⟩)] 54)).alloc (.cells #[.int .i64 0, .int .i64 0, .int .i64 0, .int .i64 0, .int .i64 0, .int .i64 0, .int .i64 0, .int .i64 0, .int .i64 0, .int .i64 0, .int .i64 0, .int .i64 0, .int .i64 0, .int .i64 0, .int .i64 0, .int .i64 0] 66))).cell? ⟨b, 0, none⟩ = some (.int .u8 97) := hrW.c0
        clear hrW hs hl
        go_enter Try.func73, Try.ntmps73
        go_wp2_with fail
        refine (impl_assert 0 _).mono ?_
        rintro e w2 ⟨rfl, hb⟩
        have hB2 := HB.out.go hb
        have Hb2 := Lib.hid (bgo Hb.out hb)
        clear hb
        go_wp2_with (refine st trans16 _ _ rfl rfl _ rfl _ rfl (f := ?_) ?_ ?_; rotate_left; first | (with_reducible assumption) | (with_reducible exact Row.new4 _ _ rfl) | (with_reducible exact Row.new16 _ _ rfl) | ((with_reducible refine Row.set ?_ _ _); (with_reducible assumption)) | ((with_reducible refine Row.other ?_ ?_ _); (with_reducible assumption); (focus first | (simp; done) | (simp; omega))) | ((with_reducible refine Row.alloc ?_ _); (with_reducible assumption)) | ((with_reducible refine Row.drew ?_); (with_reducible assumption)))
        exact ret_row trans16 rfl _ rfl (hB2.setRow _) rfl ⟨rfl, below_setRow Hb2.out (by omega) _⟩
      · have hc0 : (((w.alloc (.cells #[.pointer (some ⟨b, 0, none⟩)] 54)).alloc (.cells #[.int .i64 0, .int .i64 0, .int .i64 0, .int .i64 0, .int .i64 0, .int .i64 0, .int .i64 0, .int .i64 0, .int .i64 0, .int .i64 0, .int .i64 0, .int .i64 0, .int .i64 0, .int .i64 0, .int .i64 0, .int .i64 0] 66))).cell? ⟨b, 0, none⟩ = some (.int .u8 109) := hrW.c0
        clear hrW hs hl
        go_enter Try.func73, Try.ntmps73
        go_wp2_with fail
        refine (impl_assume 0 _).mono ?_
        rintro e w2 ⟨rfl, hb⟩
        have hB2 := HB.out.go hb
        have Hb2 := Lib.hid (bgo Hb.out hb)
        clear hb
        go_wp2_with (refine st trans16 _ _ rfl rfl _ rfl _ rfl (f := ?_) ?_ ?_; rotate_left; first | (with_reducible assumption) | (with_reducible exact Row.new4 _ _ rfl) | (with_reducible exact Row.new16 _ _ rfl) | ((with_reducible refine Row.set ?_ _ _); (with_reducible assumption)) | ((with_reducible refine Row.other ?_ ?_ _); (with_reducible assumption); (focus first | (simp; done) | (simp; omega))) | ((with_reducible refine Row.alloc ?_ _); (with_reducible assumption)) | ((with_reducible refine Row.drew ?_); (with_reducible assumption)))
        exact ret_row trans16 rfl _ rfl (hB2.setRow _) rfl ⟨rfl, below_setRow Hb2.out (by omega) _⟩
      · have hc0 : (((w.alloc (.cells #[.pointer (some ⟨b, 0, none⟩)] 54)).alloc (.cells #[.int .i64 0, .int .i64 0, .int .i64 0, .int .i64 0, .int .i64 0, .int .i64 0, .int .i64 0, .int .i64 0, .int .i64 0, .int .i64 0, .int .i64 0, .int .i64 0, .int .i64 0, .int .i64 0, .int .i64 0, .int .i64 0] 66))).cell? ⟨b, 0, none⟩ = some (.int .u8 33) := hrW.c0
        have hc1 := hrW.c1
        clear hrW hs hl
        go_enter Try.func73, Try.ntmps73
        go_wp2_with fail
        refine (impl_assert (pv d) _).mono ?_
        rintro e w2 ⟨rfl, hb⟩
        have hB2 := HB.out.go hb
        have Hb2 := Lib.hid (bgo Hb.out hb)
        clear hb
        go_wp2_with (refine st trans16 _ _ rfl rfl _ rfl _ rfl (f := ?_) ?_ ?_; rotate_left; first | (with_reducible assumption) | (with_reducible exact Row.new4 _ _ rfl) | (with_reducible exact Row.new16 _ _ rfl) | ((with_reducible refine Row.set ?_ _ _); (with_reducible assumption)) | ((with_reducible refine Row.other ?_ ?_ _); (with_reducible assumption); (focus first | (simp; done) | (simp; omega))) | ((with_reducible refine Row.alloc ?_ _); (with_reducible assumption)) | ((with_reducible refine Row.drew ?_); (with_reducible assumption)))
        exact ret_row trans16 rfl _ rfl (hB2.setRow _) rfl ⟨rfl, below_setRow Hb2.out (by omega) _⟩
      · have hc0 : (((w.alloc (.cells #[.pointer (some ⟨b, 0, none⟩)] 54)).alloc (.cells #[.int .i64 0, .int .i64 0, .int .i64 0, .int .i64 0, .int .i64 0, .int .i64 0, .int .i64 0, .int .i64 0, .int .i64 0, .int .i64 0, .int .i64 0, .int .i64 0, .int .i64 0, .int .i64 0, .int .i64 0, .int .i64 0] 66))).cell? ⟨b, 0, none⟩ = some (.int .u8 63) := hrW.c0
        have hc1 := hrW.c1
        clear hrW hs hl
        go_enter Try.func73, Try.ntmps73
        go_wp2_with fail
        refine (impl_assume (pv d) _).mono ?_
        rintro e w2 ⟨rfl, hb⟩
        have hB2 := HB.out.go hb
        have Hb2 := Lib.hid (bgo Hb.out hb)
        clear hb
        go_wp2_with (refine st trans16 _ _ rfl rfl _ rfl _ rfl (f := ?_) ?_ ?_; rotate_left; first | (with_reducible assumption) | (with_reducible exact Row.new4 _ _ rfl) | (with_reducible exact Row.new16 _ _ rfl) | ((with_reducible refine Row.set ?_ _ _); (with_reducible assumption)) | ((with_reducible refine Row.other ?_ ?_ _); (with_reducible assumption); (focus first | (simp; done) | (simp; omega))) | ((with_reducible refine Row.alloc ?_ _); (with_reducible assumption)) | ((with_reducible refine Row.drew ?_); (with_reducible assumption)))
        exact ret_row trans16 rfl _ rfl (hB2.setRow _) rfl ⟨rfl, below_setRow Hb2.out (by omega) _⟩
      · have hc0 : (((w.alloc (.cells #[.pointer (some ⟨b, 0, none⟩)] 54)).alloc (.cells #[.int .i64 0, .int .i64 0, .int .i64 0, .int .i64 0, .int .i64 0, .int .i64 0, .int .i64 0, .int .i64 0, .int .i64 0, .int .i64 0, .int .i64 0, .int .i64 0, .int .i64 0, .int .i64 0, .int .i64 0, .int .i64 0] 66))).cell? ⟨b, 0, none⟩ = some (.int .u8 65) := hrW.c0
        have e4 : xv d = rv d := by unfold xv; rw [if_pos hl]
        rw [e4] at hrW
        have hr0 := hrW.cr (i := 0) (by decide)
        have hr1 := hrW.cr (i := 1) (by decide)
        have hr2 := hrW.cr (i := 2) (by decide)
        have hr3 := hrW.cr (i := 3) (by decide)
        simp only [Nat.add_zero, Nat.reduceAdd] at hr0 hr1 hr2 hr3
        have ex : (Value.agg (cellsF 4 (rv d))) = .agg #[.int .i64 (rv d 0), .int .i64 (rv d 1), .int .i64 (rv d 2), .int .i64 (rv d 3)] := rfl
        have hf := fun w => impl_angel (rv d) w
        rw [ex] at hf
        have Hf := Lib.hid hf
        clear hf ex e4
        clear hrW hs hl
        go_enter Try.func73, Try.ntmps73
        go_wp2_with fail
        refine (Hf.out _).mono ?_
        rintro e w2 ⟨rfl, hb⟩
        have hB2 := HB.out.go hb
        have Hb2 := Lib.hid (bgo Hb.out hb)
        clear hb
        go_wp2_with (refine st trans16 _ _ rfl rfl _ rfl _ rfl (f := ?_) ?_ ?_; rotate_left; first | (with_reducible assumption) | (with_reducible exact Row.new4 _ _ rfl) | (with_reducible exact Row.new16 _ _ rfl) | ((with_reducible refine Row.set ?_ _ _); (with_reducible assumption)) | ((with_reducible refine Row.other ?_ ?_ _); (with_reducible assumption); (focus first | (simp; done) | (simp; omega))) | ((with_reducible refine Row.alloc ?_ _); (with_reducible assumption)) | ((with_reducible refine Row.drew ?_); (with_reducible assumption)))
        exact ret_row trans16 rfl _ rfl (hB2.setRow _) rfl ⟨rfl, below_setRow Hb2.out (by omega) _⟩
      · have hc0 : (((w.alloc (.cells #[.pointer (some ⟨b, 0, none⟩)] 54)).alloc (.cells #[.int .i64 0, .int .i64 0, .int .i64 0, .int .i64 0, .int .i64 0, .int .i64 0, .int .i64 0, .int .i64 0, .int .i64 0, .int .i64 0, .int .i64 0, .int .i64 0, .int .i64 0, .int .i64 0, .int .i64 0, .int .i64 0] 66))).cell? ⟨b, 0, none⟩ = some (.int .u8 68) := hrW.c0
        have e4 : xv d = rv d := by unfold xv; rw [if_pos hl]
        rw [e4] at hrW
        have hr0 := hrW.cr (i := 0) (by decide)
        have hr1 := hrW.cr (i := 1) (by decide)
        have hr2 := hrW.cr (i := 2) (by decide)
        have hr3 := hrW.cr (i := 3) (by decide)
        simp only [Nat.add_zero, Nat.reduceAdd] at hr0 hr1 hr2 hr3
        have ex : (Value.agg (cellsF 4 (rv d))) = .agg #[.int .i64 (rv d 0), .int .i64 (rv d 1), .int .i64 (rv d 2), .int .i64 (rv d 3)] := rfl
        have hf := fun w => impl_demon (rv d) w
        rw [ex] at hf
        have Hf := Lib.hid hf
        clear hf ex e4
        clear hrW hs hl
        go_enter Try.func73, Try.ntmps73
        go_wp2_with fail
        refine (Hf.out _).mono ?_
        rintro e w2 ⟨rfl, hb⟩
        have hB2 := HB.out.go hb
        have Hb2 := Lib.hid (bgo Hb.out hb)
        clear hb
        go_wp2_with (refine st trans16 _ _ rfl rfl _ rfl _ rfl (f := ?_) ?_ ?_; rotate_left; first | (with_reducible assumption) | (with_reducible exact Row.new4 _ _ rfl) | (with_reducible exact Row.new16 _ _ rfl) | ((with_reducible refine Row.set ?_ _ _); (with_reducible assumption)) | ((with_reducible refine Row.other ?_ ?_ _); (with_reducible assumption); (focus first | (simp; done) | (simp; omega))) | ((with_reducible refine Row.alloc ?_ _); (with_reducible assumption)) | ((with_reducible refine Row.drew ?_); (with_reducible assumption)))
        exact ret_row trans16 rfl _ rfl (hB2.setRow _) rfl ⟨rfl, below_setRow Hb2.out (by omega) _⟩
    | u o d x =>
      obtain ⟨hs, hd, hxw⟩ := Ct.wf_u hw
      obtain ⟨g, cap, bx, hr, hcg, hx⟩ := hh
      have hrW := Rec.go hr Hb.out
      have hcgW := cell_go hcg Hb.out
      have hbl := hr.lt
      have hgl := block_lt_of_cell hcg
      have hcW : (((w.alloc (.cells #[.pointer (some ⟨b, 0, none⟩)] 54)).alloc (.cells #[.int .i64 0, .int .i64 0, .int .i64 0, .int .i64 0, .int .i64 0, .int .i64 0, .int .i64 0, .int .i64 0, .int .i64 0, .int .i64 0, .int .i64 0, .int .i64 0, .int .i64 0, .int .i64 0, .int .i64 0, .int .i64 0] 66))).cell? ⟨w.heap.size, 0, none⟩ = some (.pointer (some ⟨b, 0, none⟩)) := by
        refine cell_go ?_ (ba1 _ _)
        rw [World.cell?_alloc_at _ _ _ _ rfl]; rfl
      have HcW := Lib.hid hcW
      have HrW := Lib.hid hrW
      have Hx := Lib.hid (Held.go Hb.out hx)
      have Hl := Lib.hid (show x.tx.length ≤ n by simp [Ct.tx] at hl; omega)
      have Hxw := Lib.hid hxw
      have Hd := Lib.hid hd
      have hc6 := hrW.c6
      clear hw hl hx hr hcg hrW hxw hd hcW
      rcases shp1 hs with ⟨rfl, hl⟩ | ⟨rfl, hl⟩ | ⟨rfl, hl⟩
      · have hc0 : (((w.alloc (.cells #[.pointer (some ⟨b, 0, none⟩)] 54)).alloc (.cells #[.int .i64 0, .int .i64 0, .int .i64 0, .int .i64 0, .int .i64 0, .int .i64 0, .int .i64 0, .int .i64 0, .int .i64 0, .int .i64 0, .int .i64 0, .int .i64 0, .int .i64 0, .int .i64 0, .int .i64 0, .int .i64 0] 66))).cell? ⟨b, 0, none⟩ = some (.int .u8 119) := HrW.out.c0
        clear hs hl
        go_enter Try.func73, Try.ntmps73
        go_wp2_with fail
        refine (Ih.out x bx _ Hxw.out Hl.out Hx.out).mono ?_
        rintro e w2 ⟨rfl, hb⟩
        have hX : Below w2.heap.size w2 ((w2.alloc (.cells #[.int .i64 0, .int .i64 0, .int .i64 0, .int .i64 0, .int .i64 0, .int .i64 0, .int .i64 0, .int .i64 0, .int .i64 0, .int .i64 0, .int .i64 0, .int .i64 0, .int .i64 0, .int .i64 0, .int .i64 0, .int .i64 0] 66)).setRow w2.heap.size (cellsF 16 (tr x))) := below_setRow (ba1 _ _) (Nat.le_refl _) _
        have hbX : Below w.heap.size w ((w2.alloc (.cells #[.int .i64 0, .int .i64 0, .int .i64 0, .int .i64 0, .int .i64 0, .int .i64 0, .int .i64 0, .int .i64 0, .int .i64 0, .int .i64 0, .int .i64 0, .int .i64 0, .int .i64 0, .int .i64 0, .int .i64 0, .int .i64 0] 66)).setRow w2.heap.size (cellsF 16 (tr x))) := bgo (bgo Hb.out hb) hX
        have hB2 : Row ((w2.alloc (.cells #[.int .i64 0, .int .i64 0, .int .i64 0, .int .i64 0, .int .i64 0, .int .i64 0, .int .i64 0, .int .i64 0, .int .i64 0, .int .i64 0, .int .i64 0, .int .i64 0, .int .i64 0, .int .i64 0, .int .i64 0, .int .i64 0] 66)).setRow w2.heap.size (cellsF 16 (tr x))) (w.heap.size + 1) 16 (fun _ => 0) := (HB.out.go hb).go hX
        have hrX : Row ((w2.alloc (.cells #[.int .i64 0, .int .i64 0, .int .i64 0, .int .i64 0, .int .i64 0, .int .i64 0, .int .i64 0, .int .i64 0, .int .i64 0, .int .i64 0, .int .i64 0, .int .i64 0, .int .i64 0, .int .i64 0, .int .i64 0, .int .i64 0] 66)).setRow w2.heap.size (cellsF 16 (tr x))) w2.heap.size 16 (tr x) := (Row.new16 _ _ rfl).setRow _
        have hcX : (((w2.alloc (.cells #[.int .i64 0, .int .i64 0, .int .i64 0, .int .i64 0, .int .i64 0, .int .i64 0, .int .i64 0, .int .i64 0, .int .i64 0, .int .i64 0, .int .i64 0, .int .i64 0, .int .i64 0, .int .i64 0, .int .i64 0, .int .i64 0] 66)).setRow w2.heap.size (cellsF 16 (tr x)))).cell? ⟨w.heap.size, 0, none⟩ = some (.pointer (some ⟨b, 0, none⟩)) := cell_go (cell_go HcW.out hb) hX
        have hrecX := (HrW.out.go hb).go hX
        have hc0X : (((w2.alloc (.cells #[.int .i64 0, .int .i64 0, .int .i64 0, .int .i64 0, .int .i64 0, .int .i64 0, .int .i64 0, .int .i64 0, .int .i64 0, .int .i64 0, .int .i64 0, .int .i64 0, .int .i64 0, .int .i64 0, .int .i64 0, .int .i64 0] 66)).setRow w2.heap.size (cellsF 16 (tr x)))).cell? ⟨b, 0, none⟩ = some (.int .u8 119) := hrecX.c0
        have hf := impl_makeTrans 118 #[] #[.pointer (some ⟨w.heap.size, 0, none⟩), .pointer (some ⟨w2.heap.size, 0, none⟩)] (whileT (pv d) (tr x)) ((w2.alloc (.cells #[.int .i64 0, .int .i64 0, .int .i64 0, .int .i64 0, .int .i64 0, .int .i64 0, .int .i64 0, .int .i64 0, .int .i64 0, .int .i64 0, .int .i64 0, .int .i64 0, .int .i64 0, .int .i64 0, .int .i64 0, .int .i64 0] 66)).setRow w2.heap.size (cellsF 16 (tr x))) Try.call118 (fun s w1 hs hb => contract_trans1 w.heap.size b w2.heap.size _ _ _ _ _ (tr x) (pv_cv Hd.out) (tr_Tr Hxw.out) s hs w1 (cell_go hcX hb) (hrecX.go hb) (hrX.go hb))
        have Hf := Lib.hid hf
        have HB2 := Lib.hid hB2
        have HbX := Lib.hid hbX
        clear hf hX hbX hB2 hrX hrecX hb
        have hc00 := HcW.out
        go_wp2_with (refine st trans16 _ _ rfl rfl _ rfl _ rfl (f := ?_) ?_ ?_; rotate_left; first | (with_reducible assumption) | (with_reducible exact Row.new4 _ _ rfl) | (with_reducible exact Row.new16 _ _ rfl) | ((with_reducible refine Row.set ?_ _ _); (with_reducible assumption)) | ((with_reducible refine Row.other ?_ ?_ _); (with_reducible assumption); (focus first | (simp; done) | (simp; omega))) | ((with_reducible refine Row.alloc ?_ _); (with_reducible assumption)) | ((with_reducible refine Row.drew ?_); (with_reducible assumption)))
        refine Hf.out.mono ?_
        rintro e w4 ⟨rfl, hb4⟩
        have hB4 := HB2.out.go hb4
        have Hb4 := Lib.hid (bgo HbX.out hb4)
        clear hb4
        go_wp2_with (refine st trans16 _ _ rfl rfl _ rfl _ rfl (f := ?_) ?_ ?_; rotate_left; first | (with_reducible assumption) | (with_reducible exact Row.new4 _ _ rfl) | (with_reducible exact Row.new16 _ _ rfl) | ((with_reducible refine Row.set ?_ _ _); (with_reducible assumption)) | ((with_reducible refine Row.other ?_ ?_ _); (with_reducible assumption); (focus first | (simp; done) | (simp; omega))) | ((with_reducible refine Row.alloc ?_ _); (with_reducible assumption)) | ((with_reducible refine Row.drew ?_); (with_reducible assumption)))
        exact ret_row trans16 rfl _ rfl (hB4.setRow _) rfl ⟨rfl, below_setRow Hb4.out (by omega) _⟩
      · have hc0 : (((w.alloc (.cells #[.pointer (some ⟨b, 0, none⟩)] 54)).alloc (.cells #[.int .i64 0, .int .i64 0, .int .i64 0, .int .i64 0, .int .i64 0, .int .i64 0, .int .i64 0, .int .i64 0, .int .i64 0, .int .i64 0, .int .i64 0, .int .i64 0, .int .i64 0, .int .i64 0, .int .i64 0, .int .i64 0] 66))).cell? ⟨b, 0, none⟩ = some (.int .u8 42) := HrW.out.c0
        clear hs hl
        go_enter Try.func73, Try.ntmps73
        go_wp2_with fail
        refine (Ih.out x bx _ Hxw.out Hl.out Hx.out).mono ?_
        rintro e w2 ⟨rfl, hb⟩
        have hX : Below w2.heap.size w2 ((w2.alloc (.cells #[.int .i64 0, .int .i64 0, .int .i64 0, .int .i64 0, .int .i64 0, .int .i64 0, .int .i64 0, .int .i64 0, .int .i64 0, .int .i64 0, .int .i64 0, .int .i64 0, .int .i64 0, .int .i64 0, .int .i64 0, .int .i64 0] 66)).setRow w2.heap.size (cellsF 16 (tr x))) := below_setRow (ba1 _ _) (Nat.le_refl _) _
        have hbX : Below w.heap.size w ((w2.alloc (.cells #[.int .i64 0, .int .i64 0, .int .i64 0, .int .i64 0, .int .i64 0, .int .i64 0, .int .i64 0, .int .i64 0, .int .i64 0, .int .i64 0, .int .i64 0, .int .i64 0, .int .i64 0, .int .i64 0, .int .i64 0, .int .i64 0] 66)).setRow w2.heap.size (cellsF 16 (tr x))) := bgo (bgo Hb.out hb) hX
        have hB2 : Row ((w2.alloc (.cells #[.int .i64 0, .int .i64 0, .int .i64 0, .int .i64 0, .int .i64 0, .int .i64 0, .int .i64 0, .int .i64 0, .int .i64 0, .int .i64 0, .int .i64 0, .int .i64 0, .int .i64 0, .int .i64 0, .int .i64 0, .int .i64 0] 66)).setRow w2.heap.size (cellsF 16 (tr x))) (w.heap.size + 1) 16 (fun _ => 0) := (HB.out.go hb).go hX
        have hrX : Row ((w2.alloc (.cells #[.int .i64 0, .int .i64 0, .int .i64 0, .int .i64 0, .int .i64 0, .int .i64 0, .int .i64 0, .int .i64 0, .int .i64 0, .int .i64 0, .int .i64 0, .int .i64 0, .int .i64 0, .int .i64 0, .int .i64 0, .int .i64 0] 66)).setRow w2.heap.size (cellsF 16 (tr x))) w2.heap.size 16 (tr x) := (Row.new16 _ _ rfl).setRow _
        have hcX : (((w2.alloc (.cells #[.int .i64 0, .int .i64 0, .int .i64 0, .int .i64 0, .int .i64 0, .int .i64 0, .int .i64 0, .int .i64 0, .int .i64 0, .int .i64 0, .int .i64 0, .int .i64 0, .int .i64 0, .int .i64 0, .int .i64 0, .int .i64 0] 66)).setRow w2.heap.size (cellsF 16 (tr x)))).cell? ⟨w.heap.size, 0, none⟩ = some (.pointer (some ⟨b, 0, none⟩)) := cell_go (cell_go HcW.out hb) hX
        have hrecX := (HrW.out.go hb).go hX
        have hc0X : (((w2.alloc (.cells #[.int .i64 0, .int .i64 0, .int .i64 0, .int .i64 0, .int .i64 0, .int .i64 0, .int .i64 0, .int .i64 0, .int .i64 0, .int .i64 0, .int .i64 0, .int .i64 0, .int .i64 0, .int .i64 0, .int .i64 0, .int .i64 0] 66)).setRow w2.heap.size (cellsF 16 (tr x)))).cell? ⟨b, 0, none⟩ = some (.int .u8 42) := hrecX.c0
        have hf := impl_makeTrans 121 #[] #[.pointer (some ⟨w2.heap.size, 0, none⟩)] (starD (tr x)) ((w2.alloc (.cells #[.int .i64 0, .int .i64 0, .int .i64 0, .int .i64 0, .int .i64 0, .int .i64 0, .int .i64 0, .int .i64 0, .int .i64 0, .int .i64 0, .int .i64 0, .int .i64 0, .int .i64 0, .int .i64 0, .int .i64 0, .int .i64 0] 66)).setRow w2.heap.size (cellsF 16 (tr x))) Try.call121 (fun s w1 hs hb => contract_trans2 w2.heap.size (tr x) (tr_Tr Hxw.out) s hs w1 (hrX.go hb))
        have Hf := Lib.hid hf
        have HB2 := Lib.hid hB2
        have HbX := Lib.hid hbX
        clear hf hX hbX hB2 hrX hrecX hb
        have hc00 := HcW.out
        go_wp2_with (refine st trans16 _ _ rfl rfl _ rfl _ rfl (f := ?_) ?_ ?_; rotate_left; first | (with_reducible assumption) | (with_reducible exact Row.new4 _ _ rfl) | (with_reducible exact Row.new16 _ _ rfl) | ((with_reducible refine Row.set ?_ _ _); (with_reducible assumption)) | ((with_reducible refine Row.other ?_ ?_ _); (with_reducible assumption); (focus first | (simp; done) | (simp; omega))) | ((with_reducible refine Row.alloc ?_ _); (with_reducible assumption)) | ((with_reducible refine Row.drew ?_); (with_reducible assumption)))
        refine Hf.out.mono ?_
        rintro e w4 ⟨rfl, hb4⟩
        have hB4 := HB2.out.go hb4
        have Hb4 := Lib.hid (bgo HbX.out hb4)
        clear hb4
        go_wp2_with (refine st trans16 _ _ rfl rfl _ rfl _ rfl (f := ?_) ?_ ?_; rotate_left; first | (with_reducible assumption) | (with_reducible exact Row.new4 _ _ rfl) | (with_reducible exact Row.new16 _ _ rfl) | ((with_reducible refine Row.set ?_ _ _); (with_reducible assumption)) | ((with_reducible refine Row.other ?_ ?_ _); (with_reducible assumption); (focus first | (simp; done) | (simp; omega))) | ((with_reducible refine Row.alloc ?_ _); (with_reducible assumption)) | ((with_reducible refine Row.drew ?_); (with_reducible assumption)))
        exact ret_row trans16 rfl _ rfl (hB4.setRow _) rfl ⟨rfl, below_setRow Hb4.out (by omega) _⟩
      · have hc0 : (((w.alloc (.cells #[.pointer (some ⟨b, 0, none⟩)] 54)).alloc (.cells #[.int .i64 0, .int .i64 0, .int .i64 0, .int .i64 0, .int .i64 0, .int .i64 0, .int .i64 0, .int .i64 0, .int .i64 0, .int .i64 0, .int .i64 0, .int .i64 0, .int .i64 0, .int .i64 0, .int .i64 0, .int .i64 0] 66))).cell? ⟨b, 0, none⟩ = some (.int .u8 43) := HrW.out.c0
        clear hs hl
        go_enter Try.func73, Try.ntmps73
        go_wp2_with fail
        refine (Ih.out x bx _ Hxw.out Hl.out Hx.out).mono ?_
        rintro e w2 ⟨rfl, hb⟩
        have hX : Below w2.heap.size w2 ((w2.alloc (.cells #[.int .i64 0, .int .i64 0, .int .i64 0, .int .i64 0, .int .i64 0, .int .i64 0, .int .i64 0, .int .i64 0, .int .i64 0, .int .i64 0, .int .i64 0, .int .i64 0, .int .i64 0, .int .i64 0, .int .i64 0, .int .i64 0] 66)).setRow w2.heap.size (cellsF 16 (tr x))) := below_setRow (ba1 _ _) (Nat.le_refl _) _
        have hbX : Below w.heap.size w ((w2.alloc (.cells #[.int .i64 0, .int .i64 0, .int .i64 0, .int .i64 0, .int .i64 0, .int .i64 0, .int .i64 0, .int .i64 0, .int .i64 0, .int .i64 0, .int .i64 0, .int .i64 0, .int .i64 0, .int .i64 0, .int .i64 0, .int .i64 0] 66)).setRow w2.heap.size (cellsF 16 (tr x))) := bgo (bgo Hb.out hb) hX
        have hB2 : Row ((w2.alloc (.cells #[.int .i64 0, .int .i64 0, .int .i64 0, .int .i64 0, .int .i64 0, .int .i64 0, .int .i64 0, .int .i64 0, .int .i64 0, .int .i64 0, .int .i64 0, .int .i64 0, .int .i64 0, .int .i64 0, .int .i64 0, .int .i64 0] 66)).setRow w2.heap.size (cellsF 16 (tr x))) (w.heap.size + 1) 16 (fun _ => 0) := (HB.out.go hb).go hX
        have hrX : Row ((w2.alloc (.cells #[.int .i64 0, .int .i64 0, .int .i64 0, .int .i64 0, .int .i64 0, .int .i64 0, .int .i64 0, .int .i64 0, .int .i64 0, .int .i64 0, .int .i64 0, .int .i64 0, .int .i64 0, .int .i64 0, .int .i64 0, .int .i64 0] 66)).setRow w2.heap.size (cellsF 16 (tr x))) w2.heap.size 16 (tr x) := (Row.new16 _ _ rfl).setRow _
        have hcX : (((w2.alloc (.cells #[.int .i64 0, .int .i64 0, .int .i64 0, .int .i64 0, .int .i64 0, .int .i64 0, .int .i64 0, .int .i64 0, .int .i64 0, .int .i64 0, .int .i64 0, .int .i64 0, .int .i64 0, .int .i64 0, .int .i64 0, .int .i64 0] 66)).setRow w2.heap.size (cellsF 16 (tr x)))).cell? ⟨w.heap.size, 0, none⟩ = some (.pointer (some ⟨b, 0, none⟩)) := cell_go (cell_go HcW.out hb) hX
        have hrecX := (HrW.out.go hb).go hX
        have hc0X : (((w2.alloc (.cells #[.int .i64 0, .int .i64 0, .int .i64 0, .int .i64 0, .int .i64 0, .int .i64 0, .int .i64 0, .int .i64 0, .int .i64 0, .int .i64 0, .int .i64 0, .int .i64 0, .int .i64 0, .int .i64 0, .int .i64 0, .int .i64 0] 66)).setRow w2.heap.size (cellsF 16 (tr x)))).cell? ⟨b, 0, none⟩ = some (.int .u8 43) := hrecX.c0
        have hf := impl_makeTrans 123 #[] #[.pointer (some ⟨w2.heap.size, 0, none⟩)] (starA (tr x)) ((w2.alloc (.cells #[.int .i64 0, .int .i64 0, .int .i64 0, .int .i64 0, .int .i64 0, .int .i64 0, .int .i64 0, .int .i64 0, .int .i64 0, .int .i64 0, .int .i64 0, .int .i64 0, .int .i64 0, .int .i64 0, .int .i64 0, .int .i64 0] 66)).setRow w2.heap.size (cellsF 16 (tr x))) Try.call123 (fun s w1 hs hb => contract_trans3 w2.heap.size (tr x) (tr_Tr Hxw.out) s hs w1 (hrX.go hb))
        have Hf := Lib.hid hf
        have HB2 := Lib.hid hB2
        have HbX := Lib.hid hbX
        clear hf hX hbX hB2 hrX hrecX hb
        have hc00 := HcW.out
        go_wp2_with (refine st trans16 _ _ rfl rfl _ rfl _ rfl (f := ?_) ?_ ?_; rotate_left; first | (with_reducible assumption) | (with_reducible exact Row.new4 _ _ rfl) | (with_reducible exact Row.new16 _ _ rfl) | ((with_reducible refine Row.set ?_ _ _); (with_reducible assumption)) | ((with_reducible refine Row.other ?_ ?_ _); (with_reducible assumption); (focus first | (simp; done) | (simp; omega))) | ((with_reducible refine Row.alloc ?_ _); (with_reducible assumption)) | ((with_reducible refine Row.drew ?_); (with_reducible assumption)))
        refine Hf.out.mono ?_
        rintro e w4 ⟨rfl, hb4⟩
        have hB4 := HB2.out.go hb4
        have Hb4 := Lib.hid (bgo HbX.out hb4)
        clear hb4
        go_wp2_with (refine st trans16 _ _ rfl rfl _ rfl _ rfl (f := ?_) ?_ ?_; rotate_left; first | (with_reducible assumption) | (with_reducible exact Row.new4 _ _ rfl) | (with_reducible exact Row.new16 _ _ rfl) | ((with_reducible refine Row.set ?_ _ _); (with_reducible assumption)) | ((with_reducible refine Row.other ?_ ?_ _); (with_reducible assumption); (focus first | (simp; done) | (simp; omega))) | ((with_reducible refine Row.alloc ?_ _); (with_reducible assumption)) | ((with_reducible refine Row.drew ?_); (with_reducible assumption)))
        exact ret_row trans16 rfl _ rfl (hB4.setRow _) rfl ⟨rfl, below_setRow Hb4.out (by omega) _⟩
    | b o d x y =>
      obtain ⟨hs, hd, hxw, hyw⟩ := Ct.wf_b hw
      obtain ⟨g, cap, bx, by', hr, hcg, hcg1, hx, hy⟩ := hh
      have hrW := Rec.go hr Hb.out
      have hcgW := cell_go hcg Hb.out
      have Hcg1 := Lib.hid (cell_go hcg1 Hb.out)
      have hbl := hr.lt
      have hgl := block_lt_of_cell hcg
      have hcW : (((w.alloc (.cells #[.pointer (some ⟨b, 0, none⟩)] 54)).alloc (.cells #[.int .i64 0, .int .i64 0, .int .i64 0, .int .i64 0, .int .i64 0, .int .i64 0, .int .i64 0, .int .i64 0, .int .i64 0, .int .i64 0, .int .i64 0, .int .i64 0, .int .i64 0, .int .i64 0, .int .i64 0, .int .i64 0] 66))).cell? ⟨w.heap.size, 0, none⟩ = some (.pointer (some ⟨b, 0, none⟩)) := by
        refine cell_go ?_ (ba1 _ _)
        rw [World.cell?_alloc_at _ _ _ _ rfl]; rfl
      have HcW := Lib.hid hcW
      have HrW := Lib.hid hrW
      have Hx := Lib.hid (Held.go Hb.out hx)
      have Hy := Lib.hid (Held.go Hb.out hy)
      have Hl := Lib.hid (show x.tx.length ≤ n by simp [Ct.tx] at hl; omega)
      have Hly := Lib.hid (show y.tx.length ≤ n by simp [Ct.tx] at hl; omega)
      have Hxw := Lib.hid hxw
      have Hyw := Lib.hid hyw
      have Hd := Lib.hid hd
      have hc6 := hrW.c6
      clear hw hl hx hy hr hcg hcg1 hrW hxw hyw hd hcW
      rcases shp2 hs with ⟨rfl, hl⟩ | ⟨rfl, hl⟩ | ⟨rfl, hl⟩ | ⟨rfl, hl⟩
      · have hc0 : (((w.alloc (.cells #[.pointer (some ⟨b, 0, none⟩)] 54)).alloc (.cells #[.int .i64 0, .int .i64 0, .int .i64 0, .int .i64 0, .int .i64 0, .int .i64 0, .int .i64 0, .int .i64 0, .int .i64 0, .int .i64 0, .int .i64 0, .int .i64 0, .int .i64 0, .int .i64 0, .int .i64 0, .int .i64 0] 66))).cell? ⟨b, 0, none⟩ = some (.int .u8 59) := HrW.out.c0
        clear hs hl
        go_enter Try.func73, Try.ntmps73
        go_wp2_with fail
        refine (Ih.out x bx _ Hxw.out Hl.out Hx.out).mono ?_
        rintro e w2 ⟨rfl, hb⟩
        have hX : Below w2.heap.size w2 ((w2.alloc (.cells #[.int .i64 0, .int .i64 0, .int .i64 0, .int .i64 0, .int .i64 0, .int .i64 0, .int .i64 0, .int .i64 0, .int .i64 0, .int .i64 0, .int .i64 0, .int .i64 0, .int .i64 0, .int .i64 0, .int .i64 0, .int .i64 0] 66)).setRow w2.heap.size (cellsF 16 (tr x))) := below_setRow (ba1 _ _) (Nat.le_refl _) _
        have hB2 : Row ((w2.alloc (.cells #[.int .i64 0, .int .i64 0, .int .i64 0, .int .i64 0, .int .i64 0, .int .i64 0, .int .i64 0, .int .i64 0, .int .i64 0, .int .i64 0, .int .i64 0, .int .i64 0, .int .i64 0, .int .i64 0, .int .i64 0, .int .i64 0] 66)).setRow w2.heap.size (cellsF 16 (tr x))) (w.heap.size + 1) 16 (fun _ => 0) := (HB.out.go hb).go hX
        have hrX : Row ((w2.alloc (.cells #[.int .i64 0, .int .i64 0, .int .i64 0, .int .i64 0, .int .i64 0, .int .i64 0, .int .i64 0, .int .i64 0, .int .i64 0, .int .i64 0, .int .i64 0, .int .i64 0, .int .i64 0, .int .i64 0, .int .i64 0, .int .i64 0] 66)).setRow w2.heap.size (cellsF 16 (tr x))) w2.heap.size 16 (tr x) := (Row.new16 _ _ rfl).setRow _
        have hcX : (((w2.alloc (.cells #[.int .i64 0, .int .i64 0, .int .i64 0, .int .i64 0, .int .i64 0, .int .i64 0, .int .i64 0, .int .i64 0, .int .i64 0, .int .i64 0, .int .i64 0, .int .i64 0, .int .i64 0, .int .i64 0, .int .i64 0, .int .i64 0] 66)).setRow w2.heap.size (cellsF 16 (tr x)))).cell? ⟨w.heap.size, 0, none⟩ = some (.pointer (some ⟨b, 0, none⟩)) := cell_go (cell_go HcW.out hb) hX
        have hrecX := (HrW.out.go hb).go hX
        have hc0X : (((w2.alloc (.cells #[.int .i64 0, .int .i64 0, .int .i64 0, .int .i64 0, .int .i64 0, .int .i64 0, .int .i64 0, .int .i64 0, .int .i64 0, .int .i64 0, .int .i64 0, .int .i64 0, .int .i64 0, .int .i64 0, .int .i64 0, .int .i64 0] 66)).setRow w2.heap.size (cellsF 16 (tr x)))).cell? ⟨b, 0, none⟩ = some (.int .u8 59) := hrecX.c0
        have hc6X := hrecX.c6
        have hcgX := cell_go (cell_go Hcg1.out hb) hX
        have HyX := Lib.hid (Held.go hX (Held.go hb Hy.out))
        have HrecX := Lib.hid hrecX
        have HcX := Lib.hid hcX
        have HB2 := Lib.hid hB2
        have HrX := Lib.hid hrX
        have HbX := Lib.hid (bgo (bgo Hb.out hb) hX)
        clear hX hB2 hrX hrecX hb
        go_wp2_with (refine st trans16 _ _ rfl rfl _ rfl _ rfl (f := ?_) ?_ ?_; rotate_left; first | (with_reducible assumption) | (with_reducible exact Row.new4 _ _ rfl) | (with_reducible exact Row.new16 _ _ rfl) | ((with_reducible refine Row.set ?_ _ _); (with_reducible assumption)) | ((with_reducible refine Row.other ?_ ?_ _); (with_reducible assumption); (focus first | (simp; done) | (simp; omega))) | ((with_reducible refine Row.alloc ?_ _); (with_reducible assumption)) | ((with_reducible refine Row.drew ?_); (with_reducible assumption)))
        refine (Ih.out y by' _ Hyw.out Hly.out HyX.out).mono ?_
        rintro e w4 ⟨rfl, hb4⟩
        clear hcX hc0X hc6X hcgX
        have hY : Below w4.heap.size w4 ((w4.alloc (.cells #[.int .i64 0, .int .i64 0, .int .i64 0, .int .i64 0, .int .i64 0, .int .i64 0, .int .i64 0, .int .i64 0, .int .i64 0, .int .i64 0, .int .i64 0, .int .i64 0, .int .i64 0, .int .i64 0, .int .i64 0, .int .i64 0] 66)).setRow w4.heap.size (cellsF 16 (tr y))) := below_setRow (ba1 _ _) (Nat.le_refl _) _
        have HbY := Lib.hid (bgo (bgo HbX.out hb4) hY)
        have HB4 := Lib.hid ((HB2.out.go hb4).go hY)
        have hrX4 : Row ((w4.alloc (.cells #[.int .i64 0, .int .i64 0, .int .i64 0, .int .i64 0, .int .i64 0, .int .i64 0, .int .i64 0, .int .i64 0, .int .i64 0, .int .i64 0, .int .i64 0, .int .i64 0, .int .i64 0, .int .i64 0, .int .i64 0, .int .i64 0] 66)).setRow w4.heap.size (cellsF 16 (tr y))) w2.heap.size 16 (tr x) := (HrX.out.go hb4).go hY
        have hrY4 : Row ((w4.alloc (.cells #[.int .i64 0, .int .i64 0, .int .i64 0, .int .i64 0, .int .i64 0, .int .i64 0, .int .i64 0, .int .i64 0, .int .i64 0, .int .i64 0, .int .i64 0, .int .i64 0, .int .i64 0, .int .i64 0, .int .i64 0, .int .i64 0] 66)).setRow w4.heap.size (cellsF 16 (tr y))) w4.heap.size 16 (tr y) := (Row.new16 _ _ rfl).setRow _
        have hcY : (((w4.alloc (.cells #[.int .i64 0, .int .i64 0, .int .i64 0, .int .i64 0, .int .i64 0, .int .i64 0, .int .i64 0, .int .i64 0, .int .i64 0, .int .i64 0, .int .i64 0, .int .i64 0, .int .i64 0, .int .i64 0, .int .i64 0, .int .i64 0] 66)).setRow w4.heap.size (cellsF 16 (tr y)))).cell? ⟨w.heap.size, 0, none⟩ = some (.pointer (some ⟨b, 0, none⟩)) := cell_go (cell_go HcX.out hb4) hY
        have hrecY := (HrecX.out.go hb4).go hY
        have hc0Y : (((w4.alloc (.cells #[.int .i64 0, .int .i64 0, .int .i64 0, .int .i64 0, .int .i64 0, .int .i64 0, .int .i64 0, .int .i64 0, .int .i64 0, .int .i64 0, .int .i64 0, .int .i64 0, .int .i64 0, .int .i64 0, .int .i64 0, .int .i64 0] 66)).setRow w4.heap.size (cellsF 16 (tr y)))).cell? ⟨b, 0, none⟩ = some (.int .u8 59) := hrecY.c0
        clear hY hb4 hrecY
        go_wp2_with (first | (refine st trans16 _ _ rfl rfl _ rfl _ rfl (f := ?_) ?_ ?_; rotate_left; first | (with_reducible assumption) | (with_reducible exact Row.new4 _ _ rfl) | (with_reducible exact Row.new16 _ _ rfl) | ((with_reducible refine Row.set ?_ _ _); (with_reducible assumption)) | ((with_reducible refine Row.other ?_ ?_ _); (with_reducible assumption); (focus first | (simp; done) | (simp; omega))) | ((with_reducible refine Row.alloc ?_ _); (with_reducible assumption)) | ((with_reducible refine Row.drew ?_); (with_reducible assumption))) | (refine ld trans16 _ rfl rfl _ rfl (f := ?_) ?_ ?_; rotate_left; first | (with_reducible assumption) | (with_reducible exact Row.new4 _ _ rfl) | (with_reducible exact Row.new16 _ _ rfl) | ((with_reducible refine Row.set ?_ _ _); (with_reducible assumption)) | ((with_reducible refine Row.other ?_ ?_ _); (with_reducible assumption); (focus first | (simp; done) | (simp; omega))) | ((with_reducible refine Row.alloc ?_ _); (with_reducible assumption)) | ((with_reducible refine Row.drew ?_); (with_reducible assumption))))
        clear hrX4 hrY4
        refine (trans_then (tr x) (tr y) (tr_Tr Hyw.out).dg _).mono ?_
        rintro e w6 ⟨rfl, hb6⟩
        have hB6 := HB4.out.go hb6
        have Hb6 := Lib.hid (bgo HbY.out hb6)
        clear hb6
        go_wp2_with (refine st trans16 _ _ rfl rfl _ rfl _ rfl (f := ?_) ?_ ?_; rotate_left; first | (with_reducible assumption) | (with_reducible exact Row.new4 _ _ rfl) | (with_reducible exact Row.new16 _ _ rfl) | ((with_reducible refine Row.set ?_ _ _); (with_reducible assumption)) | ((with_reducible refine Row.other ?_ ?_ _); (with_reducible assumption); (focus first | (simp; done) | (simp; omega))) | ((with_reducible refine Row.alloc ?_ _); (with_reducible assumption)) | ((with_reducible refine Row.drew ?_); (with_reducible assumption)))
        exact ret_row trans16 rfl _ rfl (hB6.setRow _) rfl ⟨rfl, below_setRow Hb6.out (by omega) _⟩
      · have hc0 : (((w.alloc (.cells #[.pointer (some ⟨b, 0, none⟩)] 54)).alloc (.cells #[.int .i64 0, .int .i64 0, .int .i64 0, .int .i64 0, .int .i64 0, .int .i64 0, .int .i64 0, .int .i64 0, .int .i64 0, .int .i64 0, .int .i64 0, .int .i64 0, .int .i64 0, .int .i64 0, .int .i64 0, .int .i64 0] 66))).cell? ⟨b, 0, none⟩ = some (.int .u8 38) := HrW.out.c0
        clear hs hl
        go_enter Try.func73, Try.ntmps73
        go_wp2_with fail
        refine (Ih.out x bx _ Hxw.out Hl.out Hx.out).mono ?_
        rintro e w2 ⟨rfl, hb⟩
        have hX : Below w2.heap.size w2 ((w2.alloc (.cells #[.int .i64 0, .int .i64 0, .int .i64 0, .int .i64 0, .int .i64 0, .int .i64 0, .int .i64 0, .int .i64 0, .int .i64 0, .int .i64 0, .int .i64 0, .int .i64 0, .int .i64 0, .int .i64 0, .int .i64 0, .int .i64 0] 66)).setRow w2.heap.size (cellsF 16 (tr x))) := below_setRow (ba1 _ _) (Nat.le_refl _) _
        have hB2 : Row ((w2.alloc (.cells #[.int .i64 0, .int .i64 0, .int .i64 0, .int .i64 0, .int .i64 0, .int .i64 0, .int .i64 0, .int .i64 0, .int .i64 0, .int .i64 0, .int .i64 0, .int .i64 0, .int .i64 0, .int .i64 0, .int .i64 0, .int .i64 0] 66)).setRow w2.heap.size (cellsF 16 (tr x))) (w.heap.size + 1) 16 (fun _ => 0) := (HB.out.go hb).go hX
        have hrX : Row ((w2.alloc (.cells #[.int .i64 0, .int .i64 0, .int .i64 0, .int .i64 0, .int .i64 0, .int .i64 0, .int .i64 0, .int .i64 0, .int .i64 0, .int .i64 0, .int .i64 0, .int .i64 0, .int .i64 0, .int .i64 0, .int .i64 0, .int .i64 0] 66)).setRow w2.heap.size (cellsF 16 (tr x))) w2.heap.size 16 (tr x) := (Row.new16 _ _ rfl).setRow _
        have hcX : (((w2.alloc (.cells #[.int .i64 0, .int .i64 0, .int .i64 0, .int .i64 0, .int .i64 0, .int .i64 0, .int .i64 0, .int .i64 0, .int .i64 0, .int .i64 0, .int .i64 0, .int .i64 0, .int .i64 0, .int .i64 0, .int .i64 0, .int .i64 0] 66)).setRow w2.heap.size (cellsF 16 (tr x)))).cell? ⟨w.heap.size, 0, none⟩ = some (.pointer (some ⟨b, 0, none⟩)) := cell_go (cell_go HcW.out hb) hX
        have hrecX := (HrW.out.go hb).go hX
        have hc0X : (((w2.alloc (.cells #[.int .i64 0, .int .i64 0, .int .i64 0, .int .i64 0, .int .i64 0, .int .i64 0, .int .i64 0, .int .i64 0, .int .i64 0, .int .i64 0, .int .i64 0, .int .i64 0, .int .i64 0, .int .i64 0, .int .i64 0, .int .i64 0] 66)).setRow w2.heap.size (cellsF 16 (tr x)))).cell? ⟨b, 0, none⟩ = some (.int .u8 38) := hrecX.c0
        have hc6X := hrecX.c6
        have hcgX := cell_go (cell_go Hcg1.out hb) hX
        have HyX := Lib.hid (Held.go hX (Held.go hb Hy.out))
        have HrecX := Lib.hid hrecX
        have HcX := Lib.hid hcX
        have HB2 := Lib.hid hB2
        have HrX := Lib.hid hrX
        have HbX := Lib.hid (bgo (bgo Hb.out hb) hX)
        clear hX hB2 hrX hrecX hb
        go_wp2_with (refine st trans16 _ _ rfl rfl _ rfl _ rfl (f := ?_) ?_ ?_; rotate_left; first | (with_reducible assumption) | (with_reducible exact Row.new4 _ _ rfl) | (with_reducible exact Row.new16 _ _ rfl) | ((with_reducible refine Row.set ?_ _ _); (with_reducible assumption)) | ((with_reducible refine Row.other ?_ ?_ _); (with_reducible assumption); (focus first | (simp; done) | (simp; omega))) | ((with_reducible refine Row.alloc ?_ _); (with_reducible assumption)) | ((with_reducible refine Row.drew ?_); (with_reducible assumption)))
        refine (Ih.out y by' _ Hyw.out Hly.out HyX.out).mono ?_
        rintro e w4 ⟨rfl, hb4⟩
        clear hcX hc0X hc6X hcgX
        have hY : Below w4.heap.size w4 ((w4.alloc (.cells #[.int .i64 0, .int .i64 0, .int .i64 0, .int .i64 0, .int .i64 0, .int .i64 0, .int .i64 0, .int .i64 0, .int .i64 0, .int .i64 0, .int .i64 0, .int .i64 0, .int .i64 0, .int .i64 0, .int .i64 0, .int .i64 0] 66)).setRow w4.heap.size (cellsF 16 (tr y))) := below_setRow (ba1 _ _) (Nat.le_refl _) _
        have HbY := Lib.hid (bgo (bgo HbX.out hb4) hY)
        have HB4 := Lib.hid ((HB2.out.go hb4).go hY)
        have hrX4 : Row ((w4.alloc (.cells #[.int .i64 0, .int .i64 0, .int .i64 0, .int .i64 0, .int .i64 0, .int .i64 0, .int .i64 0, .int .i64 0, .int .i64 0, .int .i64 0, .int .i64 0, .int .i64 0, .int .i64 0, .int .i64 0, .int .i64 0, .int .i64 0] 66)).setRow w4.heap.size (cellsF 16 (tr y))) w2.heap.size 16 (tr x) := (HrX.out.go hb4).go hY
        have hrY4 : Row ((w4.alloc (.cells #[.int .i64 0, .int .i64 0, .int .i64 0, .int .i64 0, .int .i64 0, .int .i64 0, .int .i64 0, .int .i64 0, .int .i64 0, .int .i64 0, .int .i64 0, .int .i64 0, .int .i64 0, .int .i64 0, .int .i64 0, .int .i64 0] 66)).setRow w4.heap.size (cellsF 16 (tr y))) w4.heap.size 16 (tr y) := (Row.new16 _ _ rfl).setRow _
        have hcY : (((w4.alloc (.cells #[.int .i64 0, .int .i64 0, .int .i64 0, .int .i64 0, .int .i64 0, .int .i64 0, .int .i64 0, .int .i64 0, .int .i64 0, .int .i64 0, .int .i64 0, .int .i64 0, .int .i64 0, .int .i64 0, .int .i64 0, .int .i64 0] 66)).setRow w4.heap.size (cellsF 16 (tr y)))).cell? ⟨w.heap.size, 0, none⟩ = some (.pointer (some ⟨b, 0, none⟩)) := cell_go (cell_go HcX.out hb4) hY
        have hrecY := (HrecX.out.go hb4).go hY
        have hc0Y : (((w4.alloc (.cells #[.int .i64 0, .int .i64 0, .int .i64 0, .int .i64 0, .int .i64 0, .int .i64 0, .int .i64 0, .int .i64 0, .int .i64 0, .int .i64 0, .int .i64 0, .int .i64 0, .int .i64 0, .int .i64 0, .int .i64 0, .int .i64 0] 66)).setRow w4.heap.size (cellsF 16 (tr y)))).cell? ⟨b, 0, none⟩ = some (.int .u8 38) := hrecY.c0
        clear hY hb4 hrecY
        go_wp2_with (first | (refine st trans16 _ _ rfl rfl _ rfl _ rfl (f := ?_) ?_ ?_; rotate_left; first | (with_reducible assumption) | (with_reducible exact Row.new4 _ _ rfl) | (with_reducible exact Row.new16 _ _ rfl) | ((with_reducible refine Row.set ?_ _ _); (with_reducible assumption)) | ((with_reducible refine Row.other ?_ ?_ _); (with_reducible assumption); (focus first | (simp; done) | (simp; omega))) | ((with_reducible refine Row.alloc ?_ _); (with_reducible assumption)) | ((with_reducible refine Row.drew ?_); (with_reducible assumption))) | (refine ld trans16 _ rfl rfl _ rfl (f := ?_) ?_ ?_; rotate_left; first | (with_reducible assumption) | (with_reducible exact Row.new4 _ _ rfl) | (with_reducible exact Row.new16 _ _ rfl) | ((with_reducible refine Row.set ?_ _ _); (with_reducible assumption)) | ((with_reducible refine Row.other ?_ ?_ _); (with_reducible assumption); (focus first | (simp; done) | (simp; omega))) | ((with_reducible refine Row.alloc ?_ _); (with_reducible assumption)) | ((with_reducible refine Row.drew ?_); (with_reducible assumption))))
        clear hrX4 hrY4
        refine (trans_meet (tr x) (tr y) (tr_Tr Hyw.out).dg _).mono ?_
        rintro e w6 ⟨rfl, hb6⟩
        have hB6 := HB4.out.go hb6
        have Hb6 := Lib.hid (bgo HbY.out hb6)
        clear hb6
        go_wp2_with (refine st trans16 _ _ rfl rfl _ rfl _ rfl (f := ?_) ?_ ?_; rotate_left; first | (with_reducible assumption) | (with_reducible exact Row.new4 _ _ rfl) | (with_reducible exact Row.new16 _ _ rfl) | ((with_reducible refine Row.set ?_ _ _); (with_reducible assumption)) | ((with_reducible refine Row.other ?_ ?_ _); (with_reducible assumption); (focus first | (simp; done) | (simp; omega))) | ((with_reducible refine Row.alloc ?_ _); (with_reducible assumption)) | ((with_reducible refine Row.drew ?_); (with_reducible assumption)))
        exact ret_row trans16 rfl _ rfl (hB6.setRow _) rfl ⟨rfl, below_setRow Hb6.out (by omega) _⟩
      · have hc0 : (((w.alloc (.cells #[.pointer (some ⟨b, 0, none⟩)] 54)).alloc (.cells #[.int .i64 0, .int .i64 0, .int .i64 0, .int .i64 0, .int .i64 0, .int .i64 0, .int .i64 0, .int .i64 0, .int .i64 0, .int .i64 0, .int .i64 0, .int .i64 0, .int .i64 0, .int .i64 0, .int .i64 0, .int .i64 0] 66))).cell? ⟨b, 0, none⟩ = some (.int .u8 124) := HrW.out.c0
        clear hs hl
        go_enter Try.func73, Try.ntmps73
        go_wp2_with fail
        refine (Ih.out x bx _ Hxw.out Hl.out Hx.out).mono ?_
        rintro e w2 ⟨rfl, hb⟩
        have hX : Below w2.heap.size w2 ((w2.alloc (.cells #[.int .i64 0, .int .i64 0, .int .i64 0, .int .i64 0, .int .i64 0, .int .i64 0, .int .i64 0, .int .i64 0, .int .i64 0, .int .i64 0, .int .i64 0, .int .i64 0, .int .i64 0, .int .i64 0, .int .i64 0, .int .i64 0] 66)).setRow w2.heap.size (cellsF 16 (tr x))) := below_setRow (ba1 _ _) (Nat.le_refl _) _
        have hB2 : Row ((w2.alloc (.cells #[.int .i64 0, .int .i64 0, .int .i64 0, .int .i64 0, .int .i64 0, .int .i64 0, .int .i64 0, .int .i64 0, .int .i64 0, .int .i64 0, .int .i64 0, .int .i64 0, .int .i64 0, .int .i64 0, .int .i64 0, .int .i64 0] 66)).setRow w2.heap.size (cellsF 16 (tr x))) (w.heap.size + 1) 16 (fun _ => 0) := (HB.out.go hb).go hX
        have hrX : Row ((w2.alloc (.cells #[.int .i64 0, .int .i64 0, .int .i64 0, .int .i64 0, .int .i64 0, .int .i64 0, .int .i64 0, .int .i64 0, .int .i64 0, .int .i64 0, .int .i64 0, .int .i64 0, .int .i64 0, .int .i64 0, .int .i64 0, .int .i64 0] 66)).setRow w2.heap.size (cellsF 16 (tr x))) w2.heap.size 16 (tr x) := (Row.new16 _ _ rfl).setRow _
        have hcX : (((w2.alloc (.cells #[.int .i64 0, .int .i64 0, .int .i64 0, .int .i64 0, .int .i64 0, .int .i64 0, .int .i64 0, .int .i64 0, .int .i64 0, .int .i64 0, .int .i64 0, .int .i64 0, .int .i64 0, .int .i64 0, .int .i64 0, .int .i64 0] 66)).setRow w2.heap.size (cellsF 16 (tr x)))).cell? ⟨w.heap.size, 0, none⟩ = some (.pointer (some ⟨b, 0, none⟩)) := cell_go (cell_go HcW.out hb) hX
        have hrecX := (HrW.out.go hb).go hX
        have hc0X : (((w2.alloc (.cells #[.int .i64 0, .int .i64 0, .int .i64 0, .int .i64 0, .int .i64 0, .int .i64 0, .int .i64 0, .int .i64 0, .int .i64 0, .int .i64 0, .int .i64 0, .int .i64 0, .int .i64 0, .int .i64 0, .int .i64 0, .int .i64 0] 66)).setRow w2.heap.size (cellsF 16 (tr x)))).cell? ⟨b, 0, none⟩ = some (.int .u8 124) := hrecX.c0
        have hc6X := hrecX.c6
        have hcgX := cell_go (cell_go Hcg1.out hb) hX
        have HyX := Lib.hid (Held.go hX (Held.go hb Hy.out))
        have HrecX := Lib.hid hrecX
        have HcX := Lib.hid hcX
        have HB2 := Lib.hid hB2
        have HrX := Lib.hid hrX
        have HbX := Lib.hid (bgo (bgo Hb.out hb) hX)
        clear hX hB2 hrX hrecX hb
        go_wp2_with (refine st trans16 _ _ rfl rfl _ rfl _ rfl (f := ?_) ?_ ?_; rotate_left; first | (with_reducible assumption) | (with_reducible exact Row.new4 _ _ rfl) | (with_reducible exact Row.new16 _ _ rfl) | ((with_reducible refine Row.set ?_ _ _); (with_reducible assumption)) | ((with_reducible refine Row.other ?_ ?_ _); (with_reducible assumption); (focus first | (simp; done) | (simp; omega))) | ((with_reducible refine Row.alloc ?_ _); (with_reducible assumption)) | ((with_reducible refine Row.drew ?_); (with_reducible assumption)))
        refine (Ih.out y by' _ Hyw.out Hly.out HyX.out).mono ?_
        rintro e w4 ⟨rfl, hb4⟩
        clear hcX hc0X hc6X hcgX
        have hY : Below w4.heap.size w4 ((w4.alloc (.cells #[.int .i64 0, .int .i64 0, .int .i64 0, .int .i64 0, .int .i64 0, .int .i64 0, .int .i64 0, .int .i64 0, .int .i64 0, .int .i64 0, .int .i64 0, .int .i64 0, .int .i64 0, .int .i64 0, .int .i64 0, .int .i64 0] 66)).setRow w4.heap.size (cellsF 16 (tr y))) := below_setRow (ba1 _ _) (Nat.le_refl _) _
        have HbY := Lib.hid (bgo (bgo HbX.out hb4) hY)
        have HB4 := Lib.hid ((HB2.out.go hb4).go hY)
        have hrX4 : Row ((w4.alloc (.cells #[.int .i64 0, .int .i64 0, .int .i64 0, .int .i64 0, .int .i64 0, .int .i64 0, .int .i64 0, .int .i64 0, .int .i64 0, .int .i64 0, .int .i64 0, .int .i64 0, .int .i64 0, .int .i64 0, .int .i64 0, .int .i64 0] 66)).setRow w4.heap.size (cellsF 16 (tr y))) w2.heap.size 16 (tr x) := (HrX.out.go hb4).go hY
        have hrY4 : Row ((w4.alloc (.cells #[.int .i64 0, .int .i64 0, .int .i64 0, .int .i64 0, .int .i64 0, .int .i64 0, .int .i64 0, .int .i64 0, .int .i64 0, .int .i64 0, .int .i64 0, .int .i64 0, .int .i64 0, .int .i64 0, .int .i64 0, .int .i64 0] 66)).setRow w4.heap.size (cellsF 16 (tr y))) w4.heap.size 16 (tr y) := (Row.new16 _ _ rfl).setRow _
        have hcY : (((w4.alloc (.cells #[.int .i64 0, .int .i64 0, .int .i64 0, .int .i64 0, .int .i64 0, .int .i64 0, .int .i64 0, .int .i64 0, .int .i64 0, .int .i64 0, .int .i64 0, .int .i64 0, .int .i64 0, .int .i64 0, .int .i64 0, .int .i64 0] 66)).setRow w4.heap.size (cellsF 16 (tr y)))).cell? ⟨w.heap.size, 0, none⟩ = some (.pointer (some ⟨b, 0, none⟩)) := cell_go (cell_go HcX.out hb4) hY
        have hrecY := (HrecX.out.go hb4).go hY
        have hc0Y : (((w4.alloc (.cells #[.int .i64 0, .int .i64 0, .int .i64 0, .int .i64 0, .int .i64 0, .int .i64 0, .int .i64 0, .int .i64 0, .int .i64 0, .int .i64 0, .int .i64 0, .int .i64 0, .int .i64 0, .int .i64 0, .int .i64 0, .int .i64 0] 66)).setRow w4.heap.size (cellsF 16 (tr y)))).cell? ⟨b, 0, none⟩ = some (.int .u8 124) := hrecY.c0
        clear hY hb4 hrecY
        go_wp2_with (first | (refine st trans16 _ _ rfl rfl _ rfl _ rfl (f := ?_) ?_ ?_; rotate_left; first | (with_reducible assumption) | (with_reducible exact Row.new4 _ _ rfl) | (with_reducible exact Row.new16 _ _ rfl) | ((with_reducible refine Row.set ?_ _ _); (with_reducible assumption)) | ((with_reducible refine Row.other ?_ ?_ _); (with_reducible assumption); (focus first | (simp; done) | (simp; omega))) | ((with_reducible refine Row.alloc ?_ _); (with_reducible assumption)) | ((with_reducible refine Row.drew ?_); (with_reducible assumption))) | (refine ld trans16 _ rfl rfl _ rfl (f := ?_) ?_ ?_; rotate_left; first | (with_reducible assumption) | (with_reducible exact Row.new4 _ _ rfl) | (with_reducible exact Row.new16 _ _ rfl) | ((with_reducible refine Row.set ?_ _ _); (with_reducible assumption)) | ((with_reducible refine Row.other ?_ ?_ _); (with_reducible assumption); (focus first | (simp; done) | (simp; omega))) | ((with_reducible refine Row.alloc ?_ _); (with_reducible assumption)) | ((with_reducible refine Row.drew ?_); (with_reducible assumption))))
        clear hrX4 hrY4
        refine (trans_join (tr x) (tr y) (tr_Tr Hyw.out).dg _).mono ?_
        rintro e w6 ⟨rfl, hb6⟩
        have hB6 := HB4.out.go hb6
        have Hb6 := Lib.hid (bgo HbY.out hb6)
        clear hb6
        go_wp2_with (refine st trans16 _ _ rfl rfl _ rfl _ rfl (f := ?_) ?_ ?_; rotate_left; first | (with_reducible assumption) | (with_reducible exact Row.new4 _ _ rfl) | (with_reducible exact Row.new16 _ _ rfl) | ((with_reducible refine Row.set ?_ _ _); (with_reducible assumption)) | ((with_reducible refine Row.other ?_ ?_ _); (with_reducible assumption); (focus first | (simp; done) | (simp; omega))) | ((with_reducible refine Row.alloc ?_ _); (with_reducible assumption)) | ((with_reducible refine Row.drew ?_); (with_reducible assumption)))
        exact ret_row trans16 rfl _ rfl (hB6.setRow _) rfl ⟨rfl, below_setRow Hb6.out (by omega) _⟩
      · have hc0 : (((w.alloc (.cells #[.pointer (some ⟨b, 0, none⟩)] 54)).alloc (.cells #[.int .i64 0, .int .i64 0, .int .i64 0, .int .i64 0, .int .i64 0, .int .i64 0, .int .i64 0, .int .i64 0, .int .i64 0, .int .i64 0, .int .i64 0, .int .i64 0, .int .i64 0, .int .i64 0, .int .i64 0, .int .i64 0] 66))).cell? ⟨b, 0, none⟩ = some (.int .u8 105) := HrW.out.c0
        clear hs hl
        go_enter Try.func73, Try.ntmps73
        go_wp2_with fail
        refine (Ih.out x bx _ Hxw.out Hl.out Hx.out).mono ?_
        rintro e w2 ⟨rfl, hb⟩
        have hX : Below w2.heap.size w2 ((w2.alloc (.cells #[.int .i64 0, .int .i64 0, .int .i64 0, .int .i64 0, .int .i64 0, .int .i64 0, .int .i64 0, .int .i64 0, .int .i64 0, .int .i64 0, .int .i64 0, .int .i64 0, .int .i64 0, .int .i64 0, .int .i64 0, .int .i64 0] 66)).setRow w2.heap.size (cellsF 16 (tr x))) := below_setRow (ba1 _ _) (Nat.le_refl _) _
        have hB2 : Row ((w2.alloc (.cells #[.int .i64 0, .int .i64 0, .int .i64 0, .int .i64 0, .int .i64 0, .int .i64 0, .int .i64 0, .int .i64 0, .int .i64 0, .int .i64 0, .int .i64 0, .int .i64 0, .int .i64 0, .int .i64 0, .int .i64 0, .int .i64 0] 66)).setRow w2.heap.size (cellsF 16 (tr x))) (w.heap.size + 1) 16 (fun _ => 0) := (HB.out.go hb).go hX
        have hrX : Row ((w2.alloc (.cells #[.int .i64 0, .int .i64 0, .int .i64 0, .int .i64 0, .int .i64 0, .int .i64 0, .int .i64 0, .int .i64 0, .int .i64 0, .int .i64 0, .int .i64 0, .int .i64 0, .int .i64 0, .int .i64 0, .int .i64 0, .int .i64 0] 66)).setRow w2.heap.size (cellsF 16 (tr x))) w2.heap.size 16 (tr x) := (Row.new16 _ _ rfl).setRow _
        have hcX : (((w2.alloc (.cells #[.int .i64 0, .int .i64 0, .int .i64 0, .int .i64 0, .int .i64 0, .int .i64 0, .int .i64 0, .int .i64 0, .int .i64 0, .int .i64 0, .int .i64 0, .int .i64 0, .int .i64 0, .int .i64 0, .int .i64 0, .int .i64 0] 66)).setRow w2.heap.size (cellsF 16 (tr x)))).cell? ⟨w.heap.size, 0, none⟩ = some (.pointer (some ⟨b, 0, none⟩)) := cell_go (cell_go HcW.out hb) hX
        have hrecX := (HrW.out.go hb).go hX
        have hc0X : (((w2.alloc (.cells #[.int .i64 0, .int .i64 0, .int .i64 0, .int .i64 0, .int .i64 0, .int .i64 0, .int .i64 0, .int .i64 0, .int .i64 0, .int .i64 0, .int .i64 0, .int .i64 0, .int .i64 0, .int .i64 0, .int .i64 0, .int .i64 0] 66)).setRow w2.heap.size (cellsF 16 (tr x)))).cell? ⟨b, 0, none⟩ = some (.int .u8 105) := hrecX.c0
        have hc6X := hrecX.c6
        have hcgX := cell_go (cell_go Hcg1.out hb) hX
        have HyX := Lib.hid (Held.go hX (Held.go hb Hy.out))
        have HrecX := Lib.hid hrecX
        have HcX := Lib.hid hcX
        have HB2 := Lib.hid hB2
        have HrX := Lib.hid hrX
        have HbX := Lib.hid (bgo (bgo Hb.out hb) hX)
        clear hX hB2 hrX hrecX hb
        go_wp2_with (refine st trans16 _ _ rfl rfl _ rfl _ rfl (f := ?_) ?_ ?_; rotate_left; first | (with_reducible assumption) | (with_reducible exact Row.new4 _ _ rfl) | (with_reducible exact Row.new16 _ _ rfl) | ((with_reducible refine Row.set ?_ _ _); (with_reducible assumption)) | ((with_reducible refine Row.other ?_ ?_ _); (with_reducible assumption); (focus first | (simp; done) | (simp; omega))) | ((with_reducible refine Row.alloc ?_ _); (with_reducible assumption)) | ((with_reducible refine Row.drew ?_); (with_reducible assumption)))
        refine (Ih.out y by' _ Hyw.out Hly.out HyX.out).mono ?_
        rintro e w4 ⟨rfl, hb4⟩
        clear hcX hc0X hc6X hcgX
        have hY : Below w4.heap.size w4 ((w4.alloc (.cells #[.int .i64 0, .int .i64 0, .int .i64 0, .int .i64 0, .int .i64 0, .int .i64 0, .int .i64 0, .int .i64 0, .int .i64 0, .int .i64 0, .int .i64 0, .int .i64 0, .int .i64 0, .int .i64 0, .int .i64 0, .int .i64 0] 66)).setRow w4.heap.size (cellsF 16 (tr y))) := below_setRow (ba1 _ _) (Nat.le_refl _) _
        have HbY := Lib.hid (bgo (bgo HbX.out hb4) hY)
        have HB4 := Lib.hid ((HB2.out.go hb4).go hY)
        have hrX4 : Row ((w4.alloc (.cells #[.int .i64 0, .int .i64 0, .int .i64 0, .int .i64 0, .int .i64 0, .int .i64 0, .int .i64 0, .int .i64 0, .int .i64 0, .int .i64 0, .int .i64 0, .int .i64 0, .int .i64 0, .int .i64 0, .int .i64 0, .int .i64 0] 66)).setRow w4.heap.size (cellsF 16 (tr y))) w2.heap.size 16 (tr x) := (HrX.out.go hb4).go hY
        have hrY4 : Row ((w4.alloc (.cells #[.int .i64 0, .int .i64 0, .int .i64 0, .int .i64 0, .int .i64 0, .int .i64 0, .int .i64 0, .int .i64 0, .int .i64 0, .int .i64 0, .int .i64 0, .int .i64 0, .int .i64 0, .int .i64 0, .int .i64 0, .int .i64 0] 66)).setRow w4.heap.size (cellsF 16 (tr y))) w4.heap.size 16 (tr y) := (Row.new16 _ _ rfl).setRow _
        have hcY : (((w4.alloc (.cells #[.int .i64 0, .int .i64 0, .int .i64 0, .int .i64 0, .int .i64 0, .int .i64 0, .int .i64 0, .int .i64 0, .int .i64 0, .int .i64 0, .int .i64 0, .int .i64 0, .int .i64 0, .int .i64 0, .int .i64 0, .int .i64 0] 66)).setRow w4.heap.size (cellsF 16 (tr y)))).cell? ⟨w.heap.size, 0, none⟩ = some (.pointer (some ⟨b, 0, none⟩)) := cell_go (cell_go HcX.out hb4) hY
        have hrecY := (HrecX.out.go hb4).go hY
        have hc0Y : (((w4.alloc (.cells #[.int .i64 0, .int .i64 0, .int .i64 0, .int .i64 0, .int .i64 0, .int .i64 0, .int .i64 0, .int .i64 0, .int .i64 0, .int .i64 0, .int .i64 0, .int .i64 0, .int .i64 0, .int .i64 0, .int .i64 0, .int .i64 0] 66)).setRow w4.heap.size (cellsF 16 (tr y)))).cell? ⟨b, 0, none⟩ = some (.int .u8 105) := hrecY.c0
        have hf := impl_makeTrans 128 #[] #[.pointer (some ⟨w.heap.size, 0, none⟩), .pointer (some ⟨w2.heap.size, 0, none⟩), .pointer (some ⟨w4.heap.size, 0, none⟩)] (fun q => ifv (pv d) (tr x q) (tr y q)) ((w4.alloc (.cells #[.int .i64 0, .int .i64 0, .int .i64 0, .int .i64 0, .int .i64 0, .int .i64 0, .int .i64 0, .int .i64 0, .int .i64 0, .int .i64 0, .int .i64 0, .int .i64 0, .int .i64 0, .int .i64 0, .int .i64 0, .int .i64 0] 66)).setRow w4.heap.size (cellsF 16 (tr y))) Try.call128 (fun s w1 hs hb => contract_trans4 w.heap.size b w2.heap.size w4.heap.size _ _ _ _ _ (tr x) (tr y) s hs w1 (cell_go hcY hb) (hrecY.go hb) (hrX4.go hb) (hrY4.go hb))
        have Hf := Lib.hid hf
        clear hf hY hb4 hrecY hrX4 hrY4
        go_wp2_with (refine st trans16 _ _ rfl rfl _ rfl _ rfl (f := ?_) ?_ ?_; rotate_left; first | (with_reducible assumption) | (with_reducible exact Row.new4 _ _ rfl) | (with_reducible exact Row.new16 _ _ rfl) | ((with_reducible refine Row.set ?_ _ _); (with_reducible assumption)) | ((with_reducible refine Row.other ?_ ?_ _); (with_reducible assumption); (focus first | (simp; done) | (simp; omega))) | ((with_reducible refine Row.alloc ?_ _); (with_reducible assumption)) | ((with_reducible refine Row.drew ?_); (with_reducible assumption)))
        refine Hf.out.mono ?_
        rintro e w6 ⟨rfl, hb6⟩
        have hB6 := HB4.out.go hb6
        have Hb6 := Lib.hid (bgo HbY.out hb6)
        clear hb6
        go_wp2_with (refine st trans16 _ _ rfl rfl _ rfl _ rfl (f := ?_) ?_ ?_; rotate_left; first | (with_reducible assumption) | (with_reducible exact Row.new4 _ _ rfl) | (with_reducible exact Row.new16 _ _ rfl) | ((with_reducible refine Row.set ?_ _ _); (with_reducible assumption)) | ((with_reducible refine Row.other ?_ ?_ _); (with_reducible assumption); (focus first | (simp; done) | (simp; omega))) | ((with_reducible refine Row.alloc ?_ _); (with_reducible assumption)) | ((with_reducible refine Row.drew ?_); (with_reducible assumption)))
        exact ret_row trans16 rfl _ rfl (hB6.setRow _) rfl ⟨rfl, below_setRow Hb6.out (by omega) _⟩
end Go.Proofs.Ytfajaikkagmkeaa
