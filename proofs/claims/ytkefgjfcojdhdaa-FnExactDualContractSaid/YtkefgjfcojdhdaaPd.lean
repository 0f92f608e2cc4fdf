/-
  Plain definitions and laws: the dual contract. No program in sight.
-/
import Derived.Test.YtkefgjfcojdhdaaPu
namespace Go.DC
open Go.RowKit
set_option linter.unusedVariables false
set_option linter.unusedSimpArgs false
/-- The letter with angel and demon exchanged. -/
def duO (o : UInt8) : UInt8 := if o = 97 then 109 else if o = 109 then 97 else if o = 33 then 63 else if o = 63 then 33 else if o = 65 then 68 else if o = 68 then 65
  else if o = 38 then 124 else if o = 124 then 38 else o
/-- The dual contract. -/
def du : Ct → Ct
  | .z o d => .z (duO o) d
  | .u o d x => .u (duO o) d (du x)
  | .b o d x y => .b (duO o) d (du x) (du y)
def loopOps : List UInt8 := [119, 42, 43]
theorem du_kids (t : Ct) : (du t).kids = t.kids.map du := by cases t <;> rfl
theorem du_o (t : Ct) : (du t).o = duO t.o := by cases t <;> rfl
theorem du_ds (t : Ct) : (du t).ds = t.ds := by cases t <;> rfl
theorem du_tx (t : Ct) : (du t).tx = duO t.o :: (t.ds ++ txs (t.kids.map du)) := by rw [tx_kids, du_o, du_ds, du_kids]
theorem du_len : ∀ t : Ct, (du t).tx.length = t.tx.length
  | .z o d => rfl
  | .u o d x => by have := du_len x; simp [du, Ct.tx, this]
  | .b o d x y => by have := du_len x; have := du_len y; simp [du, Ct.tx, *]
theorem shp_duO (o : UInt8) : shp (duO o) = shp o := by
  have h8 : ∀ n : Fin 256, shp (duO (UInt8.ofNat n.val)) = shp (UInt8.ofNat n.val) := by decide +kernel
  have := h8 ⟨o.toNat, o.toNat_lt⟩
  simpa using this
theorem du_wf : ∀ t : Ct, (du t).wf = t.wf
  | .z o d => by simp [du, Ct.wf, shp_duO]
  | .u o d x => by have := du_wf x; simp [du, Ct.wf, shp_duO, this]
  | .b o d x y => by have := du_wf x; have := du_wf y; simp [du, Ct.wf, shp_duO, *]
theorem duO_duO (o : UInt8) : duO (duO o) = o := by
  have h8 : ∀ n : Fin 256, duO (duO (UInt8.ofNat n.val)) = UInt8.ofNat n.val := by decide +kernel
  have := h8 ⟨o.toNat, o.toNat_lt⟩
  simpa using this
theorem du_du : ∀ t : Ct, du (du t) = t
  | .z o d => by simp [du, duO_duO]
  | .u o d x => by simp [du, duO_duO, du_du x]
  | .b o d x y => by simp [du, duO_duO, du_du x, du_du y]
theorem txs_app (l r : List Ct) : txs (l ++ r) = txs l ++ txs r := by unfold txs; rw [List.map_append, List.flatten_append]
theorem txs_take {l : List Ct} {m : Nat} (h : m < l.length) : txs (l.take (m + 1)) = txs (l.take m) ++ l[m].tx := by
  rw [List.take_succ_eq_append_getElem h, txs_app]; simp [txs]
/-- The exchange of letters, as the program makes it. -/
def duA : List UInt8 := [97, 109, 33, 63, 65, 68, 38, 124]
def duB : ByteArray := ⟨#[109, 97, 63, 33, 68, 65, 124, 38]⟩
theorem duA_yes {o : UInt8} (h : 0 ≤ Lib.indexByte duA o) : ∃ m : Nat, Lib.indexByte duA o = m ∧ m + 1 ≤ 8 ∧ duB.extract m (m + 1) = bts [duO o] := by
  have h8 : ∀ n : Fin 256, 0 ≤ Lib.indexByte duA (UInt8.ofNat n.val) → ∃ m : Fin 8, Lib.indexByte duA (UInt8.ofNat n.val) = (m.val : Int) ∧ duB.extract m.val (m.val + 1) = bts [duO (UInt8.ofNat n.val)] := by decide +kernel
  have := h8 ⟨o.toNat, o.toNat_lt⟩
  simp at this
  obtain ⟨m, h1, h2⟩ := this h
  exact ⟨m.val, h1, by omega, h2⟩
theorem duA_no {o : UInt8} (h : ¬ 0 ≤ Lib.indexByte duA o) : duO o = o := by
  have h8 : ∀ n : Fin 256, ¬ 0 ≤ Lib.indexByte duA (UInt8.ofNat n.val) → duO (UInt8.ofNat n.val) = UInt8.ofNat n.val := by decide +kernel
  have := h8 ⟨o.toNat, o.toNat_lt⟩
  simp at this
  exact this (by omega)
/-- The exchange of letters, as the reference makes it. -/
def duF : ByteArray := ⟨#[115, 97, 109, 33, 63, 65, 68, 59, 38, 124, 105]⟩
def duT : ByteArray := ⟨#[115, 109, 97, 63, 33, 68, 65, 59, 124, 38, 105]⟩
theorem duF_yes {o : UInt8} {q : Nat × Nat} (h : shp o = some q) (h2 : one loopOps o = 0) : ∃ m : Nat, Lib.indexByte duF.data.toList o = m ∧ m + 1 ≤ 11 ∧ duT.extract m (m + 1) = bts [duO o] := by
  have h8 : ∀ n : Fin 256, (shp (UInt8.ofNat n.val)).isSome = true → one loopOps (UInt8.ofNat n.val) = 0 → ∃ m : Fin 11, Lib.indexByte duF.data.toList (UInt8.ofNat n.val) = (m.val : Int) ∧ duT.extract m.val (m.val + 1) = bts [duO (UInt8.ofNat n.val)] := by decide +kernel
  have := h8 ⟨o.toNat, o.toNat_lt⟩
  simp at this
  obtain ⟨m, h1, h3⟩ := this (by rw [h]; rfl) h2
  exact ⟨m.val, h1, by omega, h3⟩
theorem noloop_o {t : Ct} (h : cnt loopOps t = 0) : one loopOps t.o = 0 := by
  have h1 := one_rng loopOps t.o
  cases t with
  | z o d => exact h
  | u o d x => have := cnt_rng loopOps x; simp only [cnt] at h; simp only [Ct.o] at h1 ⊢; omega
  | b o d x y => have := cnt_rng loopOps x; have := cnt_rng loopOps y; simp only [cnt] at h; simp only [Ct.o] at h1 ⊢; omega
theorem noloop_kid {t x : Ct} (h : cnt loopOps t = 0) (hx : x ∈ t.kids) : cnt loopOps x = 0 := by
  cases t with
  | z o d => simp [Ct.kids] at hx
  | u o d y =>
    simp [Ct.kids] at hx; subst hx
    have := one_rng loopOps o; have := cnt_rng loopOps x; simp only [cnt] at h; omega
  | b o d y z =>
    have := one_rng loopOps o; have := cnt_rng loopOps y; have := cnt_rng loopOps z; simp only [cnt] at h
    simp [Ct.kids] at hx; rcases hx with rfl | rfl <;> omega
theorem head_cut (t : Ct) : t.bytes.extract 0 (1 + t.ds.length) = bts (t.o :: t.ds) := by
  refine bts_of ?_
  rw [extract_list, Ct.bytes_list, tx_kids, List.drop_zero, Nat.sub_zero, Nat.add_comm, List.take_succ_cons, List.take_left]
theorem tail_cut (t : Ct) : t.bytes.extract 1 (1 + t.ds.length) = bts t.ds := by
  refine bts_of ?_
  rw [extract_list, Ct.bytes_list, tx_kids, List.drop_succ_cons, List.drop_zero, Nat.add_sub_cancel_left, List.take_left]
theorem cons_cut (o : UInt8) (l : List UInt8) : (bts (o :: l)).extract 1 (1 + l.length) = bts l := by
  refine bts_of ?_
  rw [extract_list, bts_list, List.drop_succ_cons, List.drop_zero, Nat.add_sub_cancel_left, List.take_length]
theorem head_fits (t : Ct) : 1 + t.ds.length ≤ t.bytes.size := by rw [Ct.bytes_size, tx_kids]; simp; omega
theorem ds_le {t : Ct} (h : t.wf = true) : t.ds.length ≤ 4 := by
  obtain ⟨k, hs, _⟩ := wf_shp h
  exact (shp_k hs).2
end Go.DC
