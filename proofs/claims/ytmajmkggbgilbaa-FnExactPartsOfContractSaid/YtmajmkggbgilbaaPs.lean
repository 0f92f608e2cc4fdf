/-
  Plain laws and memory: texts of contracts, slices of texts. Over any program.
-/
import Derived.Test.YtmajmkggbgilbaaPc
namespace Go.DC
open Go.RowKit
set_option linter.unusedVariables false
set_option linter.unusedSimpArgs false
def bts (l : List UInt8) : ByteArray := ⟨l.toArray⟩
theorem bts_list (l : List UInt8) : (bts l).data.toList = l := by simp [bts]
theorem bts_size (l : List UInt8) : (bts l).size = l.length := by show l.toArray.size = _; simp
theorem bts_app (l r : List UInt8) : bts l ++ bts r = bts (l ++ r) := by
  simp [bts, ByteArray.mk_append_mk]
theorem bts_of {c : ByteArray} {l : List UInt8} (h : c.data.toList = l) : c = bts l := by
  have : c.data = l.toArray := by rw [← h]
  show c = ⟨l.toArray⟩
  rw [← this]
theorem bytes_bts (t : Ct) : t.bytes = bts t.tx := rfl
theorem run_bts_add {P : Program} (l r : List UInt8) (w : World) (h : l.length + r.length ≤ 9223372036854775807) : (Op.stringOp .add (bts l) (bts r)).run P w = .ok (.string (bts (l ++ r))) w := by
  rw [run_string_add_sum w _ _ (by rw [bts_size, bts_size]; exact h), bts_app]
theorem bytes_pos (t : Ct) : 0 < t.bytes.size := by rw [Ct.bytes_size]; exact t.tx_pos
theorem tx_head (t : Ct) : ∃ r, t.tx = t.o :: r := by cases t <;> exact ⟨_, rfl⟩
theorem bytes_head (t : Ct) : t.bytes[0]'(bytes_pos t) = t.o := by
  obtain ⟨r, h⟩ := tx_head t
  have h0 : 0 < t.bytes.data.toList.length := by rw [Ct.bytes_list]; exact t.tx_pos
  show t.bytes.data.toList[0] = t.o
  have : t.bytes.data.toList = t.o :: r := by rw [Ct.bytes_list, h]
  simp [this]
/-- The text behind the head. -/
def txs (l : List Ct) : List UInt8 := (l.map Ct.tx).flatten
theorem txs_cons (x : Ct) (l : List Ct) : txs (x :: l) = x.tx ++ txs l := by simp [txs]
theorem tx_kids (t : Ct) : t.tx = t.o :: (t.ds ++ txs t.kids) := by cases t <;> simp [Ct.tx, Ct.o, Ct.ds, Ct.kids, txs]
theorem drop_kids (t : Ct) : t.bytes.data.toList.drop (1 + t.ds.length) = txs t.kids := by
  rw [Ct.bytes_list, tx_kids, Nat.add_comm, List.drop_succ_cons, List.drop_left]
/-- How many digits a letter has. -/
theorem wf_shp {t : Ct} (h : t.wf = true) : ∃ k, shp t.o = some (k, t.ds.length) ∧ k = t.kids.length := by
  cases t with
  | z o d => exact ⟨0, (Ct.wf_z h).1, rfl⟩
  | u o d x => exact ⟨1, (Ct.wf_u h).1, rfl⟩
  | b o d x y => exact ⟨2, (Ct.wf_b h).1, rfl⟩
theorem wf_hxs {t : Ct} (h : t.wf = true) : hxs t.ds = true := by
  cases t with
  | z o d => exact (Ct.wf_z h).2
  | u o d x => exact (Ct.wf_u h).2.1
  | b o d x y => exact (Ct.wf_b h).2.1
theorem shp_d {o : UInt8} {k d : Nat} (h : shp o = some (k, d)) : (d = 1 ∧ (o = 33 ∨ o = 63 ∨ o = 105 ∨ o = 119)) ∨ (d = 4 ∧ (o = 65 ∨ o = 68)) ∨
    (d = 0 ∧ o ≠ 33 ∧ o ≠ 63 ∧ o ≠ 105 ∧ o ≠ 119 ∧ o ≠ 65 ∧ o ≠ 68) := by
  rcases (shp_k h).1 with rfl | rfl | rfl
  · rcases shp0 h with ⟨rfl, rfl⟩ | ⟨rfl, rfl⟩ | ⟨rfl, rfl⟩ | ⟨rfl, rfl⟩ | ⟨rfl, rfl⟩ | ⟨rfl, rfl⟩ | ⟨rfl, rfl⟩ <;> decide
  · rcases shp1 h with ⟨rfl, rfl⟩ | ⟨rfl, rfl⟩ | ⟨rfl, rfl⟩ <;> decide
  · rcases shp2 h with ⟨rfl, rfl⟩ | ⟨rfl, rfl⟩ | ⟨rfl, rfl⟩ | ⟨rfl, rfl⟩ <;> decide
/-- The next part. -/
theorem part_at {c : ByteArray} {q : Nat} {x : Ct} {l : List Ct} (hx : x.wf = true) (h : c.data.toList.drop q = txs (x :: l)) :
    pe c q = ((q + x.tx.length : Nat) : Int) ∧ q + x.tx.length ≤ c.size ∧ c.extract q (q + x.tx.length) = x.bytes ∧ c.data.toList.drop (q + x.tx.length) = txs l := by
  rw [txs_cons] at h
  have h3 := drop_app h x.tx_pos
  refine ⟨?_, h3.2, ?_, h3.1.symm⟩
  · rw [pe_nat, h, pr_tx _ hx]; simp
  · refine bytes_of_list ?_
    rw [extract_list, Nat.add_sub_cancel_left]
    exact take_app h
theorem no_part {c : ByteArray} {q : Nat} (h : c.data.toList.drop q = txs []) : c.size ≤ q := by
  have : (c.data.toList.drop q).length = 0 := by rw [h]; rfl
  have hsz : c.data.toList.length = c.size := rfl
  simp only [List.length_drop, hsz] at this
  omega
theorem part_more {c : ByteArray} {q : Nat} {x : Ct} {l : List Ct} (h : c.data.toList.drop q = txs (x :: l)) : q < c.size := by
  rw [txs_cons] at h
  have := (drop_app h x.tx_pos).2
  have h2 := x.tx_pos
  have hsz : c.data.toList.length = c.size := rfl
  omega
/-- A slice value that holds texts. -/
def Strs (w : World) (v : Value) (l : List ByteArray) : Prop := ∃ g cap, v = .slice (some ⟨g, 0, none⟩) l.length cap ∧ g < w.heap.size ∧ ∀ i (hi : i < l.length), w.cell? ⟨g, i, none⟩ = some (.string l[i])
theorem Strs.go {w w' : World} {v : Value} {l : List ByteArray} (h : Strs w v l) (hb : Below w.heap.size w w') : Strs w' v l := by
  obtain ⟨g, cap, h1, h2, h3⟩ := h
  exact ⟨g, cap, h1, Nat.lt_of_lt_of_le h2 hb.size, fun i hi => cell_go (h3 i hi) hb⟩
theorem Strs.of_own {w : World} {base : Nat} {e : TypeId} {g n cap : Nat} {l : List ByteArray} (h : w.ownsRow base e 1 (.slice (some ⟨g, 0, none⟩) n cap) n (l.map Value.string)) (hn : n = l.length) : Strs w (.slice (some ⟨g, 0, none⟩) n cap) l := by
  subst hn
  refine ⟨g, cap, rfl, (h.lt g rfl).2, fun i hi => ?_⟩
  have := h.cells (g := g) rfl i (.string l[i]) (by simp [hi])
  have hadd : (⟨g, 0, none⟩ : Addr).add i = ⟨g, i, none⟩ := by unfold Addr.add; split <;> simp_all
  rwa [hadd] at this
/-- The letters of a list. -/
def letsL (l : List Ct) : List UInt8 := (l.map lets).flatten
theorem letsL_app (l r : List Ct) : letsL (l ++ r) = letsL l ++ letsL r := by unfold letsL; rw [List.map_append, List.flatten_append]
theorem lets_kids (t : Ct) : lets t = t.o :: letsL t.kids := by cases t <;> simp [lets, Ct.o, Ct.kids, letsL]
theorem letsL_take {l : List Ct} {m : Nat} (h : m < l.length) : letsL (l.take (m + 1)) = letsL (l.take m) ++ lets l[m] := by
  unfold letsL
  rw [List.take_succ_eq_append_getElem h, List.map_append, List.flatten_append]; simp
theorem lets_len : ∀ t : Ct, (lets t).length ≤ t.tx.length
  | .z o d => by simp [lets, Ct.tx]
  | .u o d x => by have := lets_len x; simp [lets, Ct.tx]; omega
  | .b o d x y => by have := lets_len x; have := lets_len y; simp [lets, Ct.tx]; omega
end Go.DC
