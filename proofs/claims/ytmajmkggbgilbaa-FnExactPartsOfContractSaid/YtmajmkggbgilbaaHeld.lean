/-
  Contracts in memory: the block of a statement, and what the blocks below it hold. Over any program.
-/
import Derived.Test.YtmajmkggbgilbaaTr
namespace Go.DC
open Go.RowKit
set_option linter.unusedVariables false
set_option linter.unusedSimpArgs false
/-- The cells of a statement. -/
def recC (o : UInt8) (p : Int) (x : Nat → Int) (v : Value) (t : ByteArray) : Array Value :=
  #[.int .u8 (o.toNat : Int), .int .i64 p, .int .i64 (x 0), .int .i64 (x 1), .int .i64 (x 2), .int .i64 (x 3), v, .string t]
/-- Block b holds a statement. -/
def Rec (w : World) (b : Nat) (o : UInt8) (p : Int) (x : Nat → Int) (v : Value) (t : ByteArray) : Prop := ∃ T, w.heap[b]? = some (.cells (recC o p x v t) T (0, 0))
section
variable {w w' : World} {b : Nat} {o : UInt8} {p : Int} {x : Nat → Int} {v : Value} {t : ByteArray}
theorem Rec.lt (h : Rec w b o p x v t) : b < w.heap.size := by obtain ⟨T, h⟩ := h; exact lt_of_block h
theorem Rec.c0 (h : Rec w b o p x v t) : w.cell? ⟨b, 0, none⟩ = some (.int .u8 (o.toNat : Int)) := by obtain ⟨T, h⟩ := h; rw [cell_of_row w b 0 _ T _ h]; rfl
theorem Rec.c1 (h : Rec w b o p x v t) : w.cell? ⟨b, 1, none⟩ = some (.int .i64 p) := by obtain ⟨T, h⟩ := h; rw [cell_of_row w b 1 _ T _ h]; rfl
theorem Rec.cr (h : Rec w b o p x v t) {i : Nat} (hi : i < 4) : w.cell? ⟨b, 2 + i, none⟩ = some (.int .i64 (x i)) := by
  obtain ⟨T, h⟩ := h
  rw [cell_of_row w b _ _ T _ h]
  match i, hi with
  | 0, _ => rfl
  | 1, _ => rfl
  | 2, _ => rfl
  | 3, _ => rfl
theorem Rec.c6 (h : Rec w b o p x v t) : w.cell? ⟨b, 6, none⟩ = some v := by obtain ⟨T, h⟩ := h; rw [cell_of_row w b 6 _ T _ h]; rfl
theorem Rec.c7 (h : Rec w b o p x v t) : w.cell? ⟨b, 7, none⟩ = some (.string t) := by obtain ⟨T, h⟩ := h; rw [cell_of_row w b 7 _ T _ h]; rfl
theorem Rec.free (h : Rec w b o p x v t) (i : Nat) : w.frozen? ⟨b, i, none⟩ = false := by obtain ⟨T, h⟩ := h; exact frozen_of_row w b i _ T h
theorem Rec.setp (h : Rec w b o p x v t) (q : Int) : Rec (w.setCell ⟨b, 1, none⟩ (.int .i64 q)) b o q x v t := by
  obtain ⟨T, h⟩ := h; exact ⟨T, by rw [heap_setCell_same w b 1 _ T _ h]; rfl⟩
theorem Rec.setr (h : Rec w b o p x v t) {i : Nat} (hi : i < 4) (q : Int) : Rec (w.setCell ⟨b, 2 + i, none⟩ (.int .i64 q)) b o p (upd x i q) v t := by
  obtain ⟨T, h⟩ := h
  refine ⟨T, ?_⟩
  rw [heap_setCell_same w b _ _ T _ h]
  match i, hi with
  | 0, _ => rfl
  | 1, _ => rfl
  | 2, _ => rfl
  | 3, _ => rfl
theorem Rec.setv (h : Rec w b o p x v t) (v' : Value) : Rec (w.setCell ⟨b, 6, none⟩ v') b o p x v' t := by
  obtain ⟨T, h⟩ := h; exact ⟨T, by rw [heap_setCell_same w b 6 _ T _ h]; rfl⟩
theorem Rec.sett (h : Rec w b o p x v t) (t' : ByteArray) : Rec (w.setCell ⟨b, 7, none⟩ (.string t')) b o p x v t' := by
  obtain ⟨T, h⟩ := h; exact ⟨T, by rw [heap_setCell_same w b 7 _ T _ h]; rfl⟩
theorem Rec.go (h : Rec w b o p x v t) (hb : Below w.heap.size w w') : Rec w' b o p x v t := by
  have hl := h.lt
  obtain ⟨T, h⟩ := h; exact ⟨T, by rw [hb.block b hl]; exact h⟩
theorem Rec.alloc (h : Rec w b o p x v t) (c : Obj) : Rec (w.alloc c) b o p x v t := h.go (ba1 w c)
theorem Rec.drew (h : Rec w b o p x v t) : Rec w.drew b o p x v t := h
theorem Rec.drewN (h : Rec w b o p x v t) (n : Nat) : Rec (w.drewN n) b o p x v t := h.go (below_drewN (Below.refl _ _) n)
theorem Rec.xr {x' : Nat → Int} (h : Rec w b o p x v t) (e : ∀ i, i < 4 → x i = x' i) : Rec w b o p x' v t := by
  obtain ⟨T, h⟩ := h
  refine ⟨T, ?_⟩
  rw [h]; unfold recC
  rw [e 0 (by decide), e 1 (by decide), e 2 (by decide), e 3 (by decide)]
theorem Rec.new (w : World) (T : TypeId) (o : UInt8) : Rec (w.alloc (.cells #[.int .u8 (o.toNat : Int), .int .i64 0, .int .i64 0, .int .i64 0, .int .i64 0, .int .i64 0, .slice none 0 0, .string ByteArray.empty] T)) w.heap.size o 0 (fun _ => 0) (.slice none 0 0) ByteArray.empty :=
  ⟨T, heap_alloc_new w _⟩
end
/-- The relation that a head leaves. -/
def xv (d : List UInt8) : Nat → Int := if d.length = 4 then rv d else fun _ => 0
/-- Block b holds the contract t. -/
def Held (w : World) : Ct → Nat → Prop
  | .z o d, b => Rec w b o (pv d) (xv d) (.slice none 0 0) (Ct.z o d).bytes
  | .u o d x, b => ∃ g cap bx, Rec w b o (pv d) (xv d) (.slice (some ⟨g, 0, none⟩) 1 cap) (Ct.u o d x).bytes ∧ w.cell? ⟨g, 0, none⟩ = some (.pointer (some ⟨bx, 0, none⟩)) ∧ Held w x bx
  | .b o d x y, b => ∃ g cap bx by', Rec w b o (pv d) (xv d) (.slice (some ⟨g, 0, none⟩) 2 cap) (Ct.b o d x y).bytes ∧ w.cell? ⟨g, 0, none⟩ = some (.pointer (some ⟨bx, 0, none⟩)) ∧
      w.cell? ⟨g, 1, none⟩ = some (.pointer (some ⟨by', 0, none⟩)) ∧ Held w x bx ∧ Held w y by'
theorem cell_go {w w' : World} {g i : Nat} {v : Value} (h : w.cell? ⟨g, i, none⟩ = some v) (hb : Below w.heap.size w w') : w'.cell? ⟨g, i, none⟩ = some v := by
  have hl := block_lt_of_cell h
  rw [hb.cell (p := ⟨g, i, none⟩) hl]; exact h
theorem Held.go {w w' : World} (hb : Below w.heap.size w w') : ∀ {t : Ct} {b : Nat}, Held w t b → Held w' t b
  | .z _ _, _, h => Rec.go h hb
  | .u _ _ _, _, ⟨g, cap, bx, h1, h2, h3⟩ => ⟨g, cap, bx, h1.go hb, cell_go h2 hb, Held.go hb h3⟩
  | .b _ _ _ _, _, ⟨g, cap, bx, by', h1, h2, h3, h4, h5⟩ => ⟨g, cap, bx, by', h1.go hb, cell_go h2 hb, cell_go h3 hb, Held.go hb h4, Held.go hb h5⟩
/-- A slice holds contracts. -/
def Kids (w : World) (v : Value) (l : List Ct) : Prop :=
  (l = [] ∧ v = .slice none 0 0) ∨ ∃ g cap, v = .slice (some ⟨g, 0, none⟩) l.length cap ∧ ∀ i (hi : i < l.length), ∃ bx, w.cell? ⟨g, i, none⟩ = some (.pointer (some ⟨bx, 0, none⟩)) ∧ Held w l[i] bx
theorem Kids.go {w w' : World} {v : Value} {l : List Ct} (h : Kids w v l) (hb : Below w.heap.size w w') : Kids w' v l := by
  rcases h with h | ⟨g, cap, h1, h2⟩
  · exact .inl h
  · exact .inr ⟨g, cap, h1, fun i hi => by obtain ⟨bx, h3, h4⟩ := h2 i hi; exact ⟨bx, cell_go h3 hb, h4.go hb⟩⟩
theorem Held.parts {w : World} : ∀ {t : Ct} {b : Nat}, Held w t b → ∃ v, Rec w b t.o (pv t.ds) (xv t.ds) v t.bytes ∧ Kids w v t.kids
  | .z _ _, _, h => ⟨_, h, .inl ⟨rfl, rfl⟩⟩
  | .u _ _ x, _, ⟨g, cap, bx, h1, h2, h3⟩ => ⟨_, h1, .inr ⟨g, cap, rfl, fun i hi => by
      have : i = 0 := by simp [Ct.kids] at hi; omega
      subst this; exact ⟨bx, h2, h3⟩⟩⟩
  | .b _ _ x y, _, ⟨g, cap, bx, by', h1, h2, h3, h4, h5⟩ => ⟨_, h1, .inr ⟨g, cap, rfl, fun i hi => by
      have : i = 0 ∨ i = 1 := by simp [Ct.kids] at hi; omega
      rcases this with rfl | rfl
      · exact ⟨bx, h2, h4⟩
      · exact ⟨by', h3, h5⟩⟩⟩
theorem Held.lt {w : World} {t : Ct} {b : Nat} (h : Held w t b) : b < w.heap.size := by
  obtain ⟨v, h1, _⟩ := h.parts
  exact h1.lt
end Go.DC
