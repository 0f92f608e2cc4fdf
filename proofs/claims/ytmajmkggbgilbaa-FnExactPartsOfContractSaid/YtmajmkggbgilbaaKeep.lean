/-
  Facts on arrays that are kept through a region that draws its order and holds calls. Over any program.
-/
import Derived.Test.YtmajmkggbgilbaaMem
import Derived.Deep.MidRow
namespace Go.DC
open Go.RowKit
set_option linter.unusedVariables false
set_option linter.unusedSimpArgs false
/-- What such a region needs to know: the four cells of block b, and that the sixteen cells of block c may be written. -/
def Four (w : World) (b c : Nat) (x : Nat → Int) : Prop :=
  w.cell? ⟨b, 0, none⟩ = some (.int .i64 (x 0)) ∧ w.cell? ⟨b, 1, none⟩ = some (.int .i64 (x 1)) ∧ w.cell? ⟨b, 2, none⟩ = some (.int .i64 (x 2)) ∧ w.cell? ⟨b, 3, none⟩ = some (.int .i64 (x 3)) ∧ w.there c 0 16
theorem Row.there {w : World} {b n : Nat} {f : Nat → Int} (h : Row w b n f) : w.there b 0 n := fun j hj => by
  rw [Nat.zero_add]
  exact ⟨by rw [h.cell hj]; rfl, h.free j⟩
theorem Row.range {w : World} {b n : Nat} {f : Nat → Int} (h : Row w b n f) : w.rangeAt b 0 (cellsF n f).toList := fun j v hv => by
  rw [Nat.zero_add]
  obtain ⟨t, h⟩ := h
  rw [cell_of_row w b j _ t _ h]
  simpa using hv
theorem there_below {w w' : World} {c n : Nat} (hb : Below w.heap.size w w') (hn : 0 < n) (h : w.there c 0 n) : w'.there c 0 n := by
  have hlt : c < w.heap.size := by
    have := (h 0 hn).1
    rw [Option.isSome_iff_exists] at this
    obtain ⟨v, hv⟩ := this
    exact block_lt_of_cell hv
  intro j hj
  have e1 : w'.cell? ⟨c, 0 + j, none⟩ = w.cell? ⟨c, 0 + j, none⟩ := hb.cell (p := ⟨c, 0 + j, none⟩) hlt
  have e2 : w'.frozen? ⟨c, 0 + j, none⟩ = w.frozen? ⟨c, 0 + j, none⟩ := hb.frozen (p := ⟨c, 0 + j, none⟩) hlt
  rw [e1, e2]
  exact h j hj
theorem range_below {w w' : World} {c n : Nat} {f : Nat → Int} (hb : Below w.heap.size w w') (hn : 0 < n) (h : w.rangeAt c 0 (cellsF n f).toList) : w'.rangeAt c 0 (cellsF n f).toList := by
  have h0 := h 0 _ (by simpa using cellsF_get n f hn)
  have hlt : c < w.heap.size := block_lt_of_cell h0
  intro j v hv
  have e1 : w'.cell? ⟨c, 0 + j, none⟩ = w.cell? ⟨c, 0 + j, none⟩ := hb.cell (p := ⟨c, 0 + j, none⟩) hlt
  rw [e1]
  exact h j v hv
theorem keep4 {w w' : World} {b c : Nat} {x : Nat → Int} (hb : Below w.heap.size w w')
    (h : w.cell? ⟨b, 0, none⟩ = some (.int .i64 (x 0)) ∧ w.cell? ⟨b, 1, none⟩ = some (.int .i64 (x 1)) ∧ w.cell? ⟨b, 2, none⟩ = some (.int .i64 (x 2)) ∧ w.cell? ⟨b, 3, none⟩ = some (.int .i64 (x 3)) ∧ w.there c 0 16) :
    w'.cell? ⟨b, 0, none⟩ = some (.int .i64 (x 0)) ∧ w'.cell? ⟨b, 1, none⟩ = some (.int .i64 (x 1)) ∧ w'.cell? ⟨b, 2, none⟩ = some (.int .i64 (x 2)) ∧ w'.cell? ⟨b, 3, none⟩ = some (.int .i64 (x 3)) ∧ w'.there c 0 16 := by
  have hlt := block_lt_of_cell h.1
  have e : ∀ i, w'.cell? ⟨b, i, none⟩ = w.cell? ⟨b, i, none⟩ := fun i => hb.cell (p := ⟨b, i, none⟩) hlt
  rw [e, e, e, e]; exact ⟨h.1, h.2.1, h.2.2.1, h.2.2.2.1, there_below hb (by decide) h.2.2.2.2⟩
/-- A whole array written cell by cell is the array written at once. -/
theorem Row.setCells {w : World} {b n : Nat} {f : Nat → Int} (h : Row w b n f) {P : Program} {T : Nat} (hT : ArrT P T n) (g : Nat → Int) : w.setCells b 0 (cellsF n g).toList = w.setRow b (cellsF n g) := by
  have hth := h.there
  obtain ⟨t, h⟩ := h
  have h1 := run_storeVar_row (P := P) w b t T (cellsF n f) (cellsF n g) h (by rw [cellsF_size]; exact hT.info) (by simp [cellsF_size]) (cellsF_one n g)
  have h2 := run_storeVar_mid (P := P) w b 0 T (cellsF n g) (by rw [cellsF_size]; exact hth) (by rw [cellsF_size]; exact hT.info) (cellsF_one n g)
  rw [h1] at h2
  injection h2 with _ h3
  exact h3.symm
end Go.DC
