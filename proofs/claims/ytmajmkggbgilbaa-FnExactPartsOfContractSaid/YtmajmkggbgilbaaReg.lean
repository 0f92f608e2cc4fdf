/-
  Laws for a region that draws its order and holds calls, loads of whole arrays and a store of a whole array.
-/
import Derived.Test.YtmajmkggbgilbaaKeep
import Derived.Deep.RegionHeld3
namespace Go.DC
open Go.RowKit
set_option linter.unusedVariables false
set_option linter.unusedSimpArgs false
section
variable {P : Program} {ops : Array Oper} {Q : Exit → Act → World → Prop} {md : Region.Mode} {S : World → Prop} {a : Act} {w : World} {o : Oper} {K : Act → World → Prop}
/-- A whole array is read first. -/
theorem takeRow {T n : Nat} (hT : ArrT P T n) {i fuel : Nat} {listed : Array Bool} {oi : Oper} (hi : ops[i]? = some oi) (x : Operand) (ho : oi.op = .load T x)
    (hwt : Region.wanted oi (yielded ops a.tmps) = true) (b : Nat) (hx : a.eval x = .pointer (some ⟨b, 0, none⟩)) {f : Nat → Int} (hr : ∀ w, S w → Row w b n f)
    (hs : Region.noSelect ops = true) (hf : Region.free md ops listed i = true) (hrd : (Region.ready md ops listed).contains i = true)
    (hQ : ∀ c a w, Q (.panic c) (a.put oi.dst (.agg (cellsF n f))) w → Q (.panic c) a w) (hS : S w)
    (h : wpAnyH P md ops Q S fuel (listed.setIfInBounds i true) (a.put oi.dst (.agg (cellsF n f))) w) : wpAnyH P md ops Q S (fuel + 1) listed a w :=
  wpAnyH_take hi hs hf hrd hQ (Or.inl ⟨hwt, fun w hw => by
    obtain ⟨⟨e, hu⟩, hinf⟩ := hT
    obtain ⟨t, hc⟩ := hr w hw
    unfold execOp
    simp only [ho, hx, Instr.loadAt, Instr.sureAddr, Sem.run_bind, Sem.run_pure, Result.andThen_ok, run_loadVar_row w b t T (cellsF n f) (0, 0) _ hc hu rfl (by rw [cellsF_size]; exact hinf)]⟩) hS h
/-- A whole array is written. -/
theorem storeRow {T n : Nat} (hT : ArrT P T n) (x y : Operand) (ho : o.op = .store T x y) (hw : Region.wanted o (yielded ops a.tmps) = true) (b : Nat) (hx : a.eval x = .pointer (some ⟨b, 0, none⟩))
    (g : Nat → Int) (hy : a.eval y = .agg (cellsF n g)) {f : Nat → Int} (h : Row w b n f) (k : K (a.put o.dst undef) (w.setRow b (cellsF n g))) :
    if Region.wanted o (yielded ops a.tmps) = true then Oper.wp P o a w K Q else K (a.put o.dst undef) w := by
  obtain ⟨⟨e, hu⟩, hi⟩ := hT
  obtain ⟨t, h⟩ := h
  rw [if_pos hw]
  exact wp_store_row T x y ho b (cellsF n g) hx hy t (cellsF n f) h (by rw [cellsF_size]; exact hi) (by simp [cellsF_size]) (cellsF_one n g) k
/-- A function is called. -/
theorem callOp {f : FuncId} {args : Array Value} (hw : Region.wanted o (yielded ops a.tmps) = true) (hrun : (execOp a.eval o).run P w = .ok (.enter f args) w)
    (hc : Calls P f args w fun e w' => ∃ v, e = .returned v ∧ K (a.put o.dst v) w') : if Region.wanted o (yielded ops a.tmps) = true then Oper.wp P o a w K Q else K (a.put o.dst undef) w := by
  rw [if_pos hw]
  unfold Oper.wp
  rw [hrun]
  refine Calls.mono hc fun e w' h => ?_
  obtain ⟨v, rfl, h⟩ := h
  exact h
end
end Go.DC
