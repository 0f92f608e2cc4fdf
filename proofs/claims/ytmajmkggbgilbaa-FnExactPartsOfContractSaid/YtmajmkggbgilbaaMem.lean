/-
  Arrays of numbers in memory: what a block holds, and the laws of a walk that reads or writes a whole array. Over any program.
-/
import Derived.Test.YtmajmkggbgilbaaPlain
import Derived.Laws.Rows
import Derived.Laws.Tables
import Derived.Deep.WholeRow
namespace Go.DC
open Go.RowKit

/-- f, but v at the place k. -/
def upd (f : Nat → Int) (k : Nat) (v : Int) : Nat → Int := fun i => if i = k then v else f i
theorem upd_same (f : Nat → Int) (k : Nat) (v : Int) : upd f k v k = v := by simp [upd]

/-- Block b holds the numbers f 0 .. f (n-1). -/
def Row (w : World) (b n : Nat) (f : Nat → Int) : Prop := ∃ t, w.heap[b]? = some (.cells (cellsF n f) t (0, 0))
theorem Row.lt {w : World} {b n : Nat} {f : Nat → Int} (h : Row w b n f) : b < w.heap.size := by
  obtain ⟨t, h⟩ := h
  rcases Nat.lt_or_ge b w.heap.size with h' | h'
  · exact h'
  · simp [Array.getElem?_eq_none h'] at h
theorem Row.cell {w : World} {b n : Nat} {f : Nat → Int} (h : Row w b n f) {i : Nat} (hi : i < n) : w.cell? ⟨b, i, none⟩ = some (.int .i64 (f i)) := by
  obtain ⟨t, h⟩ := h
  rw [cell_of_row w b i _ t _ h, cellsF_get n f hi]
theorem Row.free {w : World} {b n : Nat} {f : Nat → Int} (h : Row w b n f) (i : Nat) : w.frozen? ⟨b, i, none⟩ = false := by
  obtain ⟨t, h⟩ := h
  exact frozen_of_row w b i _ t h
theorem Row.congr {w : World} {b n : Nat} {f g : Nat → Int} (h : Row w b n f) (e : ∀ i, i < n → f i = g i) : Row w b n g := by
  obtain ⟨t, h⟩ := h
  exact ⟨t, by rw [← cellsF_congr e]; exact h⟩
theorem Row.set {w : World} {b n : Nat} {f : Nat → Int} (h : Row w b n f) (k : Nat) (v : Int) : Row (w.setCell ⟨b, k, none⟩ (.int .i64 v)) b n (upd f k v) := by
  obtain ⟨t, h⟩ := h
  exact ⟨t, by rw [heap_setCell_same w b k _ t _ h, cellsF_set]; rfl⟩
theorem Row.other {w : World} {b n : Nat} {f : Nat → Int} (h : Row w b n f) {a : Addr} (hb : b ≠ a.block) (v : Value) : Row (w.setCell a v) b n f := by
  obtain ⟨t, h⟩ := h
  exact ⟨t, by rw [heap_setCell_other w a b v hb]; exact h⟩
theorem Row.alloc {w : World} {b n : Nat} {f : Nat → Int} (h : Row w b n f) (o : Obj) : Row (w.alloc o) b n f := by
  have hl := h.lt
  obtain ⟨t, h⟩ := h
  exact ⟨t, by rw [Below.heap_alloc w o b hl]; exact h⟩
theorem Row.new (w : World) (n : Nat) (f : Nat → Int) (t : TypeId) {b : Nat} (hb : b = w.heap.size) : Row (w.alloc (.cells (cellsF n f) t)) b n f := by
  subst hb; exact ⟨t, heap_alloc_new w _⟩
theorem Row.drew {w : World} {b n : Nat} {f : Nat → Int} (h : Row w b n f) : Row w.drew b n f := h
theorem Row.below {w w' : World} {b n B : Nat} {f : Nat → Int} (h : Row w b n f) (hb : Below B w w') (hB : b < B) : Row w' b n f := by
  obtain ⟨t, h⟩ := h
  exact ⟨t, by rw [hb.block b hB]; exact h⟩
theorem Row.setRow {w : World} {b n : Nat} {f : Nat → Int} (h : Row w b n f) (g : Nat → Int) : Row (w.setRow b (cellsF n g)) b n g := by
  obtain ⟨t, h⟩ := h
  exact ⟨t, setRow_heap w b _ _ t _ h⟩
theorem Row.setRow_other {w : World} {b n c : Nat} {f : Nat → Int} (h : Row w b n f) (hb : b ≠ c) (cs : Array Value) : Row (w.setRow c cs) b n f := by
  obtain ⟨t, h⟩ := h
  exact ⟨t, by rw [Go.setRow_other w c b cs hb]; exact h⟩
theorem below_setRow {B : Nat} {a w : World} (h : Below B a w) {b : Nat} (hb : B ≤ b) (cs : Array Value) : Below B a (w.setRow b cs) :=
  h.trans ⟨rfl, rfl, rfl, by simp, fun k hk => Go.setRow_other w b k cs (by omega)⟩
theorem zero4 : (#[.int .i64 0, .int .i64 0, .int .i64 0, .int .i64 0] : Array Value) = cellsF 4 fun _ => 0 := rfl
theorem zero16 : (#[.int .i64 0, .int .i64 0, .int .i64 0, .int .i64 0, .int .i64 0, .int .i64 0, .int .i64 0, .int .i64 0, .int .i64 0, .int .i64 0, .int .i64 0, .int .i64 0, .int .i64 0, .int .i64 0, .int .i64 0, .int .i64 0] : Array Value) = cellsF 16 fun _ => 0 := rfl
theorem cellsF_one (n : Nat) (f : Nat → Int) : (cellsF n f).all (·.oneCell') = true := by
  rw [Array.all_eq_true_iff_forall_mem]
  intro v hv
  unfold cellsF at hv
  simp at hv
  obtain ⟨i, _, rfl⟩ := hv
  rfl

theorem Row.new4 (w : World) (t : TypeId) {b : Nat} (hb : b = w.heap.size) : Row (w.alloc (.cells #[.int .i64 0, .int .i64 0, .int .i64 0, .int .i64 0] t)) b 4 (fun _ => 0) := Row.new w 4 (fun _ => 0) t hb
theorem Row.new16 (w : World) (t : TypeId) {b : Nat} (hb : b = w.heap.size) : Row (w.alloc (.cells #[.int .i64 0, .int .i64 0, .int .i64 0, .int .i64 0, .int .i64 0, .int .i64 0, .int .i64 0, .int .i64 0, .int .i64 0, .int .i64 0, .int .i64 0, .int .i64 0, .int .i64 0, .int .i64 0, .int .i64 0, .int .i64 0] t)) b 16 (fun _ => 0) := Row.new w 16 (fun _ => 0) t hb
theorem Row.upd2 {w : World} {b n k : Nat} {f : Nat → Int} {u v v' : Int} (h : Row w b n (upd (upd f k u) k v)) (hv : v = v') : Row w b n (upd f k v') := h.congr fun i _ => by
  subst hv; unfold upd; split <;> rfl
theorem Row.upd_in {w : World} {b n k : Nat} {f : Nat → Int} {v : Int} (h : Row w b n f) (hv : f k = v) : Row w b n (upd f k v) := h.congr fun i _ => by
  unfold upd; split <;> simp_all
/-- The first k numbers of f, then zeros. -/
def pre (k : Nat) (f : Nat → Int) : Nat → Int := fun i => if i < k then f i else 0
theorem pre_at (k : Nat) (f : Nat → Int) : pre k f k = 0 := by simp [pre]
theorem Row.pre_zero {w : World} {b n : Nat} (h : Row w b n (fun _ => 0)) (f : Nat → Int) : Row w b n (pre 0 f) := h.congr fun i _ => by simp [pre]
theorem Row.pre_succ {w : World} {b n k : Nat} {f : Nat → Int} {v : Int} (h : Row w b n (upd (pre k f) k v)) (hv : v = f k) : Row w b n (pre (k + 1) f) := h.congr fun i _ => by
  unfold upd pre
  by_cases e : i = k
  · subst e; simp [hv]
  · have : (i < k + 1) ↔ i < k := by omega
    simp [e, this]
theorem Row.pre_all {w : World} {b n : Nat} {f : Nat → Int} (h : Row w b n (pre n f)) : Row w b n f := h.congr fun i hi => by simp [pre, hi]

/-- What a reader of n digits hands back: the digits' values, or zeros. -/
def rdF (b : Bool) (r : ByteArray) : Nat → Int := if b then dg r else fun _ => 0
theorem rdF_true (r : ByteArray) : rdF true r = dg r := rfl
theorem rdF_false (r : ByteArray) : rdF false r = fun _ => 0 := rfl

theorem ba1 (w : World) (o : Obj) : Below w.heap.size w (w.alloc o) := (Below.refl _ _).alloc (Nat.le_refl _) _
theorem ba2 (w : World) (o o' : Obj) : Below w.heap.size w ((w.alloc o).alloc o') := (ba1 w o).alloc (by simp) _
theorem ba3 (w : World) (o o' o'' : Obj) : Below w.heap.size w (((w.alloc o).alloc o').alloc o'') := (ba2 w o o').alloc (by simp; omega) _
theorem ba4 (w : World) (o o' o'' o3 : Obj) : Below w.heap.size w ((((w.alloc o).alloc o').alloc o'').alloc o3) := (ba3 w o o' o'').alloc (by simp; omega) _
theorem bgo {w W w' : World} (h : Below w.heap.size w W) (hb : Below W.heap.size W w') : Below w.heap.size w w' := h.trans (hb.mono h.size)
theorem Row.go {w w' : World} {b n : Nat} {f : Nat → Int} (h : Row w b n f) (hb : Below w.heap.size w w') : Row w' b n f := h.below hb h.lt
/-- The states that are related to some state of p. -/
def dia (x : Nat → Int) (p : Int) : Int := mk 4 fun s => band (x s) p != 0
/-- The turned relation. -/
def turn (x : Nat → Int) : Nat → Int := fun s => mk 4 fun t => hasb (x t) s

theorem Dg_zero (n : Nat) : Dg n fun _ => 0 := fun _ _ => ⟨Int.le_refl _, show (0 : Int) ≤ 15 by decide⟩
/-- The union of the sets y k, k < n, for which c holds, as the loops make it. -/
def un : Nat → (Nat → Bool) → (Nat → Int) → Int
  | 0, _, _ => 0
  | k + 1, c, y => if c k then bits .or .i64 (un k c y) (y k) else un k c y
theorem un_rng {c : Nat → Bool} {y : Nat → Int} {m : Nat} (hy : Dg m y) : ∀ n, n ≤ m → 0 ≤ un n c y ∧ un n c y ≤ 15
  | 0, _ => ⟨Int.le_refl _, by show (0 : Int) ≤ 15; decide⟩
  | k + 1, h => by
    have ih := un_rng (c := c) hy k (by omega)
    unfold un
    split
    · exact bor_rng ih.1 ih.2 (hy k (by omega)).1 (hy k (by omega)).2
    · exact ih
theorem un_yes {c : Nat → Bool} {y : Nat → Int} {n : Nat} (h : c n = true) : bits BinOp.or IntKind.i64 (un n c y) (y n) = un (n + 1) c y := by simp [un, h]
theorem un_no {c : Nat → Bool} {y : Nat → Int} {n : Nat} (h : c n = false) : un n c y = un (n + 1) c y := by simp [un, h]
theorem hasb_un {c : Nat → Bool} {y : Nat → Int} {m : Nat} (hy : Dg m y) {i : Nat} (hi : i < 4) : ∀ n, n ≤ m → hasb (un n c y) i = (List.range n).any fun k => c k && hasb (y k) i
  | 0, _ => by unfold un; simp; exact (by decide : ∀ i : Fin 4, hasb 0 i.val = false) ⟨i, hi⟩
  | k + 1, h => by
    have ih := hasb_un (c := c) hy hi k (by omega)
    have hr := un_rng (c := c) hy k (by omega)
    have hk := hy k (by omega)
    have e : un (k + 1) c y = if c k then bits .or .i64 (un k c y) (y k) else un k c y := rfl
    rw [List.range_succ, List.any_append, ← ih, e]
    cases hc : c k
    · simp [hc]
    · rw [if_pos rfl]
      have := has_bor hr.1 hr.2 hk.1 hk.2 hi
      unfold bor at this
      rw [this]; simp [hc]
/-- x, then y. -/
def thenR (x y : Nat → Int) : Nat → Int := fun s => un 4 (fun u => hasb (x s) u) y
theorem thenR_Dg (x : Nat → Int) {y : Nat → Int} (hy : Dg 4 y) : Dg 4 (thenR x y) := fun _ _ => un_rng hy 4 (Nat.le_refl _)
theorem turn_Dg (x : Nat → Int) : Dg 4 (turn x) := fun _ _ => ⟨mk4_ge _, mk4_le _⟩
/-- Whether a relation relates s to t. -/
def relates (r : ByteArray) (s t : Int) : Bool := if dvB 4 r && sv s && sv t then hasb (dg r s.toNat) t.toNat else false
/-- A number, or -1. -/
def askV (b : Bool) (v : Int) : Int := if b then v else -1
theorem askV_true (v : Int) : askV true v = v := rfl
theorem askV_false (v : Int) : askV false v = -1 := rfl
/-- A text, or none. -/
def orNo (b : Bool) (s : ByteArray) : ByteArray := if b then s else ByteArray.empty
theorem orNo_true (s : ByteArray) : orNo true s = s := rfl
theorem orNo_false (s : ByteArray) : orNo false s = ⟨#[]⟩ := rfl
/-- No pair of numbers below 16 is so. -/
def all2B (P : Nat → Nat → Bool) : Bool := (List.range 16).all fun p => (List.range 16).all fun q => !P p q
theorem all2_iff {P : Nat → Nat → Bool} : all2B P = true ↔ ∀ p q, p < 16 → q < 16 → P p q = false := by
  unfold all2B
  simp only [List.all_eq_true, List.mem_range, Bool.not_eq_true']
  exact ⟨fun h p q hp hq => h p hp q hq, fun h p hp q hq => h p q hp hq⟩
theorem all2_bad {P : Nat → Nat → Bool} {p q : Nat} (hp : p < 16) (hq : q < 16) (h : P p q = true) : all2B P = false := by
  cases hd : all2B P
  · rfl
  · rw [all2_iff.1 hd p q hp hq] at h; exact absurd h (by simp)
/-- No pair is so, as far as the loops have come. -/
def Ok2 (P : Nat → Nat → Bool) (k m : Nat) : Prop := (∀ p q, p < k → q < 16 → P p q = false) ∧ ∀ q, q < m → P k q = false
theorem Ok2.zero (P : Nat → Nat → Bool) : Ok2 P 0 0 := ⟨fun _ _ h => absurd h (Nat.not_lt_zero _), fun _ h => absurd h (Nat.not_lt_zero _)⟩
theorem Ok2.step {P : Nat → Nat → Bool} {k m : Nat} (h : Ok2 P k m) (e : P k m = false) : Ok2 P k (m + 1) := ⟨h.1, fun q hq => by
  by_cases c : q = m
  · subst c; exact e
  · exact h.2 q (by omega)⟩
theorem Ok2.next {P : Nat → Nat → Bool} {k : Nat} (h : Ok2 P k 16) : Ok2 P (k + 1) 0 := ⟨fun p q hp hq => by
  by_cases c : p = k
  · subst c; exact h.2 q hq
  · exact h.1 p q (by omega) hq, fun _ h => absurd h (Nat.not_lt_zero _)⟩
theorem Ok2.all {P : Nat → Nat → Bool} (h : Ok2 P 16 0) : all2B P = true := all2_iff.2 h.1
/-- p implies q, but f p does not imply f q. -/
def badM (f : Nat → Int) (p q : Nat) : Bool := (bits .andNot .i64 (p : Int) (q : Int) == 0) && (bits .andNot .i64 (f p) (f q) != 0)
/-- A text of a transformer. -/
def tvB (t : ByteArray) : Bool := dvB 16 t && all2B (badM (dg t))

/-- T is a type of arrays of n integers. -/
structure ArrT (P : Program) (T n : Nat) : Prop where
  und : ∃ e, P.underlying T = some (.array n e)
  info : (P.info? T).map (·.size) = some n

section
variable {P : Program} {ops : Array Oper} {rest : List Oper} {o : Oper} {a : Act} {w : World} {Q : Exit → Act → World → Prop}
/-- A whole array is read. -/
theorem ld {T n : Nat} (hT : ArrT P T n) (x : Operand) (ho : o.op = .load T x) (hw : Region.wanted o (yielded ops a.tmps) = true) (b : Nat) (hx : a.eval x = .pointer (some ⟨b, 0, none⟩))
    {f : Nat → Int} (h : Row w b n f) (k : wpList P ops Q rest (a.put o.dst (.agg (cellsF n f))) w) : wpList P ops Q (o :: rest) a w := by
  obtain ⟨⟨e, hu⟩, hi⟩ := hT
  obtain ⟨t, h⟩ := h
  unfold wpList
  rw [if_pos hw]
  exact .inl (wp_load_row T x ho b hx t (cellsF n f) (0, 0) _ h hu rfl (by rw [cellsF_size]; exact hi) k)
/-- A whole array is written. -/
theorem st {T n : Nat} (hT : ArrT P T n) (x y : Operand) (ho : o.op = .store T x y) (hw : Region.wanted o (yielded ops a.tmps) = true) (b : Nat) (hx : a.eval x = .pointer (some ⟨b, 0, none⟩))
    (g : Nat → Int) (hy : a.eval y = .agg (cellsF n g)) {f : Nat → Int} (h : Row w b n f) (k : wpList P ops Q rest (a.put o.dst undef) (w.setRow b (cellsF n g))) : wpList P ops Q (o :: rest) a w := by
  obtain ⟨⟨e, hu⟩, hi⟩ := hT
  obtain ⟨t, h⟩ := h
  unfold wpList
  rw [if_pos hw]
  exact .inl (wp_store_row T x y ho b (cellsF n g) hx hy t (cellsF n f) h (by rw [cellsF_size]; exact hi) (by simp [cellsF_size]) (cellsF_one n g) k)
end
/-- The result is an array that lies in memory. -/
theorem ret_row {P : Program} {fn : Func} {R : Ending → World → Prop} {a : Act} {w : World} {T n : Nat} (hT : ArrT P T n) {p : Tmp} (hres : fn.results = #[.cell p T]) (b : Nat)
    (hp : a.tmps.getD p undef = .pointer (some ⟨b, 0, none⟩)) {f : Nat → Int} (h : Row w b n f) (hd : a.defers = []) (hR : R (.returned (.agg (cellsF n f))) w) : bodyPost P fn R .ret a w := by
  obtain ⟨⟨e, hu⟩, hi⟩ := hT
  obtain ⟨t, h⟩ := h
  exact bodyPost_ret (results_cell_row hres a.tmps w b t (cellsF n f) (0, 0) _ hp h hu rfl (by rw [cellsF_size]; exact hi)) hd hR
theorem ret_row_tmp {P : Program} {fn : Func} {R : Ending → World → Prop} {a : Act} {w : World} {T n : Nat} (hT : ArrT P T n) {p u : Tmp} (hres : fn.results = #[.cell p T, .tmp u]) (b : Nat)
    (hp : a.tmps.getD p undef = .pointer (some ⟨b, 0, none⟩)) {f : Nat → Int} (h : Row w b n f) (hd : a.defers = []) (hR : R (.returned (.tuple #[.agg (cellsF n f), a.tmps.getD u undef])) w) : bodyPost P fn R .ret a w := by
  obtain ⟨⟨e, hu⟩, hi⟩ := hT
  obtain ⟨t, h⟩ := h
  have hl := run_loadVar_row (P := P) w b t T (cellsF n f) (0, 0) _ h hu rfl (by rw [cellsF_size]; exact hi)
  refine bodyPost_ret (v := .tuple #[.agg (cellsF n f), a.tmps.getD u undef]) ?_ hd hR
  have hp' : a.tmps[p]?.getD undef = .pointer (some ⟨b, 0, none⟩) := by simpa using hp
  simp [results, hres, hp', asAddr, hl]
end Go.DC
