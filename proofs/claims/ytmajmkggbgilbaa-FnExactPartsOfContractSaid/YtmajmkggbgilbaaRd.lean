/-
  The reader that draws: what its block holds, and what a draw leaves as it was. Over any program.
-/
import Derived.Test.YtmajmkggbgilbaaMem
import Derived.OwnWalk
namespace Go.DC
open Go.RowKit
set_option linter.unusedVariables false
set_option linter.unusedSimpArgs false

/-- All that was there but block b is as it was. -/
structure Els (b : Nat) (w w' : World) : Prop where
  os : w'.os = w.os
  tape : w'.tape = w.tape
  output : w'.output = w.output
  size : w.heap.size ≤ w'.heap.size
  block : ∀ k, k < w.heap.size → k ≠ b → w'.heap[k]? = w.heap[k]?
theorem Els.refl (b : Nat) (w : World) : Els b w w := ⟨rfl, rfl, rfl, Nat.le_refl _, fun _ _ _ => rfl⟩
theorem Els.trans {b : Nat} {u v w : World} (h : Els b u v) (k : Els b v w) : Els b u w :=
  ⟨k.os.trans h.os, k.tape.trans h.tape, k.output.trans h.output, Nat.le_trans h.size k.size, fun i hi hb => (k.block i (Nat.lt_of_lt_of_le hi h.size) hb).trans (h.block i hi hb)⟩
theorem Els.of_below {b : Nat} {w w' : World} (h : Below w.heap.size w w') : Els b w w' := ⟨h.os, h.tape, h.output, h.size, fun k hk _ => h.block k hk⟩
theorem Els.below {b B : Nat} {w w' : World} (h : Els b w w') (hB : B ≤ b) (hB' : B ≤ w.heap.size) : Below B w w' :=
  ⟨h.os, h.tape, h.output, h.size, fun k hk => h.block k (by omega) (by omega)⟩
theorem Els.setCell {b : Nat} {u w : World} (h : Els b u w) (i : Nat) (v : Value) : Els b u (w.setCell ⟨b, i, none⟩ v) :=
  h.trans ⟨rfl, rfl, rfl, by simp [World.setCell], fun k _ hk => Below.heap_setCell _ _ _ _ hk⟩
theorem Els.drewN {b : Nat} {u w : World} (h : Els b u w) (n : Nat) : Els b u (w.drewN n) := h.trans (Els.of_below (below_drewN (Below.refl _ _) n))
theorem Els.alloc {b : Nat} {u w : World} (h : Els b u w) (o : Obj) : Els b u (w.alloc o) := h.trans (Els.of_below (ba1 w o))

/-- Block b is a reader that has read p times; its bytes lie in another block. -/
def Rd (w : World) (b p : Nat) : Prop :=
  ∃ (t : TypeId) (a : Option Addr) (len cap : Nat), w.heap[b]? = some (.cells #[.slice a len cap, .int .i64 p] t (0, 0)) ∧ len ≤ 2000 ∧
    (len = 0 ∨ ∃ (c off : Nat) (z : Nat → Int), a = some ⟨c, off, none⟩ ∧ c < b ∧ c < w.heap.size ∧ ∀ k, k < len → w.cell? ⟨c, off + k, none⟩ = some (.int .u8 (z k)) ∧ 0 ≤ z k ∧ z k < 256)
theorem Rd.lt {w : World} {b p : Nat} (h : Rd w b p) : b < w.heap.size := by
  obtain ⟨t, a, len, cap, hb, _⟩ := h
  exact lt_of_block hb
theorem Rd.els {w w' : World} {b c p : Nat} (h : Rd w b p) (hE : Els c w w') (hc : c ≠ b) (hlt : w.heap.size ≤ c) : Rd w' b p := by
  have hl := h.lt
  obtain ⟨t, a, len, cap, hb, h2, h3⟩ := h
  refine ⟨t, a, len, cap, by rw [hE.block b hl (fun e => hc e.symm)]; exact hb, h2, ?_⟩
  rcases h3 with h3 | ⟨d, off, z, ha, hd, hds, hz⟩
  · exact .inl h3
  · refine .inr ⟨d, off, z, ha, hd, Nat.lt_of_lt_of_le hds hE.size, fun k hk => ?_⟩
    obtain ⟨h5, h6⟩ := hz k hk
    exact ⟨by rw [World.cell?_of_block (w := w) (hE.block d hds (by omega))]; exact h5, h6⟩
theorem Rd.below {w w' : World} {b p : Nat} (h : Rd w b p) (hE : Below w.heap.size w w') : Rd w' b p := by
  have hl := h.lt
  obtain ⟨t, a, len, cap, hb, h2, h3⟩ := h
  refine ⟨t, a, len, cap, by rw [hE.block b hl]; exact hb, h2, ?_⟩
  rcases h3 with h3 | ⟨d, off, z, ha, hd, hds, hz⟩
  · exact .inl h3
  · refine .inr ⟨d, off, z, ha, hd, Nat.lt_of_lt_of_le hds hE.size, fun k hk => ?_⟩
    obtain ⟨h5, h6⟩ := hz k hk
    exact ⟨by rw [World.cell?_of_block (w := w) (hE.block d hds)]; exact h5, h6⟩
/-- A row of the call's own may grow beside a reader. -/
theorem Rd.grown {w w' : World} {b B p : Nat} {o : Option Nat} (h : Rd w b p) (hg : w.grownBy w' o) (ho : ∀ k, o = some k → B ≤ k) (hB : b < B) : Rd w' b p := by
  have hl := h.lt
  obtain ⟨t, a, len, cap, hb, h2, h3⟩ := h
  refine ⟨t, a, len, cap, by rw [hg.block b hl (fun e => by have := ho b e.symm; omega)]; exact hb, h2, ?_⟩
  rcases h3 with h3 | ⟨d, off, z, ha, hd, hds, hz⟩
  · exact .inl h3
  · refine .inr ⟨d, off, z, ha, hd, Nat.lt_of_lt_of_le hds hg.size, fun k hk => ?_⟩
    obtain ⟨h5, h6⟩ := hz k hk
    exact ⟨by rw [World.cell?_of_block (w := w) (hg.block d hds (fun e => by have := ho d e.symm; omega))]; exact h5, h6⟩
theorem Els.grown {b B : Nat} {u w w' : World} {o : Option Nat} (h : Els b u w) (hg : w.grownBy w' o) (ho : ∀ k, o = some k → B ≤ k) (hB : u.heap.size ≤ B) : Els b u w' :=
  ⟨hg.os.trans h.os, hg.tape.trans h.tape, hg.output.trans h.output, Nat.le_trans h.size hg.size, fun k hk hkb => (hg.block k (Nat.lt_of_lt_of_le hk h.size) (fun e => by have := ho k e.symm; omega)).trans (h.block k hk hkb)⟩
theorem World.ownsRow.els {w w' : World} {b base size n : Nat} {e : TypeId} {v : Value} {xs : List Value} (h : w.ownsRow base e size v n xs) (hE : Els b w w') (hb : b < base) : w'.ownsRow base e size v n xs := by
  refine ⟨h.1, ?_⟩
  rcases h.2 with h | ⟨g, cap, cur, h1, h2, h3, h4⟩
  · exact .inl h
  · exact .inr ⟨g, cap, cur, h1, h2, by rw [hE.block g (lt_of_block h3) (by omega)]; exact h3, h4⟩
theorem or_16 {a : Int} (h0 : 0 ≤ a) (h1 : a ≤ 65535) {q : Nat} (hq : q < 16) : 0 ≤ bits .or .i64 a (wrap64 (2 ^ q)) ∧ bits .or .i64 a (wrap64 (2 ^ q)) ≤ 65535 := by
  obtain ⟨a, rfl⟩ := Int.eq_ofNat_of_zero_le h0
  have h2 : (2 : Nat) ^ q < 2 ^ 16 := Nat.pow_lt_pow_right (by decide) hq
  have ha : a < 2 ^ 16 := by omega
  rw [wrap_pow q (by omega), show ((2 : Int) ^ q) = ((2 ^ q : Nat) : Int) by simp, or_nat a (2 ^ q) (by omega) (by omega)]
  have h3 : a ||| 2 ^ q < 2 ^ 16 := Nat.or_lt_two_pow ha h2
  exact ⟨Int.natCast_nonneg _, by have : (2 : Nat) ^ 16 = 65536 := by decide
                                  omega⟩
theorem xor_nat (a b : Nat) (ha : a < 2 ^ 62) (hb : b < 2 ^ 62) : bits .xor .i64 (a : Int) (b : Int) = ((a ^^^ b : Nat) : Int) := by
  have ha' : a % 2 ^ 64 = a := Nat.mod_eq_of_lt (by omega)
  have hb' : b % 2 ^ 64 = b := Nat.mod_eq_of_lt (by omega)
  have hk : IntKind.bits .i64 = 64 := rfl
  simp only [bits, BitVec.ofInt_natCast, BitVec.toNat_xor, BitVec.toNat_ofNat, hk, ha', hb']
  exact wrap64_small _ (Int.natCast_nonneg _) (by exact_mod_cast Nat.xor_lt_two_pow ha hb)
theorem xor_rng {x : Int} (h0 : 0 ≤ x) (h1 : x < 4611686018427387904) : 0 ≤ bits .xor .i64 x (x / 64) := by
  obtain ⟨a, rfl⟩ := Int.eq_ofNat_of_zero_le h0
  have e : ((a : Int) / 64) = ((a / 64 : Nat) : Int) := by simp
  have ha : a < 4611686018427387904 := by omega
  have e62 : (2 : Nat) ^ 62 = 4611686018427387904 := by decide
  rw [e, xor_nat a (a / 64) (by rw [e62]; exact ha) (by rw [e62]; omega)]
  exact Int.natCast_nonneg _
theorem Row.els {w w' : World} {b c n : Nat} {f : Nat → Int} (h : Row w c n f) (hE : Els b w w') (hc : c ≠ b) : Row w' c n f := by
  have hl := h.lt
  obtain ⟨t, h⟩ := h
  exact ⟨t, by rw [hE.block c hl hc]; exact h⟩
def l3 (a b c : Int) : Nat → Int := fun i => if i = 0 then a else if i = 1 then b else c
theorem Row.list3 (w : World) (t : TypeId) (a b c : Int) : Row (w.alloc (.cells #[.int .i64 a, .int .i64 b, .int .i64 c] t)) w.heap.size 3 (l3 a b c) := Row.new w 3 (l3 a b c) t rfl
/-- Block c holds texts. -/
def Texts (w : World) (c n : Nat) (f : Nat → ByteArray) : Prop := c < w.heap.size ∧ ∀ i, i < n → w.cell? ⟨c, i, none⟩ = some (.string (f i))
theorem Texts.els {w w' : World} {b c n : Nat} {f : Nat → ByteArray} (h : Texts w c n f) (hE : Els b w w') (hc : c ≠ b) : Texts w' c n f :=
  ⟨Nat.lt_of_lt_of_le h.1 hE.size, fun i hi => by rw [World.cell?_of_block (w := w) (hE.block c h.1 hc)]; exact h.2 i hi⟩
def tx (l : List ByteArray) : Nat → ByteArray := fun i => l.getD i ByteArray.empty
theorem Texts.new (w : World) (t : TypeId) (l : List ByteArray) : Texts (w.alloc (.cells (l.map Value.string).toArray t)) w.heap.size l.length (tx l) :=
  ⟨by simp, fun i hi => by rw [World.cell?_alloc_at _ _ _ _ rfl]; simp [tx, List.getD, hi]⟩
theorem tx_size {l : List ByteArray} {m : Nat} (h : ∀ s ∈ l, s.size ≤ m) : ∀ i, i < l.length → (tx l i).size ≤ m := fun i hi => by
  unfold tx
  simp [List.getD, hi]
  exact h _ (List.getElem_mem hi)
/-- What the walk is told of a slice of integers that came in. -/
def IsRow (k : IntKind) (w : World) (a : Option Addr) (len cap : Nat) (zs : List Int) : Prop :=
  (a = none ∧ len = 0 ∧ cap = 0 ∧ zs = []) ∨
  ∃ x, a = some x ∧ len ≤ cap ∧ cap ≤ maxLen ∧ zs.length = cap ∧ (∀ i, i < zs.length → w.cell? (x.add i) = some (.int k (zs.getD i 0))) ∧ ∀ n ∈ zs, (Lit.int k n).wf = true
theorem wf_u8 {n : Int} (h : (Lit.int .u8 n).wf = true) : 0 ≤ n ∧ n < 256 := by
  have h1 : IntKind.u8.min = 0 := rfl
  have h2 : IntKind.u8.max = 255 := rfl
  simp [Lit.wf, h1, h2] at h
  omega
/-- A reader over the first bytes of a slice that came in. -/
theorem Rd.of_row {w w' : World} {a : Option Addr} {len cap : Nat} {zs : List Int} (h : IsRow .u8 w a len cap zs) {m : Nat} (hm : m ≤ len) (hm2 : m ≤ 2000) {b : Nat} (hb : w.heap.size ≤ b) (hE : Below w.heap.size w w') {t : TypeId}
    (hc : w'.heap[b]? = some (.cells #[.slice a m cap, .int .i64 0] t (0, 0))) : Rd w' b 0 := by
  refine ⟨t, a, m, cap, hc, hm2, ?_⟩
  by_cases h0 : m = 0
  · exact .inl h0
  rcases h with ⟨_, h, _⟩ | ⟨x, rfl, hl, hmx, hz, hcell, hwf⟩
  · exact absurd h (by omega)
  · obtain ⟨c, off, spot⟩ := x
    have h1 := hcell 0 (by omega)
    have hs : spot = none := by simpa [Addr.add] using World.cell?_spot h1
    subst hs
    have hadd : ∀ i, (⟨c, off, none⟩ : Addr).add i = ⟨c, off + i, none⟩ := fun i => by unfold Addr.add; split <;> simp_all
    have hlt : c < w.heap.size := by
      have := block_lt_of_cell h1
      rw [hadd] at this
      exact this
    refine .inr ⟨c, off, fun i => zs.getD i 0, rfl, by omega, Nat.lt_of_lt_of_le hlt hE.size, fun k hk => ?_⟩
    have h2 := hcell k (by omega)
    rw [hadd] at h2
    have hk' : k < zs.length := by omega
    have h3 := wf_u8 (hwf (zs.getD k 0) (by simp [List.getD, List.getElem?_eq_getElem hk']))
    exact ⟨by rw [hE.cell (p := ⟨c, off + k, none⟩) hlt]; exact h2, h3⟩
/-- A number was drawn, by so many draws. -/
def DrawN (b p q : Nat) (w : World) (e : Ending) (w' : World) : Prop := ∃ v : Int, e = .returned (.int .i64 v) ∧ Rd w' b (p + q) ∧ Els b w w'
/-- A text was drawn, by so many draws. -/
def DrawT (b p q m : Nat) (w : World) (e : Ending) (w' : World) : Prop := ∃ s : ByteArray, s.size ≤ m ∧ e = .returned (.string s) ∧ Rd w' b (p + q) ∧ Els b w w'
/-- What a draw of a number below n leaves. -/
def Pick (b p : Nat) (n : Int) (w : World) (e : Ending) (w' : World) : Prop := ∃ v : Int, 0 ≤ v ∧ v < n ∧ e = .returned (.int .i64 v) ∧ Rd w' b (p + 1) ∧ Els b w w'
end Go.DC
