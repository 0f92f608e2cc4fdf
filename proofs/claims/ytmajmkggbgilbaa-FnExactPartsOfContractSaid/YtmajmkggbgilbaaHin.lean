/-
  Contracts in memory while they are read: ranges of blocks, lists of parts that grow, and the plain reading of parts. Over any program.
-/
import Derived.Test.YtmajmkggbgilbaaHeld
import Derived.OwnWalk
import Derived.ArgAppend
namespace Go.DC
open Go.RowKit
set_option linter.unusedVariables false
set_option linter.unusedSimpArgs false
/-- k parts are read, one behind the other. -/
def prk : Nat → List UInt8 → Option (List Ct × List UInt8)
  | 0, l => some ([], l)
  | k + 1, l => match pr l with
    | none => none
    | some (x, l1) => match prk k l1 with
      | none => none
      | some (xs, l2) => some (x :: xs, l2)
def mkC (o : UInt8) (d : List UInt8) : List Ct → Ct
  | [] => .z o d
  | [x] => .u o d x
  | x :: y :: _ => .b o d x y
theorem pr_parts (o : UInt8) (l : List UInt8) {k d : Nat} (hs : shp o = some (k, d)) (h : d ≤ l.length) (h2 : hxs (l.take d) = true) :
    pr (o :: l) = (prk k (l.drop d)).map fun q => (mkC o (l.take d) q.1, q.2) := by
  rw [pr_cons, hs]
  simp only [h, h2, and_self, if_true]
  rcases (shp_k hs).1 with rfl | rfl | rfl
  · rfl
  · cases hx : pr (l.drop d) with
    | none => simp [prk, hx]
    | some q => obtain ⟨x, l1⟩ := q; simp [prk, hx, mkC]
  · cases hx : pr (l.drop d) with
    | none => simp [prk, hx]
    | some q =>
      obtain ⟨x, l1⟩ := q
      cases hy : pr l1 with
      | none => simp [prk, hx, hy]
      | some q2 => obtain ⟨y, l2⟩ := q2; simp [prk, hx, hy, mkC]
theorem pr_noshape (o : UInt8) (l : List UInt8) (hs : shp o = none) : pr (o :: l) = none := by rw [pr_cons, hs]
theorem pr_short (o : UInt8) (l : List UInt8) {k d : Nat} (hs : shp o = some (k, d)) (h : ¬ (d ≤ l.length ∧ hxs (l.take d) = true)) : pr (o :: l) = none := by
  rw [pr_cons, hs]; simp only [if_neg h]
theorem prk_len : ∀ (k : Nat) {l r : List UInt8} {ts : List Ct}, prk k l = some (ts, r) → ts.length = k
  | 0, _, _, _, h => by simp [prk] at h; rw [h.1]; rfl
  | k + 1, l, r, ts, h => by
    unfold prk at h
    cases hx : pr l with
    | none => simp [hx] at h
    | some q =>
      obtain ⟨x, l1⟩ := q
      simp only [hx] at h
      cases hy : prk k l1 with
      | none => simp [hy] at h
      | some q2 =>
        obtain ⟨xs, l2⟩ := q2
        have := prk_len k hy
        simp only [hy, Option.some.injEq, Prod.mk.injEq] at h
        rw [← h.1]; simp [this]
theorem drop_app {l a r : List UInt8} {n : Nat} (h : l.drop n = a ++ r) (ha : 1 ≤ a.length) : r = l.drop (n + a.length) ∧ n + a.length ≤ l.length := by
  constructor
  · rw [← List.drop_drop, h, List.drop_left]
  · have e := congrArg List.length h
    simp at e
    omega
theorem take_app {l a r : List UInt8} {n : Nat} (h : l.drop n = a ++ r) : (l.drop n).take a.length = a := by rw [h, List.take_left]

theorem take_step {c : ByteArray} {q j : Nat} (h : q + j < c.size) : (c.data.toList.drop q).take (j + 1) = (c.data.toList.drop q).take j ++ [c[q + j]] := by
  have h' : q + j < c.data.toList.length := h
  rw [List.take_succ_eq_append_getElem (by simp; omega)]
  congr 2
  rw [List.getElem_drop]; rfl
theorem pv_snoc (l : List UInt8) (b : UInt8) : pv (l ++ [b]) = hx b := by unfold pv; simp
theorem hxs_snoc (l : List UInt8) (b : UInt8) : hxs (l ++ [b]) = (hxs l && decide (0 ≤ hx b)) := by unfold hxs; simp
theorem rv_at {c : ByteArray} {q j d : Nat} (hj : j < d) (h : q + j < c.size) : rv ((c.data.toList.drop q).take d) j = hx c[q + j] := by
  have h' : q + j < c.data.toList.length := h
  unfold rv
  congr 1
  have : j < ((c.data.toList.drop q).take d).length := by simp; omega
  simp only [List.getD, List.getElem?_eq_getElem this, Option.getD_some, List.getElem_take, List.getElem_drop]
  rfl
theorem Rec.pre_succ {w : World} {b : Nat} {o : UInt8} {p q : Int} {v : Value} {t : ByteArray} {j : Nat} {f : Nat → Int} (h : Rec w b o p (upd (pre j f) j q) v t) (hq : q = f j) : Rec w b o p (pre (j + 1) f) v t := h.xr fun i _ => by
  unfold upd pre
  by_cases e : i = j
  · subst e; simp [hq]
  · have : (i < j + 1) ↔ i < j := by omega
    simp [e, this]
/-- The relation that the first j digits of four make. -/
def xr (d j : Nat) (ds : List UInt8) : Nat → Int := if d = 4 then pre j (rv ds) else fun _ => 0
theorem xr_none {d : Nat} (h : d ≠ 4) (j i : Nat) (ds : List UInt8) : xr d j ds i = 0 := by unfold xr; rw [if_neg h]
theorem xr_four (j : Nat) (ds : List UInt8) : xr 4 j ds = pre j (rv ds) := by unfold xr; rw [if_pos rfl]
theorem xr_zero (d : Nat) (ds : List UInt8) (i : Nat) : 0 = xr d 0 ds i := by unfold xr; split <;> simp [pre]
theorem xr_all {d : Nat} {ds : List UInt8} (hl : ds.length = d) (i : Nat) (hi : i < 4) : xr d d ds i = xv ds i := by
  unfold xr xv
  rw [hl]
  split
  · rename_i h; subst h; simp [pre, hi]
  · rfl
theorem drop_at {c : ByteArray} {p : Nat} (h : p < c.size) : c.data.toList.drop p = c[p] :: c.data.toList.drop (p + 1) := by
  have h' : p < c.data.toList.length := h
  rw [List.drop_eq_getElem_cons h']; rfl
/-- A byte that is no digit: no digits. -/
theorem no_digits {c : ByteArray} {q j d : Nat} (hj : j < d) (h : q + j < c.size) (hn : hx c[q + j] < 0) : ¬ hxs ((c.data.toList.drop q).take d) = true := fun h2 => by
  have h' : q + j < c.data.toList.length := h
  have hl : j < ((c.data.toList.drop q).take d).length := by simp; omega
  have e : ((c.data.toList.drop q).take d)[j] = c[q + j] := by simp only [List.getElem_take, List.getElem_drop]; rfl
  have := (hxs_mem h2 (List.getElem_mem hl)).1
  rw [e] at this
  omega
/-- Block b holds the contract t, all of whose blocks lie from lo on and below hi. -/
def HeldIn (lo hi : Nat) (w : World) : Ct → Nat → Prop
  | .z o d, b => (lo ≤ b ∧ b < hi) ∧ Rec w b o (pv d) (xv d) (.slice none 0 0) (Ct.z o d).bytes
  | .u o d x, b => (lo ≤ b ∧ b < hi) ∧ ∃ g cap bx, (lo ≤ g ∧ g < hi) ∧ Rec w b o (pv d) (xv d) (.slice (some ⟨g, 0, none⟩) 1 cap) (Ct.u o d x).bytes ∧ w.cell? ⟨g, 0, none⟩ = some (.pointer (some ⟨bx, 0, none⟩)) ∧ HeldIn lo hi w x bx
  | .b o d x y, b => (lo ≤ b ∧ b < hi) ∧ ∃ g cap bx by', (lo ≤ g ∧ g < hi) ∧ Rec w b o (pv d) (xv d) (.slice (some ⟨g, 0, none⟩) 2 cap) (Ct.b o d x y).bytes ∧ w.cell? ⟨g, 0, none⟩ = some (.pointer (some ⟨bx, 0, none⟩)) ∧
      w.cell? ⟨g, 1, none⟩ = some (.pointer (some ⟨by', 0, none⟩)) ∧ HeldIn lo hi w x bx ∧ HeldIn lo hi w y by'
theorem HeldIn.held {lo hi : Nat} {w : World} : ∀ {t : Ct} {b : Nat}, HeldIn lo hi w t b → Held w t b
  | .z _ _, _, h => h.2
  | .u _ _ _, _, ⟨_, g, cap, bx, _, h1, h2, h3⟩ => ⟨g, cap, bx, h1, h2, HeldIn.held h3⟩
  | .b _ _ _ _, _, ⟨_, g, cap, bx, by', _, h1, h2, h3, h4, h5⟩ => ⟨g, cap, bx, by', h1, h2, h3, HeldIn.held h4, HeldIn.held h5⟩
theorem HeldIn.wide {lo hi lo' hi' : Nat} {w : World} (h1 : lo' ≤ lo) (h2 : hi ≤ hi') : ∀ {t : Ct} {b : Nat}, HeldIn lo hi w t b → HeldIn lo' hi' w t b
  | .z _ _, _, h => ⟨by have := h.1; omega, h.2⟩
  | .u _ _ _, _, ⟨h, g, cap, bx, hg, h3, h4, h5⟩ => ⟨by omega, g, cap, bx, by omega, h3, h4, HeldIn.wide h1 h2 h5⟩
  | .b _ _ _ _, _, ⟨h, g, cap, bx, by', hg, h3, h4, h5, h6, h7⟩ => ⟨by omega, g, cap, bx, by', by omega, h3, h4, h5, HeldIn.wide h1 h2 h6, HeldIn.wide h1 h2 h7⟩
theorem Rec.keep {w w' : World} {b : Nat} {o : UInt8} {p : Int} {x : Nat → Int} {v : Value} {t : ByteArray} (h : Rec w b o p x v t) (e : w'.heap[b]? = w.heap[b]?) : Rec w' b o p x v t := by
  obtain ⟨T, h⟩ := h; exact ⟨T, by rw [e]; exact h⟩
theorem cell_keep {w w' : World} {g i : Nat} {v : Value} (h : w.cell? ⟨g, i, none⟩ = some v) (e : w'.heap[g]? = w.heap[g]?) : w'.cell? ⟨g, i, none⟩ = some v := by
  rw [World.cell?_of_block (w := w) (a := ⟨g, i, none⟩) e]; exact h
theorem HeldIn.keep {lo hi : Nat} {w w' : World} (hk : ∀ k, lo ≤ k → k < hi → w'.heap[k]? = w.heap[k]?) : ∀ {t : Ct} {b : Nat}, HeldIn lo hi w t b → HeldIn lo hi w' t b
  | .z _ _, _, h => ⟨h.1, h.2.keep (hk _ h.1.1 h.1.2)⟩
  | .u _ _ _, _, ⟨h, g, cap, bx, hg, h3, h4, h5⟩ => ⟨h, g, cap, bx, hg, h3.keep (hk _ h.1 h.2), cell_keep h4 (hk _ hg.1 hg.2), HeldIn.keep hk h5⟩
  | .b _ _ _ _, _, ⟨h, g, cap, bx, by', hg, h3, h4, h5, h6, h7⟩ => ⟨h, g, cap, bx, by', hg, h3.keep (hk _ h.1 h.2), cell_keep h4 (hk _ hg.1 hg.2), cell_keep h5 (hk _ hg.1 hg.2), HeldIn.keep hk h6, HeldIn.keep hk h7⟩
def ptr (b : Nat) : Value := .pointer (some ⟨b, 0, none⟩)
theorem ownsRow_base {w : World} {base base' : Nat} {e : TypeId} {size : Nat} {v : Value} {n : Nat} {xs : List Value} (h : w.ownsRow base e size v n xs) (hb : base' ≤ base) : w.ownsRow base' e size v n xs := by
  refine ⟨h.1, ?_⟩
  rcases h.2 with h | ⟨g, cap, cur, h1, h2, h3⟩
  · exact .inl h
  · exact .inr ⟨g, cap, cur, h1, Nat.le_trans hb h2, h3⟩
/-- 'append' of one element of one cell to a slice of the call's own: either the same row, or a new one. -/
theorem wpList_push {P : Program} (w : World) {ops : Array Oper} {rest : List Oper} {o : Oper} {a : Act} {Q : Exit → Act → World → Prop}
    (hg : o.guard = none) (s x : Operand) (t : TypeId) (hop : o.op = Op.call { callee := Callee.builtin Builtin.append, args := #[s, x], argTypes := #[t, t] })
    (base : Nat) (e : TypeId) (i : TypeInfo) (z : Value) (bytes : Nat) (h1 : P.underlying t = some (.slice e)) (h2 : P.info? e = some i) (h3 : i.zero = some z) (h4 : i.size = 1) (h5 : i.bytes = bytes) (h6 : z.cells.size = 1)
    (v : Value) (n : Nat) (xs : List Value) (hs : a.eval s = v) (hown : w.ownsRow base e 1 v n xs)
    (ad : Addr) (c : Nat) (u : Value) (hx : a.eval x = .slice (some ad) 1 c) (hc : w.cell? ad = some u) (h1c : u.oneCell' = true)
    (b1 : n + 1 ≤ maxLen) (b2 : (n + 1) * bytes ≤ 140737488355328) (hbase : base ≤ w.heap.size)
    (hK : ∀ v' w', w'.ownsRow base e 1 v' (n + 1) (xs ++ [u]) → w.grownBy w' v.ownBlock → (v'.ownBlock = v.ownBlock ∨ ∀ g, v'.ownBlock = some g → w.heap.size ≤ g) → wpList P ops Q rest (a.put o.dst v') w') :
    wpList P ops Q (o :: rest) a w := by
  have hc' : ∀ j y, ([u] : List Value)[j]? = some y → w.cell? (ad.add j) = some y := fun j y hj => by
    match j, hj with
    | 0, hj => simp at hj; subst hj; simpa [Addr.add] using hc
  have h1c' : ∀ y ∈ [u], y.oneCell' = true := fun y hy => by simp at hy; subst hy; exact h1c
  have grow : ∀ (ao : Option Addr) (cap : Nat), v = .slice ao n cap → (ao = none → n = 0 ∧ cap = 0) → (∀ b, ao = some b → ∀ j y, xs[j]? = some y → w.cell? (b.add j) = some y) → cap < n + 1 → wpList P ops Q (o :: rest) a w := by
    intro ao cap hv hnone holds hfull
    refine wpList_append_grows w hg s x t hop e i z 1 bytes h1 h2 h3 h4 h5 h6 (by decide) ao n cap xs (by rw [hs]; exact hv) hnone hown.1 holds ad 1 c [u] hx rfl hc' h1c' hfull b1 b2 fun v' w' r1 r2 => ?_
    refine hK v' w' (ownsRow_base r1 hbase) ⟨r2.os, r2.tape, r2.output, r2.size, fun k hk _ => r2.block k hk (by simp)⟩ (.inr fun g hgv => ?_)
    exact (r1.lt g hgv).1
  rcases hown.2 with ⟨hv, hn⟩ | ⟨g, cap, cur, hv, hb, hgg, hle, hm, hsz, htk⟩
  · exact grow none 0 (by rw [hv, hn]) (fun _ => ⟨hn, rfl⟩) (fun b hb => by cases hb) (by omega)
  · by_cases hroom : n + 1 ≤ cap
    · subst hv
      refine wpList_append_fits w hg s x t hop base e i 1 h1 h2 h4 g n cap xs hs hown ad 1 c [u] hx rfl hc' h1c' hroom fun w' r1 r2 => ?_
      exact hK _ w' r1 r2 (.inl rfl)
    · exact grow _ cap hv (fun h => by cases h) (fun b hb' => by injection hb' with hb'; subst hb'; exact hown.cells (by rw [hv]; rfl)) (by omega)

/-- What the loop over the parts has done: i of k parts have been read, up to the place en. -/
def PS (c : List UInt8) (l0 : List UInt8) (k i : Nat) (e : TypeId) (b : Nat) (wr : World) (v : Value) (en : Nat) (bs : List Nat) : Prop :=
  ∃ (ts : List Ct), ts.length = i ∧ bs.length = i ∧ (prk k l0 = (prk (k - i) (c.drop en)).map fun q => (ts ++ q.1, q.2)) ∧
    wr.ownsRow (b + 1) e 1 v i (bs.map ptr) ∧ (i = 0 → v = .slice none 0 0) ∧
    ∀ j (h1 : j < ts.length) (h2 : j < bs.length), ∃ lo hi, b < lo ∧ hi ≤ wr.heap.size ∧ HeldIn lo hi wr ts[j] bs[j] ∧ ∀ g, v.ownBlock = some g → g < lo ∨ hi ≤ g
theorem PS.start {c l0 : List UInt8} {k : Nat} {e : TypeId} {b : Nat} {wr : World} {en : Nat} (h : l0 = c.drop en) : PS c l0 k 0 e b wr (.slice none 0 0) en [] :=
  ⟨[], rfl, rfl, by
    rw [h]
    show _ = (prk k _).map _
    cases prk k (c.drop en) <;> simp, World.ownsRow_nil _ _ _ _, fun _ => rfl, fun j h1 _ => absurd h1 (Nat.not_lt_zero _)⟩
theorem PS.own {c l0 : List UInt8} {k i : Nat} {e : TypeId} {b : Nat} {wr : World} {v : Value} {en : Nat} {bs : List Nat} (h : PS c l0 k i e b wr v en bs) : wr.ownsRow (b + 1) e 1 v i (bs.map ptr) := by
  obtain ⟨ts, _, _, _, q4, _⟩ := h
  exact q4
/-- No part at the place: no contract. -/
theorem PS.bad {c l0 : List UInt8} {k i : Nat} {e : TypeId} {b : Nat} {wr : World} {v : Value} {en : Nat} {bs : List Nat} (h : PS c l0 k i e b wr v en bs) (hi : i < k) (hn : pr (c.drop en) = none) : prk k l0 = none := by
  obtain ⟨ts, _, _, hp, _⟩ := h
  rw [hp]
  have : k - i = (k - i - 1) + 1 := by omega
  rw [this]
  simp [prk, hn]
/-- Blocks that are as they were keep all parts. -/
theorem PS.below {c l0 : List UInt8} {k i : Nat} {e : TypeId} {b : Nat} {wr w' : World} {v : Value} {en : Nat} {bs : List Nat} (h : PS c l0 k i e b wr v en bs) (hb : Below wr.heap.size wr w') : PS c l0 k i e b w' v en bs := by
  obtain ⟨ts, h1, h2, h3, h4, h5, h6⟩ := h
  refine ⟨ts, h1, h2, h3, ?_, h5, fun j j1 j2 => ?_⟩
  · exact h4.kept (row := none) ⟨hb.os, hb.tape, hb.output, hb.size, fun k hk _ => hb.block k hk⟩ (by cases hv : v.ownBlock <;> simp)
  · obtain ⟨lo, hi, a1, a2, a3, a4⟩ := h6 j j1 j2
    exact ⟨lo, hi, a1, Nat.le_trans a2 hb.size, a3.keep fun k _ hk => hb.block k (Nat.lt_of_lt_of_le hk a2), a4⟩
/-- A store into block b keeps all parts. -/
theorem PS.set {c l0 : List UInt8} {k i : Nat} {e : TypeId} {b : Nat} {wr : World} {v : Value} {en : Nat} {bs : List Nat} (h : PS c l0 k i e b wr v en bs) (j : Nat) (u : Value) : PS c l0 k i e b (wr.setCell ⟨b, j, none⟩ u) v en bs := by
  obtain ⟨ts, h1, h2, h3, h4, h5, h6⟩ := h
  have hg : wr.grownBy (wr.setCell ⟨b, j, none⟩ u) (some b) := ⟨rfl, rfl, rfl, by simp [World.setCell], fun k _ hk => Below.heap_setCell _ _ _ _ (by intro e; exact hk (by rw [e]))⟩
  refine ⟨ts, h1, h2, h3, ?_, h5, fun j j1 j2 => ?_⟩
  · refine h4.kept hg ?_
    cases hv : v.ownBlock with
    | none => exact .inl rfl
    | some g =>
      have := (h4.lt g hv).1
      exact .inr (by simp; omega)
  · obtain ⟨lo, hi, a1, a2, a3, a4⟩ := h6 j j1 j2
    exact ⟨lo, hi, a1, by simpa [World.setCell] using a2, a3.keep fun k hk _ => Below.heap_setCell _ _ _ _ (by simp; omega), a4⟩
/-- One more part. -/
theorem PS.step {c l0 : List UInt8} {k i : Nat} {e : TypeId} {b : Nat} {wr w2 w3 : World} {v v' : Value} {en bx : Nat} {bs : List Nat} {x : Ct}
    (h : PS c l0 k i e b wr v en bs) (hi : i < k) (hp : pr (c.drop en) = some (x, c.drop (en + x.tx.length))) (hb : Below wr.heap.size wr w2) (hx : HeldIn wr.heap.size w2.heap.size w2 x bx) (hbw : b < wr.heap.size)
    (o : Obj) (hown : w3.ownsRow (b + 1) e 1 v' (i + 1) (bs.map ptr ++ [ptr bx])) (hgr : (w2.alloc o).grownBy w3 v.ownBlock)
    (hnew : v'.ownBlock = v.ownBlock ∨ ∀ g, v'.ownBlock = some g → w2.heap.size + 1 ≤ g) : PS c l0 k (i + 1) e b w3 v' (en + x.tx.length) (bs ++ [bx]) := by
  obtain ⟨ts, h1, h2, h3, h4, h5, h6⟩ := h.below hb
  have hsz : w2.heap.size + 1 = (w2.alloc o).heap.size := by simp
  have hkeep : ∀ k, k < w2.heap.size → some k ≠ v.ownBlock → w3.heap[k]? = w2.heap[k]? := fun k hk hn => by
    rw [hgr.block k (by omega) hn, Below.heap_alloc w2 o k hk]
  have hlo : ∀ g, v.ownBlock = some g → g < wr.heap.size := fun g hgv => by
    obtain ⟨ts', _, _, _, q4, _⟩ := h
    exact (q4.lt g hgv).2
  have hs3 := hgr.size
  refine ⟨ts ++ [x], by simp [h1], by simp [h2], ?_, ?_, fun h => by omega, fun j j1 j2 => ?_⟩
  · rw [h3]
    have : k - i = (k - (i + 1)) + 1 := by omega
    rw [this]
    simp only [prk, hp]
    cases prk (k - (i + 1)) (c.drop (en + x.tx.length)) <;> simp
  · simpa [List.map_append] using hown
  · by_cases hj : j < ts.length
    · have hj2 : j < bs.length := by omega
      obtain ⟨lo, hi', a1, a2, a3, a4⟩ := h6 j hj hj2
      refine ⟨lo, hi', a1, by omega, ?_, fun g hgv => ?_⟩
      · have e1 : (ts ++ [x])[j] = ts[j] := List.getElem_append_left hj
        have e2 : (bs ++ [bx])[j] = bs[j] := List.getElem_append_left hj2
        rw [e1, e2]
        exact a3.keep fun k hk1 hk2 => hkeep k (by omega) (fun e => by
          have := a4 k e.symm
          omega)
      · rcases hnew with hn | hn
        · exact a4 g (by rw [← hn]; exact hgv)
        · have := hn g hgv
          omega
    · have hjt : j = ts.length := by simp at j1; omega
      subst hjt
      have e1 : (ts ++ [x])[ts.length] = x := by simp
      have e2 : (bs ++ [bx])[ts.length]'j2 = bx := by
        have : ts.length = bs.length := by omega
        simp [this]
      rw [e1, e2]
      refine ⟨wr.heap.size, w2.heap.size, hbw, by omega, ?_, fun g hgv => ?_⟩
      · exact hx.keep fun k hk1 hk2 => hkeep k hk2 (fun e => by have := hlo k e.symm; omega)
      · rcases hnew with hn | hn
        · exact .inl (hlo g (by rw [← hn]; exact hgv))
        · have := hn g hgv
          exact .inr (by omega)
/-- All parts have been read: the contract is held. -/
theorem PS.done {c l0 : List UInt8} {k : Nat} {e : TypeId} {b : Nat} {wr : World} {v : Value} {en : Nat} {bs : List Nat} {o : UInt8} {d : List UInt8} {T : ByteArray} {ts : List Ct} {r : List UInt8} (h : PS c l0 k k e b wr v en bs)
    (hk : k = 0 ∨ k = 1 ∨ k = 2) (hr : Rec wr b o (pv d) (xv d) v T) (hp : prk k l0 = some (ts, r)) (hT : T = (mkC o d ts).bytes) : HeldIn b wr.heap.size wr (mkC o d ts) b ∧ r = c.drop en := by
  obtain ⟨us, h1, h2, h3, h4, h5, h6⟩ := h
  rw [hp, Nat.sub_self] at h3
  simp only [prk, Option.map_some, List.append_nil, Option.some.injEq, Prod.mk.injEq] at h3
  obtain ⟨rfl, rfl⟩ := h3
  refine ⟨?_, rfl⟩
  have hlt := hr.lt
  subst hT
  have hcell : ∀ g cap, v = .slice (some ⟨g, 0, none⟩) k cap → ∀ j (hj : j < bs.length), wr.cell? ⟨g, j, none⟩ = some (ptr bs[j]) := fun g cap hv j hj => by
    have := h4.cells (g := g) (by rw [hv]; rfl) j (ptr bs[j]) (by simp [hj])
    have hadd : (⟨g, 0, none⟩ : Addr).add j = ⟨g, j, none⟩ := by unfold Addr.add; split <;> simp_all
    rwa [hadd] at this
  have hform : 0 < k → ∃ g cap, v = .slice (some ⟨g, 0, none⟩) k cap ∧ b ≤ g ∧ g < wr.heap.size := fun hk0 => by
    rcases h4.2 with ⟨_, h0⟩ | ⟨g, cap, cur, hv, hb, hgg, _⟩
    · omega
    · exact ⟨g, cap, hv, by omega, lt_of_block hgg⟩
  have kid : ∀ j (hj : j < ts.length), HeldIn b wr.heap.size wr ts[j] (bs[j]'(by omega)) := fun j hj => by
    obtain ⟨lo, hi, a1, a2, a3, _⟩ := h6 j hj (by omega)
    exact a3.wide (by omega) a2
  rcases hk with rfl | rfl | rfl
  · have : ts = [] := List.eq_nil_of_length_eq_zero h1
    subst this
    have hv := h5 rfl
    subst hv
    exact ⟨⟨Nat.le_refl _, hlt⟩, hr⟩
  · obtain ⟨g, cap, hv, g1, g2⟩ := hform (by decide)
    obtain ⟨x, rfl⟩ : ∃ x, ts = [x] := by
      match ts, h1 with
      | [x], _ => exact ⟨x, rfl⟩
    · have k0 := kid 0 (by simp)
      have c0 := hcell g cap hv 0 (by omega)
      subst hv
      exact ⟨⟨Nat.le_refl _, hlt⟩, g, cap, _, ⟨g1, g2⟩, hr, c0, k0⟩
  · obtain ⟨g, cap, hv, g1, g2⟩ := hform (by decide)
    obtain ⟨x, y, rfl⟩ : ∃ x y, ts = [x, y] := by
      match ts, h1 with
      | [x, y], _ => exact ⟨x, y, rfl⟩
    · have k0 := kid 0 (by simp)
      have k1 := kid 1 (by simp)
      have c0 := hcell g cap hv 0 (by omega)
      have c1 := hcell g cap hv 1 (by omega)
      subst hv
      exact ⟨⟨Nat.le_refl _, hlt⟩, g, cap, _, _, ⟨g1, g2⟩, hr, c0, c1, k0, k1⟩
/-- What all parts have come to. -/
theorem PS.all {c l0 : List UInt8} {k : Nat} {e : TypeId} {b : Nat} {wr : World} {v : Value} {en : Nat} {bs : List Nat} (h : PS c l0 k k e b wr v en bs) : ∃ ts, prk k l0 = some (ts, c.drop en) := by
  obtain ⟨ts, h1, h2, h3, h4, h5, h6⟩ := h
  rw [Nat.sub_self] at h3
  exact ⟨ts, by rw [h3]; simp [prk]⟩
theorem extract_list (c : ByteArray) (p q : Nat) : (c.extract p q).data.toList = (c.data.toList.drop p).take (q - p) := by
  rw [ByteArray.data_extract, Array.toList_extract]
/-- A contract that was read up to q is the text up to q. -/
theorem text_of {c : ByteArray} {p q : Nat} {t : Ct} (h : pr (c.data.toList.drop p) = some (t, c.data.toList.drop q)) (hq : q ≤ c.size) (hpq : p ≤ q) : q = p + t.tx.length ∧ c.extract p q = t.bytes := by
  have hs := pr_some h
  have hsz : c.data.toList.length = c.size := rfl
  have hd := drop_app hs.1 t.tx_pos
  have e1 := congrArg List.length hd.1
  simp at e1
  have hq' : q = p + t.tx.length := by
    have := hd.2
    have e2 : c.data.size = c.size := rfl
    rw [hsz] at this
    omega
  refine ⟨hq', bytes_of_list ?_⟩
  rw [extract_list, hq', Nat.add_sub_cancel_left]
  exact take_app hs.1
end Go.DC
