/-
  Plain laws: conditions as a lattice, the least fixed point. No program in sight.
-/
import Derived.Test.YtmajmkggbgilbaaPQ
namespace Go.DC
open Go.RowKit
set_option linter.unusedVariables false
set_option linter.unusedSimpArgs false
/-- A condition. -/
def Cv (a : Int) : Prop := 0 ≤ a ∧ a ≤ 15
/-- a implies b. -/
def Sub (a b : Int) : Prop := bandn a b = 0
theorem sub_bits {a b : Int} (ha : Cv a) (hb : Cv b) : Sub a b ↔ ∀ i, i < 4 → hasb a i = true → hasb b i = true := by
  have h : ∀ m n : Fin 16, (bandn (m.val : Int) (n.val : Int) = 0 ↔ ∀ i : Fin 4, hasb (m.val : Int) i.val = true → hasb (n.val : Int) i.val = true) := by decide +kernel
  have := cond_all2 (P := fun a b => (bandn a b = 0 ↔ ∀ i : Fin 4, hasb a i.val = true → hasb b i.val = true)) h ha.1 ha.2 hb.1 hb.2
  unfold Sub
  rw [this]
  exact ⟨fun h i hi => h ⟨i, hi⟩, fun h i => h i.val i.isLt⟩
theorem cv_ext {a b : Int} (ha : Cv a) (hb : Cv b) (h : ∀ i, i < 4 → hasb a i = hasb b i) : a = b := cond_ext ha.1 ha.2 hb.1 hb.2 h
theorem Cv.and {a b : Int} (ha : Cv a) (hb : Cv b) : Cv (band a b) := band_rng ha.1 ha.2 hb.1 hb.2
theorem Cv.or {a b : Int} (ha : Cv a) (hb : Cv b) : Cv (bor a b) := bor_rng ha.1 ha.2 hb.1 hb.2
theorem Cv.andn {a b : Int} (ha : Cv a) (hb : Cv b) : Cv (bandn a b) := bandn_rng ha.1 ha.2 hb.1 hb.2
theorem Cv.c0 : Cv 0 := ⟨by decide, by decide⟩
theorem Cv.c15 : Cv 15 := ⟨by decide, by decide⟩
theorem Cv.nat {n : Nat} (h : n < 16) : Cv (n : Int) := ⟨by omega, by omega⟩
theorem has0 {i : Nat} (hi : i < 4) : hasb 0 i = false := (by decide +kernel : ∀ i : Fin 4, hasb 0 i.val = false) ⟨i, hi⟩
theorem has15 {i : Nat} (hi : i < 4) : hasb 15 i = true := (by decide +kernel : ∀ i : Fin 4, hasb 15 i.val = true) ⟨i, hi⟩
theorem has_pow {i j : Nat} (hi : i < 4) (hj : j < 4) : hasb (2 ^ j) i = decide (i = j) := (by decide +kernel : ∀ i j : Fin 4, hasb (2 ^ j.val) i.val = decide (i.val = j.val)) ⟨i, hi⟩ ⟨j, hj⟩
theorem Cv.has_and {a b : Int} (ha : Cv a) (hb : Cv b) {i : Nat} (hi : i < 4) : hasb (band a b) i = (hasb a i && hasb b i) := has_band ha.1 ha.2 hb.1 hb.2 hi
theorem Cv.has_or {a b : Int} (ha : Cv a) (hb : Cv b) {i : Nat} (hi : i < 4) : hasb (bor a b) i = (hasb a i || hasb b i) := has_bor ha.1 ha.2 hb.1 hb.2 hi
theorem Cv.has_andn {a b : Int} (ha : Cv a) (hb : Cv b) {i : Nat} (hi : i < 4) : hasb (bandn a b) i = (hasb a i && !hasb b i) := has_bandn ha.1 ha.2 hb.1 hb.2 hi
theorem Sub.refl {a : Int} (ha : Cv a) : Sub a a := (sub_bits ha ha).2 fun _ _ h => h
theorem Sub.trans {a b c : Int} (ha : Cv a) (hb : Cv b) (hc : Cv c) (h1 : Sub a b) (h2 : Sub b c) : Sub a c :=
  (sub_bits ha hc).2 fun i hi h => (sub_bits hb hc).1 h2 i hi ((sub_bits ha hb).1 h1 i hi h)
theorem Sub.antisymm {a b : Int} (ha : Cv a) (hb : Cv b) (h1 : Sub a b) (h2 : Sub b a) : a = b :=
  cv_ext ha hb fun i hi => by rw [Bool.eq_iff_iff]; exact ⟨(sub_bits ha hb).1 h1 i hi, (sub_bits hb ha).1 h2 i hi⟩
theorem Sub.zero {a : Int} (ha : Cv a) : Sub 0 a := sub_0 ha.1 ha.2
theorem Sub.full {a : Int} (ha : Cv a) : Sub a 15 := sub_15 ha.1 ha.2
theorem Mono.cv {T : Int → Int} (h : Mono T) {a : Int} (ha : Cv a) : Cv (T a) := h.rng a ha.1 ha.2
theorem Mono.sub {T : Int → Int} (h : Mono T) {a b : Int} (ha : Cv a) (hb : Cv b) (hs : Sub a b) : Sub (T a) (T b) := h.imp a b ha.1 ha.2 hb.1 hb.2 hs
theorem Mono.mk' {T : Int → Int} (h1 : ∀ a, Cv a → Cv (T a)) (h2 : ∀ a b, Cv a → Cv b → Sub a b → Sub (T a) (T b)) : Mono T :=
  ⟨fun a a0 a1 => h1 a ⟨a0, a1⟩, fun a b a0 a1 b0 b1 h => h2 a b ⟨a0, a1⟩ ⟨b0, b1⟩ h⟩

/-! ### the least fixed point -/
def lp (T : Int → Int) : Int := iter 16 T 0
theorem iter_up {T : Int → Int} (hT : Mono T) : ∀ (n : Nat) (y : Int), Cv y → Sub y (T y) → 15 - y.toNat < n → T (iter n T y) = iter n T y ∧ Cv (iter n T y)
  | 0, _, _, _, h => absurd h (Nat.not_lt_zero _)
  | n + 1, y, hy, hs, hn => by
    unfold iter
    by_cases e : T y = y
    · rw [if_pos e]; exact ⟨e, hy⟩
    · rw [if_neg e]
      have hr := hT.cv hy
      have hl := sub_le hy.1 hy.2 hr.1 hr.2 hs
      have h0 := hy.1
      have h1 := hr.2
      exact iter_up hT n (T y) hr (hT.sub hy hr hs) (by omega)
theorem iter_less {T : Int → Int} (hT : Mono T) {z : Int} (hz : Cv z) (h : Sub (T z) z) : ∀ (n : Nat) (y : Int), Cv y → Sub y z → Sub (iter n T y) z
  | 0, _, _, hs => hs
  | n + 1, y, hy, hs => by
    unfold iter
    split
    · exact hs
    · exact iter_less hT hz h n (T y) (hT.cv hy) (Sub.trans (hT.cv hy) (hT.cv hz) hz (hT.sub hy hz hs) h)
theorem lp_cv {T : Int → Int} (hT : Mono T) : Cv (lp T) := (iter_up hT 16 0 Cv.c0 (Sub.zero (hT.cv Cv.c0)) (by decide)).2
theorem lp_fix {T : Int → Int} (hT : Mono T) : T (lp T) = lp T := (iter_up hT 16 0 Cv.c0 (Sub.zero (hT.cv Cv.c0)) (by decide)).1
theorem lp_less {T : Int → Int} (hT : Mono T) {z : Int} (hz : Cv z) (h : Sub (T z) z) : Sub (lp T) z := iter_less hT hz h 16 0 Cv.c0 (Sub.zero hz)
theorem lp_sub {T U : Int → Int} (hT : Mono T) (hU : Mono U) (h : ∀ y, Cv y → Sub (T y) (U y)) : Sub (lp T) (lp U) := by
  have hc := lp_cv hU
  refine lp_less hT hc ?_
  have := h _ hc
  rw [lp_fix hU] at this
  exact this
theorem lp_congr {T U : Int → Int} (hT : Mono T) (h : ∀ y, Cv y → U y = T y) : lp U = lp T := iter_congr hT (fun y h0 h1 => h y ⟨h0, h1⟩) 16 0 (by decide) (by decide)
theorem lp_uniq {T : Int → Int} (hT : Mono T) {z : Int} (hz : Cv z) (h : Sub (T z) z) (h2 : ∀ v, Cv v → T v = v → Sub z v) : lp T = z :=
  Sub.antisymm (lp_cv hT) hz (lp_less hT hz h) (h2 _ (lp_cv hT) (lp_fix hT))
theorem iter_same {T : Int → Int} (hT : Mono T) : ∀ (n m : Nat) (y : Int), Cv y → Sub y (T y) → 15 - y.toNat < n → 15 - y.toNat < m → iter n T y = iter m T y
  | 0, _, _, _, _, h, _ => absurd h (Nat.not_lt_zero _)
  | _, 0, _, _, _, _, h => absurd h (Nat.not_lt_zero _)
  | n + 1, m + 1, y, hy, hs, hn, hm => by
    unfold iter
    by_cases e : T y = y
    · rw [if_pos e, if_pos e]
    · rw [if_neg e, if_neg e]
      have hr := hT.cv hy
      have hl := sub_le hy.1 hy.2 hr.1 hr.2 hs
      have h0 := hy.1
      have h1 := hr.2
      exact iter_same hT n m (T y) hr (hT.sub hy hr hs) (by omega) (by omega)
/-- One more turn from below. -/
theorem lp_step {T : Int → Int} (hT : Mono T) {y : Int} (hy : Cv y) (hs : Sub y (T y)) (e : T y ≠ y) : iter (16 - y.toNat) T y = iter (16 - (T y).toNat) T (T y) ∧ y.toNat < (T y).toNat ∧ (T y).toNat ≤ 15 := by
  have hr := hT.cv hy
  have hl := sub_le hy.1 hy.2 hr.1 hr.2 hs
  have h0 := hy.1
  have h1 := hr.2
  refine ⟨?_, by omega, by omega⟩
  have e1 : 16 - y.toNat = (15 - y.toNat) + 1 := by omega
  rw [e1]
  have : iter ((15 - y.toNat) + 1) T y = iter (15 - y.toNat) T (T y) := by conv => lhs; unfold iter; rw [if_neg e]
  rw [this]
  exact iter_same hT _ _ (T y) hr (hT.sub hy hr hs) (by omega) (by omega)
theorem lp_stop {T : Int → Int} {y : Int} (hy : Cv y) (e : T y = y) : iter (16 - y.toNat) T y = y := by
  have h0 := hy.1
  have h1 := hy.2
  have e1 : 16 - y.toNat = (15 - y.toNat) + 1 := by omega
  rw [e1]; exact iter_stop e
end Go.DC
