/-
  Plain laws: what the laws on relations say, second part. No program in sight.
-/
import Derived.Test.YtmecagiadlimgaaPw
namespace Go.DC
open Go.RowKit
set_option linter.unusedVariables false
set_option linter.unusedSimpArgs false
theorem sv_at {s : Nat} (h : s < 4) : sv (s : Int) = true := by unfold sv; simp; omega
theorem relates_at {r : ByteArray} (hr : dvB 4 r = true) {s t : Nat} (hs : s < 4) (ht : t < 4) : relates r s t = hasb (dg r s) t := by
  unfold relates; rw [hr, sv_at hs, sv_at ht]; rfl
/-! ### a state lies between -/
def midB (X Y : Nat → Nat → Bool) (s t : Nat) : Nat → Bool
  | 0 => false
  | n + 1 => midB X Y s t n || (X s n && Y n t)
theorem mid_iff (X Y : Nat → Nat → Bool) (s t : Nat) : ∀ n, midB X Y s t n = true ↔ ∃ k, k < n ∧ X s k = true ∧ Y k t = true
  | 0 => by simp [midB]
  | n + 1 => by
    rw [midB, Bool.or_eq_true, Bool.and_eq_true, mid_iff X Y s t n]
    constructor
    · rintro (⟨k, hk, h⟩ | h)
      · exact ⟨k, by omega, h⟩
      · exact ⟨n, by omega, h⟩
    · rintro ⟨k, hk, h⟩
      rcases Nat.lt_or_ge k n with h2 | h2
      · exact .inl ⟨k, h2, h⟩
      · obtain rfl : k = n := by omega
        exact .inr h
theorem mid_then {x y : Nat → Int} (hy : Dg 4 y) {s t : Nat} (hs : s < 4) (ht : t < 4) : midB (fun s t => hasb (x s) t) (fun s t => hasb (y s) t) s t 4 = hasb (dg (txt 4 (thenR x y)) s) t := by
  rw [dgt4 (thenR_Dg x hy) s hs, Bool.eq_iff_iff, mid_iff, then_iff hy ht]
theorem cp_assoc {x y z : Nat → Int} (hy : Dg 4 y) (hz : Dg 4 z) : txt 4 (thenR (dg (txt 4 (thenR x y))) z) = txt 4 (thenR x (dg (txt 4 (thenR y z)))) := txt_congr fun s hs => by
  rw [thenR_congr (dgt4 (thenR_Dg x hy)) (fun _ _ => rfl) s hs, thenR_congr (fun _ _ => rfl) (dgt4 (thenR_Dg y hz)) s hs, then_assoc hy hz hs]
theorem cp_turn {x y : Nat → Int} (hx : Dg 4 x) (hy : Dg 4 y) : txt 4 (turn (dg (txt 4 (thenR x y)))) = txt 4 (thenR (dg (txt 4 (turn y))) (dg (txt 4 (turn x)))) := txt_congr fun s hs => by
  rw [turn_congr (dgt4 (thenR_Dg x hy)), turn_then hx hy hs, thenR_congr (dgt4 (turn_Dg y)) (dgt4 (turn_Dg x)) s hs]
theorem cp_id {r : ByteArray} (hr : dvB 4 r = true) : txt 4 (thenR (dg r) (dg (txt 4 idR))) = r := by
  conv => rhs; rw [← txt_dg hr]
  exact txt_congr fun s hs => by rw [thenR_congr (fun _ _ => rfl) (dgt4 idR_Dg) s hs, then_id (dvB_Dg hr) hs]
/-! ### both, or one -/
theorem dg_or {x y : Nat → Int} (hx : Dg 4 x) (hy : Dg 4 y) {s t : Nat} (hs : s < 4) (ht : t < 4) : hasb (dg (txt 4 (orR x y)) s) t = (hasb (x s) t || hasb (y s) t) := by
  rw [dgt4 (orR_Dg hx hy) s hs, Bool.eq_iff_iff, or_iff hx hy hs ht, Bool.or_eq_true]
theorem dg_and {x y : Nat → Int} (hx : Dg 4 x) (hy : Dg 4 y) {s t : Nat} (hs : s < 4) (ht : t < 4) : hasb (dg (txt 4 (andR x y)) s) t = (hasb (x s) t && hasb (y s) t) := by
  rw [dgt4 (andR_Dg hx hy) s hs, Bool.eq_iff_iff, and_iff hx hy hs ht, Bool.and_eq_true]
theorem cntS_sum {p q : Int} (hp : Cv p) (hq : Cv q) : cntS (band p q) 4 + cntS (bor p q) 4 = cntS p 4 + cntS q 4 := by
  have h : ∀ m n : Fin 16, cntS (band (m.val : Int) (n.val : Int)) 4 + cntS (bor (m.val : Int) (n.val : Int)) 4 = cntS (m.val : Int) 4 + cntS (n.val : Int) 4 := by decide +kernel
  exact cond_all2 (P := fun a b => cntS (band a b) 4 + cntS (bor a b) 4 = cntS a 4 + cntS b 4) h hp.1 hp.2 hq.1 hq.2
theorem cntP_sum {x y : Nat → Int} (hx : Dg 4 x) (hy : Dg 4 y) : ∀ n, n ≤ 4 → cntP (andR x y) n + cntP (orR x y) n = cntP x n + cntP y n
  | 0, _ => rfl
  | n + 1, h => by
    have ih := cntP_sum hx hy n (by omega)
    have hs := cntS_sum (hx n (by omega)) (hy n (by omega))
    unfold cntP andR orR
    unfold andR orR at ih
    omega
theorem dg_cntP {x : Nat → Int} (hx : Dg 4 x) : cntP (dg (txt 4 x)) 4 = cntP x 4 := cntP_congr 4 fun s hs => dgt4 hx s hs
theorem or_is {r q : ByteArray} (hr : dvB 4 r = true) (hq : dvB 4 q = true) : txt 4 (orR (dg r) (dg q)) = q ↔ subB (dg r) (dg q) = true := by
  have h := sub_or (dvB_Dg hr) hq
  rw [← h, decide_eq_true_iff]
  exact Iff.rfl
theorem and_is {r q : ByteArray} (hr : dvB 4 r = true) (hq : dvB 4 q = true) : txt 4 (andR (dg r) (dg q)) = r ↔ subB (dg r) (dg q) = true := by
  rw [subB_iff]
  have hd := dvB_Dg hq
  have he := dvB_Dg hr
  have hf : ∀ m n : Fin 16, (band (m.val : Int) (n.val : Int) = (m.val : Int) ↔ bandn (m.val : Int) (n.val : Int) = 0) := by decide +kernel
  have key : ∀ k, k < 4 → (band (dg r k) (dg q k) = dg r k ↔ bandn (dg r k) (dg q k) = 0) := fun k hk =>
    cond_all2 (P := fun a b => (band a b = a ↔ bandn a b = 0)) hf (he k hk).1 (he k hk).2 (hd k hk).1 (hd k hk).2
  constructor
  · intro h k hk
    have e : dg (txt 4 (andR (dg r) (dg q))) k = dg r k := congrArg (fun t => dg t k) h
    rw [dgt4 (andR_Dg he hd) k hk] at e
    exact (key k hk).1 e
  · intro h
    conv => rhs; rw [← txt_dg hr]
    exact txt_congr fun k hk => (key k hk).2 (h k hk)
/-! ### images -/
theorem im_adj {x : Nat → Int} (hx : Dg 4 x) {p q : Int} (hp : Cv p) (hq : Cv q) : (bandn (dia (turn x) p) q == 0) = (bandn p (boxR x q) == 0) := by
  rw [Bool.eq_iff_iff, sub_iff (dia_cv _ _) hq, sub_iff hp (box_cv _ _)]
  constructor
  · intro h s hs h1
    refine (box_iff hx hq hs).2 fun k hk h2 => h k hk ?_
    exact (dia_iff (turn_Dg x) hp hk).2 ⟨s, hs, (turn_iff hs).2 h2, h1⟩
  · intro h k hk h1
    obtain ⟨s, hs, h2, h3⟩ := (dia_iff (turn_Dg x) hp hk).1 h1
    exact (box_iff hx hq hs).1 (h s hs h3) k hk ((turn_iff hs).1 h2)
theorem im_turn {x : Nat → Int} (hx : Dg 4 x) (p : Int) : dia (turn (dg (txt 4 (turn x)))) p = dia x p := dia_congr (fun s hs => by
  rw [turn_congr (dgt4 (turn_Dg x))]
  refine ext_iff (turn_Dg _ s hs) (hx s hs) fun i hi => ?_
  rw [turn_iff hi, turn_iff hs]) p
theorem im_box {x : Nat → Int} (hx : Dg 4 x) {p : Int} (hp : Cv p) : boxR x p = bandn 15 (dia x (bandn 15 p)) := by
  have hn := Cv.andn Cv.c15 hp
  refine ext_iff (box_cv _ _) (Cv.andn Cv.c15 (dia_cv _ _)) fun i hi => ?_
  rw [box_iff hx hp hi, Cv.has_andn Cv.c15 (dia_cv _ _) hi]
  have h15 : ∀ k, k < 4 → hasb 15 k = true := by decide
  rw [h15 i hi, Bool.true_and, not_has, dia_iff hx hn hi]
  constructor
  · rintro h ⟨k, hk, h1, h2⟩
    rw [Cv.has_andn Cv.c15 hp hk, h k hk h1] at h2
    simp at h2
  · intro h k hk h1
    cases h3 : hasb p k
    · exact absurd ⟨k, hk, h1, by rw [Cv.has_andn Cv.c15 hp hk, h15 k hk, h3]; rfl⟩ h
    · rfl
theorem cnt_zero {p : Int} (hp : Cv p) : cntS p 4 = 0 ↔ p = 0 := by
  have h : ∀ m : Fin 16, (cntS (m.val : Int) 4 = 0 ↔ (m.val : Int) = 0) := by decide +kernel
  exact cond_all (P := fun p => cntS p 4 = 0 ↔ p = 0) h hp.1 hp.2
theorem fun4 (x : Nat → Int) : funB x 4 = (cntS (x 0) 4 == 1 && cntS (x 1) 4 == 1 && cntS (x 2) 4 == 1 && cntS (x 3) 4 == 1) := by simp [funB]
theorem cnt4 (x : Nat → Int) : cntP x 4 = cntS (x 0) 4 + cntS (x 1) 4 + cntS (x 2) 4 + cntS (x 3) 4 := by simp [cntP]
theorem dom_all {x : Nat → Int} (hx : Dg 4 x) : dia x 15 = 15 ↔ ∀ s, s < 4 → x s ≠ 0 := by
  have h15 : ∀ k, k < 4 → hasb 15 k = true := by decide
  have h0 : ∀ k, k < 4 → hasb 0 k = false := by decide
  constructor
  · intro h s hs e
    have h1 : hasb (dia x 15) s = true := by rw [h]; exact h15 s hs
    obtain ⟨k, hk, h2, _⟩ := (dia_iff hx Cv.c15 hs).1 h1
    rw [e, h0 k hk] at h2
    cases h2
  · intro h
    refine ext_iff (dia_cv _ _) Cv.c15 fun i hi => ?_
    rw [dia_iff hx Cv.c15 hi, h15 i hi]
    refine ⟨fun _ => rfl, fun _ => ?_⟩
    apply Classical.byContradiction
    intro hn
    refine h i hi (ext_iff (hx i hi) ⟨by omega, by omega⟩ fun k hk => ?_)
    rw [h0 k hk]
    constructor
    · intro h1; exact absurd ⟨k, hk, h1, h15 k hk⟩ hn
    · intro h1; cases h1
theorem im_fun {x : Nat → Int} (hx : Dg 4 x) : funB x 4 = (decide (dia x 15 = 15) && decide (cntP x 4 = 4)) := by
  rw [Bool.eq_iff_iff, Bool.and_eq_true, decide_eq_true_iff, decide_eq_true_iff, dom_all hx, fun4, cnt4]
  simp only [Bool.and_eq_true, beq_iff_eq]
  have g := fun s hs => cntS_rng (hx s hs) 4 (Nat.le_refl _)
  have z := fun s hs => cnt_zero (hx s hs)
  have g0 := g 0 (by omega); have g1 := g 1 (by omega); have g2 := g 2 (by omega); have g3 := g 3 (by omega)
  have z0 := z 0 (by omega); have z1 := z 1 (by omega); have z2 := z 2 (by omega); have z3 := z 3 (by omega)
  constructor
  · rintro ⟨⟨⟨e0, e1⟩, e2⟩, e3⟩
    refine ⟨fun s hs e => ?_, by omega⟩
    have := (z s hs).2 e
    rcases (show s = 0 ∨ s = 1 ∨ s = 2 ∨ s = 3 by omega) with rfl | rfl | rfl | rfl <;> omega
  · rintro ⟨h, e⟩
    have n0 : ¬ cntS (x 0) 4 = 0 := fun e => h 0 (by omega) (z0.1 e)
    have n1 : ¬ cntS (x 1) 4 = 0 := fun e => h 1 (by omega) (z1.1 e)
    have n2 : ¬ cntS (x 2) 4 = 0 := fun e => h 2 (by omega) (z2.1 e)
    have n3 : ¬ cntS (x 3) 4 = 0 := fun e => h 3 (by omega) (z3.1 e)
    omega
/-- Some of the first n numbers has both. -/
def someB (X P : Nat → Bool) : Nat → Bool
  | 0 => false
  | n + 1 => someB X P n || (X n && P n)
/-- Each of the first n numbers that has the first has the second. -/
def allB (X P : Nat → Bool) : Nat → Bool
  | 0 => true
  | n + 1 => allB X P n && (!X n || P n)
theorem some_iff (X P : Nat → Bool) : ∀ n, someB X P n = true ↔ ∃ k, k < n ∧ X k = true ∧ P k = true
  | 0 => by simp [someB]
  | n + 1 => by
    rw [someB, Bool.or_eq_true, Bool.and_eq_true, some_iff X P n]
    constructor
    · rintro (⟨k, hk, h⟩ | h)
      · exact ⟨k, by omega, h⟩
      · exact ⟨n, by omega, h⟩
    · rintro ⟨k, hk, h⟩
      rcases Nat.lt_or_ge k n with h2 | h2
      · exact .inl ⟨k, h2, h⟩
      · obtain rfl : k = n := by omega
        exact .inr h
theorem all_iff (X P : Nat → Bool) : ∀ n, allB X P n = true ↔ ∀ k, k < n → X k = true → P k = true
  | 0 => by simp [allB]
  | n + 1 => by
    rw [allB, Bool.and_eq_true, all_iff X P n]
    constructor
    · rintro ⟨h1, h2⟩ k hk hX
      rcases Nat.lt_or_ge k n with h3 | h3
      · exact h1 k h3 hX
      · obtain rfl : k = n := by omega
        rw [hX] at h2; simpa using h2
    · intro h
      refine ⟨fun k hk => h k (by omega), ?_⟩
      cases hX : X n
      · rfl
      · rw [h n (by omega) hX]; rfl
theorem some_dia {x : Nat → Int} (hx : Dg 4 x) {p : Int} (hp : Cv p) {s : Nat} (hs : s < 4) : someB (fun t => hasb (x s) t) (fun t => hasb p t) 4 = hasb (dia x p) s := by
  rw [Bool.eq_iff_iff, some_iff, dia_iff hx hp hs]
theorem all_box {x : Nat → Int} (hx : Dg 4 x) {p : Int} (hp : Cv p) {s : Nat} (hs : s < 4) : allB (fun t => hasb (x s) t) (fun t => hasb p t) 4 = hasb (boxR x p) s := by
  rw [Bool.eq_iff_iff, all_iff, box_iff hx hp hs]
theorem turn_at {x : Nat → Int} {s t : Nat} (hs : s < 4) (ht : t < 4) : hasb (dg (txt 4 (turn x)) s) t = hasb (x t) s := by
  rw [dgt4 (turn_Dg x) s hs, Bool.eq_iff_iff, turn_iff ht]
theorem cntS_step {p : Int} (hp : Cv p) {n : Nat} (hn : n < 4) : cntS p (n + 1) = cntS p n + if hasb p n then 1 else 0 := by
  rw [← bit_rng hp hn]; rfl
end Go.DC
