/-
  Plain definitions and laws: the relation that leads from each state to the conditions that it meets; closures. No program in sight.
-/
import Derived.Test.YtmajmkggbgilbaaPT
namespace Go.DC
open Go.RowKit
set_option linter.unusedVariables false
set_option linter.unusedSimpArgs false
end Go.DC
namespace Go.DC
open Go.RowKit
/-- The states that meet all conditions below m in which s lies, as the loop makes them. -/
def leadTo : Nat → (Nat → Int) → Nat → Int
  | 0, _, _ => 15
  | m + 1, x, s => if hasb (x m) s then bits .and .i64 (leadTo m x s) m else leadTo m x s
def leadsT (x : Nat → Int) : Nat → Int := fun s => leadTo 16 x s
theorem lead_rng (x : Nat → Int) (s : Nat) : ∀ m, m ≤ 16 → 0 ≤ leadTo m x s ∧ leadTo m x s ≤ 15
  | 0, _ => ⟨by show (0 : Int) ≤ 15; decide, Int.le_refl _⟩
  | m + 1, h => by
    have ih := lead_rng x s m (by omega)
    unfold leadTo
    split
    · exact band_rng ih.1 ih.2 (by omega) (by omega)
    · exact ih
theorem leadsT_Dg (x : Nat → Int) : Dg 4 (leadsT x) := fun s _ => lead_rng x s 16 (Nat.le_refl _)
theorem lead_yes {x : Nat → Int} {s m : Nat} (h : hasb (x m) s = true) : bits .and .i64 (leadTo m x s) m = leadTo (m + 1) x s := by simp [leadTo, h]
theorem lead_no {x : Nat → Int} {s m : Nat} (h : hasb (x m) s = false) : leadTo m x s = leadTo (m + 1) x s := by simp [leadTo, h]
end Go.DC
namespace Go.DC
open Go.RowKit
/-- y refines x. -/
def refB (x y : Nat → Int) : Bool := (List.range 16).all fun k => bandn (x k) (y k) == 0
theorem refB_iff {x y : Nat → Int} : refB x y = true ↔ ∀ k, k < 16 → bandn (x k) (y k) = 0 := by
  unfold refB; simp
theorem refB_bad {x y : Nat → Int} {n : Nat} (hn : n < 16) (h : (bits BinOp.andNot IntKind.i64 (x n) (y n) != 0) = true) : refB x y = false := by
  cases hd : refB x y
  · rfl
  · have := refB_iff.1 hd n hn
    unfold bandn at this
    simp [this] at h
theorem refB_ok {x y : Nat → Int} (h : ∀ k, k < 16 → (bits BinOp.andNot IntKind.i64 (x k) (y k) != 0) = false) : refB x y = true :=
  refB_iff.2 fun k hk => by have := h k hk; simpa [bandn] using this
end Go.DC
namespace Go.DC
open Go.RowKit
theorem dg_txt_Dg {n : Nat} {x : Nat → Int} (h : Dg n x) : Dg n (dg (txt n x)) := fun i hi => by rw [dg_txt h hi]; exact h i hi
theorem dual_txt {x : Nat → Int} (h : Dg 16 x) : txt 16 (dual (dg (txt 16 x))) = txt 16 (dual x) := txt_congr fun p hp => by
  have hr := bandn_rng (a := 15) (b := (p : Int)) (by decide) (by decide) (by omega) (by omega)
  unfold dual
  rw [dg_txt h (by omega)]
theorem then_txt {x y : Nat → Int} (hx : Dg 16 x) (hy : Dg 16 y) : txt 16 (thenT (dg (txt 16 x)) (dg (txt 16 y))) = txt 16 (thenT x y) := txt_congr fun p hp => by
  have h := hy p hp
  unfold thenT
  rw [dg_txt hy hp, dg_txt hx (by omega)]
/-- The box is what is no diamond of the others. -/
theorem box_eq {x : Nat → Int} (hx : Dg 4 x) {p : Int} (h0 : 0 ≤ p) (h1 : p ≤ 15) : boxR x p = bandn 15 (dia x (bandn 15 p)) := by
  have hb := boxR_rng x p
  have hd := dia_rng x (bandn 15 p)
  have hr := bandn_rng (a := 15) (by decide) (by decide) hd.1 hd.2
  refine cond_ext hb.1 hb.2 hr.1 hr.2 fun i hi => ?_
  have hxi := hx i hi
  rw [has_bandn (by decide) (by decide) hd.1 hd.2 hi, hasb_dia _ _ hi]
  unfold boxR
  rw [hasb_mk _ _ _ (by decide)]
  have h15 : hasb 15 i = true := (by decide +kernel : ∀ i : Fin 4, hasb 15 i.val = true) ⟨i, hi⟩
  have hfin : ∀ m n : Fin 16, (bandn (m.val : Int) (n.val : Int) == 0) = !(band (m.val : Int) (bandn 15 (n.val : Int)) != 0) := by decide +kernel
  have := cond_all2 (P := fun a b => (bandn a b == 0) = !(band a (bandn 15 b) != 0)) hfin hxi.1 hxi.2 h0 h1
  rw [h15, this]
  simp [hi]
theorem demon_eq {x : Nat → Int} (hx : Dg 4 x) {p : Nat} (hp : p < 16) : demonT x p = dual (angelT x) p := by
  have hr := bandn_rng (a := 15) (b := (p : Int)) (by decide) (by decide) (by omega) (by omega)
  unfold demonT dual angelT
  rw [box_eq hx (by omega) (by omega), Int.toNat_of_nonneg hr.1]
end Go.DC
