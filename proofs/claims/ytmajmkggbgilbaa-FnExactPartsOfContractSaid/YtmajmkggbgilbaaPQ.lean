/-
  Plain laws: specifications, bounds. No program in sight.
-/
import Derived.Test.YtmajmkggbgilbaaPL
namespace Go.DC
open Go.RowKit
set_option linter.unusedVariables false
set_option linter.unusedSimpArgs false
theorem pow_in {m : Nat} (h : m < 4) : 0 ≤ (2 : Int) ^ m ∧ (2 : Int) ^ m ≤ 15 ∧ ((2 : Int) ^ m).toNat = 2 ^ m := by
  have : ∀ m : Fin 4, 0 ≤ (2 : Int) ^ m.val ∧ (2 : Int) ^ m.val ≤ 15 ∧ ((2 : Int) ^ m.val).toNat = 2 ^ m.val := by decide
  exact this ⟨m, h⟩
def orZ (b : Bool) (v : Int) : Int := if b then v else 0
theorem orZ_true (v : Int) : orZ true v = v := rfl
theorem orZ_false (v : Int) : orZ false v = 0 := rfl
/-- The transformer of a condition and a relation. -/
def specD (p : Int) (x : Nat → Int) : Nat → Int := fun q => band p (boxR x q)
theorem specD_Dg {p : Int} (h0 : 0 ≤ p) (h1 : p ≤ 15) (x : Nat → Int) (n : Nat) : Dg n (specD p x) := fun q _ => band_rng h0 h1 (boxR_rng x q).1 (boxR_rng x q).2
theorem boxR_congr {x y : Nat → Int} (h : ∀ s, s < 4 → x s = y s) (p : Int) : boxR x p = boxR y p := mk_congr 4 fun s hs => by rw [h s hs]
/-- as the program makes it -/
theorem spec_then (p : Int) (x : Nat → Int) : thenT (assertT p) (demonT x) = specD p x := funext fun q => by
  unfold thenT assertT demonT specD
  rw [Int.toNat_of_nonneg (boxR_rng x q).1]
/-- as the reference makes it -/
theorem spec_txt {p : Int} (h0 : 0 ≤ p) (h1 : p ≤ 15) {x : Nat → Int} (hx : Dg 4 x) : txt 16 (thenT (assertT p) (dual (angelT x))) = txt 16 (specD p x) := txt_congr fun q hq => by
  rw [← spec_then]
  unfold thenT
  rw [demon_eq hx hq]
theorem specD_txt {x : Nat → Int} (hx : Dg 4 x) {p : Int} : txt 16 (specD p (dg (txt 4 x))) = txt 16 (specD p x) := txt_congr fun q hq => by
  unfold specD
  rw [boxR_congr (fun s hs => dg_txt hx hs)]
theorem leadTo_congr {x y : Nat → Int} (s : Nat) : ∀ n, (∀ i, i < n → x i = y i) → leadTo n x s = leadTo n y s
  | 0, _ => rfl
  | n + 1, h => by
    have ih := leadTo_congr s n fun i hi => h i (by omega)
    unfold leadTo
    rw [h n (by omega), ih]
/-- The least conjunctive transformer that refines a transformer. -/
def aboveT (x : Nat → Int) : Nat → Int := specD (x 15) (leadsT x)
theorem aboveT_Dg {x : Nat → Int} (hx : Dg 16 x) : Dg 16 (aboveT x) := specD_Dg (hx 15 (by decide)).1 (hx 15 (by decide)).2 _ 16
theorem aboveT_congr {x y : Nat → Int} (h : ∀ i, i < 16 → x i = y i) (q : Nat) : aboveT x q = aboveT y q := by
  unfold aboveT specD
  rw [h 15 (by decide), boxR_congr (x := leadsT x) (y := leadsT y) fun s hs => leadTo_congr s 16 h]
theorem above_txt {x : Nat → Int} (hx : Dg 16 x) : txt 16 (aboveT (dg (txt 16 x))) = txt 16 (aboveT x) := txt_congr fun q hq => aboveT_congr (fun i hi => dg_txt hx hi) q
theorem eq_angelRel (r : ByteArray) : (tvB r && disjB (dg r) && (dg r 0 == 0)) = ((tvB r && conjB (dg (txt 16 (dual (dg r))))) && (tvB r && (dg r 0 == 0))) := by
  rw [← eq_disj]
  cases tvB r <;> cases disjB (dg r) <;> cases (dg r 0 == 0) <;> rfl
end Go.DC
