/-
  Plain laws: kinds are kept by sequences and choices. No program in sight.
-/
import Derived.Test.YtmecagiadlimgaaQa
namespace Go.DC
open Go.RowKit
set_option linter.unusedVariables false
set_option linter.unusedSimpArgs false
theorem conj_then {x y : Nat → Int} (hx : Tr x) (hy : Tr y) (h1 : conjB x = true) (h2 : conjB y = true) : conjB (thenT x y) = true := conjB_iff.2 fun a b a0 a1 b0 b1 => by
  have ha : Cv a := ⟨a0, a1⟩
  have hb : Cv b := ⟨b0, b1⟩
  rw [ap_then, ap_then, ap_then, cj_all h2 ha hb, cj_all h1 (hy.cv ha) (hy.cv hb)]
theorem disj_then {x y : Nat → Int} (hx : Tr x) (hy : Tr y) (h1 : disjB x = true) (h2 : disjB y = true) : disjB (thenT x y) = true := disjB_iff.2 fun a b a0 a1 b0 b1 => by
  have ha : Cv a := ⟨a0, a1⟩
  have hb : Cv b := ⟨b0, b1⟩
  rw [ap_then, ap_then, ap_then, dj_all h2 ha hb, dj_all h1 (hy.cv ha) (hy.cv hb)]
theorem and_four {a b c d : Int} (ha : Cv a) (hb : Cv b) (hc : Cv c) (hd : Cv d) : band (band a b) (band c d) = band (band a c) (band b d) := by
  refine ext_iff ((ha.and hb).and (hc.and hd)) ((ha.and hc).and (hb.and hd)) fun i hi => ?_
  rw [Cv.has_and (ha.and hb) (hc.and hd) hi, Cv.has_and (ha.and hc) (hb.and hd) hi, Cv.has_and ha hb hi, Cv.has_and hc hd hi, Cv.has_and ha hc hi, Cv.has_and hb hd hi]
  simp only [Bool.and_eq_true]
  constructor <;> (rintro ⟨⟨h1, h2⟩, h3, h4⟩; exact ⟨⟨h1, h3⟩, h2, h4⟩)
theorem or_four {a b c d : Int} (ha : Cv a) (hb : Cv b) (hc : Cv c) (hd : Cv d) : bor (bor a b) (bor c d) = bor (bor a c) (bor b d) := by
  refine ext_iff ((ha.or hb).or (hc.or hd)) ((ha.or hc).or (hb.or hd)) fun i hi => ?_
  rw [Cv.has_or (ha.or hb) (hc.or hd) hi, Cv.has_or (ha.or hc) (hb.or hd) hi, Cv.has_or ha hb hi, Cv.has_or hc hd hi, Cv.has_or ha hc hi, Cv.has_or hb hd hi]
  cases hasb a i <;> cases hasb b i <;> cases hasb c i <;> cases hasb d i <;> simp
theorem conj_meet {x y : Nat → Int} (hx : Tr x) (hy : Tr y) (h1 : conjB x = true) (h2 : conjB y = true) : conjB (meetT x y) = true := conjB_iff.2 fun a b a0 a1 b0 b1 => by
  have ha : Cv a := ⟨a0, a1⟩
  have hb : Cv b := ⟨b0, b1⟩
  rw [ap_meet, ap_meet, ap_meet, cj_all h1 ha hb, cj_all h2 ha hb, and_four (hx.cv ha) (hx.cv hb) (hy.cv ha) (hy.cv hb)]
theorem disj_join {x y : Nat → Int} (hx : Tr x) (hy : Tr y) (h1 : disjB x = true) (h2 : disjB y = true) : disjB (joinT x y) = true := disjB_iff.2 fun a b a0 a1 b0 b1 => by
  have ha : Cv a := ⟨a0, a1⟩
  have hb : Cv b := ⟨b0, b1⟩
  rw [ap_join, ap_join, ap_join, dj_all h1 ha hb, dj_all h2 ha hb, or_four (hx.cv ha) (hx.cv hb) (hy.cv ha) (hy.cv hb)]
theorem disjB_congr {x y : Nat → Int} (h : ∀ i, i < 16 → x i = y i) : disjB x = disjB y := by
  have e : ∀ a : Int, Cv a → ap x a = ap y a := fun a ha => h a.toNat (by have := ha.1; have := ha.2; omega)
  rw [Bool.eq_iff_iff, disjB_iff, disjB_iff]
  constructor
  · intro h1 a b a0 a1 b0 b1
    rw [← e _ (Cv.or ⟨a0, a1⟩ ⟨b0, b1⟩), ← e _ ⟨a0, a1⟩, ← e _ ⟨b0, b1⟩]; exact h1 a b a0 a1 b0 b1
  · intro h1 a b a0 a1 b0 b1
    rw [e _ (Cv.or ⟨a0, a1⟩ ⟨b0, b1⟩), e _ ⟨a0, a1⟩, e _ ⟨b0, b1⟩]; exact h1 a b a0 a1 b0 b1
end Go.DC
