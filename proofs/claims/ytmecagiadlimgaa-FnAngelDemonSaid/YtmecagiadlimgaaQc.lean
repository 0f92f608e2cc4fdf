/-
  Plain laws: angel and demon over a relation. No program in sight.
-/
import Derived.Test.YtmecagiadlimgaaQb
namespace Go.DC
open Go.RowKit
set_option linter.unusedVariables false
set_option linter.unusedSimpArgs false
theorem turn_turn {x : Nat → Int} (hx : Dg 4 x) {s : Nat} (hs : s < 4) : turn (turn x) s = x s := by
  refine ext_iff (turn_Dg _ s hs) (hx s hs) fun i hi => ?_
  rw [turn_iff hi, turn_iff hs]
theorem ad_adj {x : Nat → Int} (hx : Dg 4 x) {a b : Int} (ha : Cv a) (hb : Cv b) : bandn (dia x a) b = 0 ↔ bandn a (boxR (turn x) b) = 0 := by
  have h := im_adj (turn_Dg x) ha hb
  rw [dia_congr (fun s hs => turn_turn hx hs), Bool.eq_iff_iff, beq_iff_eq, beq_iff_eq] at h
  exact h
theorem ad_ref {x t u : Nat → Int} (hx : Dg 4 x) (ht : Tr t) (hu : Tr u) : refB (thenT (angelT x) t) u = refB t (thenT (demonT (turn x)) u) := by
  rw [Bool.eq_iff_iff, refB_iff, refB_iff]
  have e : ∀ k, k < 16 → (bandn (thenT (angelT x) t k) (u k) = 0 ↔ bandn (t k) (thenT (demonT (turn x)) u k) = 0) := fun k hk => by
    have h1 : thenT (angelT x) t k = dia x (t k) := by
      show dia x ((t k).toNat : Int) = _
      rw [cv_nat (ht.dg k hk)]
    have h2 : thenT (demonT (turn x)) u k = boxR (turn x) (u k) := by
      show boxR (turn x) ((u k).toNat : Int) = _
      rw [cv_nat (hu.dg k hk)]
    rw [h1, h2]
    exact ad_adj hx (ht.dg k hk) (hu.dg k hk)
  exact ⟨fun h k hk => (e k hk).1 (h k hk), fun h k hk => (e k hk).2 (h k hk)⟩
theorem ad_then {x y : Nat → Int} (hx : Dg 4 x) (hy : Dg 4 y) : txt 16 (thenT (dg (txt 16 (angelT x))) (dg (txt 16 (angelT y)))) = txt 16 (angelT (dg (txt 4 (thenR x y)))) := by
  rw [then_txt (angelT_Dg x 16) (angelT_Dg y 16)]
  refine txt_congr fun q hq => ?_
  show dia x ((dia y (q : Int)).toNat : Int) = dia (dg (txt 4 (thenR x y))) (q : Int)
  rw [cv_nat (dia_cv _ _), ic_dia hx hy (Cv.nat hq)]
theorem ad_thenD {x y : Nat → Int} (hx : Dg 4 x) (hy : Dg 4 y) : txt 16 (thenT (dg (txt 16 (demonT x))) (dg (txt 16 (demonT y)))) = txt 16 (demonT (dg (txt 4 (thenR x y)))) := by
  rw [then_txt (demonT_Dg x 16) (demonT_Dg y 16)]
  refine txt_congr fun q hq => ?_
  show boxR x ((boxR y (q : Int)).toNat : Int) = boxR (dg (txt 4 (thenR x y))) (q : Int)
  rw [cv_nat (box_cv _ _), ic_box hx hy (Cv.nat hq)]
theorem ad_dual {x : Nat → Int} (hx : Dg 4 x) : txt 16 (dual (dg (txt 16 (angelT x)))) = txt 16 (demonT x) := by
  rw [dual_txt (angelT_Dg x 16)]
  exact txt_congr fun q hq => (demon_eq hx hq).symm
theorem ad_same {x : Nat → Int} (hx : Dg 4 x) : txt 16 (angelT x) = txt 16 (demonT x) ↔ funB x 4 = true := by
  have one : ∀ m : Fin 16, cntS (m.val : Int) 4 = 1 ↔ ∀ q : Fin 16, (band (m.val : Int) (q.val : Int) != 0) = (bandn (m.val : Int) (q.val : Int) == 0) := by decide +kernel
  have each : ∀ s, s < 4 → (cntS (x s) 4 = 1 ↔ ∀ q : Nat, q < 16 → (band (x s) q != 0) = (bandn (x s) q == 0)) := fun s hs => by
    have hv := hx s hs
    obtain ⟨v, hv1⟩ := Int.eq_ofNat_of_zero_le hv.1
    rw [hv1, one ⟨v, by omega⟩]
    exact ⟨fun h q hq => h ⟨q, hq⟩, fun h q => h q.val q.isLt⟩
  have hA : ∀ q s : Nat, s < 4 → hasb (dia x q) s = (band (x s) q != 0) := fun q s hs => by
    unfold dia; rw [hasb_mk _ _ _ (by decide)]; simp [hs]
  have hB : ∀ q s : Nat, s < 4 → hasb (boxR x q) s = (bandn (x s) q == 0) := fun q s hs => hasb_box q hs
  rw [fun4]
  simp only [Bool.and_eq_true, beq_iff_eq]
  constructor
  · intro h
    have all : ∀ s, s < 4 → cntS (x s) 4 = 1 := fun s hs => (each s hs).2 fun q hq => by
      have e : dg (txt 16 (angelT x)) q = dg (txt 16 (demonT x)) q := by rw [h]
      rw [dgt16 (angelT_Dg x 16) q hq, dgt16 (demonT_Dg x 16) q hq] at e
      have e2 : dia x (q : Int) = boxR x (q : Int) := e
      rw [← hA q s hs, ← hB q s hs, e2]
    exact ⟨⟨⟨all 0 (by omega), all 1 (by omega)⟩, all 2 (by omega)⟩, all 3 (by omega)⟩
  · rintro ⟨⟨⟨h1, h2⟩, h3⟩, h4⟩
    have all : ∀ s, s < 4 → cntS (x s) 4 = 1 := fun s hs => by
      rcases (show s = 0 ∨ s = 1 ∨ s = 2 ∨ s = 3 by omega) with rfl | rfl | rfl | rfl <;> assumption
    refine txt_congr fun q hq => ?_
    show dia x (q : Int) = boxR x (q : Int)
    exact cv_ext (dia_cv _ _) (box_cv _ _) fun i hi => by rw [hA q i hi, hB q i hi]; exact (each i hi).1 (all i hi) q hq
end Go.DC
