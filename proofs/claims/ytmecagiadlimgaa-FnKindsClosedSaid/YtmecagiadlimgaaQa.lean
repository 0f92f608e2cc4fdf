/-
  Plain laws: what is found from a specification. No program in sight.
-/
import Derived.Test.YtmecagiadlimgaaPz
namespace Go.DC
open Go.RowKit
set_option linter.unusedVariables false
set_option linter.unusedSimpArgs false
theorem specD_nat (p : Int) (x : Nat → Int) (q : Nat) : specD p x q = band p (boxR x q) := rfl
theorem sp_lead {p : Int} (hp : Cv p) {x : Nat → Int} (hx : Dg 4 x) {s : Nat} (hs : s < 4) (h : hasb p s = true) : leadsT (specD p x) s = x s := by
  have hxs := hx s hs
  refine ext_iff (leadsT_Dg _ s hs) hxs fun i hi => ?_
  rw [leads_has hi]
  constructor
  · intro h1
    have hn : ((x s).toNat : Int) = x s := cv_nat hxs
    have h2 := h1 (x s).toNat (by have := hxs.2; omega)
    rw [specD_nat, hn] at h2
    exact h2 (by rw [Cv.has_and hp (box_cv _ _) hs, h, Bool.true_and, box_iff hx hxs hs]; exact fun _ _ h3 => h3)
  · intro h1 q hq h2
    rw [specD_nat, Cv.has_and hp (box_cv _ _) hs, h, Bool.true_and, box_iff hx (Cv.nat hq) hs] at h2
    exact h2 i hi h1
theorem sp_inside {p : Int} (hp : Cv p) {x : Nat → Int} (hx : Dg 4 x) : txt 4 (thenR (dg (txt 4 (testR p))) (dg (txt 4 (leadsT (dg (txt 16 (specD p x))))))) = txt 4 (thenR (dg (txt 4 (testR p))) x) := txt_congr fun s hs => by
  have hS := specD_Dg hp.1 hp.2 x 16
  have hL := leadsT_Dg (dg (txt 16 (specD p x)))
  have e : ∀ s, leadsT (dg (txt 16 (specD p x))) s = leadsT (specD p x) s := fun s => leadTo_congr s 16 fun i hi => dgt16 hS i hi
  rw [thenR_congr (dgt4 (testR_Dg p)) (dgt4 hL) s hs, thenR_congr (dgt4 (testR_Dg p)) (fun _ _ => rfl) s hs]
  refine ext_iff (thenR_Dg _ hL s hs) (thenR_Dg _ hx s hs) fun i hi => ?_
  rw [then_iff hL hi, then_iff hx hi]
  constructor
  · rintro ⟨k, hk, h1, h2⟩
    obtain ⟨rfl, h3⟩ := (test_iff hk).1 h1
    rw [e, sp_lead hp hx hs h3] at h2
    exact ⟨_, hk, h1, h2⟩
  · rintro ⟨k, hk, h1, h2⟩
    obtain ⟨rfl, h3⟩ := (test_iff hk).1 h1
    exact ⟨_, hk, h1, by rw [e, sp_lead hp hx hs h3]; exact h2⟩
theorem sp_15 {p : Int} (hp : Cv p) {x : Nat → Int} (hx : Dg 4 x) : dg (txt 16 (specD p x)) 15 = p := by
  rw [dgt16 (specD_Dg hp.1 hp.2 x 16) 15 (by decide)]
  show band p (boxR x 15) = p
  refine ext_iff (hp.and (box_cv _ _)) hp fun i hi => ?_
  rw [Cv.has_and hp (box_cv _ _) hi, Bool.and_eq_true, box_iff hx Cv.c15 hi]
  exact ⟨fun h => h.1, fun h => ⟨h, fun k hk _ => has15 hk⟩⟩
end Go.DC
