/-
  Plain laws: the least conjunctive transformer above, the greatest disjunctive one below. No program in sight.
-/
import Derived.Test.YtmecagiadlimgaaQb
namespace Go.DC
open Go.RowKit
set_option linter.unusedVariables false
set_option linter.unusedSimpArgs false
theorem above_mono {x o : Nat → Int} (hx : Tr x) (ho : Tr o) (h : ∀ k, k < 16 → Sub (x k) (o k)) {a : Int} (ha : Cv a) : Sub (ap (aboveT x) a) (ap (aboveT o) a) := by
  have hx15 : Cv (x 15) := hx.dg 15 (by decide)
  have ho15 : Cv (o 15) := ho.dg 15 (by decide)
  rw [ap_above ha, ap_above ha]
  refine and_sub hx15 ho15 (box_cv _ _) (box_cv _ _) (h 15 (by decide)) ((sub_bits (box_cv _ _) (box_cv _ _)).2 fun i hi h1 => ?_)
  rw [box_iff (leadsT_Dg x) ha hi] at h1
  rw [box_iff (leadsT_Dg o) ha hi]
  intro k hk h2
  refine h1 k hk ((leads_has hk).2 fun q hq h3 => (leads_has hk).1 h2 q hq ?_)
  exact (sub_bits (hx.dg q hq) (ho.dg q hq)).1 (h q hq) i hi h3
theorem disj_dual {x : Nat → Int} (h : Tr x) : disjB (dual x) = conjB x := by
  rw [← conj_dual h.dual.dg]
  exact conjB_congr fun i hi => by
    have := dual_dual h (Cv.nat hi)
    rwa [ap_nat, ap_nat] at this
theorem aboveT_congr16 {x y : Nat → Int} (h : ∀ i, i < 16 → x i = y i) : txt 16 (aboveT x) = txt 16 (aboveT y) := txt_congr fun q hq => by
  unfold aboveT specD
  rw [h 15 (by decide), boxR_congr (x := leadsT x) (y := leadsT y) fun s hs => leadTo_congr s 16 h]
theorem da_up {t : ByteArray} (ht : tvB t = true) : refB (dg t) (dg (txt 16 (aboveT (dg t)))) = true := refB_iff.2 fun k hk => by
  have hT := tvB_Tr ht
  rw [dgt16 hT.above.dg k hk]
  have := above_up hT (Cv.nat hk)
  rw [ap_nat, ap_nat] at this
  exact this
theorem da_low {t : ByteArray} (ht : tvB t = true) : refB (dg (txt 16 (dual (aboveT (dual (dg t)))))) (dg t) = true := refB_iff.2 fun k hk => by
  have hT := tvB_Tr ht
  have hD := hT.dual
  have hkc := Cv.nat hk
  have hn := Cv.c15.andn hkc
  rw [dgt16 hD.above.dual.dg k hk]
  have h1 := above_up hD hn
  have e1 : ap (dual (aboveT (dual (dg t)))) k = bandn 15 (ap (aboveT (dual (dg t))) (bandn 15 k)) := ap_dual hkc.1
  have e2 := dual_dual hT hkc
  rw [ap_dual hkc.1] at e2
  rw [ap_nat] at e1 e2
  rw [e1, ← e2]
  have hA := hD.above.cv hn
  have hB := hD.cv hn
  refine (sub_bits (Cv.c15.andn hA) (Cv.c15.andn hB)).2 fun i hi h2 => ?_
  rw [Cv.has_andn Cv.c15 hA hi, has15 hi, Bool.true_and] at h2
  rw [Cv.has_andn Cv.c15 hB hi, has15 hi, Bool.true_and]
  cases h3 : hasb (ap (dual (dg t)) (bandn 15 k)) i
  · rfl
  · rw [(sub_bits hB hA).1 h1 i hi h3] at h2; exact h2
theorem da_ref {t o : ByteArray} (ht : tvB t = true) (ho : tvB o = true) (hc : conjB (dg o) = true) : refB (dg (txt 16 (aboveT (dg t)))) (dg o) = refB (dg t) (dg o) := by
  have hT := tvB_Tr ht
  have hO := tvB_Tr ho
  rw [Bool.eq_iff_iff, refB_iff, refB_iff]
  constructor
  · intro h k hk
    have h1 := h k hk
    rw [dgt16 hT.above.dg k hk] at h1
    have h2 := above_up hT (Cv.nat hk)
    rw [ap_nat, ap_nat] at h2
    exact Sub.trans (hT.dg k hk) (hT.above.dg k hk) (hO.dg k hk) h2 h1
  · intro h k hk
    rw [dgt16 hT.above.dg k hk]
    have h1 := above_mono hT hO h (Cv.nat hk)
    rw [cj_above hO hc (Cv.nat hk), ap_nat, ap_nat] at h1
    exact h1
theorem da_dual {t : ByteArray} (ht : tvB t = true) : txt 16 (aboveT (dg (txt 16 (dual (dg t))))) = txt 16 (aboveT (dual (dg t))) := aboveT_congr16 (dgt16 (tvB_Tr ht).dual.dg)
theorem da_conj {t : ByteArray} (ht : tvB t = true) : conjB (dg (txt 16 (aboveT (dg t)))) = true := by
  have hT := tvB_Tr ht
  rw [conjB_congr (dgt16 hT.above.dg)]
  exact specD_conj (hT.dg 15 (by decide)) (leadsT_Dg _)
theorem da_disj {t : ByteArray} (ht : tvB t = true) : disjB (dg (txt 16 (dual (aboveT (dual (dg t)))))) = true := by
  have hT := tvB_Tr ht
  have hA := hT.dual.above
  rw [disjB_congr (dgt16 hA.dual.dg), disj_dual hA]
  exact specD_conj (hT.dual.dg 15 (by decide)) (leadsT_Dg _)
theorem da_same {t : ByteArray} (ht : tvB t = true) : txt 16 (aboveT (dg t)) = t ↔ conjB (dg t) = true :=
  ⟨fun h => by have := da_conj ht; rwa [h] at this, fun h => cj_above_txt ht h⟩
theorem da_sameV {t : ByteArray} (ht : tvB t = true) : txt 16 (dual (aboveT (dual (dg t)))) = t ↔ disjB (dg t) = true :=
  ⟨fun h => by have := da_disj ht; rwa [h] at this, fun h => dj_below ht h⟩
end Go.DC
