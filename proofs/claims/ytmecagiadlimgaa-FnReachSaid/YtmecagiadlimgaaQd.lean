/-
  Plain laws: all transformers are made of those that reach conditions. No program in sight.
-/
import Derived.Test.YtmecagiadlimgaaQb
namespace Go.DC
open Go.RowKit
set_option linter.unusedVariables false
set_option linter.unusedSimpArgs false
/-- From p on q is reached. -/
def reachT (p q : Int) : Nat → Int := specD p fun _ => q
theorem box_const {q a : Int} (hq : Cv q) (ha : Cv a) {i : Nat} (hi : i < 4) : hasb (boxR (fun _ => q) a) i = true ↔ Sub q a := by
  rw [box_iff (fun _ _ => hq) ha hi, ← sub_bits hq ha]
theorem reach_Tr {p q : Int} (hp : Cv p) (hq : Cv q) : Tr (reachT p q) := Tr.specD hp fun _ _ => hq
theorem reach_iff {p q a : Int} (hp : Cv p) (hq : Cv q) (ha : Cv a) {i : Nat} (hi : i < 4) : hasb (ap (reachT p q) a) i = true ↔ hasb p i = true ∧ Sub q a := by
  unfold reachT
  rw [ap_specD ha, Cv.has_and hp (box_cv _ _) hi, Bool.and_eq_true, box_const hq ha hi]
/-- The angelic choice of the first n. -/
def joinN (x : Nat → Int) : Nat → Nat → Int
  | 0 => fun _ => 0
  | n + 1 => joinT (joinN x n) (reachT (x n) n)
theorem zero_Tr : Tr (fun _ => 0) := Tr.mk' (fun _ _ => Cv.c0) fun _ _ _ _ _ => Sub.refl Cv.c0
theorem joinN_Tr {x : Nat → Int} (h : Tr x) : ∀ n, n ≤ 16 → Tr (joinN x n)
  | 0, _ => zero_Tr
  | n + 1, hn => Tr.join (joinN_Tr h n (by omega)) (reach_Tr (h.dg n (by omega)) (Cv.nat (by omega)))
theorem joinN_iff {x : Nat → Int} (h : Tr x) {a : Int} (ha : Cv a) {i : Nat} (hi : i < 4) : ∀ n, n ≤ 16 → (hasb (ap (joinN x n) a) i = true ↔ ∃ q : Nat, q < n ∧ hasb (x q) i = true ∧ Sub (q : Int) a)
  | 0, _ => by
    rw [show ap (joinN x 0) a = 0 from rfl, has0 hi]
    exact ⟨(fun h => by cases h), fun ⟨q, hq, _⟩ => absurd hq (Nat.not_lt_zero _)⟩
  | n + 1, hn => by
    have hr := reach_Tr (h.dg n (by omega)) (Cv.nat (show n < 16 by omega))
    rw [show joinN x (n + 1) = joinT (joinN x n) (reachT (x n) n) from rfl, ap_join, Cv.has_or ((joinN_Tr h n (by omega)).cv ha) (hr.cv ha) hi, Bool.or_eq_true, joinN_iff h ha hi n (by omega), reach_iff (h.dg n (by omega)) (Cv.nat (by omega)) ha hi]
    constructor
    · rintro (⟨q, hq, h2⟩ | h2)
      · exact ⟨q, by omega, h2⟩
      · exact ⟨n, by omega, h2⟩
    · rintro ⟨q, hq, h2⟩
      rcases Nat.lt_or_ge q n with h3 | h3
      · exact .inl ⟨q, h3, h2⟩
      · obtain rfl : q = n := by omega
        exact .inr h2
theorem joinN_all {x : Nat → Int} (h : Tr x) {a : Int} (ha : Cv a) : ap (joinN x 16) a = ap x a := by
  refine ext_iff ((joinN_Tr h 16 (Nat.le_refl _)).cv ha) (h.cv ha) fun i hi => ?_
  rw [joinN_iff h ha hi 16 (Nat.le_refl _)]
  constructor
  · rintro ⟨q, hq, h1, h2⟩
    have hs := h.sub (Cv.nat hq) ha h2
    rw [ap_nat] at hs
    exact (sub_bits (h.dg q hq) (h.cv ha)).1 hs i hi h1
  · intro h1
    refine ⟨a.toNat, by have := ha.1; have := ha.2; omega, h1, ?_⟩
    rw [cv_nat ha]; exact Sub.refl ha
theorem joinN_txt {t : ByteArray} (ht : tvB t = true) : txt 16 (joinN (dg t) 16) = t := by
  conv => rhs; rw [← txt_dg (tvB_dv ht)]
  refine txt_congr fun q hq => ?_
  have := joinN_all (tvB_Tr ht) (Cv.nat hq)
  rwa [ap_nat, ap_nat] at this
theorem reach_ref {t : ByteArray} (ht : tvB t = true) {a b : Int} (ha : Cv a) (hb : Cv b) : refB (dg (txt 16 (reachT a b))) (dg t) = (bandn a (ap (dg t) b) == 0) := by
  have hT := tvB_Tr ht
  have hR := reach_Tr ha hb
  have hTb := hT.cv hb
  rw [Bool.eq_iff_iff, refB_iff, sub_iff ha hTb]
  constructor
  · intro h i hi h1
    have h2 := h b.toNat (by have := hb.1; have := hb.2; omega)
    rw [dgt16 hR.dg _ (by have := hb.1; have := hb.2; omega)] at h2
    exact (sub_bits (hR.cv hb) hTb).1 h2 i hi ((reach_iff ha hb hb hi).2 ⟨h1, Sub.refl hb⟩)
  · intro h k hk
    rw [dgt16 hR.dg k hk]
    have hkc := Cv.nat hk
    have key : Sub (ap (reachT a b) k) (ap (dg t) k) := (sub_bits (hR.cv hkc) (hT.cv hkc)).2 fun i hi h1 => by
      obtain ⟨h2, h3⟩ := (reach_iff ha hb hkc hi).1 h1
      exact (sub_bits hTb (hT.cv hkc)).1 (hT.sub hb hkc h3) i hi (h i hi h2)
    rw [ap_nat, ap_nat] at key
    exact key
theorem reach_self {t : ByteArray} (ht : tvB t = true) {q : Nat} (hq : q < 16) : refB (dg (txt 16 (reachT (dg t q) q))) (dg t) = true := by
  have hT := tvB_Tr ht
  rw [reach_ref ht (hT.dg q hq) (Cv.nat hq), ap_nat]
  exact beq_iff_eq.2 (Sub.refl (hT.dg q hq))
theorem joinN_step {x : Nat → Int} (h : Tr x) {n : Nat} (hn : n < 16) : txt 16 (joinT (dg (txt 16 (joinN x n))) (dg (txt 16 (reachT (x n) n)))) = txt 16 (joinN x (n + 1)) :=
  join_txt (joinN_Tr h n (by omega)).dg (reach_Tr (h.dg n hn) (Cv.nat hn)).dg
end Go.DC
