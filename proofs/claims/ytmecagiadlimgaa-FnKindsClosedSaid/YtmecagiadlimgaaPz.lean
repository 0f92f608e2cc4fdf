/-
  Plain laws: relations of angelic transformers. No program in sight.
-/
import Derived.Test.YtmecagiadlimgaaPy
import Derived.Test.YtmecagiadlimgaaPx
namespace Go.DC
open Go.RowKit
set_option linter.unusedVariables false
set_option linter.unusedSimpArgs false
/-- The relation that is found from a disjunctive transformer. -/
def relT (x : Nat → Int) : Nat → Int := fun s => mk 4 fun t => hasb (x (2 ^ t)) s
theorem relT_Dg (x : Nat → Int) : Dg 4 (relT x) := fun _ _ => ⟨mk4_ge _, mk4_le _⟩
theorem relT_has (x : Nat → Int) {s k : Nat} (hk : k < 4) : hasb (relT x s) k = hasb (x (2 ^ k)) s := by
  unfold relT; rw [hasb_mk _ _ _ (by decide)]; simp [hk]
theorem pow_cv {k : Nat} (hk : k < 4) : Cv ((2 : Int) ^ k) := by
  have : ∀ k : Fin 4, (0 : Int) ≤ 2 ^ k.val ∧ (2 : Int) ^ k.val ≤ 15 := by decide
  exact this ⟨k, hk⟩
theorem pow_nat {k : Nat} (hk : k < 4) : ((2 : Int) ^ k).toNat = 2 ^ k := by
  have : ∀ k : Fin 4, ((2 : Int) ^ k.val).toNat = 2 ^ k.val := by decide
  exact this ⟨k, hk⟩
theorem ap_pow (x : Nat → Int) {k : Nat} (hk : k < 4) : ap x (2 ^ k) = x (2 ^ k) := by unfold ap; rw [pow_nat hk]
theorem mk_cv (f : Nat → Bool) {n : Nat} (hn : n ≤ 4) : Cv (mk n f) := by
  have h1 := mk_nonneg f n (by omega)
  have h2 := mk_lt f n (by omega)
  have h3 : (2 : Int) ^ n ≤ 16 := by
    have : ∀ n : Fin 5, (2 : Int) ^ n.val ≤ 16 := by decide
    exact this ⟨n, by omega⟩
  exact ⟨h1, by omega⟩
theorem mk_self {q : Int} (hq : Cv q) : mk 4 (fun k => hasb q k) = q := cv_ext (mk_cv _ (Nat.le_refl _)) hq fun i hi => by rw [hasb_mk _ _ _ (by decide)]; simp [hi]
theorem dj_all {x : Nat → Int} (h : disjB x = true) {a b : Int} (ha : Cv a) (hb : Cv b) : ap x (bor a b) = bor (ap x a) (ap x b) := disjB_iff.1 h a b ha.1 ha.2 hb.1 hb.2
/-- A disjunctive and strict transformer is the angel's choice over the relation found. -/
theorem dj_angel {x : Nat → Int} (h : Tr x) (hd : disjB x = true) (h0 : x 0 = 0) {q : Int} (hq : Cv q) : ap x q = dia (relT x) q := by
  refine ext_iff (h.cv hq) (dia_cv _ _) fun i hi => ?_
  rw [dia_iff (relT_Dg x) hq hi]
  constructor
  · intro h1
    have key : ∀ n, n ≤ 4 → hasb (ap x (mk n fun k => hasb q k)) i = true → ∃ k, k < n ∧ hasb (x (2 ^ k)) i = true ∧ hasb q k = true := fun n => by
      induction n with
      | zero =>
        intro _ h2
        have : ap x (mk 0 fun k => hasb q k) = 0 := h0
        rw [this, has0 hi] at h2; cases h2
      | succ n ih =>
        intro hn h2
        cases hb : hasb q n
        · have e : mk (n + 1) (fun k => hasb q k) = mk n fun k => hasb q k := by simp [mk, hb]
          rw [e] at h2
          obtain ⟨k, hk, h3⟩ := ih (by omega) h2
          exact ⟨k, by omega, h3⟩
        · have e : mk (n + 1) (fun k => hasb q k) = bor (mk n fun k => hasb q k) (2 ^ n) := by simp [mk, hb, bor]
          have hm : Cv (mk n fun k => hasb q k) := mk_cv _ (by omega)
          have hp := pow_cv (k := n) (by omega)
          rw [e, dj_all hd hm hp, Cv.has_or (h.cv hm) (h.cv hp) hi, Bool.or_eq_true] at h2
          rcases h2 with h2 | h2
          · obtain ⟨k, hk, h3⟩ := ih (by omega) h2
            exact ⟨k, by omega, h3⟩
          · rw [ap_pow x (by omega)] at h2
            exact ⟨n, by omega, h2, hb⟩
    have h2 := key 4 (Nat.le_refl _) (by rw [mk_self hq]; exact h1)
    obtain ⟨k, hk, h3, h4⟩ := h2
    exact ⟨k, hk, by rw [relT_has x hk]; exact h3, h4⟩
  · rintro ⟨k, hk, h1, h2⟩
    rw [relT_has x hk] at h1
    have hp := pow_cv hk
    have hs : Sub (2 ^ k) q := (sub_bits hp hq).2 fun j hj h3 => by
      rw [has_pow hj hk, decide_eq_true_iff] at h3
      subst h3; exact h2
    refine (sub_bits (h.cv hp) (h.cv hq)).1 (h.sub hp hq hs) i hi ?_
    rw [ap_pow x hk]; exact h1
theorem angelT_congr {x y : Nat → Int} (h : ∀ s, s < 4 → x s = y s) (q : Nat) : angelT x q = angelT y q := dia_congr h _
theorem dj_txt {t : ByteArray} (ht : tvB t = true) (hd : disjB (dg t) = true) (h0 : dg t 0 = 0) : txt 16 (angelT (dg (txt 4 (relT (dg t))))) = t := by
  conv => rhs; rw [← txt_dg (tvB_dv ht)]
  refine txt_congr fun q hq => ?_
  rw [angelT_congr (dgt4 (relT_Dg _)), show angelT (relT (dg t)) q = dia (relT (dg t)) (q : Int) from rfl, ← dj_angel (tvB_Tr ht) hd h0 (Cv.nat hq), ap_nat]
theorem dual_dual {x : Nat → Int} (h : Tr x) {a : Int} (ha : Cv a) : ap (dual (dual x)) a = ap x a := by
  have hn := Cv.c15.andn ha
  rw [ap_dual ha.1, ap_dual hn.1, compl_compl ha.1 ha.2, compl_compl (h.cv ha).1 (h.cv ha).2]
/-- A disjunctive transformer is its own bound from below. -/
theorem dj_below {t : ByteArray} (ht : tvB t = true) (hd : disjB (dg t) = true) : txt 16 (dual (aboveT (dual (dg t)))) = t := by
  conv => rhs; rw [← txt_dg (tvB_dv ht)]
  refine txt_congr fun q hq => ?_
  have hT := tvB_Tr ht
  have hc : conjB (dual (dg t)) = true := by rw [conj_dual hT.dg]; exact hd
  have hq' := Cv.nat hq
  have hn := Cv.c15.andn hq'
  have e := dual_dual hT hq'
  rw [ap_dual hq'.1, ap_nat] at e
  have e2 : ap (dual (aboveT (dual (dg t)))) q = dual (aboveT (dual (dg t))) q := ap_nat _ q
  rw [← e2, ap_dual hq'.1, cj_above hT.dual hc hn]
  exact e
/-- An angel's choice is a function's exactly if it is conjunctive and ends. -/
theorem fun_conj {x r : Nat → Int} (hr : Dg 4 r) (h : ∀ q : Int, Cv q → ap x q = dia r q) : (conjB x && (ap x 15 == 15)) = funB r 4 := by
  have one : ∀ m : Fin 16, cntS (m.val : Int) 4 = 1 ↔ ((m.val : Int) ≠ 0 ∧ ∀ a b : Fin 16, (band (m.val : Int) (a.val : Int) != 0) = true → (band (m.val : Int) (b.val : Int) != 0) = true → (band (m.val : Int) (band (a.val : Int) (b.val : Int)) != 0) = true) := by decide +kernel
  have hb : ∀ q : Int, ∀ s, s < 4 → hasb (dia r q) s = (band (r s) q != 0) := fun q s hs => by
    unfold dia; rw [hasb_mk _ _ _ (by decide)]; simp [hs]
  rw [Bool.eq_iff_iff, Bool.and_eq_true, beq_iff_eq, h 15 Cv.c15, dom_all hr, fun4]
  simp only [Bool.and_eq_true, beq_iff_eq]
  have each : ∀ s, s < 4 → (cntS (r s) 4 = 1 ↔ (r s ≠ 0 ∧ ∀ a b : Int, Cv a → Cv b → hasb (dia r a) s = true → hasb (dia r b) s = true → hasb (dia r (band a b)) s = true)) := fun s hs => by
    have hv := hr s hs
    obtain ⟨v, hv1⟩ := Int.eq_ofNat_of_zero_le hv.1
    have h16 : v < 16 := by omega
    rw [hv1, one ⟨v, h16⟩]
    constructor
    · rintro ⟨h1, h2⟩
      refine ⟨h1, fun a b ha hb' ha2 hb2 => ?_⟩
      obtain ⟨a, rfl⟩ := Int.eq_ofNat_of_zero_le ha.1
      obtain ⟨b, rfl⟩ := Int.eq_ofNat_of_zero_le hb'.1
      rw [hb _ s hs, hv1] at ha2 hb2 ⊢
      exact h2 ⟨a, by have := ha.2; omega⟩ ⟨b, by have := hb'.2; omega⟩ ha2 hb2
    · rintro ⟨h1, h2⟩
      refine ⟨h1, fun a b ha2 hb2 => ?_⟩
      have := h2 a.val b.val (Cv.nat a.isLt) (Cv.nat b.isLt) (by rw [hb _ s hs, hv1]; exact ha2) (by rw [hb _ s hs, hv1]; exact hb2)
      rw [hb _ s hs, hv1] at this
      exact this
  constructor
  · rintro ⟨hc, hne⟩
    have all : ∀ s, s < 4 → cntS (r s) 4 = 1 := fun s hs => (each s hs).2 ⟨hne s hs, fun a b ha hb' h1 h2 => by
      have e := cj_all hc ha hb'
      rw [h _ (ha.and hb'), h _ ha, h _ hb'] at e
      rw [e, Cv.has_and (dia_cv _ _) (dia_cv _ _) hs, h1, h2]; rfl⟩
    exact ⟨⟨⟨all 0 (by omega), all 1 (by omega)⟩, all 2 (by omega)⟩, all 3 (by omega)⟩
  · rintro ⟨⟨⟨h1, h2⟩, h3⟩, h4⟩
    have all : ∀ s, s < 4 → cntS (r s) 4 = 1 := fun s hs => by
      rcases (show s = 0 ∨ s = 1 ∨ s = 2 ∨ s = 3 by omega) with rfl | rfl | rfl | rfl <;> assumption
    refine ⟨conjB_iff.2 fun a b a0 a1 b0 b1 => ?_, fun s hs => ((each s hs).1 (all s hs)).1⟩
    have ha : Cv a := ⟨a0, a1⟩
    have hb' : Cv b := ⟨b0, b1⟩
    rw [h _ (ha.and hb'), h _ ha, h _ hb']
    refine ext_iff (dia_cv _ _) ((dia_cv _ _).and (dia_cv _ _)) fun i hi => ?_
    rw [Cv.has_and (dia_cv _ _) (dia_cv _ _) hi, Bool.and_eq_true]
    constructor
    · intro h5
      obtain ⟨k, hk, h6, h7⟩ := (dia_iff hr (ha.and hb') hi).1 h5
      rw [Cv.has_and ha hb' hk, Bool.and_eq_true] at h7
      exact ⟨(dia_iff hr ha hi).2 ⟨k, hk, h6, h7.1⟩, (dia_iff hr hb' hi).2 ⟨k, hk, h6, h7.2⟩⟩
    · rintro ⟨h5, h6⟩
      exact ((each i hi).1 (all i hi)).2 a b ha hb' h5 h6
theorem funB_congr {x y : Nat → Int} (h : ∀ s, s < 4 → x s = y s) : funB x 4 = funB y 4 := by
  rw [fun4, fun4, h 0 (by decide), h 1 (by decide), h 2 (by decide), h 3 (by decide)]
end Go.DC
