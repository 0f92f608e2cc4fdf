/-
  Plain definitions and laws on transformers. No program in sight.
-/
import Derived.Test.YtmajmkggbgilbaaPR
namespace Go.DC
open Go.RowKit
set_option linter.unusedVariables false
set_option linter.unusedSimpArgs false

/-- What the table f tells for the condition y. -/
def ap (f : Nat → Int) (y : Int) : Int := f y.toNat
/-- A function on conditions that keeps implication. -/
structure Mono (T : Int → Int) : Prop where
  rng : ∀ y, 0 ≤ y → y ≤ 15 → 0 ≤ T y ∧ T y ≤ 15
  imp : ∀ a b, 0 ≤ a → a ≤ 15 → 0 ≤ b → b ≤ 15 → bandn a b = 0 → bandn (T a) (T b) = 0
theorem tvB_dv {t : ByteArray} (h : tvB t = true) : dvB 16 t = true := (Bool.and_eq_true_iff.1 h).1
theorem tvB_Dg {t : ByteArray} (h : tvB t = true) : Dg 16 (dg t) := dvB_Dg (tvB_dv h)
theorem tvB_size {t : ByteArray} (h : tvB t = true) : t.size = 16 := (dvB_iff.1 (tvB_dv h)).1
theorem mono_of {f : Nat → Int} (hd : Dg 16 f) (h : all2B (badM f) = true) : Mono (ap f) :=
  ⟨fun y h0 h1 => hd y.toNat (by omega), fun a b ha0 ha1 hb0 hb1 hab => by
    have := all2_iff.1 h a.toNat b.toNat (by omega) (by omega)
    unfold badM at this
    rw [Int.toNat_of_nonneg ha0, Int.toNat_of_nonneg hb0] at this
    have e : (bits .andNot .i64 a b == 0) = true := by simpa [bandn] using hab
    rw [e] at this
    simpa [ap, bandn] using this⟩
theorem tvB_mono {t : ByteArray} (h : tvB t = true) : Mono (ap (dg t)) := mono_of (tvB_Dg h) (Bool.and_eq_true_iff.1 h).2
theorem sub_le {a b : Int} (h0 : 0 ≤ a) (h1 : a ≤ 15) (h2 : 0 ≤ b) (h3 : b ≤ 15) (h : bandn a b = 0) : a ≤ b := by
  have : ∀ m n : Fin 16, bandn (m.val : Int) (n.val : Int) = 0 → (m.val : Int) ≤ (n.val : Int) := by decide +kernel
  exact cond_all2 (P := fun a b => bandn a b = 0 → a ≤ b) this h0 h1 h2 h3 h
theorem sub_15 {a : Int} (h0 : 0 ≤ a) (h1 : a ≤ 15) : bandn a 15 = 0 := by
  have : ∀ m : Fin 16, bandn (m.val : Int) 15 = 0 := by decide +kernel
  exact cond_all (P := fun a => bandn a 15 = 0) this h0 h1
theorem sub_0 {a : Int} (h0 : 0 ≤ a) (h1 : a ≤ 15) : bandn 0 a = 0 := by
  have : ∀ m : Fin 16, bandn 0 (m.val : Int) = 0 := by decide +kernel
  exact cond_all (P := fun a => bandn 0 a = 0) this h0 h1

/-! ### the greatest and the least fixed point -/
/-- T again and again from y on, till it is the same. -/
def iter : Nat → (Int → Int) → Int → Int
  | 0, _, y => y
  | k + 1, T, y => if T y = y then y else iter k T (T y)
theorem iter_down {T : Int → Int} (hT : Mono T) : ∀ (n m : Nat) (y : Int), 0 ≤ y → y ≤ 15 → bandn (T y) y = 0 → y.toNat < n → y.toNat < m → iter n T y = iter m T y
  | 0, _, _, _, _, _, h, _ => absurd h (Nat.not_lt_zero _)
  | _, 0, _, _, _, _, _, h => absurd h (Nat.not_lt_zero _)
  | n + 1, m + 1, y, h0, h1, hs, hn, hm => by
    unfold iter
    by_cases e : T y = y
    · rw [if_pos e, if_pos e]
    · rw [if_neg e, if_neg e]
      have hr := hT.rng y h0 h1
      have hl := sub_le hr.1 hr.2 h0 h1 hs
      exact iter_down hT n m (T y) hr.1 hr.2 (hT.imp _ _ hr.1 hr.2 h0 h1 hs) (by omega) (by omega)
def gp (T : Int → Int) : Int := iter 16 T 15
theorem iter_step {T : Int → Int} (hT : Mono T) {y : Int} (h0 : 0 ≤ y) (h1 : y ≤ 15) (hs : bandn (T y) y = 0) (e : T y ≠ y) : iter (y.toNat + 1) T y = iter ((T y).toNat + 1) T (T y) ∧ (T y).toNat < y.toNat := by
  have hr := hT.rng y h0 h1
  have hl := sub_le hr.1 hr.2 h0 h1 hs
  refine ⟨?_, by omega⟩
  have : iter (y.toNat + 1) T y = iter y.toNat T (T y) := by unfold iter; rw [if_neg e]; cases y.toNat <;> rfl
  rw [this]
  exact iter_down hT _ _ (T y) hr.1 hr.2 (hT.imp _ _ hr.1 hr.2 h0 h1 hs) (by omega) (by omega)
theorem iter_stop {T : Int → Int} {y : Int} {n : Nat} (e : T y = y) : iter (n + 1) T y = y := by unfold iter; rw [if_pos e]
theorem gp_rng {T : Int → Int} (hT : Mono T) : 0 ≤ gp T ∧ gp T ≤ 15 := by
  have : ∀ (n : Nat) (y : Int), 0 ≤ y → y ≤ 15 → 0 ≤ iter n T y ∧ iter n T y ≤ 15 := fun n => by
    induction n with
    | zero => exact fun y h0 h1 => ⟨h0, h1⟩
    | succ n ih =>
      intro y h0 h1
      unfold iter
      split
      · exact ⟨h0, h1⟩
      · exact ih _ (hT.rng y h0 h1).1 (hT.rng y h0 h1).2
  exact this 16 15 (by decide) (by decide)

def conjB (x : Nat → Int) : Bool := all2B fun p q => !(x (band (p : Int) (q : Int)).toNat == band (x p) (x q))
def disjB (x : Nat → Int) : Bool := all2B fun p q => !(x (bor (p : Int) (q : Int)).toNat == bor (x p) (x q))
/-! ### the dual -/
def dual (f : Nat → Int) : Nat → Int := fun p => bandn 15 (f (bandn 15 (p : Int)).toNat)
theorem dual_Dg {f : Nat → Int} (hd : Dg 16 f) : Dg 16 (dual f) := fun p hp => by
  have h1 := bandn_rng (a := 15) (b := p) (by decide) (by decide) (by omega) (by omega)
  have h2 := hd (bandn 15 (p : Int)).toNat (by omega)
  exact bandn_rng (by decide) (by decide) h2.1 h2.2
end Go.DC
namespace Go.DC
theorem same_015 {v : Int} (h0 : 0 ≤ v) (h1 : v ≤ 15) : band (bor v 0) 15 = v := by
  have : ∀ m : Fin 16, band (bor (m.val : Int) 0) 15 = (m.val : Int) := by decide +kernel
  exact cond_all (P := fun v => band (bor v 0) 15 = v) this h0 h1
theorem mono_congr {T T' : Int → Int} (h : Mono T) (e : ∀ y, 0 ≤ y → y ≤ 15 → T y = T' y) : Mono T' :=
  ⟨fun y h0 h1 => by rw [← e y h0 h1]; exact h.rng y h0 h1, fun a b a0 a1 b0 b1 hab => by rw [← e a a0 a1, ← e b b0 b1]; exact h.imp a b a0 a1 b0 b1 hab⟩
theorem iter_congr {T T' : Int → Int} (h : Mono T) (e : ∀ y, 0 ≤ y → y ≤ 15 → T' y = T y) : ∀ (n : Nat) (y : Int), 0 ≤ y → y ≤ 15 → iter n T' y = iter n T y
  | 0, _, _, _ => rfl
  | n + 1, y, h0, h1 => by
    unfold iter
    rw [e y h0 h1, iter_congr h e n (T y) (h.rng y h0 h1).1 (h.rng y h0 h1).2]
theorem gp_congr {T T' : Int → Int} (h : Mono T) (e : ∀ y, 0 ≤ y → y ≤ 15 → T' y = T y) : gp T' = gp T := iter_congr h e 16 15 (by decide) (by decide)
theorem compl_compl {a : Int} (h0 : 0 ≤ a) (h1 : a ≤ 15) : bandn 15 (bandn 15 a) = a := by
  have : ∀ m : Fin 16, bandn 15 (bandn 15 (m.val : Int)) = (m.val : Int) := by decide +kernel
  exact cond_all (P := fun a => bandn 15 (bandn 15 a) = a) this h0 h1
theorem compl_and {a b : Int} (h0 : 0 ≤ a) (h1 : a ≤ 15) (h2 : 0 ≤ b) (h3 : b ≤ 15) : bandn 15 (band a b) = bor (bandn 15 a) (bandn 15 b) := by
  have : ∀ m n : Fin 16, bandn 15 (band (m.val : Int) (n.val : Int)) = bor (bandn 15 (m.val : Int)) (bandn 15 (n.val : Int)) := by decide +kernel
  exact cond_all2 (P := fun a b => bandn 15 (band a b) = bor (bandn 15 a) (bandn 15 b)) this h0 h1 h2 h3
theorem compl_or {a b : Int} (h0 : 0 ≤ a) (h1 : a ≤ 15) (h2 : 0 ≤ b) (h3 : b ≤ 15) : bandn 15 (bor a b) = band (bandn 15 a) (bandn 15 b) := by
  have : ∀ m n : Fin 16, bandn 15 (bor (m.val : Int) (n.val : Int)) = band (bandn 15 (m.val : Int)) (bandn 15 (n.val : Int)) := by decide +kernel
  exact cond_all2 (P := fun a b => bandn 15 (bor a b) = band (bandn 15 a) (bandn 15 b)) this h0 h1 h2 h3
theorem compl_inj {a b : Int} (h0 : 0 ≤ a) (h1 : a ≤ 15) (h2 : 0 ≤ b) (h3 : b ≤ 15) (h : bandn 15 a = bandn 15 b) : a = b := by rw [← compl_compl h0 h1, h, compl_compl h2 h3]
theorem conjB_iff {x : Nat → Int} : conjB x = true ↔ ∀ a b : Int, 0 ≤ a → a ≤ 15 → 0 ≤ b → b ≤ 15 → ap x (band a b) = band (ap x a) (ap x b) := by
  unfold conjB
  rw [all2_iff]
  constructor
  · intro h a b a0 a1 b0 b1
    have := h a.toNat b.toNat (by omega) (by omega)
    rw [Int.toNat_of_nonneg a0, Int.toNat_of_nonneg b0] at this
    simpa [ap] using this
  · intro h p q hp hq
    have := h p q (by omega) (by omega) (by omega) (by omega)
    simpa [ap] using this
theorem disjB_iff {x : Nat → Int} : disjB x = true ↔ ∀ a b : Int, 0 ≤ a → a ≤ 15 → 0 ≤ b → b ≤ 15 → ap x (bor a b) = bor (ap x a) (ap x b) := by
  unfold disjB
  rw [all2_iff]
  constructor
  · intro h a b a0 a1 b0 b1
    have := h a.toNat b.toNat (by omega) (by omega)
    rw [Int.toNat_of_nonneg a0, Int.toNat_of_nonneg b0] at this
    simpa [ap] using this
  · intro h p q hp hq
    have := h p q (by omega) (by omega) (by omega) (by omega)
    simpa [ap] using this
theorem ap_rng {x : Nat → Int} (h : Dg 16 x) {a : Int} (h0 : 0 ≤ a) (h1 : a ≤ 15) : 0 ≤ ap x a ∧ ap x a ≤ 15 := h a.toNat (by omega)
theorem ap_dual {x : Nat → Int} {a : Int} (h0 : 0 ≤ a) : ap (dual x) a = bandn 15 (ap x (bandn 15 a)) := by
  unfold ap dual; rw [Int.toNat_of_nonneg h0]
theorem ap_txt {x : Nat → Int} (h : Dg 16 x) {a : Int} (h0 : 0 ≤ a) (h1 : a ≤ 15) : ap (dg (txt 16 x)) a = ap x a := dg_txt h (by omega)
/-- A dual is conjunctive exactly if the transformer is disjunctive. -/
theorem conj_dual {x : Nat → Int} (h : Dg 16 x) : conjB (dual x) = disjB x := by
  rw [Bool.eq_iff_iff, conjB_iff, disjB_iff]
  constructor
  · intro hc a b a0 a1 b0 b1
    have ha := bandn_rng (a := 15) (b := a) (by decide) (by decide) a0 a1
    have hb := bandn_rng (a := 15) (b := b) (by decide) (by decide) b0 b1
    have hab := band_rng ha.1 ha.2 hb.1 hb.2
    have ho := bor_rng a0 a1 b0 b1
    have e := hc _ _ ha.1 ha.2 hb.1 hb.2
    rw [ap_dual hab.1, ap_dual ha.1, ap_dual hb.1, compl_and ha.1 ha.2 hb.1 hb.2, compl_compl a0 a1, compl_compl b0 b1] at e
    have r1 := ap_rng h ho.1 ho.2
    have r2 := ap_rng h a0 a1
    have r3 := ap_rng h b0 b1
    have r4 := bor_rng r2.1 r2.2 r3.1 r3.2
    exact compl_inj r1.1 r1.2 r4.1 r4.2 (by rw [e, compl_or r2.1 r2.2 r3.1 r3.2])
  · intro hc a b a0 a1 b0 b1
    have ha := bandn_rng (a := 15) (b := a) (by decide) (by decide) a0 a1
    have hb := bandn_rng (a := 15) (b := b) (by decide) (by decide) b0 b1
    have hab := band_rng a0 a1 b0 b1
    have r2 := ap_rng h ha.1 ha.2
    have r3 := ap_rng h hb.1 hb.2
    rw [ap_dual hab.1, ap_dual a0, ap_dual b0, compl_and a0 a1 b0 b1, hc _ _ ha.1 ha.2 hb.1 hb.2, compl_or r2.1 r2.2 r3.1 r3.2]
theorem conjB_congr {x y : Nat → Int} (h : ∀ i, i < 16 → x i = y i) : conjB x = conjB y := by
  have e : ∀ a, 0 ≤ a → a ≤ 15 → ap x a = ap y a := fun a h0 h1 => h a.toNat (by omega)
  rw [Bool.eq_iff_iff, conjB_iff, conjB_iff]
  constructor
  · intro hc a b a0 a1 b0 b1
    have hab := band_rng a0 a1 b0 b1
    rw [← e _ hab.1 hab.2, ← e a a0 a1, ← e b b0 b1, hc a b a0 a1 b0 b1]
  · intro hc a b a0 a1 b0 b1
    have hab := band_rng a0 a1 b0 b1
    rw [e _ hab.1 hab.2, e a a0 a1, e b b0 b1, hc a b a0 a1 b0 b1]
theorem eq_disj (r : ByteArray) : (tvB r && disjB (dg r)) = (tvB r && conjB (dg (txt 16 (dual (dg r))))) := by
  cases h : tvB r
  · rw [Bool.false_and, Bool.false_and]
  · have hd := tvB_Dg h
    rw [conjB_congr (fun i hi => dg_txt (dual_Dg hd) hi), conj_dual hd]
end Go.DC
namespace Go.DC
/-! ### transformers out of relations and conditions -/
/-- The states that are related to no other states than those of p. -/
def boxR (x : Nat → Int) (p : Int) : Int := mk 4 fun s => bandn (x s) p == 0
def assertT (p : Int) : Nat → Int := fun q => band p q
def angelT (x : Nat → Int) : Nat → Int := fun p => dia x p
def demonT (x : Nat → Int) : Nat → Int := fun p => boxR x p
def thenT (x y : Nat → Int) : Nat → Int := fun p => x (y p).toNat
def meetT (x y : Nat → Int) : Nat → Int := fun p => band (x p) (y p)
def joinT (x y : Nat → Int) : Nat → Int := fun p => bor (x p) (y p)
theorem boxR_rng (x : Nat → Int) (p : Int) : 0 ≤ boxR x p ∧ boxR x p ≤ 15 := ⟨mk4_ge _, mk4_le _⟩
theorem angelT_Dg (x : Nat → Int) (n : Nat) : Dg n (angelT x) := fun p _ => dia_rng x p
theorem demonT_Dg (x : Nat → Int) (n : Nat) : Dg n (demonT x) := fun p _ => boxR_rng x p
theorem assertT_Dg {p : Int} (h0 : 0 ≤ p) (h1 : p ≤ 15) : Dg 16 (assertT p) := fun q hq => band_rng h0 h1 (by omega) (by omega)
theorem thenT_Dg {x y : Nat → Int} (hx : Dg 16 x) (hy : Dg 16 y) : Dg 16 (thenT x y) := fun p hp => hx _ (by have := hy p hp; omega)
theorem meetT_Dg {x y : Nat → Int} (hx : Dg 16 x) (hy : Dg 16 y) : Dg 16 (meetT x y) := fun p hp => band_rng (hx p hp).1 (hx p hp).2 (hy p hp).1 (hy p hp).2
theorem joinT_Dg {x y : Nat → Int} (hx : Dg 16 x) (hy : Dg 16 y) : Dg 16 (joinT x y) := fun p hp => bor_rng (hx p hp).1 (hx p hp).2 (hy p hp).1 (hy p hp).2
end Go.DC
