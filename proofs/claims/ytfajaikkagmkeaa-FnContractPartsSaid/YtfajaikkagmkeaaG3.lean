/-
  Plain laws: what the laws on transformers say. No program in sight.
  Plain laws: what the laws on relations say, second part. No program in sight.
  Plain laws: relations of angelic transformers. No program in sight.
  Plain laws: what is found from a specification. No program in sight.
  Plain laws: kinds are kept by sequences and choices. No program in sight.
  Plain laws: the dual contract has the dual transformer and the exchanged letters. No program in sight.
  Plain laws: kinds of contracts in which one player never chooses. No program in sight.
  Cuts of walks: nothing of its own, the kit's tactic alone.
  Plain laws: loops are the same unrolled, refinement goes through all statements. No program in sight.
  Plain definitions and laws: how a contract is shown. No program in sight.
-/
import Derived.Test.YtfajaikkagmkeaaG2
import Derived.Test.YtfajaikkagmkeaaG1
import Derived.Deep.DeepCutAuto
namespace Go.DC
open Go.RowKit
set_option linter.unusedVariables false
set_option linter.unusedSimpArgs false
theorem tvB_Tr {t : ByteArray} (h : tvB t = true) : Tr (dg t) := tvB_mono h
theorem dgt16 {x : Nat → Int} (h : Dg 16 x) : ∀ s, s < 16 → dg (txt 16 x) s = x s := fun s hs => dg_txt h hs
theorem apt16 {x : Nat → Int} (h : Dg 16 x) {a : Int} (ha : Cv a) : ap (dg (txt 16 x)) a = ap x a := ap_txt h ha.1 ha.2
theorem Tr.dual {x : Nat → Int} (h : Tr x) : Tr (dual x) := Tr.mk' (fun a ha => by rw [ap_dual ha.1]; exact Cv.c15.andn (h.cv (Cv.c15.andn ha))) fun a b ha hb hs => by
  rw [ap_dual ha.1, ap_dual hb.1]
  have h1 : Sub (bandn 15 b) (bandn 15 a) := (sub_bits (Cv.c15.andn hb) (Cv.c15.andn ha)).2 fun i hi h2 => by
    rw [Cv.has_andn Cv.c15 hb hi, has15 hi, Bool.true_and] at h2
    rw [Cv.has_andn Cv.c15 ha hi, has15 hi, Bool.true_and]
    cases h3 : hasb a i
    · rfl
    · rw [(sub_bits ha hb).1 hs i hi h3] at h2; exact h2
  have h4 := h.sub (Cv.c15.andn hb) (Cv.c15.andn ha) h1
  have hA := h.cv (Cv.c15.andn ha)
  have hB := h.cv (Cv.c15.andn hb)
  refine (sub_bits (Cv.c15.andn hA) (Cv.c15.andn hB)).2 fun i hi h2 => ?_
  rw [Cv.has_andn Cv.c15 hA hi, has15 hi, Bool.true_and] at h2
  rw [Cv.has_andn Cv.c15 hB hi, has15 hi, Bool.true_and]
  cases h3 : hasb (ap x (bandn 15 b)) i
  · rfl
  · rw [(sub_bits hB hA).1 h4 i hi h3] at h2; exact h2
theorem sub_true {a b : Int} (h : Sub a b) : (bandn a b == 0) = true := beq_iff_eq.2 h
/-! ### starts and miracles -/
theorem st_lo {x : Nat → Int} (h : Tr x) {n : Nat} (hn : n < 16) : Sub (ap x 0) (ap x n) := h.sub Cv.c0 (Cv.nat hn) (Sub.zero (Cv.nat hn))
theorem st_hi {x : Nat → Int} (h : Tr x) {n : Nat} (hn : n < 16) : Sub (ap x n) (ap x 15) := h.sub (Cv.nat hn) Cv.c15 (Sub.full (Cv.nat hn))
theorem st_dual15 {x : Nat → Int} (h : Tr x) : ap (dg (txt 16 (dual x))) 15 = bandn 15 (ap x 0) := by
  rw [apt16 (dual_Dg h.dg) Cv.c15, ap_dual Cv.c15.1]; rfl
theorem st_dual0 {x : Nat → Int} (h : Tr x) : ap (dg (txt 16 (dual x))) 0 = bandn 15 (ap x 15) := by
  rw [apt16 (dual_Dg h.dg) Cv.c0, ap_dual Cv.c0.1]; rfl
/-! ### conjunctive transformers are specifications -/
theorem cj_all {x : Nat → Int} (h : conjB x = true) {a b : Int} (ha : Cv a) (hb : Cv b) : ap x (band a b) = band (ap x a) (ap x b) := conjB_iff.1 h a b ha.1 ha.2 hb.1 hb.2
/-- What a state is led to, by membership: it lies in all conditions that need it. -/
theorem lead_has {x : Nat → Int} {s i : Nat} (hi : i < 4) : ∀ n, n ≤ 16 → (hasb (leadTo n x s) i = true ↔ ∀ q, q < n → hasb (x q) s = true → hasb (q : Int) i = true)
  | 0, _ => by
    have : leadTo 0 x s = 15 := rfl
    rw [this, has15 hi]
    exact ⟨fun _ q hq => absurd hq (Nat.not_lt_zero _), fun _ => rfl⟩
  | n + 1, hn => by
    have ih := lead_has (x := x) (s := s) hi n (by omega)
    cases h : hasb (x n) s
    · rw [← lead_no h, ih]
      constructor
      · intro h2 q hq h3
        rcases Nat.lt_or_ge q n with h4 | h4
        · exact h2 q h4 h3
        · obtain rfl : q = n := by omega
          rw [h] at h3; cases h3
      · intro h2 q hq h3; exact h2 q (by omega) h3
    · rw [← lead_yes h]
      have hr := lead_rng x s n (by omega)
      rw [show bits BinOp.and IntKind.i64 (leadTo n x s) n = band (leadTo n x s) n from rfl, Cv.has_and (show Cv (leadTo n x s) from hr) (Cv.nat (show n < 16 by omega)) hi, Bool.and_eq_true, ih]
      constructor
      · rintro ⟨h2, h3⟩ q hq h4
        rcases Nat.lt_or_ge q n with h5 | h5
        · exact h2 q h5 h4
        · obtain rfl : q = n := by omega
          exact h3
      · intro h2; exact ⟨fun q hq h3 => h2 q (by omega) h3, h2 n (by omega) h⟩
theorem leads_has {x : Nat → Int} {s i : Nat} (hi : i < 4) : hasb (leadsT x s) i = true ↔ ∀ q, q < 16 → hasb (x q) s = true → hasb (q : Int) i = true := lead_has hi 16 (Nat.le_refl _)
theorem ap_specD {p a : Int} {x : Nat → Int} (ha : Cv a) : ap (specD p x) a = band p (boxR x a) := by unfold ap specD; rw [cv_nat ha]
theorem Tr.specD {p : Int} (hp : Cv p) {x : Nat → Int} (hx : Dg 4 x) : Tr (specD p x) := Tr.mk' (fun a ha => by rw [ap_specD ha]; exact hp.and (box_cv _ _)) fun a b ha hb h => by
  rw [ap_specD ha, ap_specD hb]
  exact and_sub hp hp (box_cv _ _) (box_cv _ _) (Sub.refl hp) (box_sub hx ha hb h)
theorem Tr.above {x : Nat → Int} (h : Tr x) : Tr (aboveT x) := Tr.specD (h.dg 15 (by decide)) (leadsT_Dg x)
/-- A specification is conjunctive. -/
theorem specD_conj {p : Int} (hp : Cv p) {x : Nat → Int} (hx : Dg 4 x) : conjB (DC.specD p x) = true := conjB_iff.2 fun a b a0 a1 b0 b1 => by
  have ha : Cv a := ⟨a0, a1⟩
  have hb : Cv b := ⟨b0, b1⟩
  have hbox := box_cv x a
  have hbox2 := box_cv x b
  rw [ap_specD (ha.and hb), ap_specD ha, ap_specD hb]
  refine ext_iff (hp.and (box_cv _ _)) ((hp.and hbox).and (hp.and hbox2)) fun i hi => ?_
  rw [Cv.has_and hp (box_cv _ _) hi, Cv.has_and (hp.and hbox) (hp.and hbox2) hi, Cv.has_and hp hbox hi, Cv.has_and hp hbox2 hi]
  simp only [Bool.and_eq_true]
  rw [box_iff hx (ha.and hb) hi, box_iff hx ha hi, box_iff hx hb hi]
  constructor
  · rintro ⟨h1, h2⟩
    refine ⟨⟨h1, fun k hk h3 => ?_⟩, h1, fun k hk h3 => ?_⟩
    · have := h2 k hk h3; rw [Cv.has_and ha hb hk, Bool.and_eq_true] at this; exact this.1
    · have := h2 k hk h3; rw [Cv.has_and ha hb hk, Bool.and_eq_true] at this; exact this.2
  · rintro ⟨⟨h1, h2⟩, _, h3⟩
    exact ⟨h1, fun k hk h4 => by rw [Cv.has_and ha hb hk, Bool.and_eq_true]; exact ⟨h2 k hk h4, h3 k hk h4⟩⟩
theorem ap_15 (x : Nat → Int) : ap x 15 = x 15 := rfl
theorem ap_above {x : Nat → Int} {a : Int} (ha : Cv a) : ap (aboveT x) a = band (x 15) (boxR (leadsT x) a) := by unfold aboveT; exact ap_specD ha
/-- The least conjunctive transformer above lies above. -/
theorem above_up {x : Nat → Int} (h : Tr x) {a : Int} (ha : Cv a) : Sub (ap x a) (ap (aboveT x) a) := by
  have h15 : Cv (x 15) := h.dg 15 (by decide)
  rw [ap_above ha]
  refine (sub_bits (h.cv ha) (h15.and (box_cv _ _))).2 fun i hi h1 => ?_
  rw [Cv.has_and h15 (box_cv _ _) hi, Bool.and_eq_true]
  have h16 := h.sub ha Cv.c15 (Sub.full ha)
  rw [ap_15] at h16
  refine ⟨(sub_bits (h.cv ha) h15).1 h16 i hi h1, (box_iff (leadsT_Dg x) ha hi).2 fun k hk h2 => ?_⟩
  have := (leads_has hk).1 h2 a.toNat (by have := ha.1; have := ha.2; omega) h1
  rwa [cv_nat ha] at this
/-- A conjunctive transformer needs a state for the condition that the state is led to. -/
theorem cj_lead {x : Nat → Int} (h : Tr x) (hc : conjB x = true) {s : Nat} (hs : s < 4) (h15 : hasb (ap x 15) s = true) : hasb (ap x (leadsT x s)) s = true := by
  have key : ∀ n, n ≤ 16 → hasb (ap x (leadTo n x s)) s = true := fun n => by
    induction n with
    | zero => intro _; exact h15
    | succ n ih =>
      intro hn
      have ih := ih (by omega)
      cases h1 : hasb (x n) s
      · rw [← lead_no h1]; exact ih
      · rw [← lead_yes h1]
        have hr : Cv (leadTo n x s) := lead_rng x s n (by omega)
        have hnn : Cv (n : Int) := Cv.nat (by omega)
        show hasb (ap x (band (leadTo n x s) n)) s = true
        rw [cj_all hc hr hnn, Cv.has_and (h.cv hr) (h.cv hnn) hs, ih, Bool.true_and, ap_nat]
        exact h1
  exact key 16 (Nat.le_refl _)
/-- A conjunctive transformer is its own specification. -/
theorem cj_above {x : Nat → Int} (h : Tr x) (hc : conjB x = true) {a : Int} (ha : Cv a) : ap (aboveT x) a = ap x a := by
  have h15 : Cv (x 15) := h.dg 15 (by decide)
  refine Sub.antisymm (h.above.cv ha) (h.cv ha) ?_ (above_up h ha)
  rw [ap_above ha]
  refine (sub_bits (h15.and (box_cv _ _)) (h.cv ha)).2 fun i hi h1 => ?_
  rw [Cv.has_and h15 (box_cv _ _) hi, Bool.and_eq_true] at h1
  have hl := leadsT_Dg x i hi
  have h2 := cj_lead h hc hi h1.1
  have h3 : Sub (leadsT x i) a := (sub_bits hl ha).2 fun k hk h4 => (box_iff (leadsT_Dg x) ha hi).1 h1.2 k hk h4
  exact (sub_bits (h.cv hl) (h.cv ha)).1 (h.sub hl ha h3) i hi h2
theorem cj_above_txt {t : ByteArray} (ht : tvB t = true) (hc : conjB (dg t) = true) : txt 16 (aboveT (dg t)) = t := by
  conv => rhs; rw [← txt_dg (tvB_dv ht)]
  refine txt_congr fun q hq => ?_
  have := cj_above (tvB_Tr ht) hc (Cv.nat hq)
  rwa [ap_nat, ap_nat] at this
theorem cj_strict {x : Nat → Int} (h : Tr x) (hc : conjB x = true) : (x 0 == 0) = (bandn (x 15) (dia (leadsT x) 15) == 0) := by
  have h15 : Cv (x 15) := h.dg 15 (by decide)
  have h0 : Cv (x 0) := h.dg 0 (by decide)
  have e0 := cj_above h hc Cv.c0
  rw [ap_above Cv.c0, show ap x 0 = x 0 from rfl] at e0
  rw [Bool.eq_iff_iff, beq_iff_eq, sub_iff h15 (dia_cv _ _)]
  have hd := leadsT_Dg x
  constructor
  · intro hz i hi h1
    rw [dia_iff hd Cv.c15 hi]
    apply Classical.byContradiction
    intro hn
    have : hasb (x 0) i = true := by
      rw [← e0, Cv.has_and h15 (box_cv _ _) hi, h1, Bool.true_and, box_iff hd Cv.c0 hi]
      intro k hk h2; exact absurd ⟨k, hk, h2, has15 hk⟩ hn
    rw [hz, has0 hi] at this
    cases this
  · intro hall
    refine ext_iff h0 Cv.c0 fun i hi => ?_
    rw [has0 hi]
    refine ⟨fun h1 => ?_, fun h1 => by cases h1⟩
    rw [← e0, Cv.has_and h15 (box_cv _ _) hi, Bool.and_eq_true, box_iff hd Cv.c0 hi] at h1
    obtain ⟨k, hk, h2, _⟩ := (dia_iff hd Cv.c15 hi).1 (hall i hi h1.1)
    have := h1.2 k hk h2
    rw [has0 hk] at this
    cases this
theorem sub_in15 {a : Int} (ha : Cv a) : (bandn a 15 == 0) = true := beq_iff_eq.2 (Sub.full ha)
end Go.DC
namespace Go.DC
open Go.RowKit
set_option linter.unusedVariables false
set_option linter.unusedSimpArgs false
theorem sv_at {s : Nat} (h : s < 4) : sv (s : Int) = true := by unfold sv; simp; omega
theorem relates_at {r : ByteArray} (hr : dvB 4 r = true) {s t : Nat} (hs : s < 4) (ht : t < 4) : relates r s t = hasb (dg r s) t := by
  unfold relates; rw [hr, sv_at hs, sv_at ht]; rfl
/-! ### a state lies between -/
def midB (X Y : Nat → Nat → Bool) (s t : Nat) : Nat → Bool
  | 0 => false
  | n + 1 => midB X Y s t n || (X s n && Y n t)
theorem mid_iff (X Y : Nat → Nat → Bool) (s t : Nat) : ∀ n, midB X Y s t n = true ↔ ∃ k, k < n ∧ X s k = true ∧ Y k t = true
  | 0 => by simp [midB]
  | n + 1 => by
    rw [midB, Bool.or_eq_true, Bool.and_eq_true, mid_iff X Y s t n]
    constructor
    · rintro (⟨k, hk, h⟩ | h)
      · exact ⟨k, by omega, h⟩
      · exact ⟨n, by omega, h⟩
    · rintro ⟨k, hk, h⟩
      rcases Nat.lt_or_ge k n with h2 | h2
      · exact .inl ⟨k, h2, h⟩
      · obtain rfl : k = n := by omega
        exact .inr h
theorem mid_then {x y : Nat → Int} (hy : Dg 4 y) {s t : Nat} (hs : s < 4) (ht : t < 4) : midB (fun s t => hasb (x s) t) (fun s t => hasb (y s) t) s t 4 = hasb (dg (txt 4 (thenR x y)) s) t := by
  rw [dgt4 (thenR_Dg x hy) s hs, Bool.eq_iff_iff, mid_iff, then_iff hy ht]
theorem cp_assoc {x y z : Nat → Int} (hy : Dg 4 y) (hz : Dg 4 z) : txt 4 (thenR (dg (txt 4 (thenR x y))) z) = txt 4 (thenR x (dg (txt 4 (thenR y z)))) := txt_congr fun s hs => by
  rw [thenR_congr (dgt4 (thenR_Dg x hy)) (fun _ _ => rfl) s hs, thenR_congr (fun _ _ => rfl) (dgt4 (thenR_Dg y hz)) s hs, then_assoc hy hz hs]
theorem cp_turn {x y : Nat → Int} (hx : Dg 4 x) (hy : Dg 4 y) : txt 4 (turn (dg (txt 4 (thenR x y)))) = txt 4 (thenR (dg (txt 4 (turn y))) (dg (txt 4 (turn x)))) := txt_congr fun s hs => by
  rw [turn_congr (dgt4 (thenR_Dg x hy)), turn_then hx hy hs, thenR_congr (dgt4 (turn_Dg y)) (dgt4 (turn_Dg x)) s hs]
theorem cp_id {r : ByteArray} (hr : dvB 4 r = true) : txt 4 (thenR (dg r) (dg (txt 4 idR))) = r := by
  conv => rhs; rw [← txt_dg hr]
  exact txt_congr fun s hs => by rw [thenR_congr (fun _ _ => rfl) (dgt4 idR_Dg) s hs, then_id (dvB_Dg hr) hs]
/-! ### both, or one -/
theorem dg_or {x y : Nat → Int} (hx : Dg 4 x) (hy : Dg 4 y) {s t : Nat} (hs : s < 4) (ht : t < 4) : hasb (dg (txt 4 (orR x y)) s) t = (hasb (x s) t || hasb (y s) t) := by
  rw [dgt4 (orR_Dg hx hy) s hs, Bool.eq_iff_iff, or_iff hx hy hs ht, Bool.or_eq_true]
theorem dg_and {x y : Nat → Int} (hx : Dg 4 x) (hy : Dg 4 y) {s t : Nat} (hs : s < 4) (ht : t < 4) : hasb (dg (txt 4 (andR x y)) s) t = (hasb (x s) t && hasb (y s) t) := by
  rw [dgt4 (andR_Dg hx hy) s hs, Bool.eq_iff_iff, and_iff hx hy hs ht, Bool.and_eq_true]
theorem cntS_sum {p q : Int} (hp : Cv p) (hq : Cv q) : cntS (band p q) 4 + cntS (bor p q) 4 = cntS p 4 + cntS q 4 := by
  have h : ∀ m n : Fin 16, cntS (band (m.val : Int) (n.val : Int)) 4 + cntS (bor (m.val : Int) (n.val : Int)) 4 = cntS (m.val : Int) 4 + cntS (n.val : Int) 4 := by decide +kernel
  exact cond_all2 (P := fun a b => cntS (band a b) 4 + cntS (bor a b) 4 = cntS a 4 + cntS b 4) h hp.1 hp.2 hq.1 hq.2
theorem cntP_sum {x y : Nat → Int} (hx : Dg 4 x) (hy : Dg 4 y) : ∀ n, n ≤ 4 → cntP (andR x y) n + cntP (orR x y) n = cntP x n + cntP y n
  | 0, _ => rfl
  | n + 1, h => by
    have ih := cntP_sum hx hy n (by omega)
    have hs := cntS_sum (hx n (by omega)) (hy n (by omega))
    unfold cntP andR orR
    unfold andR orR at ih
    omega
theorem dg_cntP {x : Nat → Int} (hx : Dg 4 x) : cntP (dg (txt 4 x)) 4 = cntP x 4 := cntP_congr 4 fun s hs => dgt4 hx s hs
theorem or_is {r q : ByteArray} (hr : dvB 4 r = true) (hq : dvB 4 q = true) : txt 4 (orR (dg r) (dg q)) = q ↔ subB (dg r) (dg q) = true := by
  have h := sub_or (dvB_Dg hr) hq
  rw [← h, decide_eq_true_iff]
  exact Iff.rfl
theorem and_is {r q : ByteArray} (hr : dvB 4 r = true) (hq : dvB 4 q = true) : txt 4 (andR (dg r) (dg q)) = r ↔ subB (dg r) (dg q) = true := by
  rw [subB_iff]
  have hd := dvB_Dg hq
  have he := dvB_Dg hr
  have hf : ∀ m n : Fin 16, (band (m.val : Int) (n.val : Int) = (m.val : Int) ↔ bandn (m.val : Int) (n.val : Int) = 0) := by decide +kernel
  have key : ∀ k, k < 4 → (band (dg r k) (dg q k) = dg r k ↔ bandn (dg r k) (dg q k) = 0) := fun k hk =>
    cond_all2 (P := fun a b => (band a b = a ↔ bandn a b = 0)) hf (he k hk).1 (he k hk).2 (hd k hk).1 (hd k hk).2
  constructor
  · intro h k hk
    have e : dg (txt 4 (andR (dg r) (dg q))) k = dg r k := congrArg (fun t => dg t k) h
    rw [dgt4 (andR_Dg he hd) k hk] at e
    exact (key k hk).1 e
  · intro h
    conv => rhs; rw [← txt_dg hr]
    exact txt_congr fun k hk => (key k hk).2 (h k hk)
/-! ### images -/
theorem im_adj {x : Nat → Int} (hx : Dg 4 x) {p q : Int} (hp : Cv p) (hq : Cv q) : (bandn (dia (turn x) p) q == 0) = (bandn p (boxR x q) == 0) := by
  rw [Bool.eq_iff_iff, sub_iff (dia_cv _ _) hq, sub_iff hp (box_cv _ _)]
  constructor
  · intro h s hs h1
    refine (box_iff hx hq hs).2 fun k hk h2 => h k hk ?_
    exact (dia_iff (turn_Dg x) hp hk).2 ⟨s, hs, (turn_iff hs).2 h2, h1⟩
  · intro h k hk h1
    obtain ⟨s, hs, h2, h3⟩ := (dia_iff (turn_Dg x) hp hk).1 h1
    exact (box_iff hx hq hs).1 (h s hs h3) k hk ((turn_iff hs).1 h2)
theorem im_turn {x : Nat → Int} (hx : Dg 4 x) (p : Int) : dia (turn (dg (txt 4 (turn x)))) p = dia x p := dia_congr (fun s hs => by
  rw [turn_congr (dgt4 (turn_Dg x))]
  refine ext_iff (turn_Dg _ s hs) (hx s hs) fun i hi => ?_
  rw [turn_iff hi, turn_iff hs]) p
theorem im_box {x : Nat → Int} (hx : Dg 4 x) {p : Int} (hp : Cv p) : boxR x p = bandn 15 (dia x (bandn 15 p)) := by
  have hn := Cv.andn Cv.c15 hp
  refine ext_iff (box_cv _ _) (Cv.andn Cv.c15 (dia_cv _ _)) fun i hi => ?_
  rw [box_iff hx hp hi, Cv.has_andn Cv.c15 (dia_cv _ _) hi]
  have h15 : ∀ k, k < 4 → hasb 15 k = true := by decide
  rw [h15 i hi, Bool.true_and, not_has, dia_iff hx hn hi]
  constructor
  · rintro h ⟨k, hk, h1, h2⟩
    rw [Cv.has_andn Cv.c15 hp hk, h k hk h1] at h2
    simp at h2
  · intro h k hk h1
    cases h3 : hasb p k
    · exact absurd ⟨k, hk, h1, by rw [Cv.has_andn Cv.c15 hp hk, h15 k hk, h3]; rfl⟩ h
    · rfl
theorem cnt_zero {p : Int} (hp : Cv p) : cntS p 4 = 0 ↔ p = 0 := by
  have h : ∀ m : Fin 16, (cntS (m.val : Int) 4 = 0 ↔ (m.val : Int) = 0) := by decide +kernel
  exact cond_all (P := fun p => cntS p 4 = 0 ↔ p = 0) h hp.1 hp.2
theorem fun4 (x : Nat → Int) : funB x 4 = (cntS (x 0) 4 == 1 && cntS (x 1) 4 == 1 && cntS (x 2) 4 == 1 && cntS (x 3) 4 == 1) := by simp [funB]
theorem cnt4 (x : Nat → Int) : cntP x 4 = cntS (x 0) 4 + cntS (x 1) 4 + cntS (x 2) 4 + cntS (x 3) 4 := by simp [cntP]
theorem dom_all {x : Nat → Int} (hx : Dg 4 x) : dia x 15 = 15 ↔ ∀ s, s < 4 → x s ≠ 0 := by
  have h15 : ∀ k, k < 4 → hasb 15 k = true := by decide
  have h0 : ∀ k, k < 4 → hasb 0 k = false := by decide
  constructor
  · intro h s hs e
    have h1 : hasb (dia x 15) s = true := by rw [h]; exact h15 s hs
    obtain ⟨k, hk, h2, _⟩ := (dia_iff hx Cv.c15 hs).1 h1
    rw [e, h0 k hk] at h2
    cases h2
  · intro h
    refine ext_iff (dia_cv _ _) Cv.c15 fun i hi => ?_
    rw [dia_iff hx Cv.c15 hi, h15 i hi]
    refine ⟨fun _ => rfl, fun _ => ?_⟩
    apply Classical.byContradiction
    intro hn
    refine h i hi (ext_iff (hx i hi) ⟨by omega, by omega⟩ fun k hk => ?_)
    rw [h0 k hk]
    constructor
    · intro h1; exact absurd ⟨k, hk, h1, h15 k hk⟩ hn
    · intro h1; cases h1
theorem im_fun {x : Nat → Int} (hx : Dg 4 x) : funB x 4 = (decide (dia x 15 = 15) && decide (cntP x 4 = 4)) := by
  rw [Bool.eq_iff_iff, Bool.and_eq_true, decide_eq_true_iff, decide_eq_true_iff, dom_all hx, fun4, cnt4]
  simp only [Bool.and_eq_true, beq_iff_eq]
  have g := fun s hs => cntS_rng (hx s hs) 4 (Nat.le_refl _)
  have z := fun s hs => cnt_zero (hx s hs)
  have g0 := g 0 (by omega); have g1 := g 1 (by omega); have g2 := g 2 (by omega); have g3 := g 3 (by omega)
  have z0 := z 0 (by omega); have z1 := z 1 (by omega); have z2 := z 2 (by omega); have z3 := z 3 (by omega)
  constructor
  · rintro ⟨⟨⟨e0, e1⟩, e2⟩, e3⟩
    refine ⟨fun s hs e => ?_, by omega⟩
    have := (z s hs).2 e
    rcases (show s = 0 ∨ s = 1 ∨ s = 2 ∨ s = 3 by omega) with rfl | rfl | rfl | rfl <;> omega
  · rintro ⟨h, e⟩
    have n0 : ¬ cntS (x 0) 4 = 0 := fun e => h 0 (by omega) (z0.1 e)
    have n1 : ¬ cntS (x 1) 4 = 0 := fun e => h 1 (by omega) (z1.1 e)
    have n2 : ¬ cntS (x 2) 4 = 0 := fun e => h 2 (by omega) (z2.1 e)
    have n3 : ¬ cntS (x 3) 4 = 0 := fun e => h 3 (by omega) (z3.1 e)
    omega
/-- Some of the first n numbers has both. -/
def someB (X P : Nat → Bool) : Nat → Bool
  | 0 => false
  | n + 1 => someB X P n || (X n && P n)
/-- Each of the first n numbers that has the first has the second. -/
def allB (X P : Nat → Bool) : Nat → Bool
  | 0 => true
  | n + 1 => allB X P n && (!X n || P n)
theorem some_iff (X P : Nat → Bool) : ∀ n, someB X P n = true ↔ ∃ k, k < n ∧ X k = true ∧ P k = true
  | 0 => by simp [someB]
  | n + 1 => by
    rw [someB, Bool.or_eq_true, Bool.and_eq_true, some_iff X P n]
    constructor
    · rintro (⟨k, hk, h⟩ | h)
      · exact ⟨k, by omega, h⟩
      · exact ⟨n, by omega, h⟩
    · rintro ⟨k, hk, h⟩
      rcases Nat.lt_or_ge k n with h2 | h2
      · exact .inl ⟨k, h2, h⟩
      · obtain rfl : k = n := by omega
        exact .inr h
theorem all_iff (X P : Nat → Bool) : ∀ n, allB X P n = true ↔ ∀ k, k < n → X k = true → P k = true
  | 0 => by simp [allB]
  | n + 1 => by
    rw [allB, Bool.and_eq_true, all_iff X P n]
    constructor
    · rintro ⟨h1, h2⟩ k hk hX
      rcases Nat.lt_or_ge k n with h3 | h3
      · exact h1 k h3 hX
      · obtain rfl : k = n := by omega
        rw [hX] at h2; simpa using h2
    · intro h
      refine ⟨fun k hk => h k (by omega), ?_⟩
      cases hX : X n
      · rfl
      · rw [h n (by omega) hX]; rfl
theorem some_dia {x : Nat → Int} (hx : Dg 4 x) {p : Int} (hp : Cv p) {s : Nat} (hs : s < 4) : someB (fun t => hasb (x s) t) (fun t => hasb p t) 4 = hasb (dia x p) s := by
  rw [Bool.eq_iff_iff, some_iff, dia_iff hx hp hs]
theorem all_box {x : Nat → Int} (hx : Dg 4 x) {p : Int} (hp : Cv p) {s : Nat} (hs : s < 4) : allB (fun t => hasb (x s) t) (fun t => hasb p t) 4 = hasb (boxR x p) s := by
  rw [Bool.eq_iff_iff, all_iff, box_iff hx hp hs]
theorem turn_at {x : Nat → Int} {s t : Nat} (hs : s < 4) (ht : t < 4) : hasb (dg (txt 4 (turn x)) s) t = hasb (x t) s := by
  rw [dgt4 (turn_Dg x) s hs, Bool.eq_iff_iff, turn_iff ht]
theorem cntS_step {p : Int} (hp : Cv p) {n : Nat} (hn : n < 4) : cntS p (n + 1) = cntS p n + if hasb p n then 1 else 0 := by
  rw [← bit_rng hp hn]; rfl
end Go.DC
namespace Go.DC
open Go.RowKit
set_option linter.unusedVariables false
set_option linter.unusedSimpArgs false
/-- The relation that is found from a disjunctive transformer. -/
def relT (x : Nat → Int) : Nat → Int := fun s => mk 4 fun t => hasb (x (2 ^ t)) s
theorem relT_Dg (x : Nat → Int) : Dg 4 (relT x) := fun _ _ => ⟨mk4_ge _, mk4_le _⟩
theorem relT_has (x : Nat → Int) {s k : Nat} (hk : k < 4) : hasb (relT x s) k = hasb (x (2 ^ k)) s := by
  unfold relT; rw [hasb_mk _ _ _ (by decide)]; simp [hk]
theorem pow_cv {k : Nat} (hk : k < 4) : Cv ((2 : Int) ^ k) := by
  have : ∀ k : Fin 4, (0 : Int) ≤ 2 ^ k.val ∧ (2 : Int) ^ k.val ≤ 15 := by decide
  exact this ⟨k, hk⟩
theorem pow_nat {k : Nat} (hk : k < 4) : ((2 : Int) ^ k).toNat = 2 ^ k := by
  have : ∀ k : Fin 4, ((2 : Int) ^ k.val).toNat = 2 ^ k.val := by decide
  exact this ⟨k, hk⟩
theorem ap_pow (x : Nat → Int) {k : Nat} (hk : k < 4) : ap x (2 ^ k) = x (2 ^ k) := by unfold ap; rw [pow_nat hk]
theorem mk_cv (f : Nat → Bool) {n : Nat} (hn : n ≤ 4) : Cv (mk n f) := by
  have h1 := mk_nonneg f n (by omega)
  have h2 := mk_lt f n (by omega)
  have h3 : (2 : Int) ^ n ≤ 16 := by
    have : ∀ n : Fin 5, (2 : Int) ^ n.val ≤ 16 := by decide
    exact this ⟨n, by omega⟩
  exact ⟨h1, by omega⟩
theorem mk_self {q : Int} (hq : Cv q) : mk 4 (fun k => hasb q k) = q := cv_ext (mk_cv _ (Nat.le_refl _)) hq fun i hi => by rw [hasb_mk _ _ _ (by decide)]; simp [hi]
theorem dj_all {x : Nat → Int} (h : disjB x = true) {a b : Int} (ha : Cv a) (hb : Cv b) : ap x (bor a b) = bor (ap x a) (ap x b) := disjB_iff.1 h a b ha.1 ha.2 hb.1 hb.2
/-- A disjunctive and strict transformer is the angel's choice over the relation found. -/
theorem dj_angel {x : Nat → Int} (h : Tr x) (hd : disjB x = true) (h0 : x 0 = 0) {q : Int} (hq : Cv q) : ap x q = dia (relT x) q := by
  refine ext_iff (h.cv hq) (dia_cv _ _) fun i hi => ?_
  rw [dia_iff (relT_Dg x) hq hi]
  constructor
  · intro h1
    have key : ∀ n, n ≤ 4 → hasb (ap x (mk n fun k => hasb q k)) i = true → ∃ k, k < n ∧ hasb (x (2 ^ k)) i = true ∧ hasb q k = true := fun n => by
      induction n with
      | zero =>
        intro _ h2
        have : ap x (mk 0 fun k => hasb q k) = 0 := h0
        rw [this, has0 hi] at h2; cases h2
      | succ n ih =>
        intro hn h2
        cases hb : hasb q n
        · have e : mk (n + 1) (fun k => hasb q k) = mk n fun k => hasb q k := by simp [mk, hb]
          rw [e] at h2
          obtain ⟨k, hk, h3⟩ := ih (by omega) h2
          exact ⟨k, by omega, h3⟩
        · have e : mk (n + 1) (fun k => hasb q k) = bor (mk n fun k => hasb q k) (2 ^ n) := by simp [mk, hb, bor]
          have hm : Cv (mk n fun k => hasb q k) := mk_cv _ (by omega)
          have hp := pow_cv (k := n) (by omega)
          rw [e, dj_all hd hm hp, Cv.has_or (h.cv hm) (h.cv hp) hi, Bool.or_eq_true] at h2
          rcases h2 with h2 | h2
          · obtain ⟨k, hk, h3⟩ := ih (by omega) h2
            exact ⟨k, by omega, h3⟩
          · rw [ap_pow x (by omega)] at h2
            exact ⟨n, by omega, h2, hb⟩
    have h2 := key 4 (Nat.le_refl _) (by rw [mk_self hq]; exact h1)
    obtain ⟨k, hk, h3, h4⟩ := h2
    exact ⟨k, hk, by rw [relT_has x hk]; exact h3, h4⟩
  · rintro ⟨k, hk, h1, h2⟩
    rw [relT_has x hk] at h1
    have hp := pow_cv hk
    have hs : Sub (2 ^ k) q := (sub_bits hp hq).2 fun j hj h3 => by
      rw [has_pow hj hk, decide_eq_true_iff] at h3
      subst h3; exact h2
    refine (sub_bits (h.cv hp) (h.cv hq)).1 (h.sub hp hq hs) i hi ?_
    rw [ap_pow x hk]; exact h1
theorem angelT_congr {x y : Nat → Int} (h : ∀ s, s < 4 → x s = y s) (q : Nat) : angelT x q = angelT y q := dia_congr h _
theorem dj_txt {t : ByteArray} (ht : tvB t = true) (hd : disjB (dg t) = true) (h0 : dg t 0 = 0) : txt 16 (angelT (dg (txt 4 (relT (dg t))))) = t := by
  conv => rhs; rw [← txt_dg (tvB_dv ht)]
  refine txt_congr fun q hq => ?_
  rw [angelT_congr (dgt4 (relT_Dg _)), show angelT (relT (dg t)) q = dia (relT (dg t)) (q : Int) from rfl, ← dj_angel (tvB_Tr ht) hd h0 (Cv.nat hq), ap_nat]
theorem dual_dual {x : Nat → Int} (h : Tr x) {a : Int} (ha : Cv a) : ap (dual (dual x)) a = ap x a := by
  have hn := Cv.c15.andn ha
  rw [ap_dual ha.1, ap_dual hn.1, compl_compl ha.1 ha.2, compl_compl (h.cv ha).1 (h.cv ha).2]
/-- A disjunctive transformer is its own bound from below. -/
theorem dj_below {t : ByteArray} (ht : tvB t = true) (hd : disjB (dg t) = true) : txt 16 (dual (aboveT (dual (dg t)))) = t := by
  conv => rhs; rw [← txt_dg (tvB_dv ht)]
  refine txt_congr fun q hq => ?_
  have hT := tvB_Tr ht
  have hc : conjB (dual (dg t)) = true := by rw [conj_dual hT.dg]; exact hd
  have hq' := Cv.nat hq
  have hn := Cv.c15.andn hq'
  have e := dual_dual hT hq'
  rw [ap_dual hq'.1, ap_nat] at e
  have e2 : ap (dual (aboveT (dual (dg t)))) q = dual (aboveT (dual (dg t))) q := ap_nat _ q
  rw [← e2, ap_dual hq'.1, cj_above hT.dual hc hn]
  exact e
/-- An angel's choice is a function's exactly if it is conjunctive and ends. -/
theorem fun_conj {x r : Nat → Int} (hr : Dg 4 r) (h : ∀ q : Int, Cv q → ap x q = dia r q) : (conjB x && (ap x 15 == 15)) = funB r 4 := by
  have one : ∀ m : Fin 16, cntS (m.val : Int) 4 = 1 ↔ ((m.val : Int) ≠ 0 ∧ ∀ a b : Fin 16, (band (m.val : Int) (a.val : Int) != 0) = true → (band (m.val : Int) (b.val : Int) != 0) = true → (band (m.val : Int) (band (a.val : Int) (b.val : Int)) != 0) = true) := by decide +kernel
  have hb : ∀ q : Int, ∀ s, s < 4 → hasb (dia r q) s = (band (r s) q != 0) := fun q s hs => by
    unfold dia; rw [hasb_mk _ _ _ (by decide)]; simp [hs]
  rw [Bool.eq_iff_iff, Bool.and_eq_true, beq_iff_eq, h 15 Cv.c15, dom_all hr, fun4]
  simp only [Bool.and_eq_true, beq_iff_eq]
  have each : ∀ s, s < 4 → (cntS (r s) 4 = 1 ↔ (r s ≠ 0 ∧ ∀ a b : Int, Cv a → Cv b → hasb (dia r a) s = true → hasb (dia r b) s = true → hasb (dia r (band a b)) s = true)) := fun s hs => by
    have hv := hr s hs
    obtain ⟨v, hv1⟩ := Int.eq_ofNat_of_zero_le hv.1
    have h16 : v < 16 := by omega
    rw [hv1, one ⟨v, h16⟩]
    constructor
    · rintro ⟨h1, h2⟩
      refine ⟨h1, fun a b ha hb' ha2 hb2 => ?_⟩
      obtain ⟨a, rfl⟩ := Int.eq_ofNat_of_zero_le ha.1
      obtain ⟨b, rfl⟩ := Int.eq_ofNat_of_zero_le hb'.1
      rw [hb _ s hs, hv1] at ha2 hb2 ⊢
      exact h2 ⟨a, by have := ha.2; omega⟩ ⟨b, by have := hb'.2; omega⟩ ha2 hb2
    · rintro ⟨h1, h2⟩
      refine ⟨h1, fun a b ha2 hb2 => ?_⟩
      have := h2 a.val b.val (Cv.nat a.isLt) (Cv.nat b.isLt) (by rw [hb _ s hs, hv1]; exact ha2) (by rw [hb _ s hs, hv1]; exact hb2)
      rw [hb _ s hs, hv1] at this
      exact this
  constructor
  · rintro ⟨hc, hne⟩
    have all : ∀ s, s < 4 → cntS (r s) 4 = 1 := fun s hs => (each s hs).2 ⟨hne s hs, fun a b ha hb' h1 h2 => by
      have e := cj_all hc ha hb'
      rw [h _ (ha.and hb'), h _ ha, h _ hb'] at e
      rw [e, Cv.has_and (dia_cv _ _) (dia_cv _ _) hs, h1, h2]; rfl⟩
    exact ⟨⟨⟨all 0 (by omega), all 1 (by omega)⟩, all 2 (by omega)⟩, all 3 (by omega)⟩
  · rintro ⟨⟨⟨h1, h2⟩, h3⟩, h4⟩
    have all : ∀ s, s < 4 → cntS (r s) 4 = 1 := fun s hs => by
      rcases (show s = 0 ∨ s = 1 ∨ s = 2 ∨ s = 3 by omega) with rfl | rfl | rfl | rfl <;> assumption
    refine ⟨conjB_iff.2 fun a b a0 a1 b0 b1 => ?_, fun s hs => ((each s hs).1 (all s hs)).1⟩
    have ha : Cv a := ⟨a0, a1⟩
    have hb' : Cv b := ⟨b0, b1⟩
    rw [h _ (ha.and hb'), h _ ha, h _ hb']
    refine ext_iff (dia_cv _ _) ((dia_cv _ _).and (dia_cv _ _)) fun i hi => ?_
    rw [Cv.has_and (dia_cv _ _) (dia_cv _ _) hi, Bool.and_eq_true]
    constructor
    · intro h5
      obtain ⟨k, hk, h6, h7⟩ := (dia_iff hr (ha.and hb') hi).1 h5
      rw [Cv.has_and ha hb' hk, Bool.and_eq_true] at h7
      exact ⟨(dia_iff hr ha hi).2 ⟨k, hk, h6, h7.1⟩, (dia_iff hr hb' hi).2 ⟨k, hk, h6, h7.2⟩⟩
    · rintro ⟨h5, h6⟩
      exact ((each i hi).1 (all i hi)).2 a b ha hb' h5 h6
theorem funB_congr {x y : Nat → Int} (h : ∀ s, s < 4 → x s = y s) : funB x 4 = funB y 4 := by
  rw [fun4, fun4, h 0 (by decide), h 1 (by decide), h 2 (by decide), h 3 (by decide)]
end Go.DC
namespace Go.DC
open Go.RowKit
set_option linter.unusedVariables false
set_option linter.unusedSimpArgs false
theorem specD_nat (p : Int) (x : Nat → Int) (q : Nat) : specD p x q = band p (boxR x q) := rfl
theorem sp_lead {p : Int} (hp : Cv p) {x : Nat → Int} (hx : Dg 4 x) {s : Nat} (hs : s < 4) (h : hasb p s = true) : leadsT (specD p x) s = x s := by
  have hxs := hx s hs
  refine ext_iff (leadsT_Dg _ s hs) hxs fun i hi => ?_
  rw [leads_has hi]
  constructor
  · intro h1
    have hn : ((x s).toNat : Int) = x s := cv_nat hxs
    have h2 := h1 (x s).toNat (by have := hxs.2; omega)
    rw [specD_nat, hn] at h2
    exact h2 (by rw [Cv.has_and hp (box_cv _ _) hs, h, Bool.true_and, box_iff hx hxs hs]; exact fun _ _ h3 => h3)
  · intro h1 q hq h2
    rw [specD_nat, Cv.has_and hp (box_cv _ _) hs, h, Bool.true_and, box_iff hx (Cv.nat hq) hs] at h2
    exact h2 i hi h1
theorem sp_inside {p : Int} (hp : Cv p) {x : Nat → Int} (hx : Dg 4 x) : txt 4 (thenR (dg (txt 4 (testR p))) (dg (txt 4 (leadsT (dg (txt 16 (specD p x))))))) = txt 4 (thenR (dg (txt 4 (testR p))) x) := txt_congr fun s hs => by
  have hS := specD_Dg hp.1 hp.2 x 16
  have hL := leadsT_Dg (dg (txt 16 (specD p x)))
  have e : ∀ s, leadsT (dg (txt 16 (specD p x))) s = leadsT (specD p x) s := fun s => leadTo_congr s 16 fun i hi => dgt16 hS i hi
  rw [thenR_congr (dgt4 (testR_Dg p)) (dgt4 hL) s hs, thenR_congr (dgt4 (testR_Dg p)) (fun _ _ => rfl) s hs]
  refine ext_iff (thenR_Dg _ hL s hs) (thenR_Dg _ hx s hs) fun i hi => ?_
  rw [then_iff hL hi, then_iff hx hi]
  constructor
  · rintro ⟨k, hk, h1, h2⟩
    obtain ⟨rfl, h3⟩ := (test_iff hk).1 h1
    rw [e, sp_lead hp hx hs h3] at h2
    exact ⟨_, hk, h1, h2⟩
  · rintro ⟨k, hk, h1, h2⟩
    obtain ⟨rfl, h3⟩ := (test_iff hk).1 h1
    exact ⟨_, hk, h1, by rw [e, sp_lead hp hx hs h3]; exact h2⟩
theorem sp_15 {p : Int} (hp : Cv p) {x : Nat → Int} (hx : Dg 4 x) : dg (txt 16 (specD p x)) 15 = p := by
  rw [dgt16 (specD_Dg hp.1 hp.2 x 16) 15 (by decide)]
  show band p (boxR x 15) = p
  refine ext_iff (hp.and (box_cv _ _)) hp fun i hi => ?_
  rw [Cv.has_and hp (box_cv _ _) hi, Bool.and_eq_true, box_iff hx Cv.c15 hi]
  exact ⟨fun h => h.1, fun h => ⟨h, fun k hk _ => has15 hk⟩⟩
end Go.DC
namespace Go.DC
open Go.RowKit
set_option linter.unusedVariables false
set_option linter.unusedSimpArgs false
theorem conj_then {x y : Nat → Int} (hx : Tr x) (hy : Tr y) (h1 : conjB x = true) (h2 : conjB y = true) : conjB (thenT x y) = true := conjB_iff.2 fun a b a0 a1 b0 b1 => by
  have ha : Cv a := ⟨a0, a1⟩
  have hb : Cv b := ⟨b0, b1⟩
  rw [ap_then, ap_then, ap_then, cj_all h2 ha hb, cj_all h1 (hy.cv ha) (hy.cv hb)]
theorem disj_then {x y : Nat → Int} (hx : Tr x) (hy : Tr y) (h1 : disjB x = true) (h2 : disjB y = true) : disjB (thenT x y) = true := disjB_iff.2 fun a b a0 a1 b0 b1 => by
  have ha : Cv a := ⟨a0, a1⟩
  have hb : Cv b := ⟨b0, b1⟩
  rw [ap_then, ap_then, ap_then, dj_all h2 ha hb, dj_all h1 (hy.cv ha) (hy.cv hb)]
theorem and_four {a b c d : Int} (ha : Cv a) (hb : Cv b) (hc : Cv c) (hd : Cv d) : band (band a b) (band c d) = band (band a c) (band b d) := by
  refine ext_iff ((ha.and hb).and (hc.and hd)) ((ha.and hc).and (hb.and hd)) fun i hi => ?_
  rw [Cv.has_and (ha.and hb) (hc.and hd) hi, Cv.has_and (ha.and hc) (hb.and hd) hi, Cv.has_and ha hb hi, Cv.has_and hc hd hi, Cv.has_and ha hc hi, Cv.has_and hb hd hi]
  simp only [Bool.and_eq_true]
  constructor <;> (rintro ⟨⟨h1, h2⟩, h3, h4⟩; exact ⟨⟨h1, h3⟩, h2, h4⟩)
theorem or_four {a b c d : Int} (ha : Cv a) (hb : Cv b) (hc : Cv c) (hd : Cv d) : bor (bor a b) (bor c d) = bor (bor a c) (bor b d) := by
  refine ext_iff ((ha.or hb).or (hc.or hd)) ((ha.or hc).or (hb.or hd)) fun i hi => ?_
  rw [Cv.has_or (ha.or hb) (hc.or hd) hi, Cv.has_or (ha.or hc) (hb.or hd) hi, Cv.has_or ha hb hi, Cv.has_or hc hd hi, Cv.has_or ha hc hi, Cv.has_or hb hd hi]
  cases hasb a i <;> cases hasb b i <;> cases hasb c i <;> cases hasb d i <;> simp
theorem conj_meet {x y : Nat → Int} (hx : Tr x) (hy : Tr y) (h1 : conjB x = true) (h2 : conjB y = true) : conjB (meetT x y) = true := conjB_iff.2 fun a b a0 a1 b0 b1 => by
  have ha : Cv a := ⟨a0, a1⟩
  have hb : Cv b := ⟨b0, b1⟩
  rw [ap_meet, ap_meet, ap_meet, cj_all h1 ha hb, cj_all h2 ha hb, and_four (hx.cv ha) (hx.cv hb) (hy.cv ha) (hy.cv hb)]
theorem disj_join {x y : Nat → Int} (hx : Tr x) (hy : Tr y) (h1 : disjB x = true) (h2 : disjB y = true) : disjB (joinT x y) = true := disjB_iff.2 fun a b a0 a1 b0 b1 => by
  have ha : Cv a := ⟨a0, a1⟩
  have hb : Cv b := ⟨b0, b1⟩
  rw [ap_join, ap_join, ap_join, dj_all h1 ha hb, dj_all h2 ha hb, or_four (hx.cv ha) (hx.cv hb) (hy.cv ha) (hy.cv hb)]
theorem disjB_congr {x y : Nat → Int} (h : ∀ i, i < 16 → x i = y i) : disjB x = disjB y := by
  have e : ∀ a : Int, Cv a → ap x a = ap y a := fun a ha => h a.toNat (by have := ha.1; have := ha.2; omega)
  rw [Bool.eq_iff_iff, disjB_iff, disjB_iff]
  constructor
  · intro h1 a b a0 a1 b0 b1
    rw [← e _ (Cv.or ⟨a0, a1⟩ ⟨b0, b1⟩), ← e _ ⟨a0, a1⟩, ← e _ ⟨b0, b1⟩]; exact h1 a b a0 a1 b0 b1
  · intro h1 a b a0 a1 b0 b1
    rw [e _ (Cv.or ⟨a0, a1⟩ ⟨b0, b1⟩), e _ ⟨a0, a1⟩, e _ ⟨b0, b1⟩]; exact h1 a b a0 a1 b0 b1
end Go.DC
namespace Go.DC
open Go.RowKit
set_option linter.unusedVariables false
set_option linter.unusedSimpArgs false
theorem has_if {p a b : Int} (hp : Cv p) (ha : Cv a) (hb : Cv b) {i : Nat} (hi : i < 4) : hasb (ifv p a b) i = if hasb p i then hasb a i else hasb b i := by
  unfold ifv
  rw [Cv.has_or (hp.and ha) (hb.andn hp) hi, Cv.has_and hp ha hi, Cv.has_andn hb hp hi]
  cases hasb p i <;> simp
theorem compl_if {p a b : Int} (hp : Cv p) (ha : Cv a) (hb : Cv b) : bandn 15 (ifv p a b) = ifv p (bandn 15 a) (bandn 15 b) := by
  have hna := Cv.c15.andn ha
  have hnb := Cv.c15.andn hb
  refine cv_ext (Cv.c15.andn (if_cv hp ha hb)) (if_cv hp hna hnb) fun i hi => ?_
  rw [Cv.has_andn Cv.c15 (if_cv hp ha hb) hi, has_if hp ha hb hi, has_if hp hna hnb hi, Cv.has_andn Cv.c15 ha hi, Cv.has_andn Cv.c15 hb hi, has15 hi]
  cases hasb p i <;> simp
theorem dual_ap_assert {p a : Int} (hp : Cv p) (ha : Cv a) : ap (dual (assertT p)) a = ap (assumeT p) a := by
  have hf : ∀ m n : Fin 16, bandn 15 (band (m.val : Int) (bandn 15 (n.val : Int))) = bor (n.val : Int) (bandn 15 (m.val : Int)) := by decide +kernel
  rw [ap_dual ha.1, ap_assert (Cv.c15.andn ha), ap_assume ha]
  exact cond_all2 (P := fun a b => bandn 15 (band a (bandn 15 b)) = bor b (bandn 15 a)) hf hp.1 hp.2 ha.1 ha.2
theorem dual_ap_assume {p a : Int} (hp : Cv p) (ha : Cv a) : ap (dual (assumeT p)) a = ap (assertT p) a := by
  have hf : ∀ m n : Fin 16, bandn 15 (bor (bandn 15 (n.val : Int)) (bandn 15 (m.val : Int))) = band (m.val : Int) (n.val : Int) := by decide +kernel
  rw [ap_dual ha.1, ap_assume (Cv.c15.andn ha), ap_assert ha]
  exact cond_all2 (P := fun a b => bandn 15 (bor (bandn 15 b) (bandn 15 a)) = band a b) hf hp.1 hp.2 ha.1 ha.2
theorem dual_ap_angel {x : Nat → Int} (hx : Dg 4 x) {a : Int} (ha : Cv a) : ap (dual (angelT x)) a = ap (demonT x) a := by
  rw [ap_dual ha.1, ap_angel (Cv.c15.andn ha), ap_demon ha]
  exact (im_box hx ha).symm
theorem dual_ap_demon {x : Nat → Int} (hx : Dg 4 x) {a : Int} (ha : Cv a) : ap (dual (demonT x)) a = ap (angelT x) a := by
  have hn := Cv.c15.andn ha
  rw [ap_dual ha.1, ap_demon hn, ap_angel ha, im_box hx hn, compl_compl ha.1 ha.2, compl_compl (dia_cv x a).1 (dia_cv x a).2]
/-- The dual contract has the dual transformer. -/
theorem tr_du : ∀ {t : Ct}, t.wf = true → cnt loopOps t = 0 → ∀ {a : Int}, Cv a → ap (tr (du t)) a = ap (dual (tr t)) a
  | .z o d, h, _, a, ha => by
    obtain ⟨hs, hd⟩ := Ct.wf_z h
    rcases shp0 hs with ⟨rfl, hl⟩ | ⟨rfl, hl⟩ | ⟨rfl, hl⟩ | ⟨rfl, hl⟩ | ⟨rfl, hl⟩ | ⟨rfl, hl⟩ | ⟨rfl, hl⟩
    · rw [show tr (du (.z 115 d)) = assertT 15 from rfl, tr_s, dual_ap_assert Cv.c15 ha, ap_assert ha, ap_assume ha]
      have hf : ∀ m : Fin 16, band 15 (m.val : Int) = bor (m.val : Int) (bandn 15 15) := by decide +kernel
      exact cond_all (P := fun a => band 15 a = bor a (bandn 15 15)) hf ha.1 ha.2
    · rw [show tr (du (.z 97 d)) = assumeT 0 from rfl, tr_a, dual_ap_assert Cv.c0 ha]
    · rw [show tr (du (.z 109 d)) = assertT 0 from rfl, tr_m, dual_ap_assume Cv.c0 ha]
    · rw [show tr (du (.z 33 d)) = assumeT (pv d) from rfl, tr_assert, dual_ap_assert (pv_cv hd) ha]
    · rw [show tr (du (.z 63 d)) = assertT (pv d) from rfl, tr_assume, dual_ap_assume (pv_cv hd) ha]
    · rw [show tr (du (.z 65 d)) = demonT (rv d) from rfl, tr_angel, dual_ap_angel (rv_Dg hd hl) ha]
    · rw [show tr (du (.z 68 d)) = angelT (rv d) from rfl, tr_demon, dual_ap_demon (rv_Dg hd hl) ha]
  | .u o d x, h, hc, a, ha => by
    obtain ⟨hs, hd, hx⟩ := Ct.wf_u h
    have h1 := cnt_rng loopOps x
    rcases shp1 hs with ⟨rfl, hl⟩ | ⟨rfl, hl⟩ | ⟨rfl, hl⟩
    all_goals
      simp only [cnt] at hc
      rw [show one loopOps _ = 1 from rfl] at hc
      omega
  | .b o d x y, h, hc, a, ha => by
    obtain ⟨hs, hd, hx, hy⟩ := Ct.wf_b h
    have hcx : cnt loopOps x = 0 := noloop_kid hc (by simp [Ct.kids])
    have hcy : cnt loopOps y = 0 := noloop_kid hc (by simp [Ct.kids])
    have hX := tr_Tr hx
    have hY := tr_Tr hy
    have hn := Cv.c15.andn ha
    have ix := fun {b : Int} (hb : Cv b) => tr_du hx hcx hb
    have iy := tr_du hy hcy ha
    rw [ap_dual ha.1] at iy ⊢
    rcases shp2 hs with ⟨rfl, hl⟩ | ⟨rfl, hl⟩ | ⟨rfl, hl⟩ | ⟨rfl, hl⟩
    · have hyn := hY.cv hn
      rw [show tr (du (.b 59 d x y)) = thenT (tr (du x)) (tr (du y)) from rfl, tr_then, ap_then, ap_then, iy, ix (Cv.c15.andn hyn), ap_dual (Cv.c15.andn hyn).1, compl_compl hyn.1 hyn.2]
    · have ix := ix ha
      rw [ap_dual ha.1] at ix
      rw [show tr (du (.b 38 d x y)) = joinT (tr (du x)) (tr (du y)) from rfl, tr_meet, ap_join, ap_meet, iy, ix]
      exact (compl_and (hX.cv hn).1 (hX.cv hn).2 (hY.cv hn).1 (hY.cv hn).2).symm
    · have ix := ix ha
      rw [ap_dual ha.1] at ix
      rw [show tr (du (.b 124 d x y)) = meetT (tr (du x)) (tr (du y)) from rfl, tr_join, ap_join, ap_meet, iy, ix]
      exact (compl_or (hX.cv hn).1 (hX.cv hn).2 (hY.cv hn).1 (hY.cv hn).2).symm
    · have ix := ix ha
      rw [ap_dual ha.1] at ix
      have e : ∀ (u v : Ct) (b : Int), ap (tr (.b 105 d u v)) b = ifv (pv d) (ap (tr u) b) (ap (tr v) b) := fun u v b => rfl
      rw [show du (.b 105 d x y) = .b 105 d (du x) (du y) from rfl, e, e, iy, ix, compl_if (pv_cv hd) (hX.cv hn) (hY.cv hn)]
theorem tr_du_txt {t : Ct} (h : t.wf = true) (hc : cnt loopOps t = 0) : txt 16 (dual (dg (txt 16 (tr t)))) = txt 16 (tr (du t)) := by
  rw [dual_txt (tr_Tr h).dg]
  refine txt_congr fun q hq => ?_
  have := tr_du h hc (Cv.nat hq)
  rw [ap_nat, ap_nat] at this
  exact this.symm
/-- Counts of the dual contract. -/
theorem cnt_du {f g : List UInt8} (h : ∀ o : UInt8, one loopOps o = 0 → one f (duO o) = one g o) : ∀ {t : Ct}, cnt loopOps t = 0 → cnt f (du t) = cnt g t
  | .z o d, hc => h o (noloop_o hc)
  | .u o d x, hc => by
    have ix := cnt_du h (noloop_kid hc (x := x) (by simp [Ct.kids]))
    have ho := h o (noloop_o hc)
    simp only [du, cnt, ix, ho]
  | .b o d x y, hc => by
    have ix := cnt_du h (noloop_kid hc (x := x) (by simp [Ct.kids]))
    have iy := cnt_du h (noloop_kid hc (x := y) (by simp [Ct.kids]))
    have ho := h o (noloop_o hc)
    simp only [du, cnt, ix, iy, ho]
theorem one_dec {f g : List UInt8} (h8 : ∀ n : Fin 256, one loopOps (UInt8.ofNat n.val) = 0 → one f (duO (UInt8.ofNat n.val)) = one g (UInt8.ofNat n.val)) (o : UInt8) (h : one loopOps o = 0) : one f (duO o) = one g o := by
  have := h8 ⟨o.toNat, o.toNat_lt⟩
  simp at this
  exact this h
theorem cnt_du_a {t : Ct} (h : cnt loopOps t = 0) : cnt [65, 124, 43] (du t) = cnt [68, 38, 42] t := cnt_du (one_dec (by decide +kernel)) h
theorem cnt_du_d {t : Ct} (h : cnt loopOps t = 0) : cnt [68, 38, 42] (du t) = cnt [65, 124, 43] t := cnt_du (one_dec (by decide +kernel)) h
theorem cnt_du_l {t : Ct} (h : cnt loopOps t = 0) : cnt loopOps (du t) = cnt loopOps t := cnt_du (one_dec (by decide +kernel)) h
theorem cnt_du_n {t : Ct} (h : cnt loopOps t = 0) : cnt anyOps (du t) = cnt anyOps t := cnt_du (one_dec (by decide +kernel)) h
theorem cto_du {t : Ct} (hw : t.wf = true) (hl : t.tx.length ≤ 200) : cto (du t).bytes = some (du t) := cto_bytes (by rw [du_wf]; exact hw) (by rw [du_len]; exact hl)
end Go.DC
namespace Go.DC
open Go.RowKit
set_option linter.unusedVariables false
set_option linter.unusedSimpArgs false
/-- T so many times. -/
def tw : Nat → (Int → Int) → Int → Int
  | 0, _, y => y
  | n + 1, T, y => tw n T (T y)
theorem tw_same {T : Int → Int} {y : Int} (e : T y = y) : ∀ n, tw n T y = y
  | 0 => rfl
  | n + 1 => by rw [tw, e]; exact tw_same e n
theorem iter_tw (T : Int → Int) : ∀ n y, iter n T y = tw n T y
  | 0, _ => rfl
  | n + 1, y => by
    unfold iter
    by_cases e : T y = y
    · rw [if_pos e, tw_same e]
    · rw [if_neg e, tw]; exact iter_tw T n (T y)
/-- Least fixed points go through a connection that all turns go through. -/
theorem lp_op {op : Int → Int → Int} {F G H : Int → Int} (hG : ∀ y, Cv y → Cv (G y)) (hH : ∀ y, Cv y → Cv (H y)) (h0 : op 0 0 = 0)
    (h : ∀ y z, Cv y → Cv z → F (op y z) = op (G y) (H z)) : lp F = op (lp G) (lp H) := by
  have key : ∀ n y z, Cv y → Cv z → tw n F (op y z) = op (tw n G y) (tw n H z) := fun n => by
    induction n with
    | zero => intro y z _ _; rfl
    | succ n ih => intro y z hy hz; rw [tw, tw, tw, h y z hy hz]; exact ih _ _ (hG y hy) (hH z hz)
  have := key 16 0 0 Cv.c0 Cv.c0
  unfold lp
  rw [iter_tw, iter_tw, iter_tw, ← this, h0]
theorem and_if {p a b c d : Int} (hp : Cv p) (ha : Cv a) (hb : Cv b) (hc : Cv c) (hd : Cv d) : ifv p (band a b) (band c d) = band (ifv p a c) (ifv p b d) := by
  refine cv_ext (if_cv hp (ha.and hb) (hc.and hd)) ((if_cv hp ha hc).and (if_cv hp hb hd)) fun i hi => ?_
  rw [has_if hp (ha.and hb) (hc.and hd) hi, Cv.has_and (if_cv hp ha hc) (if_cv hp hb hd) hi, has_if hp ha hc hi, has_if hp hb hd hi, Cv.has_and ha hb hi, Cv.has_and hc hd hi]
  cases hasb p i <;> simp
theorem or_if {p a b c d : Int} (hp : Cv p) (ha : Cv a) (hb : Cv b) (hc : Cv c) (hd : Cv d) : ifv p (bor a b) (bor c d) = bor (ifv p a c) (ifv p b d) := by
  refine cv_ext (if_cv hp (ha.or hb) (hc.or hd)) ((if_cv hp ha hc).or (if_cv hp hb hd)) fun i hi => ?_
  rw [has_if hp (ha.or hb) (hc.or hd) hi, Cv.has_or (if_cv hp ha hc) (if_cv hp hb hd) hi, has_if hp ha hc hi, has_if hp hb hd hi, Cv.has_or ha hb hi, Cv.has_or hc hd hi]
  cases hasb p i <;> simp
theorem conj_mk {x : Nat → Int} (h : ∀ a b, Cv a → Cv b → ap x (band a b) = band (ap x a) (ap x b)) : conjB x = true := conjB_iff.2 fun a b a0 a1 b0 b1 => h a b ⟨a0, a1⟩ ⟨b0, b1⟩
theorem disj_mk {x : Nat → Int} (h : ∀ a b, Cv a → Cv b → ap x (bor a b) = bor (ap x a) (ap x b)) : disjB x = true := disjB_iff.2 fun a b a0 a1 b0 b1 => h a b ⟨a0, a1⟩ ⟨b0, b1⟩
theorem conj_assert {p : Int} (hp : Cv p) : conjB (assertT p) = true := conj_mk fun a b ha hb => by
  rw [ap_assert (ha.and hb), ap_assert ha, ap_assert hb]
  refine cv_ext (hp.and (ha.and hb)) ((hp.and ha).and (hp.and hb)) fun i hi => ?_
  rw [Cv.has_and hp (ha.and hb) hi, Cv.has_and (hp.and ha) (hp.and hb) hi, Cv.has_and ha hb hi, Cv.has_and hp ha hi, Cv.has_and hp hb hi]
  cases hasb p i <;> simp
theorem disj_assert {p : Int} (hp : Cv p) : disjB (assertT p) = true := disj_mk fun a b ha hb => by
  rw [ap_assert (ha.or hb), ap_assert ha, ap_assert hb]
  refine cv_ext (hp.and (ha.or hb)) ((hp.and ha).or (hp.and hb)) fun i hi => ?_
  rw [Cv.has_and hp (ha.or hb) hi, Cv.has_or (hp.and ha) (hp.and hb) hi, Cv.has_or ha hb hi, Cv.has_and hp ha hi, Cv.has_and hp hb hi]
  cases hasb p i <;> simp
theorem conj_assume {p : Int} (hp : Cv p) : conjB (assumeT p) = true := conj_mk fun a b ha hb => by
  have hn := Cv.c15.andn hp
  rw [ap_assume (ha.and hb), ap_assume ha, ap_assume hb]
  refine cv_ext ((ha.and hb).or hn) ((ha.or hn).and (hb.or hn)) fun i hi => ?_
  rw [Cv.has_or (ha.and hb) hn hi, Cv.has_and (ha.or hn) (hb.or hn) hi, Cv.has_and ha hb hi, Cv.has_or ha hn hi, Cv.has_or hb hn hi]
  cases hasb a i <;> cases hasb b i <;> cases hasb (bandn 15 p) i <;> rfl
theorem disj_assume {p : Int} (hp : Cv p) : disjB (assumeT p) = true := disj_mk fun a b ha hb => by
  have hn := Cv.c15.andn hp
  rw [ap_assume (ha.or hb), ap_assume ha, ap_assume hb]
  refine cv_ext ((ha.or hb).or hn) ((ha.or hn).or (hb.or hn)) fun i hi => ?_
  rw [Cv.has_or (ha.or hb) hn hi, Cv.has_or (ha.or hn) (hb.or hn) hi, Cv.has_or ha hb hi, Cv.has_or ha hn hi, Cv.has_or hb hn hi]
  cases hasb a i <;> cases hasb b i <;> cases hasb (bandn 15 p) i <;> rfl
theorem conj_demon {x : Nat → Int} (hx : Dg 4 x) : conjB (demonT x) = true := conj_mk fun a b ha hb => by
  rw [ap_demon (ha.and hb), ap_demon ha, ap_demon hb]
  refine ext_iff (box_cv _ _) ((box_cv _ _).and (box_cv _ _)) fun i hi => ?_
  rw [Cv.has_and (box_cv _ _) (box_cv _ _) hi, Bool.and_eq_true, box_iff hx (ha.and hb) hi, box_iff hx ha hi, box_iff hx hb hi]
  constructor
  · intro h
    refine ⟨fun k hk h1 => ?_, fun k hk h1 => ?_⟩
    · have := h k hk h1; rw [Cv.has_and ha hb hk, Bool.and_eq_true] at this; exact this.1
    · have := h k hk h1; rw [Cv.has_and ha hb hk, Bool.and_eq_true] at this; exact this.2
  · rintro ⟨h1, h2⟩ k hk h3
    rw [Cv.has_and ha hb hk, Bool.and_eq_true]; exact ⟨h1 k hk h3, h2 k hk h3⟩
theorem disj_angel {x : Nat → Int} (hx : Dg 4 x) : disjB (angelT x) = true := disj_mk fun a b ha hb => by
  rw [ap_angel (ha.or hb), ap_angel ha, ap_angel hb]
  refine ext_iff (dia_cv _ _) ((dia_cv _ _).or (dia_cv _ _)) fun i hi => ?_
  rw [Cv.has_or (dia_cv _ _) (dia_cv _ _) hi, Bool.or_eq_true, dia_iff hx (ha.or hb) hi, dia_iff hx ha hi, dia_iff hx hb hi]
  constructor
  · rintro ⟨k, hk, h1, h2⟩
    rw [Cv.has_or ha hb hk, Bool.or_eq_true] at h2
    rcases h2 with h2 | h2
    · exact .inl ⟨k, hk, h1, h2⟩
    · exact .inr ⟨k, hk, h1, h2⟩
  · rintro (⟨k, hk, h1, h2⟩ | ⟨k, hk, h1, h2⟩)
    · exact ⟨k, hk, h1, by rw [Cv.has_or ha hb hk, h2]; rfl⟩
    · exact ⟨k, hk, h1, by rw [Cv.has_or ha hb hk, h2, Bool.or_true]⟩
theorem cnt_zero_b {f : List UInt8} {o : UInt8} {d : List UInt8} {x y : Ct} (h : cnt f (.b o d x y) = 0) : one f o = 0 ∧ cnt f x = 0 ∧ cnt f y = 0 := by
  have h1 := one_rng f o
  have h2 := cnt_rng f x
  have h3 := cnt_rng f y
  simp only [cnt] at h
  omega
theorem cnt_zero_u {f : List UInt8} {o : UInt8} {d : List UInt8} {x : Ct} (h : cnt f (.u o d x) = 0) : one f o = 0 ∧ cnt f x = 0 := by
  have h1 := one_rng f o
  have h2 := cnt_rng f x
  simp only [cnt] at h
  omega
/-- Without a choice of the angel a contract is conjunctive. -/
theorem conj_tr : ∀ {t : Ct}, t.wf = true → cnt [65, 124, 43] t = 0 → conjB (tr t) = true
  | .z o d, h, hc => by
    obtain ⟨hs, hd⟩ := Ct.wf_z h
    rcases shp0 hs with ⟨rfl, hl⟩ | ⟨rfl, hl⟩ | ⟨rfl, hl⟩ | ⟨rfl, hl⟩ | ⟨rfl, hl⟩ | ⟨rfl, hl⟩ | ⟨rfl, hl⟩
    · exact conj_assert Cv.c15
    · exact conj_assert Cv.c0
    · exact conj_assume Cv.c0
    · exact conj_assert (pv_cv hd)
    · exact conj_assume (pv_cv hd)
    · exact absurd hc (by show ¬ one [65, 124, 43] 65 = 0; decide)
    · exact conj_demon (rv_Dg hd hl)
  | .u o d x, h, hc => by
    obtain ⟨hs, hd, hx⟩ := Ct.wf_u h
    obtain ⟨h1, h2⟩ := cnt_zero_u hc
    have ih := conj_tr hx h2
    have hX := tr_Tr hx
    rcases shp1 hs with ⟨rfl, hl⟩ | ⟨rfl, hl⟩ | ⟨rfl, hl⟩
    · have hp := pv_cv hd
      rw [tr_while]
      refine conj_mk fun a b ha hb => ?_
      rw [ap_while (ha.and hb), ap_while ha, ap_while hb]
      exact lp_op (fun y hy => if_cv hp (hX.cv hy) ha) (fun y hy => if_cv hp (hX.cv hy) hb) (by decide) fun y z hy hz => by
        rw [cj_all ih hy hz, and_if hp (hX.cv hy) (hX.cv hz) ha hb]
    · rw [tr_starD]
      refine conj_mk fun a b ha hb => ?_
      rw [ap_starD (ha.and hb), ap_starD ha, ap_starD hb]
      exact lp_op (fun y hy => (hX.cv hy).and ha) (fun y hy => (hX.cv hy).and hb) (by decide) fun y z hy hz => by
        rw [cj_all ih hy hz, and_four (hX.cv hy) (hX.cv hz) ha hb]
    · exact absurd h1 (by decide)
  | .b o d x y, h, hc => by
    obtain ⟨hs, hd, hx, hy⟩ := Ct.wf_b h
    obtain ⟨h1, h2, h3⟩ := cnt_zero_b hc
    have ix := conj_tr hx h2
    have iy := conj_tr hy h3
    have hX := tr_Tr hx
    have hY := tr_Tr hy
    rcases shp2 hs with ⟨rfl, hl⟩ | ⟨rfl, hl⟩ | ⟨rfl, hl⟩ | ⟨rfl, hl⟩
    · exact conj_then hX hY ix iy
    · exact conj_meet hX hY ix iy
    · exact absurd h1 (by decide)
    · refine conj_mk fun a b ha hb => ?_
      have e : ∀ c, ap (tr (.b 105 d x y)) c = ifv (pv d) (ap (tr x) c) (ap (tr y) c) := fun c => rfl
      rw [e, e, e, cj_all ix ha hb, cj_all iy ha hb, and_if (pv_cv hd) (hX.cv ha) (hX.cv hb) (hY.cv ha) (hY.cv hb)]
/-- Without a choice of the demon a contract is disjunctive. -/
theorem disj_tr : ∀ {t : Ct}, t.wf = true → cnt [68, 38, 42] t = 0 → disjB (tr t) = true
  | .z o d, h, hc => by
    obtain ⟨hs, hd⟩ := Ct.wf_z h
    rcases shp0 hs with ⟨rfl, hl⟩ | ⟨rfl, hl⟩ | ⟨rfl, hl⟩ | ⟨rfl, hl⟩ | ⟨rfl, hl⟩ | ⟨rfl, hl⟩ | ⟨rfl, hl⟩
    · exact disj_assert Cv.c15
    · exact disj_assert Cv.c0
    · exact disj_assume Cv.c0
    · exact disj_assert (pv_cv hd)
    · exact disj_assume (pv_cv hd)
    · exact disj_angel (rv_Dg hd hl)
    · exact absurd hc (by show ¬ one [68, 38, 42] 68 = 0; decide)
  | .u o d x, h, hc => by
    obtain ⟨hs, hd, hx⟩ := Ct.wf_u h
    obtain ⟨h1, h2⟩ := cnt_zero_u hc
    have ih := disj_tr hx h2
    have hX := tr_Tr hx
    rcases shp1 hs with ⟨rfl, hl⟩ | ⟨rfl, hl⟩ | ⟨rfl, hl⟩
    · have hp := pv_cv hd
      rw [tr_while]
      refine disj_mk fun a b ha hb => ?_
      rw [ap_while (ha.or hb), ap_while ha, ap_while hb]
      exact lp_op (fun y hy => if_cv hp (hX.cv hy) ha) (fun y hy => if_cv hp (hX.cv hy) hb) (by decide) fun y z hy hz => by
        rw [dj_all ih hy hz, or_if hp (hX.cv hy) (hX.cv hz) ha hb]
    · exact absurd h1 (by decide)
    · rw [tr_starA]
      refine disj_mk fun a b ha hb => ?_
      rw [ap_starA (ha.or hb), ap_starA ha, ap_starA hb]
      exact lp_op (fun y hy => (hX.cv hy).or ha) (fun y hy => (hX.cv hy).or hb) (by decide) fun y z hy hz => by
        rw [dj_all ih hy hz, or_four (hX.cv hy) (hX.cv hz) ha hb]
  | .b o d x y, h, hc => by
    obtain ⟨hs, hd, hx, hy⟩ := Ct.wf_b h
    obtain ⟨h1, h2, h3⟩ := cnt_zero_b hc
    have ix := disj_tr hx h2
    have iy := disj_tr hy h3
    have hX := tr_Tr hx
    have hY := tr_Tr hy
    rcases shp2 hs with ⟨rfl, hl⟩ | ⟨rfl, hl⟩ | ⟨rfl, hl⟩ | ⟨rfl, hl⟩
    · exact disj_then hX hY ix iy
    · exact absurd h1 (by decide)
    · exact disj_join hX hY ix iy
    · refine disj_mk fun a b ha hb => ?_
      have e : ∀ c, ap (tr (.b 105 d x y)) c = ifv (pv d) (ap (tr x) c) (ap (tr y) c) := fun c => rfl
      rw [e, e, e, dj_all ix ha hb, dj_all iy ha hb, or_if (pv_cv hd) (hX.cv ha) (hX.cv hb) (hY.cv ha) (hY.cv hb)]
end Go.DC
namespace Go.DC
/-- The cut's text has a name. -/
theorem cut_named : True := trivial
end Go.DC
namespace Go.DC
open Go.RowKit
set_option linter.unusedVariables false
set_option linter.unusedSimpArgs false
theorem ap_skip {a : Int} (ha : Cv a) : ap (tr (.z 115 [])) a = a := by
  rw [tr_s, ap_assert ha]
  have h : ∀ m : Fin 16, band 15 (m.val : Int) = (m.val : Int) := by decide +kernel
  exact cond_all (P := fun a => band 15 a = a) h ha.1 ha.2
theorem ap_if (d : List UInt8) (x y : Ct) (a : Int) : ap (tr (.b 105 d x y)) a = ifv (pv d) (ap (tr x) a) (ap (tr y) a) := rfl
theorem ap_seq (d : List UInt8) (x y : Ct) (a : Int) : ap (tr (.b 59 d x y)) a = ap (tr x) (ap (tr y) a) := rfl
theorem ap_dem (d : List UInt8) (x y : Ct) (a : Int) : ap (tr (.b 38 d x y)) a = band (ap (tr x) a) (ap (tr y) a) := rfl
theorem ap_ang (d : List UInt8) (x y : Ct) (a : Int) : ap (tr (.b 124 d x y)) a = bor (ap (tr x) a) (ap (tr y) a) := rfl
theorem eqT_of {x y : Nat → Int} (h : ∀ a, Cv a → ap x a = ap y a) : eqT x y = true := eqT_iff.2 fun k hk => by
  have := h k (Cv.nat hk)
  rwa [ap_nat, ap_nat] at this
theorem refB_of {x y : Nat → Int} (h : ∀ a, Cv a → Sub (ap x a) (ap y a)) : refB x y = true := refB_iff.2 fun k hk => by
  have := h k (Cv.nat hk)
  rwa [ap_nat, ap_nat] at this
theorem refB_sub {x y : Nat → Int} (h : refB x y = true) {a : Int} (ha : Cv a) : Sub (ap x a) (ap y a) := refB_iff.1 h a.toNat (by have := ha.1; have := ha.2; omega)
/-- A while is an if with its body and itself. -/
theorem loop_w {d : List UInt8} {x : Ct} (hd : hxs d = true) (hx : x.wf = true) : eqT (tr (.u 119 d x)) (tr (.b 105 d (.b 59 [] x (.u 119 d x)) (.z 115 []))) = true := eqT_of fun a ha => by
  rw [ap_if, ap_seq, ap_skip ha, tr_while, ap_while ha]
  exact (lp_fix (mono_w (pv_cv hd) (tr_Tr hx) ha)).symm
theorem loop_d {x : Ct} (hx : x.wf = true) : eqT (tr (.u 42 [] x)) (tr (.b 38 [] (.b 59 [] x (.u 42 [] x)) (.z 115 []))) = true := eqT_of fun a ha => by
  rw [ap_dem, ap_seq, ap_skip ha, tr_starD, ap_starD ha]
  exact (lp_fix (mono_d (tr_Tr hx) ha)).symm
theorem loop_a {x : Ct} (hx : x.wf = true) : eqT (tr (.u 43 [] x)) (tr (.b 124 [] (.b 59 [] x (.u 43 [] x)) (.z 115 []))) = true := eqT_of fun a ha => by
  rw [ap_ang, ap_seq, ap_skip ha, tr_starA, ap_starA ha]
  exact (lp_fix (mono_a (tr_Tr hx) ha)).symm
theorem band_sub_r {a b : Int} (ha : Cv a) (hb : Cv b) : Sub (band a b) b := (sub_bits (ha.and hb) hb).2 fun i hi h => by
  rw [Cv.has_and ha hb hi, Bool.and_eq_true] at h; exact h.2
theorem bor_sub_r {a b : Int} (ha : Cv a) (hb : Cv b) : Sub b (bor a b) := (sub_bits hb (ha.or hb)).2 fun i hi h => by
  rw [Cv.has_or ha hb hi, h, Bool.or_true]
theorem starD_le {x : Ct} (hx : x.wf = true) {a : Int} (ha : Cv a) : Sub (ap (tr (.u 42 [] x)) a) a := by
  have hX := tr_Tr hx
  have hc := hX.starD.cv ha
  have e := lp_fix (mono_d hX ha)
  rw [tr_starD]
  rw [ap_starD ha] at hc ⊢
  rw [← e]
  exact band_sub_r (hX.cv hc) ha
theorem starA_ge {x : Ct} (hx : x.wf = true) {a : Int} (ha : Cv a) : Sub a (ap (tr (.u 43 [] x)) a) := by
  have hX := tr_Tr hx
  have hc := hX.starA.cv ha
  have e := lp_fix (mono_a hX ha)
  rw [tr_starA]
  rw [ap_starA ha] at hc ⊢
  rw [← e]
  exact bor_sub_r (hX.cv hc) ha
theorem loop_ds {x : Ct} (hx : x.wf = true) : refB (tr (.u 42 [] x)) (tr (.z 115 [])) = true := refB_of fun a ha => by
  rw [ap_skip ha]; exact starD_le hx ha
theorem loop_sa {x : Ct} (hx : x.wf = true) : refB (tr (.z 115 [])) (tr (.u 43 [] x)) = true := refB_of fun a ha => by
  rw [ap_skip ha]; exact starA_ge hx ha
theorem loop_da {x : Ct} (hx : x.wf = true) : refB (tr (.u 42 [] x)) (tr (.u 43 [] x)) = true := refB_of fun a ha =>
  Sub.trans ((tr_Tr hx).starD.cv ha) ha ((tr_Tr hx).starA.cv ha) (starD_le hx ha) (starA_ge hx ha)

/-! ### refinement goes through all statements -/
section
set_option linter.unusedSectionVars false
variable {x y z : Ct} (hx : x.wf = true) (hy : y.wf = true) (hz : z.wf = true) (h : refB (tr x) (tr y) = true)
include hx hy hz h
theorem ref_seq1 (d d' : List UInt8) : refB (tr (.b 59 d x z)) (tr (.b 59 d' y z)) = true := refB_of fun a ha => by
  rw [ap_seq, ap_seq]; exact refB_sub h ((tr_Tr hz).cv ha)
theorem ref_seq2 (d d' : List UInt8) : refB (tr (.b 59 d z x)) (tr (.b 59 d' z y)) = true := refB_of fun a ha => by
  rw [ap_seq, ap_seq]; exact (tr_Tr hz).sub ((tr_Tr hx).cv ha) ((tr_Tr hy).cv ha) (refB_sub h ha)
theorem ref_dem (d d' : List UInt8) : refB (tr (.b 38 d x z)) (tr (.b 38 d' y z)) = true := refB_of fun a ha => by
  rw [ap_dem, ap_dem]; exact and_sub ((tr_Tr hx).cv ha) ((tr_Tr hy).cv ha) ((tr_Tr hz).cv ha) ((tr_Tr hz).cv ha) (refB_sub h ha) (Sub.refl ((tr_Tr hz).cv ha))
theorem ref_ang (d d' : List UInt8) : refB (tr (.b 124 d x z)) (tr (.b 124 d' y z)) = true := refB_of fun a ha => by
  rw [ap_ang, ap_ang]; exact or_sub ((tr_Tr hx).cv ha) ((tr_Tr hy).cv ha) ((tr_Tr hz).cv ha) ((tr_Tr hz).cv ha) (refB_sub h ha) (Sub.refl ((tr_Tr hz).cv ha))
theorem ref_if {d : List UInt8} (hd : hxs d = true) : refB (tr (.b 105 d x z)) (tr (.b 105 d y z)) = true := refB_of fun a ha => by
  rw [ap_if, ap_if]; exact if_sub (pv_cv hd) ((tr_Tr hx).cv ha) ((tr_Tr hy).cv ha) ((tr_Tr hz).cv ha) ((tr_Tr hz).cv ha) (refB_sub h ha) (Sub.refl ((tr_Tr hz).cv ha))
end
section
variable {x y : Ct} (hx : x.wf = true) (hy : y.wf = true) (h : refB (tr x) (tr y) = true)
include hx hy h
theorem ref_w {d : List UInt8} (hd : hxs d = true) : refB (tr (.u 119 d x)) (tr (.u 119 d y)) = true := refB_of fun a ha => by
  have hp := pv_cv hd
  rw [tr_while, tr_while, ap_while ha, ap_while ha]
  exact lp_sub (mono_w hp (tr_Tr hx) ha) (mono_w hp (tr_Tr hy) ha) fun v hv => if_sub hp ((tr_Tr hx).cv hv) ((tr_Tr hy).cv hv) ha ha (refB_sub h hv) (Sub.refl ha)
theorem ref_d : refB (tr (.u 42 [] x)) (tr (.u 42 [] y)) = true := refB_of fun a ha => by
  rw [tr_starD, tr_starD, ap_starD ha, ap_starD ha]
  exact lp_sub (mono_d (tr_Tr hx) ha) (mono_d (tr_Tr hy) ha) fun v hv => and_sub ((tr_Tr hx).cv hv) ((tr_Tr hy).cv hv) ha ha (refB_sub h hv) (Sub.refl ha)
theorem ref_a : refB (tr (.u 43 [] x)) (tr (.u 43 [] y)) = true := refB_of fun a ha => by
  rw [tr_starA, tr_starA, ap_starA ha, ap_starA ha]
  exact lp_sub (mono_a (tr_Tr hx) ha) (mono_a (tr_Tr hy) ha) fun v hv => or_sub ((tr_Tr hx).cv hv) ((tr_Tr hy).cv hv) ha ha (refB_sub h hv) (Sub.refl ha)
end
theorem eq_ref {x y : Ct} (hx : x.wf = true) (hy : y.wf = true) : eqT (tr x) (tr y) = (refB (tr x) (tr y) && refB (tr y) (tr x)) := by
  rw [Bool.eq_iff_iff, Bool.and_eq_true, eqT_iff, refB_iff, refB_iff]
  have dx := (tr_Tr hx).dg
  have dy := (tr_Tr hy).dg
  constructor
  · intro h
    exact ⟨fun k hk => by rw [h k hk]; exact Sub.refl (dy k hk), fun k hk => by rw [h k hk]; exact Sub.refl (dy k hk)⟩
  · rintro ⟨h1, h2⟩ k hk
    exact Sub.antisymm (dx k hk) (dy k hk) (h1 k hk) (h2 k hk)

/-! ### texts of contracts -/
theorem bytes_z (o : UInt8) (d : List UInt8) : (Ct.z o d).bytes = bts (o :: d) := rfl
theorem bytes_u (o : UInt8) (d : List UInt8) (x : Ct) : (Ct.u o d x).bytes = bts (o :: (d ++ x.tx)) := rfl
theorem bytes_b (o : UInt8) (d : List UInt8) (x y : Ct) : (Ct.b o d x y).bytes = bts (o :: (d ++ (x.tx ++ y.tx))) := rfl
theorem hxs_one {b : UInt8} (h : 0 ≤ hx b) : hxs [b] = true := by simp [hxs, h]
theorem wf_u' {o : UInt8} {d : List UInt8} {x : Ct} (h1 : shp o = some (1, d.length)) (h2 : hxs d = true) (h3 : x.wf = true) : (Ct.u o d x).wf = true := by
  simp [Ct.wf, h1, h2, h3]
theorem wf_b' {o : UInt8} {d : List UInt8} {x y : Ct} (h1 : shp o = some (2, d.length)) (h2 : hxs d = true) (h3 : x.wf = true) (h4 : y.wf = true) : (Ct.b o d x y).wf = true := by
  simp [Ct.wf, h1, h2, h3, h4]
theorem wf_s : (Ct.z 115 []).wf = true := by decide +kernel
theorem len_z (o : UInt8) (d : List UInt8) : (Ct.z o d).tx.length = 1 + d.length := by simp [Ct.tx]; omega
theorem len_u (o : UInt8) (d : List UInt8) (x : Ct) : (Ct.u o d x).tx.length = 1 + d.length + x.tx.length := by simp [Ct.tx]; omega
theorem len_b (o : UInt8) (d : List UInt8) (x y : Ct) : (Ct.b o d x y).tx.length = 1 + d.length + x.tx.length + y.tx.length := by simp [Ct.tx]; omega
theorem ctv_of {α : Type} {t : Ct} (hw : t.wf = true) (hl : t.tx.length ≤ 200) (no : α) (f : Ct → α) : ctv t.bytes no f = f t := ctv_some _ _ (cto_bytes hw hl)
end Go.DC
namespace Go.DC
open Go.RowKit
/-- Two texts, one behind the other. -/
theorem cat_run {P : Program} {x y z : ByteArray} (h : x.data.toList ++ y.data.toList = z.data.toList) (hz : z.size ≤ 4611686018427387904) (w : World) : (Op.stringOp .add x y).run P w = .ok (.string z) w := by
  have hsz : x.size + y.size = z.size := by
    have := congrArg List.length h
    rw [List.length_append] at this
    exact this
  rw [run_string_add_sum w x y (by omega)]
  have hx := bts_of (c := x) rfl
  have hy := bts_of (c := y) rfl
  have hz' := bts_of (c := z) rfl
  have : x ++ y = z := by rw [hx, hy, bts_app, h, ← hz']
  rw [this]
end Go.DC
namespace Go.DC
open Go.RowKit
set_option linter.unusedVariables false
set_option linter.unusedSimpArgs false
/-- The first n states of a condition, as digits. -/
def fmtF (p : Int) : Nat → List UInt8
  | 0 => []
  | n + 1 => if hasb p n then fmtF p n ++ [dgb n] else fmtF p n
/-- A condition's text. -/
def fmt (p : Int) : List UInt8 := if fmtF p 4 = [] then [45] else fmtF p 4
theorem fmtF_len (p : Int) : ∀ n, (fmtF p n).length ≤ n
  | 0 => by simp [fmtF]
  | n + 1 => by have := fmtF_len p n; unfold fmtF; split <;> simp <;> omega
theorem fmt_len (p : Int) : (fmt p).length ≤ 4 := by
  unfold fmt
  split
  · decide
  · exact fmtF_len p 4
theorem fmt_pos (p : Int) : fmt p ≠ [] := by
  unfold fmt
  split
  · decide
  · assumption
/-- The text of a condition, nothing for what is none. -/
def fmtC (p : Int) : ByteArray := if cv p then bts (fmt p) else ByteArray.empty
/-- How a contract is shown. -/
def sh : Ct → List UInt8
  | .z o d => if o = 115 then [115, 107, 105, 112] else if o = 97 then [97, 98, 111, 114, 116] else if o = 109 then [109, 97, 103, 105, 99] else if o = 33 then [123] ++ fmt (pv d) ++ [125]
      else if o = 63 then [91] ++ fmt (pv d) ++ [93] else if o = 65 then [97, 110, 103, 101, 108, 32] ++ d else [100, 101, 109, 111, 110, 32] ++ d
  | .u o d x => if o = 119 then [119, 104, 105, 108, 101, 32] ++ fmt (pv d) ++ [32, 40] ++ sh x ++ [41] else if o = 42 then [97, 115, 32, 111, 102, 116, 101, 110, 32, 97, 115, 32, 116, 104, 101, 32, 100, 101, 109, 111, 110, 32, 119, 97, 110, 116, 115, 32, 40] ++ sh x ++ [41] else [97, 115, 32, 111, 102, 116, 101, 110, 32, 97, 115, 32, 116, 104, 101, 32, 97, 110, 103, 101, 108, 32, 119, 97, 110, 116, 115, 32, 40] ++ sh x ++ [41]
  | .b o d x y => if o = 59 then sh x ++ [59, 32] ++ sh y else if o = 38 then [40] ++ (sh x ++ [32, 111, 114, 32, 98, 121, 32, 116, 104, 101, 32, 100, 101, 109, 111, 110, 32] ++ sh y) ++ [41] else if o = 124 then [40] ++ (sh x ++ [32, 111, 114, 32, 98, 121, 32, 116, 104, 101, 32, 97, 110, 103, 101, 108, 32] ++ sh y) ++ [41]
      else [105, 102, 32] ++ fmt (pv d) ++ [32, 40] ++ sh x ++ [41, 32, 101, 108, 115, 101, 32, 40] ++ sh y ++ [41]
theorem sh_s (d) : sh (.z 115 d) = [115, 107, 105, 112] := rfl
theorem sh_a (d) : sh (.z 97 d) = [97, 98, 111, 114, 116] := rfl
theorem sh_m (d) : sh (.z 109 d) = [109, 97, 103, 105, 99] := rfl
theorem sh_assert (d) : sh (.z 33 d) = [123] ++ fmt (pv d) ++ [125] := rfl
theorem sh_assume (d) : sh (.z 63 d) = [91] ++ fmt (pv d) ++ [93] := rfl
theorem sh_angel (d) : sh (.z 65 d) = [97, 110, 103, 101, 108, 32] ++ d := rfl
theorem sh_demon (d) : sh (.z 68 d) = [100, 101, 109, 111, 110, 32] ++ d := rfl
theorem sh_while (d) (x : Ct) : sh (.u 119 d x) = [119, 104, 105, 108, 101, 32] ++ fmt (pv d) ++ [32, 40] ++ sh x ++ [41] := rfl
theorem sh_starD (d) (x : Ct) : sh (.u 42 d x) = [97, 115, 32, 111, 102, 116, 101, 110, 32, 97, 115, 32, 116, 104, 101, 32, 100, 101, 109, 111, 110, 32, 119, 97, 110, 116, 115, 32, 40] ++ sh x ++ [41] := rfl
theorem sh_starA (d) (x : Ct) : sh (.u 43 d x) = [97, 115, 32, 111, 102, 116, 101, 110, 32, 97, 115, 32, 116, 104, 101, 32, 97, 110, 103, 101, 108, 32, 119, 97, 110, 116, 115, 32, 40] ++ sh x ++ [41] := rfl
theorem sh_then (d) (x y : Ct) : sh (.b 59 d x y) = sh x ++ [59, 32] ++ sh y := rfl
theorem sh_meet (d) (x y : Ct) : sh (.b 38 d x y) = [40] ++ (sh x ++ [32, 111, 114, 32, 98, 121, 32, 116, 104, 101, 32, 100, 101, 109, 111, 110, 32] ++ sh y) ++ [41] := rfl
theorem sh_join (d) (x y : Ct) : sh (.b 124 d x y) = [40] ++ (sh x ++ [32, 111, 114, 32, 98, 121, 32, 116, 104, 101, 32, 97, 110, 103, 101, 108, 32] ++ sh y) ++ [41] := rfl
theorem sh_if (d) (x y : Ct) : sh (.b 105 d x y) = [105, 102, 32] ++ fmt (pv d) ++ [32, 40] ++ sh x ++ [41, 32, 101, 108, 115, 101, 32, 40] ++ sh y ++ [41] := rfl
theorem sh_len : ∀ {t : Ct}, t.wf = true → (sh t).length ≤ 40 * t.tx.length
  | .z o d, h => by
    obtain ⟨hs, hd⟩ := Ct.wf_z h
    have hf := fmt_len (pv d)
    rcases shp0 hs with ⟨rfl, hl⟩ | ⟨rfl, hl⟩ | ⟨rfl, hl⟩ | ⟨rfl, hl⟩ | ⟨rfl, hl⟩ | ⟨rfl, hl⟩ | ⟨rfl, hl⟩ <;> simp [sh, Ct.tx] <;> omega
  | .u o d x, h => by
    obtain ⟨hs, hd, hx⟩ := Ct.wf_u h
    have hf := fmt_len (pv d)
    have ih := sh_len hx
    rcases shp1 hs with ⟨rfl, hl⟩ | ⟨rfl, hl⟩ | ⟨rfl, hl⟩ <;> simp [sh, Ct.tx] <;> omega
  | .b o d x y, h => by
    obtain ⟨hs, hd, hx, hy⟩ := Ct.wf_b h
    have hf := fmt_len (pv d)
    have ih := sh_len hx
    have ih2 := sh_len hy
    rcases shp2 hs with ⟨rfl, hl⟩ | ⟨rfl, hl⟩ | ⟨rfl, hl⟩ | ⟨rfl, hl⟩ <;> simp [sh, Ct.tx] <;> omega
theorem sh_pos {t : Ct} (h : t.wf = true) : sh t ≠ [] := by
  cases t with
  | z o d => rcases shp0 (Ct.wf_z h).1 with ⟨rfl, _⟩ | ⟨rfl, _⟩ | ⟨rfl, _⟩ | ⟨rfl, _⟩ | ⟨rfl, _⟩ | ⟨rfl, _⟩ | ⟨rfl, _⟩ <;> simp [sh]
  | u o d x => rcases shp1 (Ct.wf_u h).1 with ⟨rfl, _⟩ | ⟨rfl, _⟩ | ⟨rfl, _⟩ <;> simp [sh]
  | b o d x y => rcases shp2 (Ct.wf_b h).1 with ⟨rfl, _⟩ | ⟨rfl, _⟩ | ⟨rfl, _⟩ | ⟨rfl, _⟩ <;> simp [sh]
/-- The digits of a relation are its text. -/
theorem txt_rv {d : List UInt8} (h : hxs d = true) (hl : d.length = 4) : txt 4 (rv d) = bts d := by
  match d, hl with
  | [a, b, c, e], _ =>
    simp [hxs] at h
    have h0 := dgb_hx h.1
    have h1 := dgb_hx h.2.1
    have h2 := dgb_hx h.2.2.1
    have h3 := dgb_hx h.2.2.2
    simp [txt, rv, bts, List.range, List.range.loop, h0, h1, h2, h3]
end Go.DC
