/-
  Plain laws: what the laws on transformers say. No program in sight.
-/
import Derived.Test.YtmecagiadlimgaaPw
import Derived.Test.YtmecagiadlimgaaPQ
import Derived.Test.YtmecagiadlimgaaPu
namespace Go.DC
open Go.RowKit
set_option linter.unusedVariables false
set_option linter.unusedSimpArgs false
theorem tvB_Tr {t : ByteArray} (h : tvB t = true) : Tr (dg t) := tvB_mono h
theorem dgt16 {x : Nat → Int} (h : Dg 16 x) : ∀ s, s < 16 → dg (txt 16 x) s = x s := fun s hs => dg_txt h hs
theorem apt16 {x : Nat → Int} (h : Dg 16 x) {a : Int} (ha : Cv a) : ap (dg (txt 16 x)) a = ap x a := ap_txt h ha.1 ha.2
theorem Tr.dual {x : Nat → Int} (h : Tr x) : Tr (dual x) := Tr.mk' (fun a ha => by rw [ap_dual ha.1]; exact Cv.c15.andn (h.cv (Cv.c15.andn ha))) fun a b ha hb hs => by
  rw [ap_dual ha.1, ap_dual hb.1]
  have h1 : Sub (bandn 15 b) (bandn 15 a) := (sub_bits (Cv.c15.andn hb) (Cv.c15.andn ha)).2 fun i hi h2 => by
    rw [Cv.has_andn Cv.c15 hb hi, has15 hi, Bool.true_and] at h2
    rw [Cv.has_andn Cv.c15 ha hi, has15 hi, Bool.true_and]
    cases h3 : hasb a i
    · rfl
    · rw [(sub_bits ha hb).1 hs i hi h3] at h2; exact h2
  have h4 := h.sub (Cv.c15.andn hb) (Cv.c15.andn ha) h1
  have hA := h.cv (Cv.c15.andn ha)
  have hB := h.cv (Cv.c15.andn hb)
  refine (sub_bits (Cv.c15.andn hA) (Cv.c15.andn hB)).2 fun i hi h2 => ?_
  rw [Cv.has_andn Cv.c15 hA hi, has15 hi, Bool.true_and] at h2
  rw [Cv.has_andn Cv.c15 hB hi, has15 hi, Bool.true_and]
  cases h3 : hasb (ap x (bandn 15 b)) i
  · rfl
  · rw [(sub_bits hB hA).1 h4 i hi h3] at h2; exact h2
theorem sub_true {a b : Int} (h : Sub a b) : (bandn a b == 0) = true := beq_iff_eq.2 h
/-! ### starts and miracles -/
theorem st_lo {x : Nat → Int} (h : Tr x) {n : Nat} (hn : n < 16) : Sub (ap x 0) (ap x n) := h.sub Cv.c0 (Cv.nat hn) (Sub.zero (Cv.nat hn))
theorem st_hi {x : Nat → Int} (h : Tr x) {n : Nat} (hn : n < 16) : Sub (ap x n) (ap x 15) := h.sub (Cv.nat hn) Cv.c15 (Sub.full (Cv.nat hn))
theorem st_dual15 {x : Nat → Int} (h : Tr x) : ap (dg (txt 16 (dual x))) 15 = bandn 15 (ap x 0) := by
  rw [apt16 (dual_Dg h.dg) Cv.c15, ap_dual Cv.c15.1]; rfl
theorem st_dual0 {x : Nat → Int} (h : Tr x) : ap (dg (txt 16 (dual x))) 0 = bandn 15 (ap x 15) := by
  rw [apt16 (dual_Dg h.dg) Cv.c0, ap_dual Cv.c0.1]; rfl
/-! ### conjunctive transformers are specifications -/
theorem cj_all {x : Nat → Int} (h : conjB x = true) {a b : Int} (ha : Cv a) (hb : Cv b) : ap x (band a b) = band (ap x a) (ap x b) := conjB_iff.1 h a b ha.1 ha.2 hb.1 hb.2
/-- What a state is led to, by membership: it lies in all conditions that need it. -/
theorem lead_has {x : Nat → Int} {s i : Nat} (hi : i < 4) : ∀ n, n ≤ 16 → (hasb (leadTo n x s) i = true ↔ ∀ q, q < n → hasb (x q) s = true → hasb (q : Int) i = true)
  | 0, _ => by
    have : leadTo 0 x s = 15 := rfl
    rw [this, has15 hi]
    exact ⟨fun _ q hq => absurd hq (Nat.not_lt_zero _), fun _ => rfl⟩
  | n + 1, hn => by
    have ih := lead_has (x := x) (s := s) hi n (by omega)
    cases h : hasb (x n) s
    · rw [← lead_no h, ih]
      constructor
      · intro h2 q hq h3
        rcases Nat.lt_or_ge q n with h4 | h4
        · exact h2 q h4 h3
        · obtain rfl : q = n := by omega
          rw [h] at h3; cases h3
      · intro h2 q hq h3; exact h2 q (by omega) h3
    · rw [← lead_yes h]
      have hr := lead_rng x s n (by omega)
      rw [show bits BinOp.and IntKind.i64 (leadTo n x s) n = band (leadTo n x s) n from rfl, Cv.has_and (show Cv (leadTo n x s) from hr) (Cv.nat (show n < 16 by omega)) hi, Bool.and_eq_true, ih]
      constructor
      · rintro ⟨h2, h3⟩ q hq h4
        rcases Nat.lt_or_ge q n with h5 | h5
        · exact h2 q h5 h4
        · obtain rfl : q = n := by omega
          exact h3
      · intro h2; exact ⟨fun q hq h3 => h2 q (by omega) h3, h2 n (by omega) h⟩
theorem leads_has {x : Nat → Int} {s i : Nat} (hi : i < 4) : hasb (leadsT x s) i = true ↔ ∀ q, q < 16 → hasb (x q) s = true → hasb (q : Int) i = true := lead_has hi 16 (Nat.le_refl _)
theorem ap_specD {p a : Int} {x : Nat → Int} (ha : Cv a) : ap (specD p x) a = band p (boxR x a) := by unfold ap specD; rw [cv_nat ha]
theorem Tr.specD {p : Int} (hp : Cv p) {x : Nat → Int} (hx : Dg 4 x) : Tr (specD p x) := Tr.mk' (fun a ha => by rw [ap_specD ha]; exact hp.and (box_cv _ _)) fun a b ha hb h => by
  rw [ap_specD ha, ap_specD hb]
  exact and_sub hp hp (box_cv _ _) (box_cv _ _) (Sub.refl hp) (box_sub hx ha hb h)
theorem Tr.above {x : Nat → Int} (h : Tr x) : Tr (aboveT x) := Tr.specD (h.dg 15 (by decide)) (leadsT_Dg x)
/-- A specification is conjunctive. -/
theorem specD_conj {p : Int} (hp : Cv p) {x : Nat → Int} (hx : Dg 4 x) : conjB (DC.specD p x) = true := conjB_iff.2 fun a b a0 a1 b0 b1 => by
  have ha : Cv a := ⟨a0, a1⟩
  have hb : Cv b := ⟨b0, b1⟩
  have hbox := box_cv x a
  have hbox2 := box_cv x b
  rw [ap_specD (ha.and hb), ap_specD ha, ap_specD hb]
  refine ext_iff (hp.and (box_cv _ _)) ((hp.and hbox).and (hp.and hbox2)) fun i hi => ?_
  rw [Cv.has_and hp (box_cv _ _) hi, Cv.has_and (hp.and hbox) (hp.and hbox2) hi, Cv.has_and hp hbox hi, Cv.has_and hp hbox2 hi]
  simp only [Bool.and_eq_true]
  rw [box_iff hx (ha.and hb) hi, box_iff hx ha hi, box_iff hx hb hi]
  constructor
  · rintro ⟨h1, h2⟩
    refine ⟨⟨h1, fun k hk h3 => ?_⟩, h1, fun k hk h3 => ?_⟩
    · have := h2 k hk h3; rw [Cv.has_and ha hb hk, Bool.and_eq_true] at this; exact this.1
    · have := h2 k hk h3; rw [Cv.has_and ha hb hk, Bool.and_eq_true] at this; exact this.2
  · rintro ⟨⟨h1, h2⟩, _, h3⟩
    exact ⟨h1, fun k hk h4 => by rw [Cv.has_and ha hb hk, Bool.and_eq_true]; exact ⟨h2 k hk h4, h3 k hk h4⟩⟩
theorem ap_15 (x : Nat → Int) : ap x 15 = x 15 := rfl
theorem ap_above {x : Nat → Int} {a : Int} (ha : Cv a) : ap (aboveT x) a = band (x 15) (boxR (leadsT x) a) := by unfold aboveT; exact ap_specD ha
/-- The least conjunctive transformer above lies above. -/
theorem above_up {x : Nat → Int} (h : Tr x) {a : Int} (ha : Cv a) : Sub (ap x a) (ap (aboveT x) a) := by
  have h15 : Cv (x 15) := h.dg 15 (by decide)
  rw [ap_above ha]
  refine (sub_bits (h.cv ha) (h15.and (box_cv _ _))).2 fun i hi h1 => ?_
  rw [Cv.has_and h15 (box_cv _ _) hi, Bool.and_eq_true]
  have h16 := h.sub ha Cv.c15 (Sub.full ha)
  rw [ap_15] at h16
  refine ⟨(sub_bits (h.cv ha) h15).1 h16 i hi h1, (box_iff (leadsT_Dg x) ha hi).2 fun k hk h2 => ?_⟩
  have := (leads_has hk).1 h2 a.toNat (by have := ha.1; have := ha.2; omega) h1
  rwa [cv_nat ha] at this
/-- A conjunctive transformer needs a state for the condition that the state is led to. -/
theorem cj_lead {x : Nat → Int} (h : Tr x) (hc : conjB x = true) {s : Nat} (hs : s < 4) (h15 : hasb (ap x 15) s = true) : hasb (ap x (leadsT x s)) s = true := by
  have key : ∀ n, n ≤ 16 → hasb (ap x (leadTo n x s)) s = true := fun n => by
    induction n with
    | zero => intro _; exact h15
    | succ n ih =>
      intro hn
      have ih := ih (by omega)
      cases h1 : hasb (x n) s
      · rw [← lead_no h1]; exact ih
      · rw [← lead_yes h1]
        have hr : Cv (leadTo n x s) := lead_rng x s n (by omega)
        have hnn : Cv (n : Int) := Cv.nat (by omega)
        show hasb (ap x (band (leadTo n x s) n)) s = true
        rw [cj_all hc hr hnn, Cv.has_and (h.cv hr) (h.cv hnn) hs, ih, Bool.true_and, ap_nat]
        exact h1
  exact key 16 (Nat.le_refl _)
/-- A conjunctive transformer is its own specification. -/
theorem cj_above {x : Nat → Int} (h : Tr x) (hc : conjB x = true) {a : Int} (ha : Cv a) : ap (aboveT x) a = ap x a := by
  have h15 : Cv (x 15) := h.dg 15 (by decide)
  refine Sub.antisymm (h.above.cv ha) (h.cv ha) ?_ (above_up h ha)
  rw [ap_above ha]
  refine (sub_bits (h15.and (box_cv _ _)) (h.cv ha)).2 fun i hi h1 => ?_
  rw [Cv.has_and h15 (box_cv _ _) hi, Bool.and_eq_true] at h1
  have hl := leadsT_Dg x i hi
  have h2 := cj_lead h hc hi h1.1
  have h3 : Sub (leadsT x i) a := (sub_bits hl ha).2 fun k hk h4 => (box_iff (leadsT_Dg x) ha hi).1 h1.2 k hk h4
  exact (sub_bits (h.cv hl) (h.cv ha)).1 (h.sub hl ha h3) i hi h2
theorem cj_above_txt {t : ByteArray} (ht : tvB t = true) (hc : conjB (dg t) = true) : txt 16 (aboveT (dg t)) = t := by
  conv => rhs; rw [← txt_dg (tvB_dv ht)]
  refine txt_congr fun q hq => ?_
  have := cj_above (tvB_Tr ht) hc (Cv.nat hq)
  rwa [ap_nat, ap_nat] at this
theorem cj_strict {x : Nat → Int} (h : Tr x) (hc : conjB x = true) : (x 0 == 0) = (bandn (x 15) (dia (leadsT x) 15) == 0) := by
  have h15 : Cv (x 15) := h.dg 15 (by decide)
  have h0 : Cv (x 0) := h.dg 0 (by decide)
  have e0 := cj_above h hc Cv.c0
  rw [ap_above Cv.c0, show ap x 0 = x 0 from rfl] at e0
  rw [Bool.eq_iff_iff, beq_iff_eq, sub_iff h15 (dia_cv _ _)]
  have hd := leadsT_Dg x
  constructor
  · intro hz i hi h1
    rw [dia_iff hd Cv.c15 hi]
    apply Classical.byContradiction
    intro hn
    have : hasb (x 0) i = true := by
      rw [← e0, Cv.has_and h15 (box_cv _ _) hi, h1, Bool.true_and, box_iff hd Cv.c0 hi]
      intro k hk h2; exact absurd ⟨k, hk, h2, has15 hk⟩ hn
    rw [hz, has0 hi] at this
    cases this
  · intro hall
    refine ext_iff h0 Cv.c0 fun i hi => ?_
    rw [has0 hi]
    refine ⟨fun h1 => ?_, fun h1 => by cases h1⟩
    rw [← e0, Cv.has_and h15 (box_cv _ _) hi, Bool.and_eq_true, box_iff hd Cv.c0 hi] at h1
    obtain ⟨k, hk, h2, _⟩ := (dia_iff hd Cv.c15 hi).1 (hall i hi h1.1)
    have := h1.2 k hk h2
    rw [has0 hk] at this
    cases this
theorem sub_in15 {a : Int} (ha : Cv a) : (bandn a 15 == 0) = true := beq_iff_eq.2 (Sub.full ha)
end Go.DC
