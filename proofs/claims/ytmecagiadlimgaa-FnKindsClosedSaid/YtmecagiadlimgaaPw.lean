/-
  Plain laws: what the laws on relations say. No program in sight.
-/
import Derived.Test.YtmecagiadlimgaaPv
import Derived.Test.YtmecagiadlimgaaTr
namespace Go.DC
open Go.RowKit
set_option linter.unusedVariables false
set_option linter.unusedSimpArgs false
theorem dgt4 {x : Nat → Int} (h : Dg 4 x) : ∀ s, s < 4 → dg (txt 4 x) s = x s := fun s hs => dg_txt h hs
theorem dia_congr {x y : Nat → Int} (h : ∀ s, s < 4 → x s = y s) (p : Int) : dia x p = dia y p := mk_congr 4 fun s hs => by rw [h s hs]
theorem turn_congr {x y : Nat → Int} (h : ∀ s, s < 4 → x s = y s) (s : Nat) : turn x s = turn y s := mk_congr 4 fun t ht => by rw [h t ht]
theorem cntP_congr {x y : Nat → Int} : ∀ n, (∀ s, s < n → x s = y s) → cntP x n = cntP y n
  | 0, _ => rfl
  | n + 1, h => by
    have ih := cntP_congr n fun s hs => h s (by omega)
    unfold cntP
    rw [ih, h n (by omega)]
theorem sub_iff {a b : Int} (ha : Cv a) (hb : Cv b) : (bandn a b == 0) = true ↔ ∀ k, k < 4 → hasb a k = true → hasb b k = true := by
  have := sub_bits ha hb
  unfold Sub at this
  rw [beq_iff_eq]; exact this
theorem box_iff {x : Nat → Int} (hx : Dg 4 x) {q : Int} (hq : Cv q) {i : Nat} (hi : i < 4) : hasb (boxR x q) i = true ↔ ∀ k, k < 4 → hasb (x i) k = true → hasb q k = true := by
  rw [hasb_box _ hi]; exact sub_iff (hx i hi) hq
theorem dia_iff {x : Nat → Int} (hx : Dg 4 x) {q : Int} (hq : Cv q) {i : Nat} (hi : i < 4) : hasb (dia x q) i = true ↔ ∃ k, k < 4 ∧ hasb (x i) k = true ∧ hasb q k = true := by
  rw [hasb_dia _ _ hi]; exact meet_iff (hx i hi) hq
theorem img_eq {x : Nat → Int} (hx : Dg 4 x) {q : Int} (hq : Cv q) : dia (turn x) q = img x q := (image_eq hx hq.1 hq.2).symm
theorem ext_iff {a b : Int} (ha : Cv a) (hb : Cv b) (h : ∀ i, i < 4 → (hasb a i = true ↔ hasb b i = true)) : a = b := cv_ext ha hb fun i hi => by rw [Bool.eq_iff_iff]; exact h i hi
theorem not_has {a : Bool} : (!a) = true ↔ ¬ a = true := by cases a <;> simp
/-! ### tests -/
theorem test_iff {p : Int} {s t : Nat} (ht : t < 4) : hasb (testR p s) t = true ↔ s = t ∧ hasb p s = true := by rw [hasb_test p ht, Bool.and_eq_true, decide_eq_true_iff]
theorem test_then {p q : Int} (hp : Cv p) (hq : Cv q) : txt 4 (thenR (dg (txt 4 (testR p))) (dg (txt 4 (testR q)))) = txt 4 (testR (band p q)) := txt_congr fun s hs => by
  have h1 := testR_Dg p
  have h2 := testR_Dg q
  rw [thenR_congr (dgt4 h1) (dgt4 h2) s hs, then_img]
  refine ext_iff (img_cv h2 _) (testR_Dg _ s hs) fun i hi => ?_
  rw [hasb_img h2 _ hi, test_iff hi, Cv.has_and hp hq hs, Bool.and_eq_true]
  constructor
  · rintro ⟨k, hk, h3, h4⟩
    rw [test_iff hk] at h3
    rw [test_iff hi] at h4
    obtain ⟨rfl, h3⟩ := h3
    obtain ⟨rfl, h4⟩ := h4
    exact ⟨rfl, h3, h4⟩
  · rintro ⟨rfl, h3, h4⟩
    exact ⟨s, hs, (test_iff hs).2 ⟨rfl, h3⟩, (test_iff hs).2 ⟨rfl, h4⟩⟩
theorem test_img {p q : Int} (hp : Cv p) (hq : Cv q) : dia (turn (dg (txt 4 (testR p)))) q = band p q := by
  have h1 := testR_Dg p
  rw [dia_congr (fun s _ => turn_congr (dgt4 h1) s), img_eq h1 hq]
  refine ext_iff (img_cv h1 _) (hp.and hq) fun i hi => ?_
  rw [hasb_img h1 _ hi, Cv.has_and hp hq hi, Bool.and_eq_true]
  constructor
  · rintro ⟨k, hk, h3, h4⟩
    rw [test_iff hi] at h4
    obtain ⟨rfl, h4⟩ := h4
    exact ⟨h4, h3⟩
  · rintro ⟨h3, h4⟩
    exact ⟨i, hi, h4, (test_iff hi).2 ⟨rfl, h3⟩⟩
theorem test_box {p q : Int} (hp : Cv p) (hq : Cv q) : boxR (dg (txt 4 (testR p))) q = bor (bandn 15 p) q := by
  have h1 := testR_Dg p
  rw [boxR_congr (dgt4 h1)]
  have hn := Cv.c15.andn hp
  refine ext_iff (box_cv _ _) (hn.or hq) fun i hi => ?_
  rw [box_iff h1 hq hi, Cv.has_or hn hq hi, Bool.or_eq_true, Cv.has_andn Cv.c15 hp hi, has15 hi, Bool.true_and, not_has]
  constructor
  · intro h
    cases e : hasb p i
    · exact .inl (by simp)
    · exact .inr (h i hi ((test_iff hi).2 ⟨rfl, e⟩))
  · rintro h k hk h3
    rw [test_iff hk] at h3
    obtain ⟨rfl, h3⟩ := h3
    exact h.elim (fun h => absurd h3 h) id
theorem test_dom {p : Int} (hp : Cv p) : dia (dg (txt 4 (testR p))) 15 = p := by
  have h1 := testR_Dg p
  rw [dia_congr (dgt4 h1)]
  refine ext_iff (dia_cv _ _) hp fun i hi => ?_
  rw [dia_iff h1 Cv.c15 hi]
  constructor
  · rintro ⟨k, hk, h3, _⟩
    rw [test_iff hk] at h3
    exact h3.2
  · intro h
    exact ⟨i, hi, (test_iff hi).2 ⟨rfl, h⟩, has15 hi⟩
/-! ### composition -/
theorem then_iff {x y : Nat → Int} (hy : Dg 4 y) {s t : Nat} (ht : t < 4) : hasb (thenR x y s) t = true ↔ ∃ k, k < 4 ∧ hasb (x s) k = true ∧ hasb (y k) t = true := by
  rw [then_img, hasb_img hy _ ht]
theorem turn_iff {x : Nat → Int} {s t : Nat} (ht : t < 4) : hasb (turn x s) t = true ↔ hasb (x t) s = true := by rw [hasb_turn x ht]
theorem then_assoc {x y z : Nat → Int} (hy : Dg 4 y) (hz : Dg 4 z) {s : Nat} (hs : s < 4) : thenR (thenR x y) z s = thenR x (thenR y z) s := by
  refine ext_iff (thenR_Dg _ hz s hs) (thenR_Dg _ (thenR_Dg _ hz) s hs) fun i hi => ?_
  rw [then_iff hz hi, then_iff (thenR_Dg _ hz) hi]
  constructor
  · rintro ⟨k, hk, h1, h2⟩
    obtain ⟨j, hj, h3, h4⟩ := (then_iff hy hk).1 h1
    exact ⟨j, hj, h3, (then_iff hz hi).2 ⟨k, hk, h4, h2⟩⟩
  · rintro ⟨j, hj, h3, h5⟩
    obtain ⟨k, hk, h4, h2⟩ := (then_iff hz hi).1 h5
    exact ⟨k, hk, (then_iff hy hk).2 ⟨j, hj, h3, h4⟩, h2⟩
theorem turn_then {x y : Nat → Int} (hx : Dg 4 x) (hy : Dg 4 y) {s : Nat} (hs : s < 4) : turn (thenR x y) s = thenR (turn y) (turn x) s := by
  refine ext_iff (turn_Dg _ s hs) (thenR_Dg _ (turn_Dg x) s hs) fun i hi => ?_
  rw [turn_iff hi, then_iff hy hs, then_iff (turn_Dg x) hi]
  constructor
  · rintro ⟨k, hk, h1, h2⟩; exact ⟨k, hk, (turn_iff hk).2 h2, (turn_iff hi).2 h1⟩
  · rintro ⟨k, hk, h1, h2⟩; exact ⟨k, hk, (turn_iff hi).1 h2, (turn_iff hk).1 h1⟩
theorem then_id {x : Nat → Int} (hx : Dg 4 x) {s : Nat} (hs : s < 4) : thenR x idR s = x s := by rw [then_img, img_id (hx s hs)]
theorem id_then {x : Nat → Int} (hx : Dg 4 x) {s : Nat} (hs : s < 4) : thenR idR x s = x s := by rw [then_img, img_one hx hs]
/-! ### closures -/
theorem clo_congr {x y : Nat → Int} (h : ∀ s, s < 4 → x s = y s) : ∀ s, s < 4 → clo x s = clo y s := fun s hs => pw_congr (fun s hs => by unfold withId; rw [h s hs]) 16 s hs
theorem clo_txt_twice {x : Nat → Int} (hx : Dg 4 x) : txt 4 (thenR (dg (txt 4 (clo x))) (dg (txt 4 (clo x)))) = txt 4 (clo x) := txt_congr fun s hs => by
  have h := dgt4 (clo_Dg hx)
  rw [thenR_congr h h s hs, clo_twice hx hs]
theorem clo_txt_again {x : Nat → Int} (hx : Dg 4 x) : txt 4 (clo (dg (txt 4 (clo x)))) = txt 4 (clo x) := txt_congr fun s hs => by
  rw [clo_congr (dgt4 (clo_Dg hx)) s hs, clo_again hx hs]
theorem stp_txt {x : Nat → Int} (hx : Dg 4 x) (n : Nat) : txt 4 (fun s => bor (dg (txt 4 idR) s) (dg (txt 4 (thenR (dg (txt 4 (stp x n))) x)) s)) = txt 4 (stp x (n + 1)) := txt_congr fun s hs => by
  rw [dgt4 idR_Dg s hs, dgt4 (thenR_Dg _ hx) s hs, thenR_congr (dgt4 (stp_Dg hx n)) (fun _ _ => rfl) s hs]
  rfl
theorem clo_sub {x : Nat → Int} (hx : Dg 4 x) : subB x (dg (txt 4 (clo x))) = true := subB_iff.2 fun k hk => by
  rw [dgt4 (clo_Dg hx) k hk]; exact clo_in hx hk
theorem clo_steps {x : Nat → Int} (hx : Dg 4 x) : txt 4 (clo x) = txt 4 (stp x 4) := txt_congr fun s hs => clo_stp hx hs
/-! ### images compose -/
theorem ic_img {x y : Nat → Int} (hx : Dg 4 x) (hy : Dg 4 y) {p : Int} (hp : Cv p) : dia (turn (dg (txt 4 (thenR x y)))) p = dia (turn y) (dia (turn x) p) := by
  have h := thenR_Dg x hy
  rw [dia_congr (fun s _ => turn_congr (dgt4 h) s), img_eq h hp, img_eq hx hp, img_eq hy (img_cv hx p), img_then hx hy]
theorem ic_dia {x y : Nat → Int} (hx : Dg 4 x) (hy : Dg 4 y) {p : Int} (hp : Cv p) : dia (dg (txt 4 (thenR x y))) p = dia x (dia y p) := by
  have h := thenR_Dg x hy
  rw [dia_congr (dgt4 h)]
  refine ext_iff (dia_cv _ _) (dia_cv _ _) fun i hi => ?_
  rw [dia_iff h hp hi, dia_iff hx (dia_cv _ _) hi]
  constructor
  · rintro ⟨k, hk, h1, h2⟩
    obtain ⟨j, hj, h3, h4⟩ := (then_iff hy hk).1 h1
    exact ⟨j, hj, h3, (dia_iff hy hp hj).2 ⟨k, hk, h4, h2⟩⟩
  · rintro ⟨j, hj, h3, h5⟩
    obtain ⟨k, hk, h4, h2⟩ := (dia_iff hy hp hj).1 h5
    exact ⟨k, hk, (then_iff hy hk).2 ⟨j, hj, h3, h4⟩, h2⟩
theorem ic_box {x y : Nat → Int} (hx : Dg 4 x) (hy : Dg 4 y) {p : Int} (hp : Cv p) : boxR (dg (txt 4 (thenR x y))) p = boxR x (boxR y p) := by
  have h := thenR_Dg x hy
  rw [boxR_congr (dgt4 h)]
  refine ext_iff (box_cv _ _) (box_cv _ _) fun i hi => ?_
  rw [box_iff h hp hi, box_iff hx (box_cv _ _) hi]
  constructor
  · intro h1 j hj h3
    exact (box_iff hy hp hj).2 fun k hk h4 => h1 k hk ((then_iff hy hk).2 ⟨j, hj, h3, h4⟩)
  · intro h1 k hk h2
    obtain ⟨j, hj, h3, h4⟩ := (then_iff hy hk).1 h2
    exact (box_iff hy hp hj).1 (h1 j hj h3) k hk h4
def orR (x y : Nat → Int) : Nat → Int := fun s => bor (x s) (y s)
def andR (x y : Nat → Int) : Nat → Int := fun s => band (x s) (y s)
theorem orR_Dg {x y : Nat → Int} (hx : Dg 4 x) (hy : Dg 4 y) : Dg 4 (orR x y) := fun s hs => bor_rng (hx s hs).1 (hx s hs).2 (hy s hs).1 (hy s hs).2
theorem andR_Dg {x y : Nat → Int} (hx : Dg 4 x) (hy : Dg 4 y) : Dg 4 (andR x y) := fun s hs => band_rng (hx s hs).1 (hx s hs).2 (hy s hs).1 (hy s hs).2
theorem or_iff {x y : Nat → Int} (hx : Dg 4 x) (hy : Dg 4 y) {s t : Nat} (hs : s < 4) (ht : t < 4) : hasb (orR x y s) t = true ↔ hasb (x s) t = true ∨ hasb (y s) t = true := by
  unfold orR; rw [Cv.has_or (hx s hs) (hy s hs) ht, Bool.or_eq_true]
theorem and_iff {x y : Nat → Int} (hx : Dg 4 x) (hy : Dg 4 y) {s t : Nat} (hs : s < 4) (ht : t < 4) : hasb (andR x y s) t = true ↔ hasb (x s) t = true ∧ hasb (y s) t = true := by
  unfold andR; rw [Cv.has_and (hx s hs) (hy s hs) ht, Bool.and_eq_true]
theorem ic_boxor {x y : Nat → Int} (hx : Dg 4 x) (hy : Dg 4 y) {p : Int} (hp : Cv p) : boxR (dg (txt 4 (orR x y))) p = band (boxR x p) (boxR y p) := by
  have h := orR_Dg hx hy
  rw [boxR_congr (dgt4 h)]
  refine ext_iff (box_cv _ _) (Cv.and (box_cv _ _) (box_cv _ _)) fun i hi => ?_
  rw [box_iff h hp hi, Cv.has_and (box_cv _ _) (box_cv _ _) hi, Bool.and_eq_true, box_iff hx hp hi, box_iff hy hp hi]
  constructor
  · intro h1; exact ⟨fun k hk h2 => h1 k hk ((or_iff hx hy hi hk).2 (.inl h2)), fun k hk h2 => h1 k hk ((or_iff hx hy hi hk).2 (.inr h2))⟩
  · rintro ⟨h1, h2⟩ k hk h3
    exact ((or_iff hx hy hi hk).1 h3).elim (h1 k hk) (h2 k hk)
theorem ic_diaor {x y : Nat → Int} (hx : Dg 4 x) (hy : Dg 4 y) {p : Int} (hp : Cv p) : dia (dg (txt 4 (orR x y))) p = bor (dia x p) (dia y p) := by
  have h := orR_Dg hx hy
  rw [dia_congr (dgt4 h)]
  refine ext_iff (dia_cv _ _) (Cv.or (dia_cv _ _) (dia_cv _ _)) fun i hi => ?_
  rw [dia_iff h hp hi, Cv.has_or (dia_cv _ _) (dia_cv _ _) hi, Bool.or_eq_true, dia_iff hx hp hi, dia_iff hy hp hi]
  constructor
  · rintro ⟨k, hk, h1, h2⟩
    exact ((or_iff hx hy hi hk).1 h1).imp (fun h => ⟨k, hk, h, h2⟩) (fun h => ⟨k, hk, h, h2⟩)
  · rintro (⟨k, hk, h1, h2⟩ | ⟨k, hk, h1, h2⟩)
    · exact ⟨k, hk, (or_iff hx hy hi hk).2 (.inl h1), h2⟩
    · exact ⟨k, hk, (or_iff hx hy hi hk).2 (.inr h1), h2⟩
/-- The program's values of the union and of what both have. -/
theorem impl_or (r q : ByteArray) (h1 : dvB 4 r = true) (h2 : dvB 4 q = true) : txt 4 (fun s => mk 4 fun t => hasb (dg r s) t || hasb (dg q s) t) = txt 4 (orR (dg r) (dg q)) := txt_congr fun s hs =>
  or_mk (dvB_Dg h1 s hs).1 (dvB_Dg h1 s hs).2 (dvB_Dg h2 s hs).1 (dvB_Dg h2 s hs).2
theorem impl_and (r q : ByteArray) (h1 : dvB 4 r = true) (h2 : dvB 4 q = true) : txt 4 (fun s => mk 4 fun t => hasb (dg r s) t && hasb (dg q s) t) = txt 4 (andR (dg r) (dg q)) := txt_congr fun s hs =>
  and_mk (dvB_Dg h1 s hs).1 (dvB_Dg h1 s hs).2 (dvB_Dg h2 s hs).1 (dvB_Dg h2 s hs).2
end Go.DC
