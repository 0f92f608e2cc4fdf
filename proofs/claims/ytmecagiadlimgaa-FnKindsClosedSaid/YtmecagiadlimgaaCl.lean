/-
  Plain laws: closures of relations. No program in sight.
-/
import Derived.Test.YtmecagiadlimgaaLp
namespace Go.DC
open Go.RowKit
set_option linter.unusedVariables false
set_option linter.unusedSimpArgs false
/-- The states to which states of p are related. -/
def img (x : Nat → Int) (p : Int) : Int := un 4 (fun u => hasb p u) x
theorem then_img (x y : Nat → Int) (s : Nat) : thenR x y s = img y (x s) := rfl
theorem img_cv {x : Nat → Int} (hx : Dg 4 x) (p : Int) : Cv (img x p) := un_rng hx 4 (Nat.le_refl _)
theorem hasb_img {x : Nat → Int} (hx : Dg 4 x) (p : Int) {i : Nat} (hi : i < 4) : hasb (img x p) i = true ↔ ∃ k, k < 4 ∧ hasb p k = true ∧ hasb (x k) i = true := by
  unfold img
  rw [hasb_un hx hi 4 (Nat.le_refl _), List.any_eq_true]
  constructor
  · rintro ⟨k, hk, h⟩; rw [Bool.and_eq_true] at h; exact ⟨k, List.mem_range.1 hk, h.1, h.2⟩
  · rintro ⟨k, hk, h1, h2⟩; exact ⟨k, List.mem_range.2 hk, by rw [h1, h2]; rfl⟩
theorem img_sub {x : Nat → Int} (hx : Dg 4 x) {a b : Int} (ha : Cv a) (hb : Cv b) (h : Sub a b) : Sub (img x a) (img x b) :=
  (sub_bits (img_cv hx _) (img_cv hx _)).2 fun i hi hs => by
    obtain ⟨k, hk, h1, h2⟩ := (hasb_img hx a hi).1 hs
    exact (hasb_img hx b hi).2 ⟨k, hk, (sub_bits ha hb).1 h k hk h1, h2⟩
theorem un_congr {c : Nat → Bool} {x y : Nat → Int} : ∀ n, (∀ s, s < n → x s = y s) → un n c x = un n c y
  | 0, _ => rfl
  | n + 1, h => by
    have ih := un_congr (c := c) n fun s hs => h s (by omega)
    unfold un
    rw [ih, h n (by omega)]
theorem img_congr {x y : Nat → Int} (h : ∀ s, s < 4 → x s = y s) (p : Int) : img x p = img y p := un_congr 4 h
theorem thenR_congr {x y x' y' : Nat → Int} (h : ∀ s, s < 4 → x s = x' s) (h2 : ∀ s, s < 4 → y s = y' s) : ∀ s, s < 4 → thenR x y s = thenR x' y' s := fun s hs => by
  rw [then_img, then_img, h s hs, img_congr h2]
theorem img_then {x y : Nat → Int} (hx : Dg 4 x) (hy : Dg 4 y) (p : Int) : img (thenR x y) p = img y (img x p) := by
  have h1 := thenR_Dg x hy
  refine cv_ext (img_cv h1 _) (img_cv hy _) fun i hi => ?_
  rw [Bool.eq_iff_iff, hasb_img h1 p hi, hasb_img hy _ hi]
  constructor
  · rintro ⟨k, hk, h2, h3⟩
    rw [then_img, hasb_img hy _ hi] at h3
    obtain ⟨j, hj, h4, h5⟩ := h3
    exact ⟨j, hj, (hasb_img hx p hj).2 ⟨k, hk, h2, h4⟩, h5⟩
  · rintro ⟨j, hj, h4, h5⟩
    obtain ⟨k, hk, h2, h3⟩ := (hasb_img hx p hj).1 h4
    exact ⟨k, hk, h2, by rw [then_img, hasb_img hy _ hi]; exact ⟨j, hj, h3, h5⟩⟩
def idR : Nat → Int := fun s => 2 ^ s
theorem idR_Dg : Dg 4 idR := fun s hs => ⟨(pow_in hs).1, (pow_in hs).2.1⟩
theorem hasb_id {s i : Nat} (hs : s < 4) (hi : i < 4) : hasb (idR s) i = decide (i = s) := has_pow hi hs
theorem img_id {p : Int} (hp : Cv p) : img idR p = p := cv_ext (img_cv idR_Dg _) hp fun i hi => by
  rw [Bool.eq_iff_iff, hasb_img idR_Dg p hi]
  constructor
  · rintro ⟨k, hk, h1, h2⟩
    rw [hasb_id hk hi] at h2
    have : i = k := by simpa using h2
    rw [this]; exact h1
  · intro h; exact ⟨i, hi, h, by rw [hasb_id hi hi]; simp⟩
theorem img_one {x : Nat → Int} (hx : Dg 4 x) {s : Nat} (hs : s < 4) : img x (idR s) = x s := cv_ext (img_cv hx _) (hx s hs) fun i hi => by
  rw [Bool.eq_iff_iff, hasb_img hx _ hi]
  constructor
  · rintro ⟨k, hk, h1, h2⟩
    rw [hasb_id hs hk] at h1
    have : k = s := by simpa using h1
    rw [← this]; exact h2
  · intro h; exact ⟨s, hs, by rw [hasb_id hs hs]; simp, h⟩
/-- n steps. -/
def pw (x : Nat → Int) : Nat → Nat → Int
  | 0, s => idR s
  | n + 1, s => img x (pw x n s)
theorem pw_Dg {x : Nat → Int} (hx : Dg 4 x) : ∀ n, Dg 4 (pw x n)
  | 0 => idR_Dg
  | n + 1 => fun s _ => img_cv hx _
theorem pw_add {x : Nat → Int} (hx : Dg 4 x) (n : Nat) {s : Nat} (hs : s < 4) : ∀ m, pw x (n + m) s = img (pw x m) (pw x n s)
  | 0 => (img_id (pw_Dg hx n s hs)).symm
  | m + 1 => by
    have ih := pw_add hx n hs m
    have e : pw x (n + (m + 1)) s = img x (pw x (n + m) s) := rfl
    rw [e, ih, ← img_then (pw_Dg hx m) hx]
    rfl
theorem pw_then {x : Nat → Int} (hx : Dg 4 x) (n m : Nat) : ∀ s, s < 4 → thenR (pw x n) (pw x m) s = pw x (n + m) s := fun s hs => by
  rw [pw_add hx n hs m, then_img]
theorem pw_one {x : Nat → Int} (hx : Dg 4 x) : ∀ s, s < 4 → pw x 1 s = x s := fun s hs => img_one hx hs
theorem pw_pw {x : Nat → Int} (hx : Dg 4 x) (k : Nat) : ∀ n s, s < 4 → pw (pw x k) n s = pw x (n * k) s
  | 0, s, _ => by rw [Nat.zero_mul]; rfl
  | n + 1, s, hs => by
    have e : pw (pw x k) (n + 1) s = img (pw x k) (pw (pw x k) n s) := rfl
    rw [e, pw_pw hx k n s hs, ← pw_add hx (n * k) hs k, Nat.succ_mul]
theorem pw_congr {x y : Nat → Int} (h : ∀ s, s < 4 → x s = y s) : ∀ n s, s < 4 → pw x n s = pw y n s
  | 0, _, _ => rfl
  | n + 1, s, hs => by
    have e : ∀ x : Nat → Int, pw x (n + 1) s = img x (pw x n s) := fun _ => rfl
    rw [e, e, pw_congr h n s hs, img_congr h]
/-- Every state is related to itself. -/
def Refl (x : Nat → Int) : Prop := ∀ s, s < 4 → hasb (x s) s = true
theorem Refl.sub {x : Nat → Int} (h : Refl x) (hx : Dg 4 x) {p : Int} (hp : Cv p) : Sub p (img x p) :=
  (sub_bits hp (img_cv hx _)).2 fun i hi hs => (hasb_img hx p hi).2 ⟨i, hi, hs, h i hi⟩
theorem pw_up {x : Nat → Int} (h : Refl x) (hx : Dg 4 x) (n : Nat) {s : Nat} (hs : s < 4) : Sub (pw x n s) (pw x (n + 1) s) := h.sub hx (pw_Dg hx n s hs)
theorem pw_refl {x : Nat → Int} (h : Refl x) (hx : Dg 4 x) : ∀ n, Refl (pw x n)
  | 0 => fun s hs => by show hasb (idR s) s = true; rw [hasb_id hs hs]; simp
  | n + 1 => fun s hs => (sub_bits (pw_Dg hx n s hs) (pw_Dg hx (n + 1) s hs)).1 (pw_up h hx n hs) s hs (pw_refl h hx n s hs)
def crd (a : Int) : Nat := (List.range 4).countP fun i => hasb a i
theorem crd_lt {a b : Int} (ha : Cv a) (hb : Cv b) (h : Sub a b) (hn : a ≠ b) : crd a < crd b := by
  have : ∀ m n : Fin 16, bandn (m.val : Int) (n.val : Int) = 0 → (m.val : Int) ≠ (n.val : Int) → crd (m.val : Int) < crd (n.val : Int) := by decide +kernel
  exact cond_all2 (P := fun a b => bandn a b = 0 → a ≠ b → crd a < crd b) this ha.1 ha.2 hb.1 hb.2 h hn
theorem crd_le {a : Int} (ha : Cv a) : crd a ≤ 4 := by
  have : ∀ m : Fin 16, crd (m.val : Int) ≤ 4 := by decide +kernel
  exact cond_all (P := fun a => crd a ≤ 4) this ha.1 ha.2
theorem crd_id {s : Nat} (hs : s < 4) : crd (idR s) = 1 := by
  have : ∀ s : Fin 4, crd (idR s.val) = 1 := by decide +kernel
  exact this ⟨s, hs⟩
theorem pw_stop {x : Nat → Int} {n s : Nat} (h : pw x (n + 1) s = pw x n s) : pw x (n + 1 + 1) s = pw x (n + 1) s := by
  show img x (pw x (n + 1) s) = img x (pw x n s)
  rw [h]
/-- Three steps are enough. -/
theorem pw_three {x : Nat → Int} (h : Refl x) (hx : Dg 4 x) {s : Nat} (hs : s < 4) : pw x 4 s = pw x 3 s := by
  refine Classical.byContradiction fun h4 => ?_
  have h3 : pw x 3 s ≠ pw x 2 s := fun e => h4 (pw_stop e)
  have h2 : pw x 2 s ≠ pw x 1 s := fun e => h3 (pw_stop e)
  have h1 : pw x 1 s ≠ pw x 0 s := fun e => h2 (pw_stop e)
  have hd := fun n => pw_Dg hx n s hs
  have l := fun n (e : pw x (n + 1) s ≠ pw x n s) => crd_lt (hd n) (hd (n + 1)) (pw_up h hx n hs) (fun e' => e e'.symm)
  have l0 := l 0 h1
  have l1 := l 1 h2
  have l2 := l 2 h3
  have l3 := l 3 h4
  have c0 : crd (pw x 0 s) = 1 := crd_id hs
  have c4 := crd_le (hd 4)
  simp only [Nat.reduceAdd, Nat.zero_add] at l0 l1 l2 l3
  omega
theorem pw_all {x : Nat → Int} (h : Refl x) (hx : Dg 4 x) {s : Nat} (hs : s < 4) : ∀ j, pw x (3 + j) s = pw x 3 s
  | 0 => rfl
  | j + 1 => by
    have ih := pw_all h hx hs j
    have e : pw x (3 + (j + 1)) s = img x (pw x (3 + j) s) := rfl
    rw [e, ih]
    exact pw_three h hx hs
theorem pw_ge {x : Nat → Int} (h : Refl x) (hx : Dg 4 x) {s : Nat} (hs : s < 4) {n m : Nat} (hn : 3 ≤ n) (hm : 3 ≤ m) : pw x n s = pw x m s := by
  have e1 := pw_all h hx hs (n - 3)
  have e2 := pw_all h hx hs (m - 3)
  rw [show 3 + (n - 3) = n by omega] at e1
  rw [show 3 + (m - 3) = m by omega] at e2
  rw [e1, e2]
/-- The relation and all states with themselves. -/
theorem idR_cv {s : Nat} (hs : s < 4) : Cv (idR s) := idR_Dg s hs
def withId (x : Nat → Int) : Nat → Int := fun s => bor (x s) (idR s)
theorem withId_Dg {x : Nat → Int} (hx : Dg 4 x) : Dg 4 (withId x) := fun s hs => bor_rng (hx s hs).1 (hx s hs).2 (idR_Dg s hs).1 (idR_Dg s hs).2
theorem withId_refl {x : Nat → Int} (hx : Dg 4 x) : Refl (withId x) := fun s hs => by
  unfold withId
  rw [Cv.has_or (hx s hs) (idR_Dg s hs) hs, hasb_id hs hs]; simp
/-- The closure. -/
def clo (x : Nat → Int) : Nat → Int := pw (withId x) 16
theorem clo_Dg {x : Nat → Int} (hx : Dg 4 x) : Dg 4 (clo x) := pw_Dg (withId_Dg hx) 16
/-- Out of a reflexive relation and its square the reference makes the square. -/
theorem or_sq {x : Nat → Int} (h : Refl x) (hx : Dg 4 x) {s : Nat} (hs : s < 4) : bor (x s) (thenR x x s) = thenR x x s := by
  have hs2 := h.sub hx (hx s hs)
  have hc := img_cv hx (x s)
  refine cv_ext (Cv.or (hx s hs) hc) hc fun i hi => ?_
  rw [then_img, Cv.has_or (hx s hs) hc hi]
  cases e : hasb (x s) i
  · rfl
  · rw [(sub_bits (hx s hs) hc).1 hs2 i hi e]; rfl
theorem pw_or {x : Nat → Int} (h : Refl x) (hx : Dg 4 x) (n : Nat) {s : Nat} (hs : s < 4) : bor (pw x n s) (thenR (pw x n) (pw x n) s) = pw x (n + n) s := by
  rw [or_sq (pw_refl h hx n) (pw_Dg hx n) hs, pw_then hx n n s hs]
/-- A power that is its own square is the closure. -/
theorem pw_done {x : Nat → Int} (h : Refl x) (hx : Dg 4 x) {n : Nat} (hn : 1 ≤ n) (e : ∀ s, s < 4 → pw x n s = pw x (n + n) s) : ∀ s, s < 4 → pw x n s = pw x 16 s := by
  have h2 : ∀ s, s < 4 → pw x (n + n) s = pw x (n + n + (n + n)) s := fun s hs => by
    rw [← pw_then hx n n s hs, ← pw_then hx (n + n) (n + n) s hs]
    exact thenR_congr e e s hs
  intro s hs
  rw [e s hs, h2 s hs]
  exact pw_ge h hx hs (by omega) (by omega)
/-- As the law makes it: no step, or one more. -/
def stp (x : Nat → Int) : Nat → Nat → Int
  | 0, s => idR s
  | n + 1, s => bor (idR s) (thenR (stp x n) x s)
theorem stp_Dg {x : Nat → Int} (hx : Dg 4 x) : ∀ n, Dg 4 (stp x n)
  | 0 => idR_Dg
  | n + 1 => fun s hs => Cv.or (idR_Dg s hs) (img_cv hx _)
theorem img_with {x : Nat → Int} (hx : Dg 4 x) {p : Int} (hp : Cv p) : img (withId x) p = bor (img x p) p := by
  have hw := withId_Dg hx
  refine cv_ext (img_cv hw _) ((img_cv hx p).or hp) fun i hi => ?_
  rw [Cv.has_or (img_cv hx p) hp hi, Bool.eq_iff_iff, hasb_img hw p hi, Bool.or_eq_true, hasb_img hx p hi]
  have hk : ∀ k, k < 4 → (hasb (withId x k) i = true ↔ hasb (x k) i = true ∨ i = k) := fun k hk => by
    unfold withId
    rw [Cv.has_or (hx k hk) (idR_Dg k hk) hi, hasb_id hk hi]; simp
  constructor
  · rintro ⟨k, h4, h1, h2⟩
    rcases (hk k h4).1 h2 with h3 | rfl
    · exact .inl ⟨k, h4, h1, h3⟩
    · exact .inr h1
  · rintro (⟨k, h4, h1, h2⟩ | h)
    · exact ⟨k, h4, h1, (hk k h4).2 (.inl h2)⟩
    · exact ⟨i, hi, h, (hk i hi).2 (.inr rfl)⟩
theorem stp_pw {x : Nat → Int} (hx : Dg 4 x) {s : Nat} (hs : s < 4) : ∀ n, stp x n s = pw (withId x) n s ∧ Sub (stp x n s) (stp x (n + 1) s)
  | 0 => ⟨rfl, (sub_bits (idR_Dg s hs) (stp_Dg hx 1 s hs)).2 fun i hi h => by
      show hasb (bor (idR s) (img x (stp x 0 s))) i = true
      rw [Cv.has_or (idR_Dg s hs) (img_cv hx _) hi, h]; rfl⟩
  | n + 1 => by
    have ih := stp_pw hx hs n
    have hd := fun n => stp_Dg hx n s hs
    refine ⟨?_, ?_⟩
    · have e : pw (withId x) (n + 1) s = img (withId x) (pw (withId x) n s) := rfl
      rw [e, ← ih.1, img_with hx (hd n)]
      refine cv_ext (hd (n + 1)) ((img_cv hx _).or (hd n)) fun i hi => ?_
      have e1 : stp x (n + 1) s = bor (idR s) (img x (stp x n s)) := rfl
      rw [Cv.has_or (img_cv hx _) (hd n) hi]
      cases h : hasb (stp x n s) i
      · rw [e1, Cv.has_or (idR_Dg s hs) (img_cv hx _) hi, Bool.or_false]
        have : hasb (idR s) i = false := by
          cases h0 : hasb (idR s) i
          · rfl
          · have hin : ∀ n, hasb (stp x n s) i = true := fun n => by
              cases n with
              | zero => exact h0
              | succ n =>
                show hasb (bor (idR s) (img x (stp x n s))) i = true
                rw [Cv.has_or (idR_Dg s hs) (img_cv hx _) hi, h0]; rfl
            rw [hin n] at h; exact absurd h (by simp)
        rw [this]; rfl
      · rw [(sub_bits (hd n) (hd (n + 1))).1 ih.2 i hi h, Bool.or_true]
    · show Sub (bor (idR s) (img x (stp x n s))) (bor (idR s) (img x (stp x (n + 1) s)))
      have hc := fun n => img_cv hx (stp x n s)
      exact (sub_bits ((idR_cv hs).or (hc n)) ((idR_cv hs).or (hc (n + 1)))).2 fun i hi h => by
        rw [Cv.has_or (idR_Dg s hs) (hc n) hi, Bool.or_eq_true] at h
        rw [Cv.has_or (idR_Dg s hs) (hc (n + 1)) hi, Bool.or_eq_true]
        exact h.imp id fun h => (sub_bits (hc n) (hc (n + 1))).1 (img_sub hx (hd n) (hd (n + 1)) ih.2) i hi h
theorem clo_stp {x : Nat → Int} (hx : Dg 4 x) {s : Nat} (hs : s < 4) : clo x s = stp x 4 s := by
  rw [(stp_pw hx hs 4).1]
  exact pw_ge (withId_refl hx) (withId_Dg hx) hs (by decide) (by decide)
theorem clo_twice {x : Nat → Int} (hx : Dg 4 x) {s : Nat} (hs : s < 4) : thenR (clo x) (clo x) s = clo x s := by
  unfold clo
  rw [pw_then (withId_Dg hx) 16 16 s hs]
  exact pw_ge (withId_refl hx) (withId_Dg hx) hs (by decide) (by decide)
theorem with_refl {x : Nat → Int} (h : Refl x) (hx : Dg 4 x) {s : Nat} (hs : s < 4) : withId x s = x s := cv_ext (withId_Dg hx s hs) (hx s hs) fun i hi => by
  unfold withId
  rw [Cv.has_or (hx s hs) (idR_Dg s hs) hi, hasb_id hs hi]
  by_cases e : i = s
  · subst e; rw [h i hi]; rfl
  · simp [e]
theorem clo_again {x : Nat → Int} (hx : Dg 4 x) {s : Nat} (hs : s < 4) : clo (clo x) s = clo x s := by
  have hr := pw_refl (withId_refl hx) (withId_Dg hx) 16
  have hd := clo_Dg hx
  show pw (withId (clo x)) 16 s = _
  rw [pw_congr (x := withId (clo x)) (y := clo x) (fun s hs => with_refl hr hd hs) 16 s hs]
  unfold clo
  rw [pw_pw (withId_Dg hx) 16 16 s hs]
  exact pw_ge (withId_refl hx) (withId_Dg hx) hs (by decide) (by decide)
theorem clo_in {x : Nat → Int} (hx : Dg 4 x) {s : Nat} (hs : s < 4) : Sub (x s) (clo x s) := by
  rw [clo_stp hx hs, (stp_pw hx hs 4).1, pw_ge (withId_refl hx) (withId_Dg hx) hs (n := 4) (m := 15 + 1) (by decide) (by decide)]
  have hw := withId_Dg hx
  have h1 : Sub (x s) (withId x s) := (sub_bits (hx s hs) (hw s hs)).2 fun i hi h => by
    unfold withId
    rw [Cv.has_or (hx s hs) (idR_Dg s hs) hi, h]; rfl
  refine Sub.trans (hx s hs) (hw s hs) (pw_Dg hw 16 s hs) h1 ?_
  rw [pw_add hw 15 hs 1, img_congr (pw_one hw)]
  have hid : Sub (idR s) (pw (withId x) 15 s) := (sub_bits (idR_Dg s hs) (pw_Dg hw 15 s hs)).2 fun i hi h => by
    rw [hasb_id hs hi] at h
    have : i = s := by simpa using h
    rw [this]; exact pw_refl (withId_refl hx) hw 15 s hs
  have := img_sub hw (idR_Dg s hs) (pw_Dg hw 15 s hs) hid
  rw [img_one hw hs] at this
  exact this
end Go.DC
