/-
  Plain laws on relations: what the program computes is what the reference computes. No program in sight.
-/
import Derived.Test.YtmajmkggbgilbaaMem
namespace Go.DC
open Go.RowKit
set_option linter.unusedVariables false
set_option linter.unusedSimpArgs false
theorem cond_all2 {P : Int → Int → Prop} (h : ∀ m n : Fin 16, P (m.val : Int) (n.val : Int)) {a b : Int} (h0 : 0 ≤ a) (h1 : a ≤ 15) (h2 : 0 ≤ b) (h3 : b ≤ 15) : P a b :=
  cond_all (P := fun a => P a b) (fun m => cond_all (P := fun b => P m.val b) (h m) h2 h3) h0 h1
theorem not_mk {a : Int} (h0 : 0 ≤ a) (h1 : a ≤ 15) : (mk 4 fun t => !hasb a t) = bandn 15 a := by
  have : ∀ n : Fin 16, (mk 4 fun t => !hasb (n.val : Int) t) = bandn 15 (n.val : Int) := by decide +kernel
  exact cond_all (P := fun a => (mk 4 fun t => !hasb a t) = bandn 15 a) this h0 h1
theorem and_mk {a b : Int} (h0 : 0 ≤ a) (h1 : a ≤ 15) (h2 : 0 ≤ b) (h3 : b ≤ 15) : (mk 4 fun t => hasb a t && hasb b t) = band a b := by
  have : ∀ m n : Fin 16, (mk 4 fun t => hasb (m.val : Int) t && hasb (n.val : Int) t) = band (m.val : Int) (n.val : Int) := by decide +kernel
  exact cond_all2 (P := fun a b => (mk 4 fun t => hasb a t && hasb b t) = band a b) this h0 h1 h2 h3
theorem or_mk {a b : Int} (h0 : 0 ≤ a) (h1 : a ≤ 15) (h2 : 0 ≤ b) (h3 : b ≤ 15) : (mk 4 fun t => hasb a t || hasb b t) = bor a b := by
  have : ∀ m n : Fin 16, (mk 4 fun t => hasb (m.val : Int) t || hasb (n.val : Int) t) = bor (m.val : Int) (n.val : Int) := by decide +kernel
  exact cond_all2 (P := fun a b => (mk 4 fun t => hasb a t || hasb b t) = bor a b) this h0 h1 h2 h3
/-- Two conditions meet exactly if a state meets both. -/
theorem meet_any {a b : Int} (h0 : 0 ≤ a) (h1 : a ≤ 15) (h2 : 0 ≤ b) (h3 : b ≤ 15) : (band a b != 0) = (List.range 4).any fun k => hasb a k && hasb b k := by
  have : ∀ m n : Fin 16, (band (m.val : Int) (n.val : Int) != 0) = (List.range 4).any fun k => hasb (m.val : Int) k && hasb (n.val : Int) k := by decide +kernel
  exact cond_all2 (P := fun a b => (band a b != 0) = (List.range 4).any fun k => hasb a k && hasb b k) this h0 h1 h2 h3
theorem meet_pow {a : Int} (h0 : 0 ≤ a) (h1 : a ≤ 15) {t : Nat} (ht : t < 4) : (band a (2 ^ t) != 0) = hasb a t := by
  have : ∀ n : Fin 16, ∀ t : Fin 4, (band (n.val : Int) (2 ^ t.val) != 0) = hasb (n.val : Int) t.val := by decide +kernel
  exact cond_all (P := fun a => (band a (2 ^ t) != 0) = hasb a t) (fun n => this n ⟨t, ht⟩) h0 h1
theorem dia_pow {x : Nat → Int} (hx : Dg 4 x) {t : Nat} (ht : t < 4) : dia x (2 ^ t) = turn x t := mk_congr 4 fun s hs => meet_pow (hx s hs).1 (hx s hs).2 ht
theorem dia_rng (x : Nat → Int) (p : Int) : 0 ≤ dia x p ∧ dia x p ≤ 15 := ⟨mk4_ge _, mk4_le _⟩
theorem hasb_dia (x : Nat → Int) (p : Int) {i : Nat} (hi : i < 4) : hasb (dia x p) i = (band (x i) p != 0) := by
  unfold dia; rw [hasb_mk _ _ _ (by decide)]; simp [hi]
theorem hasb_turn (x : Nat → Int) {s t : Nat} (ht : t < 4) : hasb (turn x s) t = hasb (x t) s := by
  unfold turn; rw [hasb_mk _ _ _ (by decide)]; simp [ht]
theorem any_congr {n : Nat} {f g : Nat → Bool} (h : ∀ k, k < n → f k = g k) : (List.range n).any f = (List.range n).any g := by
  rw [Bool.eq_iff_iff, List.any_eq_true, List.any_eq_true]
  constructor
  · rintro ⟨k, hk, e⟩; exact ⟨k, hk, by rw [← h k (List.mem_range.1 hk)]; exact e⟩
  · rintro ⟨k, hk, e⟩; exact ⟨k, hk, by rw [h k (List.mem_range.1 hk)]; exact e⟩
/-- The image: by the rows, and by the turned relation. -/
theorem image_eq {x : Nat → Int} (hx : Dg 4 x) {p : Int} (h0 : 0 ≤ p) (h1 : p ≤ 15) : un 4 (fun u => hasb p u) x = dia (turn x) p := by
  have hu := un_rng (c := fun u => hasb p u) hx 4 (Nat.le_refl _)
  have hd := dia_rng (turn x) p
  refine cond_ext hu.1 hu.2 hd.1 hd.2 fun i hi => ?_
  have ht := turn_Dg x i hi
  rw [hasb_un hx hi 4 (Nat.le_refl _), hasb_dia _ _ hi, meet_any ht.1 ht.2 h0 h1]
  exact any_congr fun k hk => by rw [hasb_turn x hk, Bool.and_comm]
theorem orNo_congr {V : Bool} {s s' : ByteArray} (h : V = true → s = s') : orNo V s = orNo V s' := by cases V; rfl; exact h rfl
theorem askV_congr {V : Bool} {s s' : Int} (h : V = true → s = s') : askV V s = askV V s' := by cases V; rfl; exact h rfl
theorem eq_not (r : ByteArray) : orNo (dvB 4 r) (txt 4 (fun s => mk 4 fun t => !hasb (dg r s) t)) = orNo (dvB 4 r) (txt 4 fun s => bandn 15 (dg r s)) :=
  orNo_congr fun h => txt_congr fun s hs => not_mk (dvB_Dg h s hs).1 (dvB_Dg h s hs).2
theorem eq_and (r q : ByteArray) : orNo (dvB 4 r && dvB 4 q) (txt 4 (fun s => mk 4 fun t => hasb (dg r s) t && hasb (dg q s) t)) = orNo (dvB 4 r && dvB 4 q) (txt 4 fun s => band (dg r s) (dg q s)) :=
  orNo_congr fun h => txt_congr fun s hs => by
    obtain ⟨h1, h2⟩ := Bool.and_eq_true_iff.1 h
    exact and_mk (dvB_Dg h1 s hs).1 (dvB_Dg h1 s hs).2 (dvB_Dg h2 s hs).1 (dvB_Dg h2 s hs).2
theorem eq_or (r q : ByteArray) : orNo (dvB 4 r && dvB 4 q) (txt 4 (fun s => mk 4 fun t => hasb (dg r s) t || hasb (dg q s) t)) = orNo (dvB 4 r && dvB 4 q) (txt 4 fun s => bor (dg r s) (dg q s)) :=
  orNo_congr fun h => txt_congr fun s hs => by
    obtain ⟨h1, h2⟩ := Bool.and_eq_true_iff.1 h
    exact or_mk (dvB_Dg h1 s hs).1 (dvB_Dg h1 s hs).2 (dvB_Dg h2 s hs).1 (dvB_Dg h2 s hs).2
theorem eq_turn (r : ByteArray) : orNo (dvB 4 r) (txt 4 (turn (dg r))) = orNo (dvB 4 r) (txt 4 fun t => dia (dg r) (2 ^ t)) :=
  orNo_congr fun h => txt_congr fun s hs => (dia_pow (dvB_Dg h) hs).symm
theorem eq_image (r : ByteArray) (p : Int) : askV (dvB 4 r && cv p) (dia (turn (dg r)) p) = askV (dvB 4 r && cv p) (un 4 (fun u => hasb p u) (dg r)) :=
  askV_congr fun h => by
    obtain ⟨h1, h2⟩ := Bool.and_eq_true_iff.1 h
    exact (image_eq (dvB_Dg h1) (cv_iff.1 h2).1 (cv_iff.1 h2).2).symm
end Go.DC
