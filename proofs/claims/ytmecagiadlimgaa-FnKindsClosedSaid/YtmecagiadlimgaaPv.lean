/-
  Plain definitions and laws for the laws on relations. No program in sight.
-/
import Derived.Test.YtmecagiadlimgaaCl
import Derived.Laws.StructEq
namespace Go.DC
open Go.RowKit
set_option linter.unusedVariables false
set_option linter.unusedSimpArgs false
/-- How many of the first n states a condition has, as the loop counts. -/
def cntS (p : Int) : Nat → Int
  | 0 => 0
  | n + 1 => cntS p n + bits .and .i64 (p / 2 ^ n) 1
theorem bit_rng {p : Int} (hp : Cv p) {n : Nat} (hn : n < 4) : bits .and .i64 (p / 2 ^ n) 1 = if hasb p n then 1 else 0 := by
  have : ∀ m : Fin 16, ∀ n : Fin 4, bits .and .i64 ((m.val : Int) / 2 ^ n.val) 1 = if hasb (m.val : Int) n.val then 1 else 0 := by decide +kernel
  exact cond_all (P := fun p => bits .and .i64 (p / 2 ^ n) 1 = if hasb p n then 1 else 0) (fun m => this m ⟨n, hn⟩) hp.1 hp.2
theorem cntS_rng {p : Int} (hp : Cv p) : ∀ n, n ≤ 4 → 0 ≤ cntS p n ∧ cntS p n ≤ n
  | 0, _ => ⟨Int.le_refl _, Int.le_refl _⟩
  | n + 1, h => by
    have ih := cntS_rng hp n (by omega)
    have hb := bit_rng hp (n := n) (by omega)
    unfold cntS
    rw [hb]
    split <;> omega
/-- The pairs of the first n states, counted. -/
def cntP (x : Nat → Int) : Nat → Int
  | 0 => 0
  | n + 1 => cntP x n + cntS (x n) 4
theorem cntP_rng {x : Nat → Int} (hx : Dg 4 x) : ∀ n, n ≤ 4 → 0 ≤ cntP x n ∧ cntP x n ≤ 4 * n
  | 0, _ => ⟨Int.le_refl _, Int.le_refl _⟩
  | n + 1, h => by
    have ih := cntP_rng hx n (by omega)
    have hb := cntS_rng (hx n (by omega)) 4 (Nat.le_refl _)
    unfold cntP
    omega
/-- Each of the first n states is related to one state. -/
def funB (x : Nat → Int) : Nat → Bool
  | 0 => true
  | n + 1 => funB x n && cntS (x n) 4 == 1
/-- Each row of x lies within that of y. -/
def subB (x y : Nat → Int) : Bool := (List.range 4).all fun k => bandn (x k) (y k) == 0
theorem subB_iff {x y : Nat → Int} : subB x y = true ↔ ∀ k, k < 4 → Sub (x k) (y k) := by unfold subB Sub; simp
theorem subB_bad {x y : Nat → Int} {n : Nat} (hn : n < 4) (h : (bits BinOp.andNot IntKind.i64 (x n) (y n) != 0) = true) : subB x y = false := by
  cases hd : subB x y
  · rfl
  · have := subB_iff.1 hd n hn
    unfold Sub bandn at this
    simp [this] at h
theorem subB_ok {x y : Nat → Int} (h : ∀ k, k < 4 → (bits BinOp.andNot IntKind.i64 (x k) (y k) != 0) = false) : subB x y = true :=
  subB_iff.2 fun k hk => by have := h k hk; simpa [Sub, bandn] using this
/-- The test of a condition. -/
def testR (p : Int) : Nat → Int := fun s => mk 4 fun t => decide (s = t) && hasb p s
theorem testR_Dg (p : Int) : Dg 4 (testR p) := fun _ _ => ⟨mk4_ge _, mk4_le _⟩
theorem hasb_test (p : Int) {s t : Nat} (ht : t < 4) : hasb (testR p s) t = (decide (s = t) && hasb p s) := by
  unfold testR; rw [hasb_mk _ _ _ (by decide)]; simp [ht]
theorem test_spec {p : Int} (hp : Cv p) {s : Nat} (hs : s < 4) : testR p s = band p (2 ^ s) := by
  have hi := idR_cv hs
  refine cv_ext (testR_Dg p s hs) (hp.and hi) fun i hi4 => ?_
  rw [hasb_test p hi4, show (2 : Int) ^ s = idR s from rfl, Cv.has_and hp (idR_cv hs) hi4, hasb_id hs hi4]
  by_cases e : s = i
  · subst e; simp
  · have e2 : ¬ i = s := fun h => e h.symm
    simp [e, e2]
theorem eq_test (p : Int) : orNo (cv p) (txt 4 (testR p)) = orNo (cv p) (txt 4 fun s => band p (2 ^ s)) := orNo_congr fun h => txt_congr fun s hs => test_spec (cv_iff.1 h) hs
theorem eq_text (a b : ByteArray) : (a.toList == b.toList) = decide (a = b) := by
  rw [ByteArray.toList_eq, ByteArray.toList_eq, Bool.eq_iff_iff, beq_iff_eq, decide_eq_true_iff]
  constructor
  · intro h
    have h1 : a = ⟨a.data.toList.toArray⟩ := by simp
    have h2 : b = ⟨b.data.toList.toArray⟩ := by simp
    rw [h1, h2, h]
  · rintro rfl; rfl
/-- A relation lies within another one exactly if the union is the other one. -/
theorem sub_or {r q : ByteArray} (hr : Dg 4 (dg r)) (hq : dvB 4 q = true) : decide (txt 4 (fun s => bor (dg r s) (dg q s)) = q) = subB (dg r) (dg q) := by
  rw [Bool.eq_iff_iff, decide_eq_true_iff, subB_iff]
  have hd := dvB_Dg hq
  have hf : ∀ m n : Fin 16, (bor (m.val : Int) (n.val : Int) = (n.val : Int) ↔ bandn (m.val : Int) (n.val : Int) = 0) := by decide +kernel
  have key : ∀ k, k < 4 → (bor (dg r k) (dg q k) = dg q k ↔ bandn (dg r k) (dg q k) = 0) := fun k hk =>
    cond_all2 (P := fun a b => (bor a b = b ↔ bandn a b = 0)) hf (hr k hk).1 (hr k hk).2 (hd k hk).1 (hd k hk).2
  have hD : Dg 4 (fun s => bor (dg r s) (dg q s)) := fun s hs => bor_rng (hr s hs).1 (hr s hs).2 (hd s hs).1 (hd s hs).2
  constructor
  · intro h k hk
    have e : dg (txt 4 (fun s => bor (dg r s) (dg q s))) k = dg q k := congrArg (fun t => dg t k) h
    rw [dg_txt hD hk] at e
    exact (key k hk).1 e
  · intro h
    conv => rhs; rw [← txt_dg hq]
    exact txt_congr fun k hk => (key k hk).2 (h k hk)
/-- The closure, as the program and as the reference make it, step by step. -/
theorem clo_sq {x : Nat → Int} (hx : Dg 4 x) (k : Nat) : ∀ s, s < 4 → thenR (pw (withId x) (2 ^ k)) (pw (withId x) (2 ^ k)) s = pw (withId x) (2 ^ (k + 1)) s := fun s hs => by
  rw [pw_then (withId_Dg hx) _ _ s hs]
  congr 1
  rw [Nat.pow_succ]; omega
theorem pow_bits (s : Nat) (hs : s < 4) : wrap64 (2 ^ s) = idR s := wrap_pow s (by omega)
theorem id_txt : (⟨#[49, 50, 52, 56]⟩ : ByteArray) = txt 4 idR := by decide +kernel
end Go.DC
