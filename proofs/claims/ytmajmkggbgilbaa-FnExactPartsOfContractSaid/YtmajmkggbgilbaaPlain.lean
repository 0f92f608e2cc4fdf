/-
  Plain definitions and laws: conditions as numbers, digits, relations and transformers as functions from numbers to numbers. No program in sight.
-/
import Derived.WalkKit
import Derived.WalkSpells
import Derived.WalkLawsBesides
import Derived.Lib.Hide
import Derived.Lib.Bytealg
import Derived.Lib.IndexLaws
import Derived.Deep.LoopGhost
namespace Go.DC
open Go.RowKit

/-! ### conditions and states -/
/-- A condition: a number from 0 to 15. -/
def cv (p : Int) : Bool := decide (0 ≤ p) && decide (p ≤ 15)
/-- A state: a number from 0 to 3. -/
def sv (s : Int) : Bool := decide (0 ≤ s) && decide (s ≤ 3)
theorem cv_iff {p : Int} : cv p = true ↔ 0 ≤ p ∧ p ≤ 15 := by simp [cv]
theorem sv_iff {p : Int} : sv p = true ↔ 0 ≤ p ∧ p ≤ 3 := by simp [sv]
theorem cv_false {p : Int} : cv p = false ↔ ¬ (0 ≤ p ∧ p ≤ 15) := by rw [← cv_iff]; simp
theorem sv_false {p : Int} : sv p = false ↔ ¬ (0 ≤ p ∧ p ≤ 3) := by rw [← sv_iff]; simp

/-! ### numbers as sets -/
theorem wrap64_small (n : Int) (h0 : 0 ≤ n) (h1 : n < 2 ^ 62) : IntKind.i64.wrap n = n := by
  rw [IntKind.wrap_i64]; omega
theorem and_nat (a b : Nat) (ha : a < 2 ^ 62) (hb : b < 2 ^ 62) : bits .and .i64 (a : Int) (b : Int) = ((a &&& b : Nat) : Int) := (bits_nat .i64 62 (by decide) wrap64_small a b ha hb).1
theorem or_nat (a b : Nat) (ha : a < 2 ^ 62) (hb : b < 2 ^ 62) : bits .or .i64 (a : Int) (b : Int) = ((a ||| b : Nat) : Int) := (bits_nat .i64 62 (by decide) wrap64_small a b ha hb).2

/-- Member k of the set a. -/
def hasb (a : Int) (k : Nat) : Bool := bits .and .i64 (a / 2 ^ k) 1 == 1
theorem hasb_nat (a k : Nat) (ha : a < 2 ^ 62) : hasb (a : Int) k = a.testBit k := by
  unfold hasb
  have h1 : ((a : Int) / 2 ^ k) = ((a / 2 ^ k : Nat) : Int) := by simp
  have h2 : a / 2 ^ k < 2 ^ 62 := Nat.lt_of_le_of_lt (Nat.div_le_self _ _) ha
  have h3 := and_nat (a / 2 ^ k) 1 h2 (by decide)
  rw [h1]
  have h4 : bits .and .i64 ((a / 2 ^ k : Nat) : Int) 1 = (((a / 2 ^ k) &&& 1 : Nat) : Int) := h3
  rw [h4, Nat.and_one_is_mod, Nat.testBit_eq_decide_div_mod_eq]
  rw [Bool.eq_iff_iff]
  simp
  omega

/-- The set of the numbers below n that are so, as the loops make it. -/
def mk : Nat → (Nat → Bool) → Int
  | 0, _ => 0
  | k + 1, f => if f k then bits .or .i64 (mk k f) (2 ^ k) else mk k f
def mkN : Nat → (Nat → Bool) → Nat
  | 0, _ => 0
  | k + 1, f => if f k then mkN k f ||| 2 ^ k else mkN k f
theorem mkN_lt (f : Nat → Bool) : ∀ n, mkN n f < 2 ^ n
  | 0 => by simp [mkN]
  | k + 1 => by
    have ih := mkN_lt f k
    have h2 : 2 ^ k < 2 ^ (k + 1) := Nat.pow_lt_pow_right (by decide) (by omega)
    unfold mkN
    split
    · exact Nat.or_lt_two_pow (by omega) h2
    · omega
theorem mk_eq (f : Nat → Bool) : ∀ n, n ≤ 60 → mk n f = (mkN n f : Int)
  | 0, _ => rfl
  | k + 1, h => by
    have ih := mk_eq f k (by omega)
    have hl := mkN_lt f k
    have h60 : 2 ^ k ≤ 2 ^ 60 := Nat.pow_le_pow_right (by decide) (by omega)
    unfold mk mkN
    split
    · rw [ih]
      have := or_nat (mkN k f) (2 ^ k) (by omega) (by omega)
      rw [← this]; simp
    · exact ih
theorem mkN_bit (f : Nat → Bool) (i : Nat) : ∀ n, (mkN n f).testBit i = (decide (i < n) && f i)
  | 0 => by simp [mkN]
  | k + 1 => by
    have ih := mkN_bit f i k
    unfold mkN
    by_cases hf : f k = true
    · rw [if_pos hf, Nat.testBit_or, ih, Nat.testBit_two_pow]
      by_cases hk : k = i
      · subst hk; simp [hf]
      · have : (decide (i < k + 1)) = decide (i < k) := by rw [decide_eq_decide]; omega
        rw [this]; simp [hk]
    · rw [if_neg hf, ih]
      by_cases hk : k = i
      · subst hk; simp at hf; simp [hf]
      · have : (decide (i < k + 1)) = decide (i < k) := by rw [decide_eq_decide]; omega
        rw [this]
theorem mk_nonneg (f : Nat → Bool) (n : Nat) (h : n ≤ 60) : 0 ≤ mk n f := by rw [mk_eq f n h]; omega
theorem mk_lt (f : Nat → Bool) (n : Nat) (h : n ≤ 60) : mk n f < 2 ^ n := by rw [mk_eq f n h]; exact_mod_cast mkN_lt f n
theorem mk4_le (f : Nat → Bool) : mk 4 f ≤ 15 := by have := mk_lt f 4 (by decide); omega
theorem mk4_ge (f : Nat → Bool) : 0 ≤ mk 4 f := mk_nonneg f 4 (by decide)
theorem hasb_mk (f : Nat → Bool) (n i : Nat) (h : n ≤ 60) : hasb (mk n f) i = (decide (i < n) && f i) := by
  have hl := mkN_lt f n
  have h60 : 2 ^ n ≤ 2 ^ 60 := Nat.pow_le_pow_right (by decide) h
  rw [mk_eq f n h, hasb_nat _ _ (by omega), mkN_bit]
theorem mk_congr {f g : Nat → Bool} : ∀ n, (∀ i, i < n → f i = g i) → mk n f = mk n g
  | 0, _ => rfl
  | k + 1, h => by unfold mk; rw [h k (by omega), mk_congr k fun i hi => h i (by omega)]

/-- Two conditions with the same members are one. -/
theorem cond_ext {a b : Int} (ha0 : 0 ≤ a) (ha : a ≤ 15) (hb0 : 0 ≤ b) (hb : b ≤ 15) (h : ∀ i, i < 4 → hasb a i = hasb b i) : a = b := by
  obtain ⟨a, rfl⟩ := Int.eq_ofNat_of_zero_le ha0
  obtain ⟨b, rfl⟩ := Int.eq_ofNat_of_zero_le hb0
  have : a = b := by
    apply Nat.eq_of_testBit_eq
    intro i
    by_cases hi : i < 4
    · have := h i hi
      rwa [hasb_nat _ _ (by omega), hasb_nat _ _ (by omega)] at this
    · have h2 : 2 ^ 4 ≤ 2 ^ i := Nat.pow_le_pow_right (by decide) (by omega)
      rw [Nat.testBit_lt_two_pow (by omega), Nat.testBit_lt_two_pow (by omega)]
  rw [this]

/-- A fact of all conditions is asked of sixteen numbers. -/
theorem cond_all {P : Int → Prop} (h : ∀ n : Fin 16, P (n.val : Int)) {a : Int} (h0 : 0 ≤ a) (h1 : a ≤ 15) : P a := by
  obtain ⟨a, rfl⟩ := Int.eq_ofNat_of_zero_le h0
  exact h ⟨a, by omega⟩
def band (a b : Int) : Int := bits .and .i64 a b
def bor (a b : Int) : Int := bits .or .i64 a b
def bandn (a b : Int) : Int := bits .andNot .i64 a b
theorem band_rng {a b : Int} (h0 : 0 ≤ a) (h1 : a ≤ 15) (h2 : 0 ≤ b) (h3 : b ≤ 15) : 0 ≤ band a b ∧ band a b ≤ 15 := by
  have : ∀ m n : Fin 16, 0 ≤ band (m.val : Int) (n.val : Int) ∧ band (m.val : Int) (n.val : Int) ≤ 15 := by decide +kernel
  exact cond_all (P := fun a => 0 ≤ band a b ∧ band a b ≤ 15) (fun m => cond_all (P := fun b => 0 ≤ band m.val b ∧ band m.val b ≤ 15) (this m) h2 h3) h0 h1
theorem bor_rng {a b : Int} (h0 : 0 ≤ a) (h1 : a ≤ 15) (h2 : 0 ≤ b) (h3 : b ≤ 15) : 0 ≤ bor a b ∧ bor a b ≤ 15 := by
  have : ∀ m n : Fin 16, 0 ≤ bor (m.val : Int) (n.val : Int) ∧ bor (m.val : Int) (n.val : Int) ≤ 15 := by decide +kernel
  exact cond_all (P := fun a => 0 ≤ bor a b ∧ bor a b ≤ 15) (fun m => cond_all (P := fun b => 0 ≤ bor m.val b ∧ bor m.val b ≤ 15) (this m) h2 h3) h0 h1
theorem bandn_rng {a b : Int} (h0 : 0 ≤ a) (h1 : a ≤ 15) (h2 : 0 ≤ b) (h3 : b ≤ 15) : 0 ≤ bandn a b ∧ bandn a b ≤ 15 := by
  have : ∀ m n : Fin 16, 0 ≤ bandn (m.val : Int) (n.val : Int) ∧ bandn (m.val : Int) (n.val : Int) ≤ 15 := by decide +kernel
  exact cond_all (P := fun a => 0 ≤ bandn a b ∧ bandn a b ≤ 15) (fun m => cond_all (P := fun b => 0 ≤ bandn m.val b ∧ bandn m.val b ≤ 15) (this m) h2 h3) h0 h1
theorem has_band {a b : Int} (h0 : 0 ≤ a) (h1 : a ≤ 15) (h2 : 0 ≤ b) (h3 : b ≤ 15) {i : Nat} (hi : i < 4) : hasb (band a b) i = (hasb a i && hasb b i) := by
  have : ∀ m n : Fin 16, ∀ i : Fin 4, hasb (band (m.val : Int) (n.val : Int)) i.val = (hasb (m.val : Int) i.val && hasb (n.val : Int) i.val) := by decide +kernel
  exact cond_all (P := fun a => hasb (band a b) i = (hasb a i && hasb b i)) (fun m => cond_all (P := fun b => hasb (band m.val b) i = (hasb m.val i && hasb b i)) (fun n => this m n ⟨i, hi⟩) h2 h3) h0 h1
theorem has_bor {a b : Int} (h0 : 0 ≤ a) (h1 : a ≤ 15) (h2 : 0 ≤ b) (h3 : b ≤ 15) {i : Nat} (hi : i < 4) : hasb (bor a b) i = (hasb a i || hasb b i) := by
  have : ∀ m n : Fin 16, ∀ i : Fin 4, hasb (bor (m.val : Int) (n.val : Int)) i.val = (hasb (m.val : Int) i.val || hasb (n.val : Int) i.val) := by decide +kernel
  exact cond_all (P := fun a => hasb (bor a b) i = (hasb a i || hasb b i)) (fun m => cond_all (P := fun b => hasb (bor m.val b) i = (hasb m.val i || hasb b i)) (fun n => this m n ⟨i, hi⟩) h2 h3) h0 h1
theorem has_bandn {a b : Int} (h0 : 0 ≤ a) (h1 : a ≤ 15) (h2 : 0 ≤ b) (h3 : b ≤ 15) {i : Nat} (hi : i < 4) : hasb (bandn a b) i = (hasb a i && !hasb b i) := by
  have : ∀ m n : Fin 16, ∀ i : Fin 4, hasb (bandn (m.val : Int) (n.val : Int)) i.val = (hasb (m.val : Int) i.val && !hasb (n.val : Int) i.val) := by decide +kernel
  exact cond_all (P := fun a => hasb (bandn a b) i = (hasb a i && !hasb b i)) (fun m => cond_all (P := fun b => hasb (bandn m.val b) i = (hasb m.val i && !hasb b i)) (fun n => this m n ⟨i, hi⟩) h2 h3) h0 h1

/-! ### digits -/
def hexs : List UInt8 := [48, 49, 50, 51, 52, 53, 54, 55, 56, 57, 97, 98, 99, 100, 101, 102]
/-- The value of a digit, -1 for another byte. -/
def hx (b : UInt8) : Int := Lib.indexByte hexs b
theorem hx_rng (b : UInt8) : -1 ≤ hx b ∧ hx b ≤ 15 := by
  have : ∀ n : Fin 256, -1 ≤ hx (UInt8.ofNat n.val) ∧ hx (UInt8.ofNat n.val) ≤ 15 := by decide +kernel
  simpa using this ⟨b.toNat, b.toNat_lt⟩
/-- The byte of a digit. -/
def dgb (n : Int) : UInt8 := hexs.getD n.toNat 0
theorem hx_dgb {n : Int} (h0 : 0 ≤ n) (h1 : n ≤ 15) : hx (dgb n) = n := by
  have : ∀ n : Fin 16, hx (dgb (n.val : Int)) = (n.val : Int) := by decide +kernel
  exact cond_all (P := fun n => hx (dgb n) = n) this h0 h1
theorem dgb_hx {b : UInt8} (h : 0 ≤ hx b) : dgb (hx b) = b := by
  have : ∀ n : Fin 256, 0 ≤ hx (UInt8.ofNat n.val) → dgb (hx (UInt8.ofNat n.val)) = UInt8.ofNat n.val := by decide +kernel
  have := this ⟨b.toNat, b.toNat_lt⟩
  simp at this
  exact this h
/-- The text of one digit. -/
def dgt (n : Int) : ByteArray := ⟨#[dgb n]⟩
/-- The value of the digit at a place of a text. -/
def dg (t : ByteArray) (p : Nat) : Int := hx (t.data.toList.getD p 0)
theorem dg_rng (t : ByteArray) (p : Nat) : -1 ≤ dg t p ∧ dg t p ≤ 15 := hx_rng _
/-- The text of n digits. -/
def txt (n : Nat) (f : Nat → Int) : ByteArray := ⟨((List.range n).map fun i => dgb (f i)).toArray⟩
theorem txt_zero (f : Nat → Int) : txt 0 f = ByteArray.empty := rfl
theorem txt_succ (n : Nat) (f : Nat → Int) : txt n f ++ dgt (f n) = txt (n + 1) f := by
  unfold txt dgt
  rw [ByteArray.mk_append_mk, List.range_succ, List.map_append]
  simp
theorem txt_size (n : Nat) (f : Nat → Int) : (txt n f).size = n := by
  show ((List.range n).map fun i => dgb (f i)).toArray.size = n
  simp
theorem txt_congr {n : Nat} {f g : Nat → Int} (h : ∀ i, i < n → f i = g i) : txt n f = txt n g := by
  unfold txt
  congr 2
  apply List.map_congr_left
  intro i hi
  rw [h i (List.mem_range.1 hi)]
/-- The numbers at the places below n are digits' values. -/
def Dg (n : Nat) (f : Nat → Int) : Prop := ∀ i, i < n → 0 ≤ f i ∧ f i ≤ 15
theorem dg_txt {n : Nat} {f : Nat → Int} (h : Dg n f) {i : Nat} (hi : i < n) : dg (txt n f) i = f i := by
  have hb := h i hi
  unfold dg txt
  have e : (((List.range n).map fun i => dgb (f i)).toArray.toList.getD i 0) = dgb (f i) := by
    simp [List.getD, hi]
  rw [e, hx_dgb hb.1 hb.2]
/-- A text of n digits. -/
def dvB (n : Nat) (t : ByteArray) : Bool := decide (t.size = n) && (List.range n).all fun i => decide (0 ≤ dg t i)
theorem dvB_iff {n : Nat} {t : ByteArray} : dvB n t = true ↔ t.size = n ∧ ∀ i, i < n → 0 ≤ dg t i := by
  unfold dvB
  rw [Bool.and_eq_true, decide_eq_true_eq, List.all_eq_true]
  simp
theorem dvB_Dg {n : Nat} {t : ByteArray} (h : dvB n t = true) : Dg n (dg t) := fun i hi => ⟨(dvB_iff.1 h).2 i hi, (dg_rng t i).2⟩
theorem txt_dg {n : Nat} {t : ByteArray} (h : dvB n t = true) : txt n (dg t) = t := by
  obtain ⟨h1, h2⟩ := dvB_iff.1 h
  have hl : t.data.toList.length = n := by rw [← h1]; rfl
  have : (List.range n).map (fun i => dgb (dg t i)) = t.data.toList := by
    apply List.ext_getElem
    · simp [hl]
    · intro i hi1 hi2
      have hi : i < n := by simpa using hi1
      have hd := h2 i hi
      simp only [List.getElem_map, List.getElem_range]
      unfold dg at hd ⊢
      rw [dgb_hx hd]
      simp [List.getD, hl, hi]
  unfold txt
  rw [this]
theorem dvB_txt {n : Nat} {f : Nat → Int} (h : Dg n f) : dvB n (txt n f) = true :=
  dvB_iff.2 ⟨txt_size n f, fun i hi => by rw [dg_txt h hi]; exact (h i hi).1⟩
theorem txt_inj {n : Nat} {f g : Nat → Int} (hf : Dg n f) (hg : Dg n g) (h : txt n f = txt n g) : ∀ i, i < n → f i = g i := fun i hi => by
  rw [← dg_txt hf hi, h, dg_txt hg hi]

/-! ### arrays of numbers -/
def cellsF (n : Nat) (f : Nat → Int) : Array Value := ((List.range n).map fun i => Value.int .i64 (f i)).toArray
def arr (n : Nat) (f : Nat → Int) : Value := .agg (cellsF n f)
theorem cellsF_size (n : Nat) (f : Nat → Int) : (cellsF n f).size = n := by simp [cellsF]
theorem cellsF_get (n : Nat) (f : Nat → Int) {i : Nat} (hi : i < n) : (cellsF n f)[i]? = some (.int .i64 (f i)) := by simp [cellsF, hi]
theorem cellsF_congr {n : Nat} {f g : Nat → Int} (h : ∀ i, i < n → f i = g i) : cellsF n f = cellsF n g := by
  unfold cellsF
  congr 1
  apply List.map_congr_left
  intro i hi
  rw [h i (List.mem_range.1 hi)]
theorem arr_congr {n : Nat} {f g : Nat → Int} (h : ∀ i, i < n → f i = g i) : arr n f = arr n g := by unfold arr; rw [cellsF_congr h]
theorem cellsF_set (n : Nat) (f : Nat → Int) (k : Nat) (v : Int) : (cellsF n f).setIfInBounds k (.int .i64 v) = cellsF n (fun i => if i = k then v else f i) := by
  apply Array.ext_getElem?
  intro i
  rw [Array.getElem?_setIfInBounds]
  by_cases hi : i < n
  · rw [cellsF_get n _ hi, cellsF_get n _ hi, cellsF_size]
    by_cases hk : k = i
    · subst hk; simp [hi]
    · rw [if_neg hk, if_neg (fun h => hk h.symm)]
  · have h1 : (cellsF n f)[i]? = none := by simp [cellsF_size]; omega
    have h2 : (cellsF n fun i => if i = k then v else f i)[i]? = none := by simp [cellsF_size]; omega
    rw [h1, h2, cellsF_size]
    split
    · rename_i hk; subst hk; simp [hi]
    · rfl
end Go.DC
namespace Go.DC
/-! ### the first place of a byte -/
theorem indexByte_no : ∀ {l : List UInt8} {c : UInt8}, (∀ k : Nat, l[k]? ≠ some c) → Lib.indexByte l c = -1
  | [], _, _ => rfl
  | b :: l, c, h => by
    have h0 : b ≠ c := fun e => h 0 (by simp [e])
    have ih := indexByte_no (l := l) (c := c) fun k hk => h (k + 1) (by simpa using hk)
    unfold Lib.indexByte
    simp [h0, ih]
theorem indexByte_at : ∀ {l : List UInt8} {c : UInt8} {k : Nat}, l[k]? = some c → (∀ j, j < k → l[j]? ≠ some c) → Lib.indexByte l c = k
  | [], _, _, h, _ => by simp at h
  | b :: l, c, 0, h, _ => by
    have : b = c := by simpa using h
    unfold Lib.indexByte
    simp [this]
  | b :: l, c, k + 1, h, hn => by
    have h0 : b ≠ c := fun e => hn 0 (by omega) (by simp [e])
    have ih := indexByte_at (l := l) (c := c) (k := k) (by simpa using h) fun j hj => by simpa using hn (j + 1) (by omega)
    unfold Lib.indexByte
    have hk : ((k : Int) == -1) = false := by simp
    rw [ih]
    simp [h0]
theorem byte_at (s : ByteArray) (k : Nat) (h : k < s.size) : s.data.toList[k]? = some s[k] := by
  have : k < s.data.toList.length := h
  rw [List.getElem?_eq_getElem this]; rfl
theorem dg_at (s : ByteArray) (k : Nat) (h : k < s.size) : dg s k = hx s[k] := by
  unfold dg
  rw [List.getD, byte_at s k h]; rfl
theorem byte_eq {a b : UInt8} : ((a.toNat : Int) == (b.toNat : Int)) = (a == b) := by
  rw [Bool.eq_iff_iff]
  simp only [beq_iff_eq]
  constructor
  · intro h; exact UInt8.toNat_inj.1 (by omega)
  · rintro rfl; rfl
/-- No byte c among the first k. -/
def NotIn (s : ByteArray) (c : UInt8) (k : Nat) : Prop := ∀ j, j < k → s.data.toList[j]? ≠ some c
theorem NotIn.zero (s : ByteArray) (c : UInt8) : NotIn s c 0 := fun _ h => absurd h (Nat.not_lt_zero _)
theorem NotIn.succ {s : ByteArray} {c : UInt8} {k : Nat} (h : NotIn s c k) (hk : k < s.size) (hc : ((s[k].toNat : Int) == (c.toNat : Int)) = false) : NotIn s c (k + 1) := fun j hj => by
  by_cases e : j = k
  · subst e
    rw [byte_at s j hk]
    rw [byte_eq] at hc
    intro he
    simp at he hc
    exact hc he
  · exact h j (by omega)
theorem NotIn.hit {s : ByteArray} {c : UInt8} {k : Nat} (h : NotIn s c k) (hk : k < s.size) (hc : ((s[k].toNat : Int) == (c.toNat : Int)) = true) : Lib.indexByte s.data.toList c = k := by
  rw [byte_eq] at hc
  exact indexByte_at (by rw [byte_at s k hk]; simpa using hc) h
theorem NotIn.all {s : ByteArray} {c : UInt8} (h : NotIn s c s.size) : Lib.indexByte s.data.toList c = -1 := indexByte_no fun k => by
  by_cases hk : k < s.size
  · exact h k hk
  · have : s.data.toList[k]? = none := List.getElem?_eq_none (by show s.data.toList.length ≤ k; have : s.data.toList.length = s.size := rfl; omega)
    rw [this]; simp
/-- The first k bytes are digits. -/
def Digs (s : ByteArray) (k : Nat) : Prop := ∀ i, i < k → 0 ≤ dg s i
theorem Digs.zero (s : ByteArray) : Digs s 0 := fun _ h => absurd h (Nat.not_lt_zero _)
theorem Digs.succ {s : ByteArray} {k : Nat} (h : Digs s k) (hk : 0 ≤ dg s k) : Digs s (k + 1) := fun i hi => by
  by_cases e : i = k
  · subst e; exact hk
  · exact h i (by omega)
theorem dvB_of {n : Nat} {t : ByteArray} (hs : t.size = n) (h : Digs t n) : dvB n t = true := dvB_iff.2 ⟨hs, h⟩
theorem dvB_size {n : Nat} {t : ByteArray} (hs : t.size ≠ n) : dvB n t = false := by
  cases hd : dvB n t
  · rfl
  · exact absurd (dvB_iff.1 hd).1 hs
theorem dvB_bad {n : Nat} {t : ByteArray} {k : Nat} (hk : k < n) (h : ¬ 0 ≤ dg t k) : dvB n t = false := by
  cases hd : dvB n t
  · rfl
  · exact absurd ((dvB_iff.1 hd).2 k hk) h
end Go.DC
namespace Go.DC
theorem dgt_extract {n : Int} (h0 : 0 ≤ n) (h1 : n ≤ 15) : (ByteArray.mk #[48, 49, 50, 51, 52, 53, 54, 55, 56, 57, 97, 98, 99, 100, 101, 102]).extract n.toNat (n + 1).toNat = dgt n := by
  have : ∀ n : Fin 16, (ByteArray.mk #[48, 49, 50, 51, 52, 53, 54, 55, 56, 57, 97, 98, 99, 100, 101, 102]).extract ((n.val : Int)).toNat ((n.val : Int) + 1).toNat = dgt (n.val : Int) := by decide +kernel
  exact cond_all (P := fun n => (ByteArray.mk #[48, 49, 50, 51, 52, 53, 54, 55, 56, 57, 97, 98, 99, 100, 101, 102]).extract n.toNat (n + 1).toNat = dgt n) this h0 h1
theorem dvB_badAny {n : Nat} {t : ByteArray} {k : Nat} (hk : k < t.size) (h : ¬ 0 ≤ dg t k) : dvB n t = false := by
  by_cases hs : t.size = n
  · exact dvB_bad (by omega) h
  · exact dvB_size hs
theorem dvB_end {n : Nat} {t : ByteArray} (h : Digs t t.size) : ((t.size : Int) == (n : Int)) = dvB n t := by
  by_cases hs : t.size = n
  · rw [dvB_of hs (hs ▸ h)]; simp [hs]
  · rw [dvB_size hs]; simp; omega
end Go.DC
namespace Go.DC
open Go.RowKit
theorem wrap_pow (n : Nat) (h : n ≤ 60) : wrap64 ((2 : Int) ^ n) = 2 ^ n := by
  have h60 : 2 ^ n ≤ 2 ^ 60 := Nat.pow_le_pow_right (by decide) h
  have e : ((2 : Int) ^ n) = ((2 ^ n : Nat) : Int) := by simp
  rw [e]
  generalize 2 ^ n = m at *
  unfold wrap64
  omega
theorem mk_yes {f : Nat → Bool} {n : Nat} (h : f n = true) (hn : n ≤ 60) : bits BinOp.or IntKind.i64 (mk n f) (wrap64 (2 ^ n)) = mk (n + 1) f := by
  rw [wrap_pow n hn]; simp [mk, h]
theorem mk_no {f : Nat → Bool} {n : Nat} (h : f n = false) : mk n f = mk (n + 1) f := by simp [mk, h]
end Go.DC
