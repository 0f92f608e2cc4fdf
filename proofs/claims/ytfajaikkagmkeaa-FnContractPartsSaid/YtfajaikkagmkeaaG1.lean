/-
  Plain definitions and laws: conditions as numbers, digits, relations and transformers as functions from numbers to numbers. No program in sight.
  Arrays of numbers in memory: what a block holds, and the laws of a walk that reads or writes a whole array. Over any program.
  Plain laws on relations: what the program computes is what the reference computes. No program in sight.
  Plain definitions and laws on transformers. No program in sight.
  Plain definitions and laws: the relation that leads from each state to the conditions that it meets; closures. No program in sight.
  Plain laws: specifications, bounds. No program in sight.
  Facts on arrays that are kept through a region that draws its order and holds calls. Over any program.
  Laws for a region that draws its order and holds calls, loads of whole arrays and a store of a whole array.
  Plain definitions and laws: contracts as trees, their texts, and how they are read. No program in sight.
  Plain laws: conditions as a lattice, the least fixed point. No program in sight.
  Plain definitions and laws: what a contract tells. No program in sight.
  Contracts in memory: the block of a statement, and what the blocks below it hold. Over any program.
  Contracts in memory while they are read: ranges of blocks, lists of parts that grow, and the plain reading of parts. Over any program.
-/
import Derived.WalkKit
import Derived.WalkSpells
import Derived.WalkLawsBesides
import Derived.Lib.Hide
import Derived.Lib.Bytealg
import Derived.Lib.IndexLaws
import Derived.Deep.LoopGhost
import Derived.Laws.Rows
import Derived.Laws.Tables
import Derived.Deep.WholeRow
import Derived.Deep.MidRow
import Derived.Deep.RegionHeld3
import Derived.OwnWalk
import Derived.ArgAppend
namespace Go.DC
open Go.RowKit

/-! ### conditions and states -/
/-- A condition: a number from 0 to 15. -/
def cv (p : Int) : Bool := decide (0 ≤ p) && decide (p ≤ 15)
/-- A state: a number from 0 to 3. -/
def sv (s : Int) : Bool := decide (0 ≤ s) && decide (s ≤ 3)
theorem cv_iff {p : Int} : cv p = true ↔ 0 ≤ p ∧ p ≤ 15 := by simp [cv]
theorem sv_iff {p : Int} : sv p = true ↔ 0 ≤ p ∧ p ≤ 3 := by simp [sv]
theorem cv_false {p : Int} : cv p = false ↔ ¬ (0 ≤ p ∧ p ≤ 15) := by rw [← cv_iff]; simp
theorem sv_false {p : Int} : sv p = false ↔ ¬ (0 ≤ p ∧ p ≤ 3) := by rw [← sv_iff]; simp

/-! ### numbers as sets -/
theorem wrap64_small (n : Int) (h0 : 0 ≤ n) (h1 : n < 2 ^ 62) : IntKind.i64.wrap n = n := by
  rw [IntKind.wrap_i64]; omega
theorem and_nat (a b : Nat) (ha : a < 2 ^ 62) (hb : b < 2 ^ 62) : bits .and .i64 (a : Int) (b : Int) = ((a &&& b : Nat) : Int) := (bits_nat .i64 62 (by decide) wrap64_small a b ha hb).1
theorem or_nat (a b : Nat) (ha : a < 2 ^ 62) (hb : b < 2 ^ 62) : bits .or .i64 (a : Int) (b : Int) = ((a ||| b : Nat) : Int) := (bits_nat .i64 62 (by decide) wrap64_small a b ha hb).2

/-- Member k of the set a. -/
def hasb (a : Int) (k : Nat) : Bool := bits .and .i64 (a / 2 ^ k) 1 == 1
theorem hasb_nat (a k : Nat) (ha : a < 2 ^ 62) : hasb (a : Int) k = a.testBit k := by
  unfold hasb
  have h1 : ((a : Int) / 2 ^ k) = ((a / 2 ^ k : Nat) : Int) := by simp
  have h2 : a / 2 ^ k < 2 ^ 62 := Nat.lt_of_le_of_lt (Nat.div_le_self _ _) ha
  have h3 := and_nat (a / 2 ^ k) 1 h2 (by decide)
  rw [h1]
  have h4 : bits .and .i64 ((a / 2 ^ k : Nat) : Int) 1 = (((a / 2 ^ k) &&& 1 : Nat) : Int) := h3
  rw [h4, Nat.and_one_is_mod, Nat.testBit_eq_decide_div_mod_eq]
  rw [Bool.eq_iff_iff]
  simp
  omega

/-- The set of the numbers below n that are so, as the loops make it. -/
def mk : Nat → (Nat → Bool) → Int
  | 0, _ => 0
  | k + 1, f => if f k then bits .or .i64 (mk k f) (2 ^ k) else mk k f
def mkN : Nat → (Nat → Bool) → Nat
  | 0, _ => 0
  | k + 1, f => if f k then mkN k f ||| 2 ^ k else mkN k f
theorem mkN_lt (f : Nat → Bool) : ∀ n, mkN n f < 2 ^ n
  | 0 => by simp [mkN]
  | k + 1 => by
    have ih := mkN_lt f k
    have h2 : 2 ^ k < 2 ^ (k + 1) := Nat.pow_lt_pow_right (by decide) (by omega)
    unfold mkN
    split
    · exact Nat.or_lt_two_pow (by omega) h2
    · omega
theorem mk_eq (f : Nat → Bool) : ∀ n, n ≤ 60 → mk n f = (mkN n f : Int)
  | 0, _ => rfl
  | k + 1, h => by
    have ih := mk_eq f k (by omega)
    have hl := mkN_lt f k
    have h60 : 2 ^ k ≤ 2 ^ 60 := Nat.pow_le_pow_right (by decide) (by omega)
    unfold mk mkN
    split
    · rw [ih]
      have := or_nat (mkN k f) (2 ^ k) (by omega) (by omega)
      rw [← this]; simp
    · exact ih
theorem mkN_bit (f : Nat → Bool) (i : Nat) : ∀ n, (mkN n f).testBit i = (decide (i < n) && f i)
  | 0 => by simp [mkN]
  | k + 1 => by
    have ih := mkN_bit f i k
    unfold mkN
    by_cases hf : f k = true
    · rw [if_pos hf, Nat.testBit_or, ih, Nat.testBit_two_pow]
      by_cases hk : k = i
      · subst hk; simp [hf]
      · have : (decide (i < k + 1)) = decide (i < k) := by rw [decide_eq_decide]; omega
        rw [this]; simp [hk]
    · rw [if_neg hf, ih]
      by_cases hk : k = i
      · subst hk; simp at hf; simp [hf]
      · have : (decide (i < k + 1)) = decide (i < k) := by rw [decide_eq_decide]; omega
        rw [this]
theorem mk_nonneg (f : Nat → Bool) (n : Nat) (h : n ≤ 60) : 0 ≤ mk n f := by rw [mk_eq f n h]; omega
theorem mk_lt (f : Nat → Bool) (n : Nat) (h : n ≤ 60) : mk n f < 2 ^ n := by rw [mk_eq f n h]; exact_mod_cast mkN_lt f n
theorem mk4_le (f : Nat → Bool) : mk 4 f ≤ 15 := by have := mk_lt f 4 (by decide); omega
theorem mk4_ge (f : Nat → Bool) : 0 ≤ mk 4 f := mk_nonneg f 4 (by decide)
theorem hasb_mk (f : Nat → Bool) (n i : Nat) (h : n ≤ 60) : hasb (mk n f) i = (decide (i < n) && f i) := by
  have hl := mkN_lt f n
  have h60 : 2 ^ n ≤ 2 ^ 60 := Nat.pow_le_pow_right (by decide) h
  rw [mk_eq f n h, hasb_nat _ _ (by omega), mkN_bit]
theorem mk_congr {f g : Nat → Bool} : ∀ n, (∀ i, i < n → f i = g i) → mk n f = mk n g
  | 0, _ => rfl
  | k + 1, h => by unfold mk; rw [h k (by omega), mk_congr k fun i hi => h i (by omega)]

/-- Two conditions with the same members are one. -/
theorem cond_ext {a b : Int} (ha0 : 0 ≤ a) (ha : a ≤ 15) (hb0 : 0 ≤ b) (hb : b ≤ 15) (h : ∀ i, i < 4 → hasb a i = hasb b i) : a = b := by
  obtain ⟨a, rfl⟩ := Int.eq_ofNat_of_zero_le ha0
  obtain ⟨b, rfl⟩ := Int.eq_ofNat_of_zero_le hb0
  have : a = b := by
    apply Nat.eq_of_testBit_eq
    intro i
    by_cases hi : i < 4
    · have := h i hi
      rwa [hasb_nat _ _ (by omega), hasb_nat _ _ (by omega)] at this
    · have h2 : 2 ^ 4 ≤ 2 ^ i := Nat.pow_le_pow_right (by decide) (by omega)
      rw [Nat.testBit_lt_two_pow (by omega), Nat.testBit_lt_two_pow (by omega)]
  rw [this]

/-- A fact of all conditions is asked of sixteen numbers. -/
theorem cond_all {P : Int → Prop} (h : ∀ n : Fin 16, P (n.val : Int)) {a : Int} (h0 : 0 ≤ a) (h1 : a ≤ 15) : P a := by
  obtain ⟨a, rfl⟩ := Int.eq_ofNat_of_zero_le h0
  exact h ⟨a, by omega⟩
def band (a b : Int) : Int := bits .and .i64 a b
def bor (a b : Int) : Int := bits .or .i64 a b
def bandn (a b : Int) : Int := bits .andNot .i64 a b
theorem band_rng {a b : Int} (h0 : 0 ≤ a) (h1 : a ≤ 15) (h2 : 0 ≤ b) (h3 : b ≤ 15) : 0 ≤ band a b ∧ band a b ≤ 15 := by
  have : ∀ m n : Fin 16, 0 ≤ band (m.val : Int) (n.val : Int) ∧ band (m.val : Int) (n.val : Int) ≤ 15 := by decide +kernel
  exact cond_all (P := fun a => 0 ≤ band a b ∧ band a b ≤ 15) (fun m => cond_all (P := fun b => 0 ≤ band m.val b ∧ band m.val b ≤ 15) (this m) h2 h3) h0 h1
theorem bor_rng {a b : Int} (h0 : 0 ≤ a) (h1 : a ≤ 15) (h2 : 0 ≤ b) (h3 : b ≤ 15) : 0 ≤ bor a b ∧ bor a b ≤ 15 := by
  have : ∀ m n : Fin 16, 0 ≤ bor (m.val : Int) (n.val : Int) ∧ bor (m.val : Int) (n.val : Int) ≤ 15 := by decide +kernel
  exact cond_all (P := fun a => 0 ≤ bor a b ∧ bor a b ≤ 15) (fun m => cond_all (P := fun b => 0 ≤ bor m.val b ∧ bor m.val b ≤ 15) (this m) h2 h3) h0 h1
theorem bandn_rng {a b : Int} (h0 : 0 ≤ a) (h1 : a ≤ 15) (h2 : 0 ≤ b) (h3 : b ≤ 15) : 0 ≤ bandn a b ∧ bandn a b ≤ 15 := by
  have : ∀ m n : Fin 16, 0 ≤ bandn (m.val : Int) (n.val : Int) ∧ bandn (m.val : Int) (n.val : Int) ≤ 15 := by decide +kernel
  exact cond_all (P := fun a => 0 ≤ bandn a b ∧ bandn a b ≤ 15) (fun m => cond_all (P := fun b => 0 ≤ bandn m.val b ∧ bandn m.val b ≤ 15) (this m) h2 h3) h0 h1
theorem has_band {a b : Int} (h0 : 0 ≤ a) (h1 : a ≤ 15) (h2 : 0 ≤ b) (h3 : b ≤ 15) {i : Nat} (hi : i < 4) : hasb (band a b) i = (hasb a i && hasb b i) := by
  have : ∀ m n : Fin 16, ∀ i : Fin 4, hasb (band (m.val : Int) (n.val : Int)) i.val = (hasb (m.val : Int) i.val && hasb (n.val : Int) i.val) := by decide +kernel
  exact cond_all (P := fun a => hasb (band a b) i = (hasb a i && hasb b i)) (fun m => cond_all (P := fun b => hasb (band m.val b) i = (hasb m.val i && hasb b i)) (fun n => this m n ⟨i, hi⟩) h2 h3) h0 h1
theorem has_bor {a b : Int} (h0 : 0 ≤ a) (h1 : a ≤ 15) (h2 : 0 ≤ b) (h3 : b ≤ 15) {i : Nat} (hi : i < 4) : hasb (bor a b) i = (hasb a i || hasb b i) := by
  have : ∀ m n : Fin 16, ∀ i : Fin 4, hasb (bor (m.val : Int) (n.val : Int)) i.val = (hasb (m.val : Int) i.val || hasb (n.val : Int) i.val) := by decide +kernel
  exact cond_all (P := fun a => hasb (bor a b) i = (hasb a i || hasb b i)) (fun m => cond_all (P := fun b => hasb (bor m.val b) i = (hasb m.val i || hasb b i)) (fun n => this m n ⟨i, hi⟩) h2 h3) h0 h1
theorem has_bandn {a b : Int} (h0 : 0 ≤ a) (h1 : a ≤ 15) (h2 : 0 ≤ b) (h3 : b ≤ 15) {i : Nat} (hi : i < 4) : hasb (bandn a b) i = (hasb a i && !hasb b i) := by
  have : ∀ m n : Fin 16, ∀ i : Fin 4, hasb (bandn (m.val : Int) (n.val : Int)) i.val = (hasb (m.val : Int) i.val && !hasb (n.val : Int) i.val) := by decide +kernel
  exact cond_all (P := fun a => hasb (bandn a b) i = (hasb a i && !hasb b i)) (fun m => cond_all (P := fun b => hasb (bandn m.val b) i = (hasb m.val i && !hasb b i)) (fun n => this m n ⟨i, hi⟩) h2 h3) h0 h1

/-! ### digits -/
def hexs : List UInt8 := [48, 49, 50, 51, 52, 53, 54, 55, 56, 57, 97, 98, 99, 100, 101, 102]
/-- The value of a digit, -1 for another byte. -/
def hx (b : UInt8) : Int := Lib.indexByte hexs b
theorem hx_rng (b : UInt8) : -1 ≤ hx b ∧ hx b ≤ 15 := by
  have : ∀ n : Fin 256, -1 ≤ hx (UInt8.ofNat n.val) ∧ hx (UInt8.ofNat n.val) ≤ 15 := by decide +kernel
  simpa using this ⟨b.toNat, b.toNat_lt⟩
/-- The byte of a digit. -/
def dgb (n : Int) : UInt8 := hexs.getD n.toNat 0
theorem hx_dgb {n : Int} (h0 : 0 ≤ n) (h1 : n ≤ 15) : hx (dgb n) = n := by
  have : ∀ n : Fin 16, hx (dgb (n.val : Int)) = (n.val : Int) := by decide +kernel
  exact cond_all (P := fun n => hx (dgb n) = n) this h0 h1
theorem dgb_hx {b : UInt8} (h : 0 ≤ hx b) : dgb (hx b) = b := by
  have : ∀ n : Fin 256, 0 ≤ hx (UInt8.ofNat n.val) → dgb (hx (UInt8.ofNat n.val)) = UInt8.ofNat n.val := by decide +kernel
  have := this ⟨b.toNat, b.toNat_lt⟩
  simp at this
  exact this h
/-- The text of one digit. -/
def dgt (n : Int) : ByteArray := ⟨#[dgb n]⟩
/-- The value of the digit at a place of a text. -/
def dg (t : ByteArray) (p : Nat) : Int := hx (t.data.toList.getD p 0)
theorem dg_rng (t : ByteArray) (p : Nat) : -1 ≤ dg t p ∧ dg t p ≤ 15 := hx_rng _
/-- The text of n digits. -/
def txt (n : Nat) (f : Nat → Int) : ByteArray := ⟨((List.range n).map fun i => dgb (f i)).toArray⟩
theorem txt_zero (f : Nat → Int) : txt 0 f = ByteArray.empty := rfl
theorem txt_succ (n : Nat) (f : Nat → Int) : txt n f ++ dgt (f n) = txt (n + 1) f := by
  unfold txt dgt
  rw [ByteArray.mk_append_mk, List.range_succ, List.map_append]
  simp
theorem txt_size (n : Nat) (f : Nat → Int) : (txt n f).size = n := by
  show ((List.range n).map fun i => dgb (f i)).toArray.size = n
  simp
theorem txt_congr {n : Nat} {f g : Nat → Int} (h : ∀ i, i < n → f i = g i) : txt n f = txt n g := by
  unfold txt
  congr 2
  apply List.map_congr_left
  intro i hi
  rw [h i (List.mem_range.1 hi)]
/-- The numbers at the places below n are digits' values. -/
def Dg (n : Nat) (f : Nat → Int) : Prop := ∀ i, i < n → 0 ≤ f i ∧ f i ≤ 15
theorem dg_txt {n : Nat} {f : Nat → Int} (h : Dg n f) {i : Nat} (hi : i < n) : dg (txt n f) i = f i := by
  have hb := h i hi
  unfold dg txt
  have e : (((List.range n).map fun i => dgb (f i)).toArray.toList.getD i 0) = dgb (f i) := by
    simp [List.getD, hi]
  rw [e, hx_dgb hb.1 hb.2]
/-- A text of n digits. -/
def dvB (n : Nat) (t : ByteArray) : Bool := decide (t.size = n) && (List.range n).all fun i => decide (0 ≤ dg t i)
theorem dvB_iff {n : Nat} {t : ByteArray} : dvB n t = true ↔ t.size = n ∧ ∀ i, i < n → 0 ≤ dg t i := by
  unfold dvB
  rw [Bool.and_eq_true, decide_eq_true_eq, List.all_eq_true]
  simp
theorem dvB_Dg {n : Nat} {t : ByteArray} (h : dvB n t = true) : Dg n (dg t) := fun i hi => ⟨(dvB_iff.1 h).2 i hi, (dg_rng t i).2⟩
theorem txt_dg {n : Nat} {t : ByteArray} (h : dvB n t = true) : txt n (dg t) = t := by
  obtain ⟨h1, h2⟩ := dvB_iff.1 h
  have hl : t.data.toList.length = n := by rw [← h1]; rfl
  have : (List.range n).map (fun i => dgb (dg t i)) = t.data.toList := by
    apply List.ext_getElem
    · simp [hl]
    · intro i hi1 hi2
      have hi : i < n := by simpa using hi1
      have hd := h2 i hi
      simp only [List.getElem_map, List.getElem_range]
      unfold dg at hd ⊢
      rw [dgb_hx hd]
      simp [List.getD, hl, hi]
  unfold txt
  rw [this]
theorem dvB_txt {n : Nat} {f : Nat → Int} (h : Dg n f) : dvB n (txt n f) = true :=
  dvB_iff.2 ⟨txt_size n f, fun i hi => by rw [dg_txt h hi]; exact (h i hi).1⟩
theorem txt_inj {n : Nat} {f g : Nat → Int} (hf : Dg n f) (hg : Dg n g) (h : txt n f = txt n g) : ∀ i, i < n → f i = g i := fun i hi => by
  rw [← dg_txt hf hi, h, dg_txt hg hi]

/-! ### arrays of numbers -/
def cellsF (n : Nat) (f : Nat → Int) : Array Value := ((List.range n).map fun i => Value.int .i64 (f i)).toArray
def arr (n : Nat) (f : Nat → Int) : Value := .agg (cellsF n f)
theorem cellsF_size (n : Nat) (f : Nat → Int) : (cellsF n f).size = n := by simp [cellsF]
theorem cellsF_get (n : Nat) (f : Nat → Int) {i : Nat} (hi : i < n) : (cellsF n f)[i]? = some (.int .i64 (f i)) := by simp [cellsF, hi]
theorem cellsF_congr {n : Nat} {f g : Nat → Int} (h : ∀ i, i < n → f i = g i) : cellsF n f = cellsF n g := by
  unfold cellsF
  congr 1
  apply List.map_congr_left
  intro i hi
  rw [h i (List.mem_range.1 hi)]
theorem arr_congr {n : Nat} {f g : Nat → Int} (h : ∀ i, i < n → f i = g i) : arr n f = arr n g := by unfold arr; rw [cellsF_congr h]
theorem cellsF_set (n : Nat) (f : Nat → Int) (k : Nat) (v : Int) : (cellsF n f).setIfInBounds k (.int .i64 v) = cellsF n (fun i => if i = k then v else f i) := by
  apply Array.ext_getElem?
  intro i
  rw [Array.getElem?_setIfInBounds]
  by_cases hi : i < n
  · rw [cellsF_get n _ hi, cellsF_get n _ hi, cellsF_size]
    by_cases hk : k = i
    · subst hk; simp [hi]
    · rw [if_neg hk, if_neg (fun h => hk h.symm)]
  · have h1 : (cellsF n f)[i]? = none := by simp [cellsF_size]; omega
    have h2 : (cellsF n fun i => if i = k then v else f i)[i]? = none := by simp [cellsF_size]; omega
    rw [h1, h2, cellsF_size]
    split
    · rename_i hk; subst hk; simp [hi]
    · rfl
end Go.DC
namespace Go.DC
/-! ### the first place of a byte -/
theorem indexByte_no : ∀ {l : List UInt8} {c : UInt8}, (∀ k : Nat, l[k]? ≠ some c) → Lib.indexByte l c = -1
  | [], _, _ => rfl
  | b :: l, c, h => by
    have h0 : b ≠ c := fun e => h 0 (by simp [e])
    have ih := indexByte_no (l := l) (c := c) fun k hk => h (k + 1) (by simpa using hk)
    unfold Lib.indexByte
    simp [h0, ih]
theorem indexByte_at : ∀ {l : List UInt8} {c : UInt8} {k : Nat}, l[k]? = some c → (∀ j, j < k → l[j]? ≠ some c) → Lib.indexByte l c = k
  | [], _, _, h, _ => by simp at h
  | b :: l, c, 0, h, _ => by
    have : b = c := by simpa using h
    unfold Lib.indexByte
    simp [this]
  | b :: l, c, k + 1, h, hn => by
    have h0 : b ≠ c := fun e => hn 0 (by omega) (by simp [e])
    have ih := indexByte_at (l := l) (c := c) (k := k) (by simpa using h) fun j hj => by simpa using hn (j + 1) (by omega)
    unfold Lib.indexByte
    have hk : ((k : Int) == -1) = false := by simp
    rw [ih]
    simp [h0]
theorem byte_at (s : ByteArray) (k : Nat) (h : k < s.size) : s.data.toList[k]? = some s[k] := by
  have : k < s.data.toList.length := h
  rw [List.getElem?_eq_getElem this]; rfl
theorem dg_at (s : ByteArray) (k : Nat) (h : k < s.size) : dg s k = hx s[k] := by
  unfold dg
  rw [List.getD, byte_at s k h]; rfl
theorem byte_eq {a b : UInt8} : ((a.toNat : Int) == (b.toNat : Int)) = (a == b) := by
  rw [Bool.eq_iff_iff]
  simp only [beq_iff_eq]
  constructor
  · intro h; exact UInt8.toNat_inj.1 (by omega)
  · rintro rfl; rfl
/-- No byte c among the first k. -/
def NotIn (s : ByteArray) (c : UInt8) (k : Nat) : Prop := ∀ j, j < k → s.data.toList[j]? ≠ some c
theorem NotIn.zero (s : ByteArray) (c : UInt8) : NotIn s c 0 := fun _ h => absurd h (Nat.not_lt_zero _)
theorem NotIn.succ {s : ByteArray} {c : UInt8} {k : Nat} (h : NotIn s c k) (hk : k < s.size) (hc : ((s[k].toNat : Int) == (c.toNat : Int)) = false) : NotIn s c (k + 1) := fun j hj => by
  by_cases e : j = k
  · subst e
    rw [byte_at s j hk]
    rw [byte_eq] at hc
    intro he
    simp at he hc
    exact hc he
  · exact h j (by omega)
theorem NotIn.hit {s : ByteArray} {c : UInt8} {k : Nat} (h : NotIn s c k) (hk : k < s.size) (hc : ((s[k].toNat : Int) == (c.toNat : Int)) = true) : Lib.indexByte s.data.toList c = k := by
  rw [byte_eq] at hc
  exact indexByte_at (by rw [byte_at s k hk]; simpa using hc) h
theorem NotIn.all {s : ByteArray} {c : UInt8} (h : NotIn s c s.size) : Lib.indexByte s.data.toList c = -1 := indexByte_no fun k => by
  by_cases hk : k < s.size
  · exact h k hk
  · have : s.data.toList[k]? = none := List.getElem?_eq_none (by show s.data.toList.length ≤ k; have : s.data.toList.length = s.size := rfl; omega)
    rw [this]; simp
/-- The first k bytes are digits. -/
def Digs (s : ByteArray) (k : Nat) : Prop := ∀ i, i < k → 0 ≤ dg s i
theorem Digs.zero (s : ByteArray) : Digs s 0 := fun _ h => absurd h (Nat.not_lt_zero _)
theorem Digs.succ {s : ByteArray} {k : Nat} (h : Digs s k) (hk : 0 ≤ dg s k) : Digs s (k + 1) := fun i hi => by
  by_cases e : i = k
  · subst e; exact hk
  · exact h i (by omega)
theorem dvB_of {n : Nat} {t : ByteArray} (hs : t.size = n) (h : Digs t n) : dvB n t = true := dvB_iff.2 ⟨hs, h⟩
theorem dvB_size {n : Nat} {t : ByteArray} (hs : t.size ≠ n) : dvB n t = false := by
  cases hd : dvB n t
  · rfl
  · exact absurd (dvB_iff.1 hd).1 hs
theorem dvB_bad {n : Nat} {t : ByteArray} {k : Nat} (hk : k < n) (h : ¬ 0 ≤ dg t k) : dvB n t = false := by
  cases hd : dvB n t
  · rfl
  · exact absurd ((dvB_iff.1 hd).2 k hk) h
end Go.DC
namespace Go.DC
theorem dgt_extract {n : Int} (h0 : 0 ≤ n) (h1 : n ≤ 15) : (ByteArray.mk #[48, 49, 50, 51, 52, 53, 54, 55, 56, 57, 97, 98, 99, 100, 101, 102]).extract n.toNat (n + 1).toNat = dgt n := by
  have : ∀ n : Fin 16, (ByteArray.mk #[48, 49, 50, 51, 52, 53, 54, 55, 56, 57, 97, 98, 99, 100, 101, 102]).extract ((n.val : Int)).toNat ((n.val : Int) + 1).toNat = dgt (n.val : Int) := by decide +kernel
  exact cond_all (P := fun n => (ByteArray.mk #[48, 49, 50, 51, 52, 53, 54, 55, 56, 57, 97, 98, 99, 100, 101, 102]).extract n.toNat (n + 1).toNat = dgt n) this h0 h1
theorem dvB_badAny {n : Nat} {t : ByteArray} {k : Nat} (hk : k < t.size) (h : ¬ 0 ≤ dg t k) : dvB n t = false := by
  by_cases hs : t.size = n
  · exact dvB_bad (by omega) h
  · exact dvB_size hs
theorem dvB_end {n : Nat} {t : ByteArray} (h : Digs t t.size) : ((t.size : Int) == (n : Int)) = dvB n t := by
  by_cases hs : t.size = n
  · rw [dvB_of hs (hs ▸ h)]; simp [hs]
  · rw [dvB_size hs]; simp; omega
end Go.DC
namespace Go.DC
open Go.RowKit
theorem wrap_pow (n : Nat) (h : n ≤ 60) : wrap64 ((2 : Int) ^ n) = 2 ^ n := by
  have h60 : 2 ^ n ≤ 2 ^ 60 := Nat.pow_le_pow_right (by decide) h
  have e : ((2 : Int) ^ n) = ((2 ^ n : Nat) : Int) := by simp
  rw [e]
  generalize 2 ^ n = m at *
  unfold wrap64
  omega
theorem mk_yes {f : Nat → Bool} {n : Nat} (h : f n = true) (hn : n ≤ 60) : bits BinOp.or IntKind.i64 (mk n f) (wrap64 (2 ^ n)) = mk (n + 1) f := by
  rw [wrap_pow n hn]; simp [mk, h]
theorem mk_no {f : Nat → Bool} {n : Nat} (h : f n = false) : mk n f = mk (n + 1) f := by simp [mk, h]
end Go.DC
namespace Go.DC
open Go.RowKit

/-- f, but v at the place k. -/
def upd (f : Nat → Int) (k : Nat) (v : Int) : Nat → Int := fun i => if i = k then v else f i
theorem upd_same (f : Nat → Int) (k : Nat) (v : Int) : upd f k v k = v := by simp [upd]

/-- Block b holds the numbers f 0 .. f (n-1). -/
def Row (w : World) (b n : Nat) (f : Nat → Int) : Prop := ∃ t, w.heap[b]? = some (.cells (cellsF n f) t (0, 0))
theorem Row.lt {w : World} {b n : Nat} {f : Nat → Int} (h : Row w b n f) : b < w.heap.size := by
  obtain ⟨t, h⟩ := h
  rcases Nat.lt_or_ge b w.heap.size with h' | h'
  · exact h'
  · simp [Array.getElem?_eq_none h'] at h
theorem Row.cell {w : World} {b n : Nat} {f : Nat → Int} (h : Row w b n f) {i : Nat} (hi : i < n) : w.cell? ⟨b, i, none⟩ = some (.int .i64 (f i)) := by
  obtain ⟨t, h⟩ := h
  rw [cell_of_row w b i _ t _ h, cellsF_get n f hi]
theorem Row.free {w : World} {b n : Nat} {f : Nat → Int} (h : Row w b n f) (i : Nat) : w.frozen? ⟨b, i, none⟩ = false := by
  obtain ⟨t, h⟩ := h
  exact frozen_of_row w b i _ t h
theorem Row.congr {w : World} {b n : Nat} {f g : Nat → Int} (h : Row w b n f) (e : ∀ i, i < n → f i = g i) : Row w b n g := by
  obtain ⟨t, h⟩ := h
  exact ⟨t, by rw [← cellsF_congr e]; exact h⟩
theorem Row.set {w : World} {b n : Nat} {f : Nat → Int} (h : Row w b n f) (k : Nat) (v : Int) : Row (w.setCell ⟨b, k, none⟩ (.int .i64 v)) b n (upd f k v) := by
  obtain ⟨t, h⟩ := h
  exact ⟨t, by rw [heap_setCell_same w b k _ t _ h, cellsF_set]; rfl⟩
theorem Row.other {w : World} {b n : Nat} {f : Nat → Int} (h : Row w b n f) {a : Addr} (hb : b ≠ a.block) (v : Value) : Row (w.setCell a v) b n f := by
  obtain ⟨t, h⟩ := h
  exact ⟨t, by rw [heap_setCell_other w a b v hb]; exact h⟩
theorem Row.alloc {w : World} {b n : Nat} {f : Nat → Int} (h : Row w b n f) (o : Obj) : Row (w.alloc o) b n f := by
  have hl := h.lt
  obtain ⟨t, h⟩ := h
  exact ⟨t, by rw [Below.heap_alloc w o b hl]; exact h⟩
theorem Row.new (w : World) (n : Nat) (f : Nat → Int) (t : TypeId) {b : Nat} (hb : b = w.heap.size) : Row (w.alloc (.cells (cellsF n f) t)) b n f := by
  subst hb; exact ⟨t, heap_alloc_new w _⟩
theorem Row.drew {w : World} {b n : Nat} {f : Nat → Int} (h : Row w b n f) : Row w.drew b n f := h
theorem Row.below {w w' : World} {b n B : Nat} {f : Nat → Int} (h : Row w b n f) (hb : Below B w w') (hB : b < B) : Row w' b n f := by
  obtain ⟨t, h⟩ := h
  exact ⟨t, by rw [hb.block b hB]; exact h⟩
theorem Row.setRow {w : World} {b n : Nat} {f : Nat → Int} (h : Row w b n f) (g : Nat → Int) : Row (w.setRow b (cellsF n g)) b n g := by
  obtain ⟨t, h⟩ := h
  exact ⟨t, setRow_heap w b _ _ t _ h⟩
theorem Row.setRow_other {w : World} {b n c : Nat} {f : Nat → Int} (h : Row w b n f) (hb : b ≠ c) (cs : Array Value) : Row (w.setRow c cs) b n f := by
  obtain ⟨t, h⟩ := h
  exact ⟨t, by rw [Go.setRow_other w c b cs hb]; exact h⟩
theorem below_setRow {B : Nat} {a w : World} (h : Below B a w) {b : Nat} (hb : B ≤ b) (cs : Array Value) : Below B a (w.setRow b cs) :=
  h.trans ⟨rfl, rfl, rfl, by simp, fun k hk => Go.setRow_other w b k cs (by omega)⟩
theorem zero4 : (#[.int .i64 0, .int .i64 0, .int .i64 0, .int .i64 0] : Array Value) = cellsF 4 fun _ => 0 := rfl
theorem zero16 : (#[.int .i64 0, .int .i64 0, .int .i64 0, .int .i64 0, .int .i64 0, .int .i64 0, .int .i64 0, .int .i64 0, .int .i64 0, .int .i64 0, .int .i64 0, .int .i64 0, .int .i64 0, .int .i64 0, .int .i64 0, .int .i64 0] : Array Value) = cellsF 16 fun _ => 0 := rfl
theorem cellsF_one (n : Nat) (f : Nat → Int) : (cellsF n f).all (·.oneCell') = true := by
  rw [Array.all_eq_true_iff_forall_mem]
  intro v hv
  unfold cellsF at hv
  simp at hv
  obtain ⟨i, _, rfl⟩ := hv
  rfl

theorem Row.new4 (w : World) (t : TypeId) {b : Nat} (hb : b = w.heap.size) : Row (w.alloc (.cells #[.int .i64 0, .int .i64 0, .int .i64 0, .int .i64 0] t)) b 4 (fun _ => 0) := Row.new w 4 (fun _ => 0) t hb
theorem Row.new16 (w : World) (t : TypeId) {b : Nat} (hb : b = w.heap.size) : Row (w.alloc (.cells #[.int .i64 0, .int .i64 0, .int .i64 0, .int .i64 0, .int .i64 0, .int .i64 0, .int .i64 0, .int .i64 0, .int .i64 0, .int .i64 0, .int .i64 0, .int .i64 0, .int .i64 0, .int .i64 0, .int .i64 0, .int .i64 0] t)) b 16 (fun _ => 0) := Row.new w 16 (fun _ => 0) t hb
theorem Row.upd2 {w : World} {b n k : Nat} {f : Nat → Int} {u v v' : Int} (h : Row w b n (upd (upd f k u) k v)) (hv : v = v') : Row w b n (upd f k v') := h.congr fun i _ => by
  subst hv; unfold upd; split <;> rfl
theorem Row.upd_in {w : World} {b n k : Nat} {f : Nat → Int} {v : Int} (h : Row w b n f) (hv : f k = v) : Row w b n (upd f k v) := h.congr fun i _ => by
  unfold upd; split <;> simp_all
/-- The first k numbers of f, then zeros. -/
def pre (k : Nat) (f : Nat → Int) : Nat → Int := fun i => if i < k then f i else 0
theorem pre_at (k : Nat) (f : Nat → Int) : pre k f k = 0 := by simp [pre]
theorem Row.pre_zero {w : World} {b n : Nat} (h : Row w b n (fun _ => 0)) (f : Nat → Int) : Row w b n (pre 0 f) := h.congr fun i _ => by simp [pre]
theorem Row.pre_succ {w : World} {b n k : Nat} {f : Nat → Int} {v : Int} (h : Row w b n (upd (pre k f) k v)) (hv : v = f k) : Row w b n (pre (k + 1) f) := h.congr fun i _ => by
  unfold upd pre
  by_cases e : i = k
  · subst e; simp [hv]
  · have : (i < k + 1) ↔ i < k := by omega
    simp [e, this]
theorem Row.pre_all {w : World} {b n : Nat} {f : Nat → Int} (h : Row w b n (pre n f)) : Row w b n f := h.congr fun i hi => by simp [pre, hi]

/-- What a reader of n digits hands back: the digits' values, or zeros. -/
def rdF (b : Bool) (r : ByteArray) : Nat → Int := if b then dg r else fun _ => 0
theorem rdF_true (r : ByteArray) : rdF true r = dg r := rfl
theorem rdF_false (r : ByteArray) : rdF false r = fun _ => 0 := rfl

theorem ba1 (w : World) (o : Obj) : Below w.heap.size w (w.alloc o) := (Below.refl _ _).alloc (Nat.le_refl _) _
theorem ba2 (w : World) (o o' : Obj) : Below w.heap.size w ((w.alloc o).alloc o') := (ba1 w o).alloc (by simp) _
theorem ba3 (w : World) (o o' o'' : Obj) : Below w.heap.size w (((w.alloc o).alloc o').alloc o'') := (ba2 w o o').alloc (by simp; omega) _
theorem ba4 (w : World) (o o' o'' o3 : Obj) : Below w.heap.size w ((((w.alloc o).alloc o').alloc o'').alloc o3) := (ba3 w o o' o'').alloc (by simp; omega) _
theorem bgo {w W w' : World} (h : Below w.heap.size w W) (hb : Below W.heap.size W w') : Below w.heap.size w w' := h.trans (hb.mono h.size)
theorem Row.go {w w' : World} {b n : Nat} {f : Nat → Int} (h : Row w b n f) (hb : Below w.heap.size w w') : Row w' b n f := h.below hb h.lt
/-- The states that are related to some state of p. -/
def dia (x : Nat → Int) (p : Int) : Int := mk 4 fun s => band (x s) p != 0
/-- The turned relation. -/
def turn (x : Nat → Int) : Nat → Int := fun s => mk 4 fun t => hasb (x t) s

theorem Dg_zero (n : Nat) : Dg n fun _ => 0 := fun _ _ => ⟨Int.le_refl _, show (0 : Int) ≤ 15 by decide⟩
/-- The union of the sets y k, k < n, for which c holds, as the loops make it. -/
def un : Nat → (Nat → Bool) → (Nat → Int) → Int
  | 0, _, _ => 0
  | k + 1, c, y => if c k then bits .or .i64 (un k c y) (y k) else un k c y
theorem un_rng {c : Nat → Bool} {y : Nat → Int} {m : Nat} (hy : Dg m y) : ∀ n, n ≤ m → 0 ≤ un n c y ∧ un n c y ≤ 15
  | 0, _ => ⟨Int.le_refl _, by show (0 : Int) ≤ 15; decide⟩
  | k + 1, h => by
    have ih := un_rng (c := c) hy k (by omega)
    unfold un
    split
    · exact bor_rng ih.1 ih.2 (hy k (by omega)).1 (hy k (by omega)).2
    · exact ih
theorem un_yes {c : Nat → Bool} {y : Nat → Int} {n : Nat} (h : c n = true) : bits BinOp.or IntKind.i64 (un n c y) (y n) = un (n + 1) c y := by simp [un, h]
theorem un_no {c : Nat → Bool} {y : Nat → Int} {n : Nat} (h : c n = false) : un n c y = un (n + 1) c y := by simp [un, h]
theorem hasb_un {c : Nat → Bool} {y : Nat → Int} {m : Nat} (hy : Dg m y) {i : Nat} (hi : i < 4) : ∀ n, n ≤ m → hasb (un n c y) i = (List.range n).any fun k => c k && hasb (y k) i
  | 0, _ => by unfold un; simp; exact (by decide : ∀ i : Fin 4, hasb 0 i.val = false) ⟨i, hi⟩
  | k + 1, h => by
    have ih := hasb_un (c := c) hy hi k (by omega)
    have hr := un_rng (c := c) hy k (by omega)
    have hk := hy k (by omega)
    have e : un (k + 1) c y = if c k then bits .or .i64 (un k c y) (y k) else un k c y := rfl
    rw [List.range_succ, List.any_append, ← ih, e]
    cases hc : c k
    · simp [hc]
    · rw [if_pos rfl]
      have := has_bor hr.1 hr.2 hk.1 hk.2 hi
      unfold bor at this
      rw [this]; simp [hc]
/-- x, then y. -/
def thenR (x y : Nat → Int) : Nat → Int := fun s => un 4 (fun u => hasb (x s) u) y
theorem thenR_Dg (x : Nat → Int) {y : Nat → Int} (hy : Dg 4 y) : Dg 4 (thenR x y) := fun _ _ => un_rng hy 4 (Nat.le_refl _)
theorem turn_Dg (x : Nat → Int) : Dg 4 (turn x) := fun _ _ => ⟨mk4_ge _, mk4_le _⟩
/-- Whether a relation relates s to t. -/
def relates (r : ByteArray) (s t : Int) : Bool := if dvB 4 r && sv s && sv t then hasb (dg r s.toNat) t.toNat else false
/-- A number, or -1. -/
def askV (b : Bool) (v : Int) : Int := if b then v else -1
theorem askV_true (v : Int) : askV true v = v := rfl
theorem askV_false (v : Int) : askV false v = -1 := rfl
/-- A text, or none. -/
def orNo (b : Bool) (s : ByteArray) : ByteArray := if b then s else ByteArray.empty
theorem orNo_true (s : ByteArray) : orNo true s = s := rfl
theorem orNo_false (s : ByteArray) : orNo false s = ⟨#[]⟩ := rfl
/-- No pair of numbers below 16 is so. -/
def all2B (P : Nat → Nat → Bool) : Bool := (List.range 16).all fun p => (List.range 16).all fun q => !P p q
theorem all2_iff {P : Nat → Nat → Bool} : all2B P = true ↔ ∀ p q, p < 16 → q < 16 → P p q = false := by
  unfold all2B
  simp only [List.all_eq_true, List.mem_range, Bool.not_eq_true']
  exact ⟨fun h p q hp hq => h p hp q hq, fun h p hp q hq => h p q hp hq⟩
theorem all2_bad {P : Nat → Nat → Bool} {p q : Nat} (hp : p < 16) (hq : q < 16) (h : P p q = true) : all2B P = false := by
  cases hd : all2B P
  · rfl
  · rw [all2_iff.1 hd p q hp hq] at h; exact absurd h (by simp)
/-- No pair is so, as far as the loops have come. -/
def Ok2 (P : Nat → Nat → Bool) (k m : Nat) : Prop := (∀ p q, p < k → q < 16 → P p q = false) ∧ ∀ q, q < m → P k q = false
theorem Ok2.zero (P : Nat → Nat → Bool) : Ok2 P 0 0 := ⟨fun _ _ h => absurd h (Nat.not_lt_zero _), fun _ h => absurd h (Nat.not_lt_zero _)⟩
theorem Ok2.step {P : Nat → Nat → Bool} {k m : Nat} (h : Ok2 P k m) (e : P k m = false) : Ok2 P k (m + 1) := ⟨h.1, fun q hq => by
  by_cases c : q = m
  · subst c; exact e
  · exact h.2 q (by omega)⟩
theorem Ok2.next {P : Nat → Nat → Bool} {k : Nat} (h : Ok2 P k 16) : Ok2 P (k + 1) 0 := ⟨fun p q hp hq => by
  by_cases c : p = k
  · subst c; exact h.2 q hq
  · exact h.1 p q (by omega) hq, fun _ h => absurd h (Nat.not_lt_zero _)⟩
theorem Ok2.all {P : Nat → Nat → Bool} (h : Ok2 P 16 0) : all2B P = true := all2_iff.2 h.1
/-- p implies q, but f p does not imply f q. -/
def badM (f : Nat → Int) (p q : Nat) : Bool := (bits .andNot .i64 (p : Int) (q : Int) == 0) && (bits .andNot .i64 (f p) (f q) != 0)
/-- A text of a transformer. -/
def tvB (t : ByteArray) : Bool := dvB 16 t && all2B (badM (dg t))

/-- T is a type of arrays of n integers. -/
structure ArrT (P : Program) (T n : Nat) : Prop where
  und : ∃ e, P.underlying T = some (.array n e)
  info : (P.info? T).map (·.size) = some n

section
variable {P : Program} {ops : Array Oper} {rest : List Oper} {o : Oper} {a : Act} {w : World} {Q : Exit → Act → World → Prop}
/-- A whole array is read. -/
theorem ld {T n : Nat} (hT : ArrT P T n) (x : Operand) (ho : o.op = .load T x) (hw : Region.wanted o (yielded ops a.tmps) = true) (b : Nat) (hx : a.eval x = .pointer (some ⟨b, 0, none⟩))
    {f : Nat → Int} (h : Row w b n f) (k : wpList P ops Q rest (a.put o.dst (.agg (cellsF n f))) w) : wpList P ops Q (o :: rest) a w := by
  obtain ⟨⟨e, hu⟩, hi⟩ := hT
  obtain ⟨t, h⟩ := h
  unfold wpList
  rw [if_pos hw]
  exact .inl (wp_load_row T x ho b hx t (cellsF n f) (0, 0) _ h hu rfl (by rw [cellsF_size]; exact hi) k)
/-- A whole array is written. -/
theorem st {T n : Nat} (hT : ArrT P T n) (x y : Operand) (ho : o.op = .store T x y) (hw : Region.wanted o (yielded ops a.tmps) = true) (b : Nat) (hx : a.eval x = .pointer (some ⟨b, 0, none⟩))
    (g : Nat → Int) (hy : a.eval y = .agg (cellsF n g)) {f : Nat → Int} (h : Row w b n f) (k : wpList P ops Q rest (a.put o.dst undef) (w.setRow b (cellsF n g))) : wpList P ops Q (o :: rest) a w := by
  obtain ⟨⟨e, hu⟩, hi⟩ := hT
  obtain ⟨t, h⟩ := h
  unfold wpList
  rw [if_pos hw]
  exact .inl (wp_store_row T x y ho b (cellsF n g) hx hy t (cellsF n f) h (by rw [cellsF_size]; exact hi) (by simp [cellsF_size]) (cellsF_one n g) k)
end
/-- The result is an array that lies in memory. -/
theorem ret_row {P : Program} {fn : Func} {R : Ending → World → Prop} {a : Act} {w : World} {T n : Nat} (hT : ArrT P T n) {p : Tmp} (hres : fn.results = #[.cell p T]) (b : Nat)
    (hp : a.tmps.getD p undef = .pointer (some ⟨b, 0, none⟩)) {f : Nat → Int} (h : Row w b n f) (hd : a.defers = []) (hR : R (.returned (.agg (cellsF n f))) w) : bodyPost P fn R .ret a w := by
  obtain ⟨⟨e, hu⟩, hi⟩ := hT
  obtain ⟨t, h⟩ := h
  exact bodyPost_ret (results_cell_row hres a.tmps w b t (cellsF n f) (0, 0) _ hp h hu rfl (by rw [cellsF_size]; exact hi)) hd hR
theorem ret_row_tmp {P : Program} {fn : Func} {R : Ending → World → Prop} {a : Act} {w : World} {T n : Nat} (hT : ArrT P T n) {p u : Tmp} (hres : fn.results = #[.cell p T, .tmp u]) (b : Nat)
    (hp : a.tmps.getD p undef = .pointer (some ⟨b, 0, none⟩)) {f : Nat → Int} (h : Row w b n f) (hd : a.defers = []) (hR : R (.returned (.tuple #[.agg (cellsF n f), a.tmps.getD u undef])) w) : bodyPost P fn R .ret a w := by
  obtain ⟨⟨e, hu⟩, hi⟩ := hT
  obtain ⟨t, h⟩ := h
  have hl := run_loadVar_row (P := P) w b t T (cellsF n f) (0, 0) _ h hu rfl (by rw [cellsF_size]; exact hi)
  refine bodyPost_ret (v := .tuple #[.agg (cellsF n f), a.tmps.getD u undef]) ?_ hd hR
  have hp' : a.tmps[p]?.getD undef = .pointer (some ⟨b, 0, none⟩) := by simpa using hp
  simp [results, hres, hp', asAddr, hl]
end Go.DC
namespace Go.DC
open Go.RowKit
set_option linter.unusedVariables false
set_option linter.unusedSimpArgs false
theorem cond_all2 {P : Int → Int → Prop} (h : ∀ m n : Fin 16, P (m.val : Int) (n.val : Int)) {a b : Int} (h0 : 0 ≤ a) (h1 : a ≤ 15) (h2 : 0 ≤ b) (h3 : b ≤ 15) : P a b :=
  cond_all (P := fun a => P a b) (fun m => cond_all (P := fun b => P m.val b) (h m) h2 h3) h0 h1
theorem not_mk {a : Int} (h0 : 0 ≤ a) (h1 : a ≤ 15) : (mk 4 fun t => !hasb a t) = bandn 15 a := by
  have : ∀ n : Fin 16, (mk 4 fun t => !hasb (n.val : Int) t) = bandn 15 (n.val : Int) := by decide +kernel
  exact cond_all (P := fun a => (mk 4 fun t => !hasb a t) = bandn 15 a) this h0 h1
theorem and_mk {a b : Int} (h0 : 0 ≤ a) (h1 : a ≤ 15) (h2 : 0 ≤ b) (h3 : b ≤ 15) : (mk 4 fun t => hasb a t && hasb b t) = band a b := by
  have : ∀ m n : Fin 16, (mk 4 fun t => hasb (m.val : Int) t && hasb (n.val : Int) t) = band (m.val : Int) (n.val : Int) := by decide +kernel
  exact cond_all2 (P := fun a b => (mk 4 fun t => hasb a t && hasb b t) = band a b) this h0 h1 h2 h3
theorem or_mk {a b : Int} (h0 : 0 ≤ a) (h1 : a ≤ 15) (h2 : 0 ≤ b) (h3 : b ≤ 15) : (mk 4 fun t => hasb a t || hasb b t) = bor a b := by
  have : ∀ m n : Fin 16, (mk 4 fun t => hasb (m.val : Int) t || hasb (n.val : Int) t) = bor (m.val : Int) (n.val : Int) := by decide +kernel
  exact cond_all2 (P := fun a b => (mk 4 fun t => hasb a t || hasb b t) = bor a b) this h0 h1 h2 h3
/-- Two conditions meet exactly if a state meets both. -/
theorem meet_any {a b : Int} (h0 : 0 ≤ a) (h1 : a ≤ 15) (h2 : 0 ≤ b) (h3 : b ≤ 15) : (band a b != 0) = (List.range 4).any fun k => hasb a k && hasb b k := by
  have : ∀ m n : Fin 16, (band (m.val : Int) (n.val : Int) != 0) = (List.range 4).any fun k => hasb (m.val : Int) k && hasb (n.val : Int) k := by decide +kernel
  exact cond_all2 (P := fun a b => (band a b != 0) = (List.range 4).any fun k => hasb a k && hasb b k) this h0 h1 h2 h3
theorem meet_pow {a : Int} (h0 : 0 ≤ a) (h1 : a ≤ 15) {t : Nat} (ht : t < 4) : (band a (2 ^ t) != 0) = hasb a t := by
  have : ∀ n : Fin 16, ∀ t : Fin 4, (band (n.val : Int) (2 ^ t.val) != 0) = hasb (n.val : Int) t.val := by decide +kernel
  exact cond_all (P := fun a => (band a (2 ^ t) != 0) = hasb a t) (fun n => this n ⟨t, ht⟩) h0 h1
theorem dia_pow {x : Nat → Int} (hx : Dg 4 x) {t : Nat} (ht : t < 4) : dia x (2 ^ t) = turn x t := mk_congr 4 fun s hs => meet_pow (hx s hs).1 (hx s hs).2 ht
theorem dia_rng (x : Nat → Int) (p : Int) : 0 ≤ dia x p ∧ dia x p ≤ 15 := ⟨mk4_ge _, mk4_le _⟩
theorem hasb_dia (x : Nat → Int) (p : Int) {i : Nat} (hi : i < 4) : hasb (dia x p) i = (band (x i) p != 0) := by
  unfold dia; rw [hasb_mk _ _ _ (by decide)]; simp [hi]
theorem hasb_turn (x : Nat → Int) {s t : Nat} (ht : t < 4) : hasb (turn x s) t = hasb (x t) s := by
  unfold turn; rw [hasb_mk _ _ _ (by decide)]; simp [ht]
theorem any_congr {n : Nat} {f g : Nat → Bool} (h : ∀ k, k < n → f k = g k) : (List.range n).any f = (List.range n).any g := by
  rw [Bool.eq_iff_iff, List.any_eq_true, List.any_eq_true]
  constructor
  · rintro ⟨k, hk, e⟩; exact ⟨k, hk, by rw [← h k (List.mem_range.1 hk)]; exact e⟩
  · rintro ⟨k, hk, e⟩; exact ⟨k, hk, by rw [h k (List.mem_range.1 hk)]; exact e⟩
/-- The image: by the rows, and by the turned relation. -/
theorem image_eq {x : Nat → Int} (hx : Dg 4 x) {p : Int} (h0 : 0 ≤ p) (h1 : p ≤ 15) : un 4 (fun u => hasb p u) x = dia (turn x) p := by
  have hu := un_rng (c := fun u => hasb p u) hx 4 (Nat.le_refl _)
  have hd := dia_rng (turn x) p
  refine cond_ext hu.1 hu.2 hd.1 hd.2 fun i hi => ?_
  have ht := turn_Dg x i hi
  rw [hasb_un hx hi 4 (Nat.le_refl _), hasb_dia _ _ hi, meet_any ht.1 ht.2 h0 h1]
  exact any_congr fun k hk => by rw [hasb_turn x hk, Bool.and_comm]
theorem orNo_congr {V : Bool} {s s' : ByteArray} (h : V = true → s = s') : orNo V s = orNo V s' := by cases V; rfl; exact h rfl
theorem askV_congr {V : Bool} {s s' : Int} (h : V = true → s = s') : askV V s = askV V s' := by cases V; rfl; exact h rfl
theorem eq_not (r : ByteArray) : orNo (dvB 4 r) (txt 4 (fun s => mk 4 fun t => !hasb (dg r s) t)) = orNo (dvB 4 r) (txt 4 fun s => bandn 15 (dg r s)) :=
  orNo_congr fun h => txt_congr fun s hs => not_mk (dvB_Dg h s hs).1 (dvB_Dg h s hs).2
theorem eq_and (r q : ByteArray) : orNo (dvB 4 r && dvB 4 q) (txt 4 (fun s => mk 4 fun t => hasb (dg r s) t && hasb (dg q s) t)) = orNo (dvB 4 r && dvB 4 q) (txt 4 fun s => band (dg r s) (dg q s)) :=
  orNo_congr fun h => txt_congr fun s hs => by
    obtain ⟨h1, h2⟩ := Bool.and_eq_true_iff.1 h
    exact and_mk (dvB_Dg h1 s hs).1 (dvB_Dg h1 s hs).2 (dvB_Dg h2 s hs).1 (dvB_Dg h2 s hs).2
theorem eq_or (r q : ByteArray) : orNo (dvB 4 r && dvB 4 q) (txt 4 (fun s => mk 4 fun t => hasb (dg r s) t || hasb (dg q s) t)) = orNo (dvB 4 r && dvB 4 q) (txt 4 fun s => bor (dg r s) (dg q s)) :=
  orNo_congr fun h => txt_congr fun s hs => by
    obtain ⟨h1, h2⟩ := Bool.and_eq_true_iff.1 h
    exact or_mk (dvB_Dg h1 s hs).1 (dvB_Dg h1 s hs).2 (dvB_Dg h2 s hs).1 (dvB_Dg h2 s hs).2
theorem eq_turn (r : ByteArray) : orNo (dvB 4 r) (txt 4 (turn (dg r))) = orNo (dvB 4 r) (txt 4 fun t => dia (dg r) (2 ^ t)) :=
  orNo_congr fun h => txt_congr fun s hs => (dia_pow (dvB_Dg h) hs).symm
theorem eq_image (r : ByteArray) (p : Int) : askV (dvB 4 r && cv p) (dia (turn (dg r)) p) = askV (dvB 4 r && cv p) (un 4 (fun u => hasb p u) (dg r)) :=
  askV_congr fun h => by
    obtain ⟨h1, h2⟩ := Bool.and_eq_true_iff.1 h
    exact (image_eq (dvB_Dg h1) (cv_iff.1 h2).1 (cv_iff.1 h2).2).symm
end Go.DC
namespace Go.DC
open Go.RowKit
set_option linter.unusedVariables false
set_option linter.unusedSimpArgs false

/-- What the table f tells for the condition y. -/
def ap (f : Nat → Int) (y : Int) : Int := f y.toNat
/-- A function on conditions that keeps implication. -/
structure Mono (T : Int → Int) : Prop where
  rng : ∀ y, 0 ≤ y → y ≤ 15 → 0 ≤ T y ∧ T y ≤ 15
  imp : ∀ a b, 0 ≤ a → a ≤ 15 → 0 ≤ b → b ≤ 15 → bandn a b = 0 → bandn (T a) (T b) = 0
theorem tvB_dv {t : ByteArray} (h : tvB t = true) : dvB 16 t = true := (Bool.and_eq_true_iff.1 h).1
theorem tvB_Dg {t : ByteArray} (h : tvB t = true) : Dg 16 (dg t) := dvB_Dg (tvB_dv h)
theorem tvB_size {t : ByteArray} (h : tvB t = true) : t.size = 16 := (dvB_iff.1 (tvB_dv h)).1
theorem mono_of {f : Nat → Int} (hd : Dg 16 f) (h : all2B (badM f) = true) : Mono (ap f) :=
  ⟨fun y h0 h1 => hd y.toNat (by omega), fun a b ha0 ha1 hb0 hb1 hab => by
    have := all2_iff.1 h a.toNat b.toNat (by omega) (by omega)
    unfold badM at this
    rw [Int.toNat_of_nonneg ha0, Int.toNat_of_nonneg hb0] at this
    have e : (bits .andNot .i64 a b == 0) = true := by simpa [bandn] using hab
    rw [e] at this
    simpa [ap, bandn] using this⟩
theorem tvB_mono {t : ByteArray} (h : tvB t = true) : Mono (ap (dg t)) := mono_of (tvB_Dg h) (Bool.and_eq_true_iff.1 h).2
theorem sub_le {a b : Int} (h0 : 0 ≤ a) (h1 : a ≤ 15) (h2 : 0 ≤ b) (h3 : b ≤ 15) (h : bandn a b = 0) : a ≤ b := by
  have : ∀ m n : Fin 16, bandn (m.val : Int) (n.val : Int) = 0 → (m.val : Int) ≤ (n.val : Int) := by decide +kernel
  exact cond_all2 (P := fun a b => bandn a b = 0 → a ≤ b) this h0 h1 h2 h3 h
theorem sub_15 {a : Int} (h0 : 0 ≤ a) (h1 : a ≤ 15) : bandn a 15 = 0 := by
  have : ∀ m : Fin 16, bandn (m.val : Int) 15 = 0 := by decide +kernel
  exact cond_all (P := fun a => bandn a 15 = 0) this h0 h1
theorem sub_0 {a : Int} (h0 : 0 ≤ a) (h1 : a ≤ 15) : bandn 0 a = 0 := by
  have : ∀ m : Fin 16, bandn 0 (m.val : Int) = 0 := by decide +kernel
  exact cond_all (P := fun a => bandn 0 a = 0) this h0 h1

/-! ### the greatest and the least fixed point -/
/-- T again and again from y on, till it is the same. -/
def iter : Nat → (Int → Int) → Int → Int
  | 0, _, y => y
  | k + 1, T, y => if T y = y then y else iter k T (T y)
theorem iter_down {T : Int → Int} (hT : Mono T) : ∀ (n m : Nat) (y : Int), 0 ≤ y → y ≤ 15 → bandn (T y) y = 0 → y.toNat < n → y.toNat < m → iter n T y = iter m T y
  | 0, _, _, _, _, _, h, _ => absurd h (Nat.not_lt_zero _)
  | _, 0, _, _, _, _, _, h => absurd h (Nat.not_lt_zero _)
  | n + 1, m + 1, y, h0, h1, hs, hn, hm => by
    unfold iter
    by_cases e : T y = y
    · rw [if_pos e, if_pos e]
    · rw [if_neg e, if_neg e]
      have hr := hT.rng y h0 h1
      have hl := sub_le hr.1 hr.2 h0 h1 hs
      exact iter_down hT n m (T y) hr.1 hr.2 (hT.imp _ _ hr.1 hr.2 h0 h1 hs) (by omega) (by omega)
def gp (T : Int → Int) : Int := iter 16 T 15
theorem iter_step {T : Int → Int} (hT : Mono T) {y : Int} (h0 : 0 ≤ y) (h1 : y ≤ 15) (hs : bandn (T y) y = 0) (e : T y ≠ y) : iter (y.toNat + 1) T y = iter ((T y).toNat + 1) T (T y) ∧ (T y).toNat < y.toNat := by
  have hr := hT.rng y h0 h1
  have hl := sub_le hr.1 hr.2 h0 h1 hs
  refine ⟨?_, by omega⟩
  have : iter (y.toNat + 1) T y = iter y.toNat T (T y) := by unfold iter; rw [if_neg e]; cases y.toNat <;> rfl
  rw [this]
  exact iter_down hT _ _ (T y) hr.1 hr.2 (hT.imp _ _ hr.1 hr.2 h0 h1 hs) (by omega) (by omega)
theorem iter_stop {T : Int → Int} {y : Int} {n : Nat} (e : T y = y) : iter (n + 1) T y = y := by unfold iter; rw [if_pos e]
theorem gp_rng {T : Int → Int} (hT : Mono T) : 0 ≤ gp T ∧ gp T ≤ 15 := by
  have : ∀ (n : Nat) (y : Int), 0 ≤ y → y ≤ 15 → 0 ≤ iter n T y ∧ iter n T y ≤ 15 := fun n => by
    induction n with
    | zero => exact fun y h0 h1 => ⟨h0, h1⟩
    | succ n ih =>
      intro y h0 h1
      unfold iter
      split
      · exact ⟨h0, h1⟩
      · exact ih _ (hT.rng y h0 h1).1 (hT.rng y h0 h1).2
  exact this 16 15 (by decide) (by decide)

def conjB (x : Nat → Int) : Bool := all2B fun p q => !(x (band (p : Int) (q : Int)).toNat == band (x p) (x q))
def disjB (x : Nat → Int) : Bool := all2B fun p q => !(x (bor (p : Int) (q : Int)).toNat == bor (x p) (x q))
/-! ### the dual -/
def dual (f : Nat → Int) : Nat → Int := fun p => bandn 15 (f (bandn 15 (p : Int)).toNat)
theorem dual_Dg {f : Nat → Int} (hd : Dg 16 f) : Dg 16 (dual f) := fun p hp => by
  have h1 := bandn_rng (a := 15) (b := p) (by decide) (by decide) (by omega) (by omega)
  have h2 := hd (bandn 15 (p : Int)).toNat (by omega)
  exact bandn_rng (by decide) (by decide) h2.1 h2.2
end Go.DC
namespace Go.DC
theorem same_015 {v : Int} (h0 : 0 ≤ v) (h1 : v ≤ 15) : band (bor v 0) 15 = v := by
  have : ∀ m : Fin 16, band (bor (m.val : Int) 0) 15 = (m.val : Int) := by decide +kernel
  exact cond_all (P := fun v => band (bor v 0) 15 = v) this h0 h1
theorem mono_congr {T T' : Int → Int} (h : Mono T) (e : ∀ y, 0 ≤ y → y ≤ 15 → T y = T' y) : Mono T' :=
  ⟨fun y h0 h1 => by rw [← e y h0 h1]; exact h.rng y h0 h1, fun a b a0 a1 b0 b1 hab => by rw [← e a a0 a1, ← e b b0 b1]; exact h.imp a b a0 a1 b0 b1 hab⟩
theorem iter_congr {T T' : Int → Int} (h : Mono T) (e : ∀ y, 0 ≤ y → y ≤ 15 → T' y = T y) : ∀ (n : Nat) (y : Int), 0 ≤ y → y ≤ 15 → iter n T' y = iter n T y
  | 0, _, _, _ => rfl
  | n + 1, y, h0, h1 => by
    unfold iter
    rw [e y h0 h1, iter_congr h e n (T y) (h.rng y h0 h1).1 (h.rng y h0 h1).2]
theorem gp_congr {T T' : Int → Int} (h : Mono T) (e : ∀ y, 0 ≤ y → y ≤ 15 → T' y = T y) : gp T' = gp T := iter_congr h e 16 15 (by decide) (by decide)
theorem compl_compl {a : Int} (h0 : 0 ≤ a) (h1 : a ≤ 15) : bandn 15 (bandn 15 a) = a := by
  have : ∀ m : Fin 16, bandn 15 (bandn 15 (m.val : Int)) = (m.val : Int) := by decide +kernel
  exact cond_all (P := fun a => bandn 15 (bandn 15 a) = a) this h0 h1
theorem compl_and {a b : Int} (h0 : 0 ≤ a) (h1 : a ≤ 15) (h2 : 0 ≤ b) (h3 : b ≤ 15) : bandn 15 (band a b) = bor (bandn 15 a) (bandn 15 b) := by
  have : ∀ m n : Fin 16, bandn 15 (band (m.val : Int) (n.val : Int)) = bor (bandn 15 (m.val : Int)) (bandn 15 (n.val : Int)) := by decide +kernel
  exact cond_all2 (P := fun a b => bandn 15 (band a b) = bor (bandn 15 a) (bandn 15 b)) this h0 h1 h2 h3
theorem compl_or {a b : Int} (h0 : 0 ≤ a) (h1 : a ≤ 15) (h2 : 0 ≤ b) (h3 : b ≤ 15) : bandn 15 (bor a b) = band (bandn 15 a) (bandn 15 b) := by
  have : ∀ m n : Fin 16, bandn 15 (bor (m.val : Int) (n.val : Int)) = band (bandn 15 (m.val : Int)) (bandn 15 (n.val : Int)) := by decide +kernel
  exact cond_all2 (P := fun a b => bandn 15 (bor a b) = band (bandn 15 a) (bandn 15 b)) this h0 h1 h2 h3
theorem compl_inj {a b : Int} (h0 : 0 ≤ a) (h1 : a ≤ 15) (h2 : 0 ≤ b) (h3 : b ≤ 15) (h : bandn 15 a = bandn 15 b) : a = b := by rw [← compl_compl h0 h1, h, compl_compl h2 h3]
theorem conjB_iff {x : Nat → Int} : conjB x = true ↔ ∀ a b : Int, 0 ≤ a → a ≤ 15 → 0 ≤ b → b ≤ 15 → ap x (band a b) = band (ap x a) (ap x b) := by
  unfold conjB
  rw [all2_iff]
  constructor
  · intro h a b a0 a1 b0 b1
    have := h a.toNat b.toNat (by omega) (by omega)
    rw [Int.toNat_of_nonneg a0, Int.toNat_of_nonneg b0] at this
    simpa [ap] using this
  · intro h p q hp hq
    have := h p q (by omega) (by omega) (by omega) (by omega)
    simpa [ap] using this
theorem disjB_iff {x : Nat → Int} : disjB x = true ↔ ∀ a b : Int, 0 ≤ a → a ≤ 15 → 0 ≤ b → b ≤ 15 → ap x (bor a b) = bor (ap x a) (ap x b) := by
  unfold disjB
  rw [all2_iff]
  constructor
  · intro h a b a0 a1 b0 b1
    have := h a.toNat b.toNat (by omega) (by omega)
    rw [Int.toNat_of_nonneg a0, Int.toNat_of_nonneg b0] at this
    simpa [ap] using this
  · intro h p q hp hq
    have := h p q (by omega) (by omega) (by omega) (by omega)
    simpa [ap] using this
theorem ap_rng {x : Nat → Int} (h : Dg 16 x) {a : Int} (h0 : 0 ≤ a) (h1 : a ≤ 15) : 0 ≤ ap x a ∧ ap x a ≤ 15 := h a.toNat (by omega)
theorem ap_dual {x : Nat → Int} {a : Int} (h0 : 0 ≤ a) : ap (dual x) a = bandn 15 (ap x (bandn 15 a)) := by
  unfold ap dual; rw [Int.toNat_of_nonneg h0]
theorem ap_txt {x : Nat → Int} (h : Dg 16 x) {a : Int} (h0 : 0 ≤ a) (h1 : a ≤ 15) : ap (dg (txt 16 x)) a = ap x a := dg_txt h (by omega)
/-- A dual is conjunctive exactly if the transformer is disjunctive. -/
theorem conj_dual {x : Nat → Int} (h : Dg 16 x) : conjB (dual x) = disjB x := by
  rw [Bool.eq_iff_iff, conjB_iff, disjB_iff]
  constructor
  · intro hc a b a0 a1 b0 b1
    have ha := bandn_rng (a := 15) (b := a) (by decide) (by decide) a0 a1
    have hb := bandn_rng (a := 15) (b := b) (by decide) (by decide) b0 b1
    have hab := band_rng ha.1 ha.2 hb.1 hb.2
    have ho := bor_rng a0 a1 b0 b1
    have e := hc _ _ ha.1 ha.2 hb.1 hb.2
    rw [ap_dual hab.1, ap_dual ha.1, ap_dual hb.1, compl_and ha.1 ha.2 hb.1 hb.2, compl_compl a0 a1, compl_compl b0 b1] at e
    have r1 := ap_rng h ho.1 ho.2
    have r2 := ap_rng h a0 a1
    have r3 := ap_rng h b0 b1
    have r4 := bor_rng r2.1 r2.2 r3.1 r3.2
    exact compl_inj r1.1 r1.2 r4.1 r4.2 (by rw [e, compl_or r2.1 r2.2 r3.1 r3.2])
  · intro hc a b a0 a1 b0 b1
    have ha := bandn_rng (a := 15) (b := a) (by decide) (by decide) a0 a1
    have hb := bandn_rng (a := 15) (b := b) (by decide) (by decide) b0 b1
    have hab := band_rng a0 a1 b0 b1
    have r2 := ap_rng h ha.1 ha.2
    have r3 := ap_rng h hb.1 hb.2
    rw [ap_dual hab.1, ap_dual a0, ap_dual b0, compl_and a0 a1 b0 b1, hc _ _ ha.1 ha.2 hb.1 hb.2, compl_or r2.1 r2.2 r3.1 r3.2]
theorem conjB_congr {x y : Nat → Int} (h : ∀ i, i < 16 → x i = y i) : conjB x = conjB y := by
  have e : ∀ a, 0 ≤ a → a ≤ 15 → ap x a = ap y a := fun a h0 h1 => h a.toNat (by omega)
  rw [Bool.eq_iff_iff, conjB_iff, conjB_iff]
  constructor
  · intro hc a b a0 a1 b0 b1
    have hab := band_rng a0 a1 b0 b1
    rw [← e _ hab.1 hab.2, ← e a a0 a1, ← e b b0 b1, hc a b a0 a1 b0 b1]
  · intro hc a b a0 a1 b0 b1
    have hab := band_rng a0 a1 b0 b1
    rw [e _ hab.1 hab.2, e a a0 a1, e b b0 b1, hc a b a0 a1 b0 b1]
theorem eq_disj (r : ByteArray) : (tvB r && disjB (dg r)) = (tvB r && conjB (dg (txt 16 (dual (dg r))))) := by
  cases h : tvB r
  · rw [Bool.false_and, Bool.false_and]
  · have hd := tvB_Dg h
    rw [conjB_congr (fun i hi => dg_txt (dual_Dg hd) hi), conj_dual hd]
end Go.DC
namespace Go.DC
/-! ### transformers out of relations and conditions -/
/-- The states that are related to no other states than those of p. -/
def boxR (x : Nat → Int) (p : Int) : Int := mk 4 fun s => bandn (x s) p == 0
def assertT (p : Int) : Nat → Int := fun q => band p q
def angelT (x : Nat → Int) : Nat → Int := fun p => dia x p
def demonT (x : Nat → Int) : Nat → Int := fun p => boxR x p
def thenT (x y : Nat → Int) : Nat → Int := fun p => x (y p).toNat
def meetT (x y : Nat → Int) : Nat → Int := fun p => band (x p) (y p)
def joinT (x y : Nat → Int) : Nat → Int := fun p => bor (x p) (y p)
theorem boxR_rng (x : Nat → Int) (p : Int) : 0 ≤ boxR x p ∧ boxR x p ≤ 15 := ⟨mk4_ge _, mk4_le _⟩
theorem angelT_Dg (x : Nat → Int) (n : Nat) : Dg n (angelT x) := fun p _ => dia_rng x p
theorem demonT_Dg (x : Nat → Int) (n : Nat) : Dg n (demonT x) := fun p _ => boxR_rng x p
theorem assertT_Dg {p : Int} (h0 : 0 ≤ p) (h1 : p ≤ 15) : Dg 16 (assertT p) := fun q hq => band_rng h0 h1 (by omega) (by omega)
theorem thenT_Dg {x y : Nat → Int} (hx : Dg 16 x) (hy : Dg 16 y) : Dg 16 (thenT x y) := fun p hp => hx _ (by have := hy p hp; omega)
theorem meetT_Dg {x y : Nat → Int} (hx : Dg 16 x) (hy : Dg 16 y) : Dg 16 (meetT x y) := fun p hp => band_rng (hx p hp).1 (hx p hp).2 (hy p hp).1 (hy p hp).2
theorem joinT_Dg {x y : Nat → Int} (hx : Dg 16 x) (hy : Dg 16 y) : Dg 16 (joinT x y) := fun p hp => bor_rng (hx p hp).1 (hx p hp).2 (hy p hp).1 (hy p hp).2
end Go.DC
namespace Go.DC
open Go.RowKit
set_option linter.unusedVariables false
set_option linter.unusedSimpArgs false
end Go.DC
namespace Go.DC
open Go.RowKit
/-- The states that meet all conditions below m in which s lies, as the loop makes them. -/
def leadTo : Nat → (Nat → Int) → Nat → Int
  | 0, _, _ => 15
  | m + 1, x, s => if hasb (x m) s then bits .and .i64 (leadTo m x s) m else leadTo m x s
def leadsT (x : Nat → Int) : Nat → Int := fun s => leadTo 16 x s
theorem lead_rng (x : Nat → Int) (s : Nat) : ∀ m, m ≤ 16 → 0 ≤ leadTo m x s ∧ leadTo m x s ≤ 15
  | 0, _ => ⟨by show (0 : Int) ≤ 15; decide, Int.le_refl _⟩
  | m + 1, h => by
    have ih := lead_rng x s m (by omega)
    unfold leadTo
    split
    · exact band_rng ih.1 ih.2 (by omega) (by omega)
    · exact ih
theorem leadsT_Dg (x : Nat → Int) : Dg 4 (leadsT x) := fun s _ => lead_rng x s 16 (Nat.le_refl _)
theorem lead_yes {x : Nat → Int} {s m : Nat} (h : hasb (x m) s = true) : bits .and .i64 (leadTo m x s) m = leadTo (m + 1) x s := by simp [leadTo, h]
theorem lead_no {x : Nat → Int} {s m : Nat} (h : hasb (x m) s = false) : leadTo m x s = leadTo (m + 1) x s := by simp [leadTo, h]
end Go.DC
namespace Go.DC
open Go.RowKit
/-- y refines x. -/
def refB (x y : Nat → Int) : Bool := (List.range 16).all fun k => bandn (x k) (y k) == 0
theorem refB_iff {x y : Nat → Int} : refB x y = true ↔ ∀ k, k < 16 → bandn (x k) (y k) = 0 := by
  unfold refB; simp
theorem refB_bad {x y : Nat → Int} {n : Nat} (hn : n < 16) (h : (bits BinOp.andNot IntKind.i64 (x n) (y n) != 0) = true) : refB x y = false := by
  cases hd : refB x y
  · rfl
  · have := refB_iff.1 hd n hn
    unfold bandn at this
    simp [this] at h
theorem refB_ok {x y : Nat → Int} (h : ∀ k, k < 16 → (bits BinOp.andNot IntKind.i64 (x k) (y k) != 0) = false) : refB x y = true :=
  refB_iff.2 fun k hk => by have := h k hk; simpa [bandn] using this
end Go.DC
namespace Go.DC
open Go.RowKit
theorem dg_txt_Dg {n : Nat} {x : Nat → Int} (h : Dg n x) : Dg n (dg (txt n x)) := fun i hi => by rw [dg_txt h hi]; exact h i hi
theorem dual_txt {x : Nat → Int} (h : Dg 16 x) : txt 16 (dual (dg (txt 16 x))) = txt 16 (dual x) := txt_congr fun p hp => by
  have hr := bandn_rng (a := 15) (b := (p : Int)) (by decide) (by decide) (by omega) (by omega)
  unfold dual
  rw [dg_txt h (by omega)]
theorem then_txt {x y : Nat → Int} (hx : Dg 16 x) (hy : Dg 16 y) : txt 16 (thenT (dg (txt 16 x)) (dg (txt 16 y))) = txt 16 (thenT x y) := txt_congr fun p hp => by
  have h := hy p hp
  unfold thenT
  rw [dg_txt hy hp, dg_txt hx (by omega)]
/-- The box is what is no diamond of the others. -/
theorem box_eq {x : Nat → Int} (hx : Dg 4 x) {p : Int} (h0 : 0 ≤ p) (h1 : p ≤ 15) : boxR x p = bandn 15 (dia x (bandn 15 p)) := by
  have hb := boxR_rng x p
  have hd := dia_rng x (bandn 15 p)
  have hr := bandn_rng (a := 15) (by decide) (by decide) hd.1 hd.2
  refine cond_ext hb.1 hb.2 hr.1 hr.2 fun i hi => ?_
  have hxi := hx i hi
  rw [has_bandn (by decide) (by decide) hd.1 hd.2 hi, hasb_dia _ _ hi]
  unfold boxR
  rw [hasb_mk _ _ _ (by decide)]
  have h15 : hasb 15 i = true := (by decide +kernel : ∀ i : Fin 4, hasb 15 i.val = true) ⟨i, hi⟩
  have hfin : ∀ m n : Fin 16, (bandn (m.val : Int) (n.val : Int) == 0) = !(band (m.val : Int) (bandn 15 (n.val : Int)) != 0) := by decide +kernel
  have := cond_all2 (P := fun a b => (bandn a b == 0) = !(band a (bandn 15 b) != 0)) hfin hxi.1 hxi.2 h0 h1
  rw [h15, this]
  simp [hi]
theorem demon_eq {x : Nat → Int} (hx : Dg 4 x) {p : Nat} (hp : p < 16) : demonT x p = dual (angelT x) p := by
  have hr := bandn_rng (a := 15) (b := (p : Int)) (by decide) (by decide) (by omega) (by omega)
  unfold demonT dual angelT
  rw [box_eq hx (by omega) (by omega), Int.toNat_of_nonneg hr.1]
end Go.DC
namespace Go.DC
open Go.RowKit
set_option linter.unusedVariables false
set_option linter.unusedSimpArgs false
theorem pow_in {m : Nat} (h : m < 4) : 0 ≤ (2 : Int) ^ m ∧ (2 : Int) ^ m ≤ 15 ∧ ((2 : Int) ^ m).toNat = 2 ^ m := by
  have : ∀ m : Fin 4, 0 ≤ (2 : Int) ^ m.val ∧ (2 : Int) ^ m.val ≤ 15 ∧ ((2 : Int) ^ m.val).toNat = 2 ^ m.val := by decide
  exact this ⟨m, h⟩
def orZ (b : Bool) (v : Int) : Int := if b then v else 0
theorem orZ_true (v : Int) : orZ true v = v := rfl
theorem orZ_false (v : Int) : orZ false v = 0 := rfl
/-- The transformer of a condition and a relation. -/
def specD (p : Int) (x : Nat → Int) : Nat → Int := fun q => band p (boxR x q)
theorem specD_Dg {p : Int} (h0 : 0 ≤ p) (h1 : p ≤ 15) (x : Nat → Int) (n : Nat) : Dg n (specD p x) := fun q _ => band_rng h0 h1 (boxR_rng x q).1 (boxR_rng x q).2
theorem boxR_congr {x y : Nat → Int} (h : ∀ s, s < 4 → x s = y s) (p : Int) : boxR x p = boxR y p := mk_congr 4 fun s hs => by rw [h s hs]
/-- as the program makes it -/
theorem spec_then (p : Int) (x : Nat → Int) : thenT (assertT p) (demonT x) = specD p x := funext fun q => by
  unfold thenT assertT demonT specD
  rw [Int.toNat_of_nonneg (boxR_rng x q).1]
/-- as the reference makes it -/
theorem spec_txt {p : Int} (h0 : 0 ≤ p) (h1 : p ≤ 15) {x : Nat → Int} (hx : Dg 4 x) : txt 16 (thenT (assertT p) (dual (angelT x))) = txt 16 (specD p x) := txt_congr fun q hq => by
  rw [← spec_then]
  unfold thenT
  rw [demon_eq hx hq]
theorem specD_txt {x : Nat → Int} (hx : Dg 4 x) {p : Int} : txt 16 (specD p (dg (txt 4 x))) = txt 16 (specD p x) := txt_congr fun q hq => by
  unfold specD
  rw [boxR_congr (fun s hs => dg_txt hx hs)]
theorem leadTo_congr {x y : Nat → Int} (s : Nat) : ∀ n, (∀ i, i < n → x i = y i) → leadTo n x s = leadTo n y s
  | 0, _ => rfl
  | n + 1, h => by
    have ih := leadTo_congr s n fun i hi => h i (by omega)
    unfold leadTo
    rw [h n (by omega), ih]
/-- The least conjunctive transformer that refines a transformer. -/
def aboveT (x : Nat → Int) : Nat → Int := specD (x 15) (leadsT x)
theorem aboveT_Dg {x : Nat → Int} (hx : Dg 16 x) : Dg 16 (aboveT x) := specD_Dg (hx 15 (by decide)).1 (hx 15 (by decide)).2 _ 16
theorem aboveT_congr {x y : Nat → Int} (h : ∀ i, i < 16 → x i = y i) (q : Nat) : aboveT x q = aboveT y q := by
  unfold aboveT specD
  rw [h 15 (by decide), boxR_congr (x := leadsT x) (y := leadsT y) fun s hs => leadTo_congr s 16 h]
theorem above_txt {x : Nat → Int} (hx : Dg 16 x) : txt 16 (aboveT (dg (txt 16 x))) = txt 16 (aboveT x) := txt_congr fun q hq => aboveT_congr (fun i hi => dg_txt hx hi) q
theorem eq_angelRel (r : ByteArray) : (tvB r && disjB (dg r) && (dg r 0 == 0)) = ((tvB r && conjB (dg (txt 16 (dual (dg r))))) && (tvB r && (dg r 0 == 0))) := by
  rw [← eq_disj]
  cases tvB r <;> cases disjB (dg r) <;> cases (dg r 0 == 0) <;> rfl
end Go.DC
namespace Go.DC
open Go.RowKit
set_option linter.unusedVariables false
set_option linter.unusedSimpArgs false
/-- What such a region needs to know: the four cells of block b, and that the sixteen cells of block c may be written. -/
def Four (w : World) (b c : Nat) (x : Nat → Int) : Prop :=
  w.cell? ⟨b, 0, none⟩ = some (.int .i64 (x 0)) ∧ w.cell? ⟨b, 1, none⟩ = some (.int .i64 (x 1)) ∧ w.cell? ⟨b, 2, none⟩ = some (.int .i64 (x 2)) ∧ w.cell? ⟨b, 3, none⟩ = some (.int .i64 (x 3)) ∧ w.there c 0 16
theorem Row.there {w : World} {b n : Nat} {f : Nat → Int} (h : Row w b n f) : w.there b 0 n := fun j hj => by
  rw [Nat.zero_add]
  exact ⟨by rw [h.cell hj]; rfl, h.free j⟩
theorem Row.range {w : World} {b n : Nat} {f : Nat → Int} (h : Row w b n f) : w.rangeAt b 0 (cellsF n f).toList := fun j v hv => by
  rw [Nat.zero_add]
  obtain ⟨t, h⟩ := h
  rw [cell_of_row w b j _ t _ h]
  simpa using hv
theorem there_below {w w' : World} {c n : Nat} (hb : Below w.heap.size w w') (hn : 0 < n) (h : w.there c 0 n) : w'.there c 0 n := by
  have hlt : c < w.heap.size := by
    have := (h 0 hn).1
    rw [Option.isSome_iff_exists] at this
    obtain ⟨v, hv⟩ := this
    exact block_lt_of_cell hv
  intro j hj
  have e1 : w'.cell? ⟨c, 0 + j, none⟩ = w.cell? ⟨c, 0 + j, none⟩ := hb.cell (p := ⟨c, 0 + j, none⟩) hlt
  have e2 : w'.frozen? ⟨c, 0 + j, none⟩ = w.frozen? ⟨c, 0 + j, none⟩ := hb.frozen (p := ⟨c, 0 + j, none⟩) hlt
  rw [e1, e2]
  exact h j hj
theorem range_below {w w' : World} {c n : Nat} {f : Nat → Int} (hb : Below w.heap.size w w') (hn : 0 < n) (h : w.rangeAt c 0 (cellsF n f).toList) : w'.rangeAt c 0 (cellsF n f).toList := by
  have h0 := h 0 _ (by simpa using cellsF_get n f hn)
  have hlt : c < w.heap.size := block_lt_of_cell h0
  intro j v hv
  have e1 : w'.cell? ⟨c, 0 + j, none⟩ = w.cell? ⟨c, 0 + j, none⟩ := hb.cell (p := ⟨c, 0 + j, none⟩) hlt
  rw [e1]
  exact h j v hv
theorem keep4 {w w' : World} {b c : Nat} {x : Nat → Int} (hb : Below w.heap.size w w')
    (h : w.cell? ⟨b, 0, none⟩ = some (.int .i64 (x 0)) ∧ w.cell? ⟨b, 1, none⟩ = some (.int .i64 (x 1)) ∧ w.cell? ⟨b, 2, none⟩ = some (.int .i64 (x 2)) ∧ w.cell? ⟨b, 3, none⟩ = some (.int .i64 (x 3)) ∧ w.there c 0 16) :
    w'.cell? ⟨b, 0, none⟩ = some (.int .i64 (x 0)) ∧ w'.cell? ⟨b, 1, none⟩ = some (.int .i64 (x 1)) ∧ w'.cell? ⟨b, 2, none⟩ = some (.int .i64 (x 2)) ∧ w'.cell? ⟨b, 3, none⟩ = some (.int .i64 (x 3)) ∧ w'.there c 0 16 := by
  have hlt := block_lt_of_cell h.1
  have e : ∀ i, w'.cell? ⟨b, i, none⟩ = w.cell? ⟨b, i, none⟩ := fun i => hb.cell (p := ⟨b, i, none⟩) hlt
  rw [e, e, e, e]; exact ⟨h.1, h.2.1, h.2.2.1, h.2.2.2.1, there_below hb (by decide) h.2.2.2.2⟩
/-- A whole array written cell by cell is the array written at once. -/
theorem Row.setCells {w : World} {b n : Nat} {f : Nat → Int} (h : Row w b n f) {P : Program} {T : Nat} (hT : ArrT P T n) (g : Nat → Int) : w.setCells b 0 (cellsF n g).toList = w.setRow b (cellsF n g) := by
  have hth := h.there
  obtain ⟨t, h⟩ := h
  have h1 := run_storeVar_row (P := P) w b t T (cellsF n f) (cellsF n g) h (by rw [cellsF_size]; exact hT.info) (by simp [cellsF_size]) (cellsF_one n g)
  have h2 := run_storeVar_mid (P := P) w b 0 T (cellsF n g) (by rw [cellsF_size]; exact hth) (by rw [cellsF_size]; exact hT.info) (cellsF_one n g)
  rw [h1] at h2
  injection h2 with _ h3
  exact h3.symm
end Go.DC
namespace Go.DC
open Go.RowKit
set_option linter.unusedVariables false
set_option linter.unusedSimpArgs false
section
variable {P : Program} {ops : Array Oper} {Q : Exit → Act → World → Prop} {md : Region.Mode} {S : World → Prop} {a : Act} {w : World} {o : Oper} {K : Act → World → Prop}
/-- A whole array is read first. -/
theorem takeRow {T n : Nat} (hT : ArrT P T n) {i fuel : Nat} {listed : Array Bool} {oi : Oper} (hi : ops[i]? = some oi) (x : Operand) (ho : oi.op = .load T x)
    (hwt : Region.wanted oi (yielded ops a.tmps) = true) (b : Nat) (hx : a.eval x = .pointer (some ⟨b, 0, none⟩)) {f : Nat → Int} (hr : ∀ w, S w → Row w b n f)
    (hs : Region.noSelect ops = true) (hf : Region.free md ops listed i = true) (hrd : (Region.ready md ops listed).contains i = true)
    (hQ : ∀ c a w, Q (.panic c) (a.put oi.dst (.agg (cellsF n f))) w → Q (.panic c) a w) (hS : S w)
    (h : wpAnyH P md ops Q S fuel (listed.setIfInBounds i true) (a.put oi.dst (.agg (cellsF n f))) w) : wpAnyH P md ops Q S (fuel + 1) listed a w :=
  wpAnyH_take hi hs hf hrd hQ (Or.inl ⟨hwt, fun w hw => by
    obtain ⟨⟨e, hu⟩, hinf⟩ := hT
    obtain ⟨t, hc⟩ := hr w hw
    unfold execOp
    simp only [ho, hx, Instr.loadAt, Instr.sureAddr, Sem.run_bind, Sem.run_pure, Result.andThen_ok, run_loadVar_row w b t T (cellsF n f) (0, 0) _ hc hu rfl (by rw [cellsF_size]; exact hinf)]⟩) hS h
/-- A whole array is written. -/
theorem storeRow {T n : Nat} (hT : ArrT P T n) (x y : Operand) (ho : o.op = .store T x y) (hw : Region.wanted o (yielded ops a.tmps) = true) (b : Nat) (hx : a.eval x = .pointer (some ⟨b, 0, none⟩))
    (g : Nat → Int) (hy : a.eval y = .agg (cellsF n g)) {f : Nat → Int} (h : Row w b n f) (k : K (a.put o.dst undef) (w.setRow b (cellsF n g))) :
    if Region.wanted o (yielded ops a.tmps) = true then Oper.wp P o a w K Q else K (a.put o.dst undef) w := by
  obtain ⟨⟨e, hu⟩, hi⟩ := hT
  obtain ⟨t, h⟩ := h
  rw [if_pos hw]
  exact wp_store_row T x y ho b (cellsF n g) hx hy t (cellsF n f) h (by rw [cellsF_size]; exact hi) (by simp [cellsF_size]) (cellsF_one n g) k
/-- A function is called. -/
theorem callOp {f : FuncId} {args : Array Value} (hw : Region.wanted o (yielded ops a.tmps) = true) (hrun : (execOp a.eval o).run P w = .ok (.enter f args) w)
    (hc : Calls P f args w fun e w' => ∃ v, e = .returned v ∧ K (a.put o.dst v) w') : if Region.wanted o (yielded ops a.tmps) = true then Oper.wp P o a w K Q else K (a.put o.dst undef) w := by
  rw [if_pos hw]
  unfold Oper.wp
  rw [hrun]
  refine Calls.mono hc fun e w' h => ?_
  obtain ⟨v, rfl, h⟩ := h
  exact h
end
end Go.DC
namespace Go.DC
open Go.RowKit
set_option linter.unusedVariables false
set_option linter.unusedSimpArgs false

/-- How many parts and how many digits a letter has. -/
def shp (o : UInt8) : Option (Nat × Nat) :=
  if o = 115 then some (0, 0) else if o = 97 then some (0, 0) else if o = 109 then some (0, 0)
  else if o = 33 then some (0, 1) else if o = 63 then some (0, 1)
  else if o = 65 then some (0, 4) else if o = 68 then some (0, 4)
  else if o = 59 then some (2, 0) else if o = 38 then some (2, 0) else if o = 124 then some (2, 0)
  else if o = 105 then some (2, 1) else if o = 119 then some (1, 1)
  else if o = 42 then some (1, 0) else if o = 43 then some (1, 0) else none
/-- A contract: a letter, its digits and its parts. -/
inductive Ct where
  | z (o : UInt8) (ds : List UInt8) : Ct
  | u (o : UInt8) (ds : List UInt8) (x : Ct) : Ct
  | b (o : UInt8) (ds : List UInt8) (x y : Ct) : Ct
/-- All are digits. -/
def hxs (l : List UInt8) : Bool := l.all fun b => decide (0 ≤ hx b)
namespace Ct
def o : Ct → UInt8
  | z o _ => o
  | u o _ _ => o
  | b o _ _ _ => o
def ds : Ct → List UInt8
  | z _ d => d
  | u _ d _ => d
  | b _ d _ _ => d
def kids : Ct → List Ct
  | z _ _ => []
  | u _ _ x => [x]
  | b _ _ x y => [x, y]
/-- The text. -/
def tx : Ct → List UInt8
  | z o d => o :: d
  | u o d x => o :: (d ++ x.tx)
  | b o d x y => o :: (d ++ (x.tx ++ y.tx))
/-- The letters have the parts and the digits that they should have. -/
def wf : Ct → Bool
  | z o d => shp o == some (0, d.length) && hxs d
  | u o d x => shp o == some (1, d.length) && hxs d && x.wf
  | b o d x y => shp o == some (2, d.length) && hxs d && x.wf && y.wf
theorem tx_pos (t : Ct) : 1 ≤ t.tx.length := by cases t <;> simp [tx]
theorem wf_z {o : UInt8} {d : List UInt8} (h : (z o d).wf = true) : shp o = some (0, d.length) ∧ hxs d = true := by
  simpa [wf] using h
theorem wf_u {o : UInt8} {d : List UInt8} {x : Ct} (h : (u o d x).wf = true) : shp o = some (1, d.length) ∧ hxs d = true ∧ x.wf = true := by
  simp [wf] at h; exact ⟨h.1.1, h.1.2, h.2⟩
theorem wf_b {o : UInt8} {d : List UInt8} {x y : Ct} (h : (b o d x y).wf = true) : shp o = some (2, d.length) ∧ hxs d = true ∧ x.wf = true ∧ y.wf = true := by
  simp [wf] at h; exact ⟨h.1.1.1, h.1.1.2, h.1.2, h.2⟩
end Ct
/-- A contract is read from the head of a list on; what is behind it is left. -/
def prs : Nat → List UInt8 → Option (Ct × List UInt8)
  | 0, _ => none
  | _ + 1, [] => none
  | f + 1, o :: l => match shp o with
    | none => none
    | some (k, d) =>
      if d ≤ l.length ∧ hxs (l.take d) = true then
        match k with
        | 0 => some (.z o (l.take d), l.drop d)
        | 1 => match prs f (l.drop d) with
          | none => none
          | some (x, l1) => some (.u o (l.take d) x, l1)
        | _ => match prs f (l.drop d) with
          | none => none
          | some (x, l1) => match prs f l1 with
            | none => none
            | some (y, l2) => some (.b o (l.take d) x y, l2)
      else none
theorem shp_k {o : UInt8} {k d : Nat} (h : shp o = some (k, d)) : (k = 0 ∨ k = 1 ∨ k = 2) ∧ d ≤ 4 := by
  have h8 : ∀ n : Fin 256, ∀ q ∈ shp (UInt8.ofNat n.val), (q.1 = 0 ∨ q.1 = 1 ∨ q.1 = 2) ∧ q.2 ≤ 4 := by decide +kernel
  have := h8 ⟨o.toNat, o.toNat_lt⟩ (k, d)
  simp at this
  exact this h
theorem prs_some : ∀ (f : Nat) {l r : List UInt8} {t : Ct}, prs f l = some (t, r) → l = t.tx ++ r ∧ t.wf = true
  | 0, _, _, _, h => by simp [prs] at h
  | f + 1, [], _, _, h => by simp [prs] at h
  | f + 1, o :: l, r, t, h => by
    unfold prs at h
    cases hs : shp o with
    | none => simp [hs] at h
    | some kd =>
      obtain ⟨k, d⟩ := kd
      have hk := (shp_k hs).1
      simp only [hs] at h
      split at h
      · rename_i hd
        obtain ⟨hd1, hd2⟩ := hd
        have hlen : (l.take d).length = d := by simp; omega
        rcases hk with rfl | rfl | rfl
        · simp only [Option.some.injEq, Prod.mk.injEq] at h
          obtain ⟨rfl, rfl⟩ := h
          refine ⟨by simp [Ct.tx], ?_⟩
          simp only [Ct.wf, hs, hd2, hlen]; simp
        · cases hx : prs f (l.drop d) with
          | none => simp [hx] at h
          | some xl =>
            obtain ⟨x, l1⟩ := xl
            have ih := prs_some f hx
            simp only [hx, Option.some.injEq, Prod.mk.injEq] at h
            obtain ⟨rfl, rfl⟩ := h
            refine ⟨?_, ?_⟩
            · have e := List.take_append_drop d l
              rw [ih.1] at e
              simp only [Ct.tx, List.cons_append, List.append_assoc]
              rw [e]
            · simp only [Ct.wf, hs, hd2, hlen, ih.2]; simp
        · cases hx : prs f (l.drop d) with
          | none => simp [hx] at h
          | some xl =>
            obtain ⟨x, l1⟩ := xl
            have ih := prs_some f hx
            simp only [hx] at h
            cases hy : prs f l1 with
            | none => simp [hy] at h
            | some yl =>
              obtain ⟨y, l2⟩ := yl
              have ih2 := prs_some f hy
              simp only [hy, Option.some.injEq, Prod.mk.injEq] at h
              obtain ⟨rfl, rfl⟩ := h
              refine ⟨?_, ?_⟩
              · have e := List.take_append_drop d l
                rw [ih.1, ih2.1] at e
                simp only [Ct.tx, List.cons_append, List.append_assoc]
                rw [e]
              · simp only [Ct.wf, hs, hd2, hlen, ih.2, ih2.2]; simp
      · simp at h
theorem prs_tx : ∀ (f : Nat) {t : Ct} (r : List UInt8), t.wf = true → t.tx.length ≤ f → prs f (t.tx ++ r) = some (t, r)
  | 0, t, _, _, h => by have := t.tx_pos; omega
  | f + 1, .z o d, r, h, hf => by
    obtain ⟨hs, hd⟩ := Ct.wf_z h
    unfold prs
    simp [Ct.tx, hs, hd]
  | f + 1, .u o d x, r, h, hf => by
    obtain ⟨hs, hd, hx⟩ := Ct.wf_u h
    have ih := prs_tx f r hx (by simp [Ct.tx] at hf; omega)
    unfold prs
    simp [Ct.tx, hs, hd, ih]
  | f + 1, .b o d x y, r, h, hf => by
    obtain ⟨hs, hd, hx, hy⟩ := Ct.wf_b h
    have ih := prs_tx f (y.tx ++ r) hx (by simp [Ct.tx] at hf; omega)
    have ih2 := prs_tx f r hy (by simp [Ct.tx] at hf; omega)
    unfold prs
    simp [Ct.tx, hs, hd, ih, ih2]
/-- What is read from the head of a list on. -/
def pr (l : List UInt8) : Option (Ct × List UInt8) := prs l.length l
theorem prs_pr {f : Nat} {l : List UInt8} (h : l.length ≤ f) : prs f l = pr l := by
  unfold pr
  cases h1 : prs l.length l with
  | some tr =>
    obtain ⟨t, r⟩ := tr
    have h2 := prs_some _ h1
    conv => lhs; rw [h2.1]
    exact prs_tx f r h2.2 (by have := congrArg List.length h2.1; simp at this; omega)
  | none =>
    cases h3 : prs f l with
    | none => rfl
    | some tr =>
      obtain ⟨t, r⟩ := tr
      have h2 := prs_some _ h3
      have h4 := prs_tx l.length r h2.2 (by have := congrArg List.length h2.1; simp at this; omega)
      rw [← h2.1, h1] at h4
      exact absurd h4 (by simp)
theorem pr_some {l r : List UInt8} {t : Ct} (h : pr l = some (t, r)) : l = t.tx ++ r ∧ t.wf = true := prs_some _ h
theorem pr_tx {t : Ct} (r : List UInt8) (h : t.wf = true) : pr (t.tx ++ r) = some (t, r) := prs_tx _ r h (by simp)
theorem pr_nil : pr [] = none := rfl
/-- The reader's step. -/
theorem pr_cons (o : UInt8) (l : List UInt8) : pr (o :: l) = match shp o with
    | none => none
    | some (k, d) =>
      if d ≤ l.length ∧ hxs (l.take d) = true then
        match k with
        | 0 => some (.z o (l.take d), l.drop d)
        | 1 => match pr (l.drop d) with
          | none => none
          | some (x, l1) => some (.u o (l.take d) x, l1)
        | _ => match pr (l.drop d) with
          | none => none
          | some (x, l1) => match pr l1 with
            | none => none
            | some (y, l2) => some (.b o (l.take d) x y, l2)
      else none := by
  show prs (l.length + 1) (o :: l) = _
  unfold prs
  have hdrop : ∀ d, prs l.length (l.drop d) = pr (l.drop d) := fun d => prs_pr (by simp)
  cases hs : shp o with
  | none => rfl
  | some kd =>
    obtain ⟨k, d⟩ := kd
    simp only []
    split
    · rename_i hd
      rcases (shp_k hs).1 with rfl | rfl | rfl
      · rfl
      · simp only [hdrop]
      · simp only [hdrop]
        cases hx : pr (l.drop d) with
        | none => rfl
        | some xl =>
          obtain ⟨x, l1⟩ := xl
          have := pr_some hx
          have hl : prs l.length l1 = pr l1 := prs_pr (by have e := congrArg List.length this.1; simp at e; omega)
          simp only [hl]
    · rfl
/-- The contract that a text is. -/
def cto (c : ByteArray) : Option Ct := if c.size ≤ 200 then
    match pr c.data.toList with
    | some (t, []) => some t
    | _ => none
  else none
/-- The text of a contract, as bytes. -/
def Ct.bytes (t : Ct) : ByteArray := ⟨t.tx.toArray⟩
theorem Ct.bytes_list (t : Ct) : t.bytes.data.toList = t.tx := by simp [Ct.bytes]
theorem Ct.bytes_size (t : Ct) : t.bytes.size = t.tx.length := by
  show t.tx.toArray.size = _
  simp
theorem bytes_of_list {c : ByteArray} {t : Ct} (h : c.data.toList = t.tx) : c = t.bytes := by
  have : c.data = t.tx.toArray := by rw [← h]
  show c = ⟨t.tx.toArray⟩
  rw [← this]
theorem cto_some {c : ByteArray} {t : Ct} : cto c = some t ↔ c = t.bytes ∧ t.wf = true ∧ t.tx.length ≤ 200 := by
  unfold cto
  have hsz : c.size = c.data.toList.length := rfl
  constructor
  · intro h
    split at h
    · rename_i hle
      cases hp : pr c.data.toList with
      | none => simp [hp] at h
      | some tr =>
        obtain ⟨t', r⟩ := tr
        cases r with
        | cons a r => simp [hp] at h
        | nil =>
          simp only [hp, Option.some.injEq] at h
          subst h
          have h2 := pr_some hp
          rw [List.append_nil] at h2
          exact ⟨bytes_of_list h2.1, h2.2, by rw [← h2.1]; exact hle⟩
    · simp at h
  · rintro ⟨rfl, hw, hl⟩
    rw [if_pos (by rw [Ct.bytes_size]; exact hl), Ct.bytes_list]
    have := pr_tx [] hw
    rw [List.append_nil] at this
    rw [this]
theorem cto_bytes {t : Ct} (hw : t.wf = true) (hl : t.tx.length ≤ 200) : cto t.bytes = some t := cto_some.2 ⟨rfl, hw, hl⟩
end Go.DC
namespace Go.DC
open Go.RowKit
set_option linter.unusedVariables false
set_option linter.unusedSimpArgs false
/-- A condition. -/
def Cv (a : Int) : Prop := 0 ≤ a ∧ a ≤ 15
/-- a implies b. -/
def Sub (a b : Int) : Prop := bandn a b = 0
theorem sub_bits {a b : Int} (ha : Cv a) (hb : Cv b) : Sub a b ↔ ∀ i, i < 4 → hasb a i = true → hasb b i = true := by
  have h : ∀ m n : Fin 16, (bandn (m.val : Int) (n.val : Int) = 0 ↔ ∀ i : Fin 4, hasb (m.val : Int) i.val = true → hasb (n.val : Int) i.val = true) := by decide +kernel
  have := cond_all2 (P := fun a b => (bandn a b = 0 ↔ ∀ i : Fin 4, hasb a i.val = true → hasb b i.val = true)) h ha.1 ha.2 hb.1 hb.2
  unfold Sub
  rw [this]
  exact ⟨fun h i hi => h ⟨i, hi⟩, fun h i => h i.val i.isLt⟩
theorem cv_ext {a b : Int} (ha : Cv a) (hb : Cv b) (h : ∀ i, i < 4 → hasb a i = hasb b i) : a = b := cond_ext ha.1 ha.2 hb.1 hb.2 h
theorem Cv.and {a b : Int} (ha : Cv a) (hb : Cv b) : Cv (band a b) := band_rng ha.1 ha.2 hb.1 hb.2
theorem Cv.or {a b : Int} (ha : Cv a) (hb : Cv b) : Cv (bor a b) := bor_rng ha.1 ha.2 hb.1 hb.2
theorem Cv.andn {a b : Int} (ha : Cv a) (hb : Cv b) : Cv (bandn a b) := bandn_rng ha.1 ha.2 hb.1 hb.2
theorem Cv.c0 : Cv 0 := ⟨by decide, by decide⟩
theorem Cv.c15 : Cv 15 := ⟨by decide, by decide⟩
theorem Cv.nat {n : Nat} (h : n < 16) : Cv (n : Int) := ⟨by omega, by omega⟩
theorem has0 {i : Nat} (hi : i < 4) : hasb 0 i = false := (by decide +kernel : ∀ i : Fin 4, hasb 0 i.val = false) ⟨i, hi⟩
theorem has15 {i : Nat} (hi : i < 4) : hasb 15 i = true := (by decide +kernel : ∀ i : Fin 4, hasb 15 i.val = true) ⟨i, hi⟩
theorem has_pow {i j : Nat} (hi : i < 4) (hj : j < 4) : hasb (2 ^ j) i = decide (i = j) := (by decide +kernel : ∀ i j : Fin 4, hasb (2 ^ j.val) i.val = decide (i.val = j.val)) ⟨i, hi⟩ ⟨j, hj⟩
theorem Cv.has_and {a b : Int} (ha : Cv a) (hb : Cv b) {i : Nat} (hi : i < 4) : hasb (band a b) i = (hasb a i && hasb b i) := has_band ha.1 ha.2 hb.1 hb.2 hi
theorem Cv.has_or {a b : Int} (ha : Cv a) (hb : Cv b) {i : Nat} (hi : i < 4) : hasb (bor a b) i = (hasb a i || hasb b i) := has_bor ha.1 ha.2 hb.1 hb.2 hi
theorem Cv.has_andn {a b : Int} (ha : Cv a) (hb : Cv b) {i : Nat} (hi : i < 4) : hasb (bandn a b) i = (hasb a i && !hasb b i) := has_bandn ha.1 ha.2 hb.1 hb.2 hi
theorem Sub.refl {a : Int} (ha : Cv a) : Sub a a := (sub_bits ha ha).2 fun _ _ h => h
theorem Sub.trans {a b c : Int} (ha : Cv a) (hb : Cv b) (hc : Cv c) (h1 : Sub a b) (h2 : Sub b c) : Sub a c :=
  (sub_bits ha hc).2 fun i hi h => (sub_bits hb hc).1 h2 i hi ((sub_bits ha hb).1 h1 i hi h)
theorem Sub.antisymm {a b : Int} (ha : Cv a) (hb : Cv b) (h1 : Sub a b) (h2 : Sub b a) : a = b :=
  cv_ext ha hb fun i hi => by rw [Bool.eq_iff_iff]; exact ⟨(sub_bits ha hb).1 h1 i hi, (sub_bits hb ha).1 h2 i hi⟩
theorem Sub.zero {a : Int} (ha : Cv a) : Sub 0 a := sub_0 ha.1 ha.2
theorem Sub.full {a : Int} (ha : Cv a) : Sub a 15 := sub_15 ha.1 ha.2
theorem Mono.cv {T : Int → Int} (h : Mono T) {a : Int} (ha : Cv a) : Cv (T a) := h.rng a ha.1 ha.2
theorem Mono.sub {T : Int → Int} (h : Mono T) {a b : Int} (ha : Cv a) (hb : Cv b) (hs : Sub a b) : Sub (T a) (T b) := h.imp a b ha.1 ha.2 hb.1 hb.2 hs
theorem Mono.mk' {T : Int → Int} (h1 : ∀ a, Cv a → Cv (T a)) (h2 : ∀ a b, Cv a → Cv b → Sub a b → Sub (T a) (T b)) : Mono T :=
  ⟨fun a a0 a1 => h1 a ⟨a0, a1⟩, fun a b a0 a1 b0 b1 h => h2 a b ⟨a0, a1⟩ ⟨b0, b1⟩ h⟩

/-! ### the least fixed point -/
def lp (T : Int → Int) : Int := iter 16 T 0
theorem iter_up {T : Int → Int} (hT : Mono T) : ∀ (n : Nat) (y : Int), Cv y → Sub y (T y) → 15 - y.toNat < n → T (iter n T y) = iter n T y ∧ Cv (iter n T y)
  | 0, _, _, _, h => absurd h (Nat.not_lt_zero _)
  | n + 1, y, hy, hs, hn => by
    unfold iter
    by_cases e : T y = y
    · rw [if_pos e]; exact ⟨e, hy⟩
    · rw [if_neg e]
      have hr := hT.cv hy
      have hl := sub_le hy.1 hy.2 hr.1 hr.2 hs
      have h0 := hy.1
      have h1 := hr.2
      exact iter_up hT n (T y) hr (hT.sub hy hr hs) (by omega)
theorem iter_less {T : Int → Int} (hT : Mono T) {z : Int} (hz : Cv z) (h : Sub (T z) z) : ∀ (n : Nat) (y : Int), Cv y → Sub y z → Sub (iter n T y) z
  | 0, _, _, hs => hs
  | n + 1, y, hy, hs => by
    unfold iter
    split
    · exact hs
    · exact iter_less hT hz h n (T y) (hT.cv hy) (Sub.trans (hT.cv hy) (hT.cv hz) hz (hT.sub hy hz hs) h)
theorem lp_cv {T : Int → Int} (hT : Mono T) : Cv (lp T) := (iter_up hT 16 0 Cv.c0 (Sub.zero (hT.cv Cv.c0)) (by decide)).2
theorem lp_fix {T : Int → Int} (hT : Mono T) : T (lp T) = lp T := (iter_up hT 16 0 Cv.c0 (Sub.zero (hT.cv Cv.c0)) (by decide)).1
theorem lp_less {T : Int → Int} (hT : Mono T) {z : Int} (hz : Cv z) (h : Sub (T z) z) : Sub (lp T) z := iter_less hT hz h 16 0 Cv.c0 (Sub.zero hz)
theorem lp_sub {T U : Int → Int} (hT : Mono T) (hU : Mono U) (h : ∀ y, Cv y → Sub (T y) (U y)) : Sub (lp T) (lp U) := by
  have hc := lp_cv hU
  refine lp_less hT hc ?_
  have := h _ hc
  rw [lp_fix hU] at this
  exact this
theorem lp_congr {T U : Int → Int} (hT : Mono T) (h : ∀ y, Cv y → U y = T y) : lp U = lp T := iter_congr hT (fun y h0 h1 => h y ⟨h0, h1⟩) 16 0 (by decide) (by decide)
theorem lp_uniq {T : Int → Int} (hT : Mono T) {z : Int} (hz : Cv z) (h : Sub (T z) z) (h2 : ∀ v, Cv v → T v = v → Sub z v) : lp T = z :=
  Sub.antisymm (lp_cv hT) hz (lp_less hT hz h) (h2 _ (lp_cv hT) (lp_fix hT))
theorem iter_same {T : Int → Int} (hT : Mono T) : ∀ (n m : Nat) (y : Int), Cv y → Sub y (T y) → 15 - y.toNat < n → 15 - y.toNat < m → iter n T y = iter m T y
  | 0, _, _, _, _, h, _ => absurd h (Nat.not_lt_zero _)
  | _, 0, _, _, _, _, h => absurd h (Nat.not_lt_zero _)
  | n + 1, m + 1, y, hy, hs, hn, hm => by
    unfold iter
    by_cases e : T y = y
    · rw [if_pos e, if_pos e]
    · rw [if_neg e, if_neg e]
      have hr := hT.cv hy
      have hl := sub_le hy.1 hy.2 hr.1 hr.2 hs
      have h0 := hy.1
      have h1 := hr.2
      exact iter_same hT n m (T y) hr (hT.sub hy hr hs) (by omega) (by omega)
/-- One more turn from below. -/
theorem lp_step {T : Int → Int} (hT : Mono T) {y : Int} (hy : Cv y) (hs : Sub y (T y)) (e : T y ≠ y) : iter (16 - y.toNat) T y = iter (16 - (T y).toNat) T (T y) ∧ y.toNat < (T y).toNat ∧ (T y).toNat ≤ 15 := by
  have hr := hT.cv hy
  have hl := sub_le hy.1 hy.2 hr.1 hr.2 hs
  have h0 := hy.1
  have h1 := hr.2
  refine ⟨?_, by omega, by omega⟩
  have e1 : 16 - y.toNat = (15 - y.toNat) + 1 := by omega
  rw [e1]
  have : iter ((15 - y.toNat) + 1) T y = iter (15 - y.toNat) T (T y) := by conv => lhs; unfold iter; rw [if_neg e]
  rw [this]
  exact iter_same hT _ _ (T y) hr (hT.sub hy hr hs) (by omega) (by omega)
theorem lp_stop {T : Int → Int} {y : Int} (hy : Cv y) (e : T y = y) : iter (16 - y.toNat) T y = y := by
  have h0 := hy.1
  have h1 := hy.2
  have e1 : 16 - y.toNat = (15 - y.toNat) + 1 := by omega
  rw [e1]; exact iter_stop e
end Go.DC
namespace Go.DC
open Go.RowKit
set_option linter.unusedVariables false
set_option linter.unusedSimpArgs false
/-- The condition of a head: its last digit. -/
def pv (ds : List UInt8) : Int := match ds.getLast? with
  | none => 0
  | some b => hx b
/-- The relation of a head with four digits. -/
def rv (ds : List UInt8) : Nat → Int := fun i => hx (ds.getD i 0)
def assumeT (p : Int) : Nat → Int := fun q => bor (q : Int) (bandn 15 p)
/-- p and a, or b and not p. -/
def ifv (p a b : Int) : Int := bor (band p a) (bandn b p)
/-- What a contract tells. -/
def tr : Ct → Nat → Int
  | .z o d => if o = 115 then assertT 15 else if o = 97 then assertT 0 else if o = 109 then assumeT 0 else if o = 33 then assertT (pv d)
      else if o = 63 then assumeT (pv d) else if o = 65 then angelT (rv d) else demonT (rv d)
  | .u o d x => if o = 119 then fun q => lp fun y => ifv (pv d) (ap (tr x) y) q else if o = 42 then fun q => lp fun y => band (ap (tr x) y) q
      else fun q => lp fun y => bor (ap (tr x) y) q
  | .b o d x y => if o = 59 then thenT (tr x) (tr y) else if o = 38 then meetT (tr x) (tr y) else if o = 124 then joinT (tr x) (tr y)
      else fun q => ifv (pv d) (tr x q) (tr y q)
theorem hxs_mem {l : List UInt8} (h : hxs l = true) {b : UInt8} (hb : b ∈ l) : Cv (hx b) := by
  unfold hxs at h
  rw [List.all_eq_true] at h
  have := h b hb
  exact ⟨by simpa using this, (hx_rng b).2⟩
theorem pv_cv {l : List UInt8} (h : hxs l = true) : Cv (pv l) := by
  unfold pv
  cases hl : l.getLast? with
  | none => exact Cv.c0
  | some b => exact hxs_mem h (List.mem_of_getLast? hl)
theorem rv_Dg {l : List UInt8} (h : hxs l = true) (hl : l.length = 4) : Dg 4 (rv l) := fun i hi => by
  unfold rv
  have : l.getD i 0 = l[i]'(by omega) := by simp [List.getD, hl, hi]
  rw [this]
  exact hxs_mem h (List.getElem_mem _)
/-- A transformer. -/
def Tr (x : Nat → Int) : Prop := Mono (ap x)
theorem Tr.cv {x : Nat → Int} (h : Tr x) {a : Int} (ha : Cv a) : Cv (ap x a) := Mono.cv h ha
theorem Tr.sub {x : Nat → Int} (h : Tr x) {a b : Int} (ha : Cv a) (hb : Cv b) (hs : Sub a b) : Sub (ap x a) (ap x b) := Mono.sub h ha hb hs
theorem Tr.dg {x : Nat → Int} (h : Tr x) : Dg 16 x := fun i hi => by
  have := h.cv (Cv.nat hi)
  have e : ap x (i : Int) = x i := by unfold ap; simp
  rw [e] at this
  exact this
theorem Tr.mk' {x : Nat → Int} (h1 : ∀ a, Cv a → Cv (ap x a)) (h2 : ∀ a b, Cv a → Cv b → Sub a b → Sub (ap x a) (ap x b)) : Tr x := Mono.mk' h1 h2
theorem ap_nat (x : Nat → Int) (q : Nat) : ap x (q : Int) = x q := by unfold ap; simp
theorem cv_nat {a : Int} (ha : Cv a) : ((a.toNat : Nat) : Int) = a := Int.toNat_of_nonneg ha.1
theorem ap_assert {p a : Int} (ha : Cv a) : ap (assertT p) a = band p a := by unfold ap assertT; rw [cv_nat ha]
theorem ap_assume {p a : Int} (ha : Cv a) : ap (assumeT p) a = bor a (bandn 15 p) := by unfold ap assumeT; rw [cv_nat ha]
theorem ap_angel {x : Nat → Int} {a : Int} (ha : Cv a) : ap (angelT x) a = dia x a := by unfold ap angelT; rw [cv_nat ha]
theorem ap_demon {x : Nat → Int} {a : Int} (ha : Cv a) : ap (demonT x) a = boxR x a := by unfold ap demonT; rw [cv_nat ha]
theorem ap_then {x y : Nat → Int} {a : Int} : ap (thenT x y) a = ap x (ap y a) := rfl
theorem ap_meet {x y : Nat → Int} {a : Int} : ap (meetT x y) a = band (ap x a) (ap y a) := rfl
theorem ap_join {x y : Nat → Int} {a : Int} : ap (joinT x y) a = bor (ap x a) (ap y a) := rfl
theorem hasb_box {x : Nat → Int} (p : Int) {i : Nat} (hi : i < 4) : hasb (boxR x p) i = (bandn (x i) p == 0) := by
  unfold boxR; rw [hasb_mk _ _ _ (by decide)]; simp [hi]
theorem meet_iff {a b : Int} (ha : Cv a) (hb : Cv b) : (band a b != 0) = true ↔ ∃ k, k < 4 ∧ hasb a k = true ∧ hasb b k = true := by
  rw [meet_any ha.1 ha.2 hb.1 hb.2, List.any_eq_true]
  constructor
  · rintro ⟨k, hk, h⟩; rw [Bool.and_eq_true] at h; exact ⟨k, List.mem_range.1 hk, h.1, h.2⟩
  · rintro ⟨k, hk, h1, h2⟩; exact ⟨k, List.mem_range.2 hk, by rw [h1, h2]; rfl⟩
theorem Dg.cv {n : Nat} {x : Nat → Int} (h : Dg n x) {i : Nat} (hi : i < n) : Cv (x i) := h i hi
theorem dia_cv (x : Nat → Int) (p : Int) : Cv (dia x p) := dia_rng x p
theorem box_cv (x : Nat → Int) (p : Int) : Cv (boxR x p) := boxR_rng x p
theorem dia_sub {x : Nat → Int} (hx : Dg 4 x) {a b : Int} (ha : Cv a) (hb : Cv b) (h : Sub a b) : Sub (dia x a) (dia x b) :=
  (sub_bits (dia_cv _ _) (dia_cv _ _)).2 fun i hi hs => by
    rw [hasb_dia _ _ hi] at hs ⊢
    obtain ⟨k, hk, h1, h2⟩ := (meet_iff (hx.cv hi) ha).1 hs
    exact (meet_iff (hx.cv hi) hb).2 ⟨k, hk, h1, (sub_bits ha hb).1 h k hk h2⟩
theorem box_sub {x : Nat → Int} (hx : Dg 4 x) {a b : Int} (ha : Cv a) (hb : Cv b) (h : Sub a b) : Sub (boxR x a) (boxR x b) :=
  (sub_bits (box_cv _ _) (box_cv _ _)).2 fun i hi hs => by
    rw [hasb_box _ hi] at hs ⊢
    have e : Sub (x i) a := by simpa [Sub] using hs
    have : Sub (x i) b := Sub.trans (hx.cv hi) ha hb e h
    simpa [Sub] using this
theorem and_sub {a b c d : Int} (ha : Cv a) (hb : Cv b) (hc : Cv c) (hd : Cv d) (h1 : Sub a b) (h2 : Sub c d) : Sub (band a c) (band b d) :=
  (sub_bits (ha.and hc) (hb.and hd)).2 fun i hi hs => by
    rw [ha.has_and hc hi, Bool.and_eq_true] at hs
    rw [hb.has_and hd hi, (sub_bits ha hb).1 h1 i hi hs.1, (sub_bits hc hd).1 h2 i hi hs.2]; rfl
theorem or_sub {a b c d : Int} (ha : Cv a) (hb : Cv b) (hc : Cv c) (hd : Cv d) (h1 : Sub a b) (h2 : Sub c d) : Sub (bor a c) (bor b d) :=
  (sub_bits (ha.or hc) (hb.or hd)).2 fun i hi hs => by
    rw [ha.has_or hc hi, Bool.or_eq_true] at hs
    rw [hb.has_or hd hi, Bool.or_eq_true]
    exact hs.elim (fun h => .inl ((sub_bits ha hb).1 h1 i hi h)) (fun h => .inr ((sub_bits hc hd).1 h2 i hi h))
theorem andn_sub {a b p : Int} (ha : Cv a) (hb : Cv b) (hp : Cv p) (h1 : Sub a b) : Sub (bandn a p) (bandn b p) :=
  (sub_bits (ha.andn hp) (hb.andn hp)).2 fun i hi hs => by
    rw [ha.has_andn hp hi, Bool.and_eq_true] at hs
    rw [hb.has_andn hp hi, (sub_bits ha hb).1 h1 i hi hs.1, hs.2]; rfl
theorem if_cv {p a b : Int} (hp : Cv p) (ha : Cv a) (hb : Cv b) : Cv (ifv p a b) := (hp.and ha).or (hb.andn hp)
theorem if_sub {p a b c d : Int} (hp : Cv p) (ha : Cv a) (hb : Cv b) (hc : Cv c) (hd : Cv d) (h1 : Sub a b) (h2 : Sub c d) : Sub (ifv p a c) (ifv p b d) :=
  or_sub (hp.and ha) (hp.and hb) (hc.andn hp) (hd.andn hp) (and_sub hp hp ha hb (Sub.refl hp) h1) (andn_sub hc hd hp h2)
theorem Tr.assert {p : Int} (hp : Cv p) : Tr (assertT p) := Tr.mk' (fun a ha => by rw [ap_assert ha]; exact hp.and ha) fun a b ha hb h => by
  rw [ap_assert ha, ap_assert hb]; exact and_sub hp hp ha hb (Sub.refl hp) h
theorem Tr.assume {p : Int} (hp : Cv p) : Tr (assumeT p) := Tr.mk' (fun a ha => by rw [ap_assume ha]; exact ha.or (Cv.c15.andn hp)) fun a b ha hb h => by
  rw [ap_assume ha, ap_assume hb]; exact or_sub ha hb (Cv.c15.andn hp) (Cv.c15.andn hp) h (Sub.refl (Cv.c15.andn hp))
theorem Tr.angel {x : Nat → Int} (hx : Dg 4 x) : Tr (angelT x) := Tr.mk' (fun a ha => by rw [ap_angel ha]; exact dia_cv _ _) fun a b ha hb h => by
  rw [ap_angel ha, ap_angel hb]; exact dia_sub hx ha hb h
theorem Tr.demon {x : Nat → Int} (hx : Dg 4 x) : Tr (demonT x) := Tr.mk' (fun a ha => by rw [ap_demon ha]; exact box_cv _ _) fun a b ha hb h => by
  rw [ap_demon ha, ap_demon hb]; exact box_sub hx ha hb h
theorem Tr.then {x y : Nat → Int} (hx : Tr x) (hy : Tr y) : Tr (thenT x y) := Tr.mk' (fun a ha => by rw [ap_then]; exact hx.cv (hy.cv ha)) fun a b ha hb h => by
  rw [ap_then, ap_then]; exact hx.sub (hy.cv ha) (hy.cv hb) (hy.sub ha hb h)
theorem Tr.meet {x y : Nat → Int} (hx : Tr x) (hy : Tr y) : Tr (meetT x y) := Tr.mk' (fun a ha => by rw [ap_meet]; exact (hx.cv ha).and (hy.cv ha)) fun a b ha hb h => by
  rw [ap_meet, ap_meet]; exact and_sub (hx.cv ha) (hx.cv hb) (hy.cv ha) (hy.cv hb) (hx.sub ha hb h) (hy.sub ha hb h)
theorem Tr.join {x y : Nat → Int} (hx : Tr x) (hy : Tr y) : Tr (joinT x y) := Tr.mk' (fun a ha => by rw [ap_join]; exact (hx.cv ha).or (hy.cv ha)) fun a b ha hb h => by
  rw [ap_join, ap_join]; exact or_sub (hx.cv ha) (hx.cv hb) (hy.cv ha) (hy.cv hb) (hx.sub ha hb h) (hy.sub ha hb h)
theorem Tr.if_ {p : Int} {x y : Nat → Int} (hp : Cv p) (hx : Tr x) (hy : Tr y) : Tr (fun q => ifv p (x q) (y q)) := Tr.mk' (fun a ha => if_cv hp (hx.cv ha) (hy.cv ha)) fun a b ha hb h =>
  if_sub hp (hx.cv ha) (hx.cv hb) (hy.cv ha) (hy.cv hb) (hx.sub ha hb h) (hy.sub ha hb h)
/-- The turn of a while, of a demon's and of an angel's iteration. -/
theorem mono_w {p q : Int} {x : Nat → Int} (hp : Cv p) (hx : Tr x) (hq : Cv q) : Mono fun y => ifv p (ap x y) q := Mono.mk' (fun a ha => if_cv hp (hx.cv ha) hq) fun a b ha hb h =>
  if_sub hp (hx.cv ha) (hx.cv hb) hq hq (hx.sub ha hb h) (Sub.refl hq)
theorem mono_d {q : Int} {x : Nat → Int} (hx : Tr x) (hq : Cv q) : Mono fun y => band (ap x y) q := Mono.mk' (fun a ha => (hx.cv ha).and hq) fun a b ha hb h =>
  and_sub (hx.cv ha) (hx.cv hb) hq hq (hx.sub ha hb h) (Sub.refl hq)
theorem mono_a {q : Int} {x : Nat → Int} (hx : Tr x) (hq : Cv q) : Mono fun y => bor (ap x y) q := Mono.mk' (fun a ha => (hx.cv ha).or hq) fun a b ha hb h =>
  or_sub (hx.cv ha) (hx.cv hb) hq hq (hx.sub ha hb h) (Sub.refl hq)
def whileT (p : Int) (x : Nat → Int) : Nat → Int := fun q => lp fun y => ifv p (ap x y) q
def starD (x : Nat → Int) : Nat → Int := fun q => lp fun y => band (ap x y) q
def starA (x : Nat → Int) : Nat → Int := fun q => lp fun y => bor (ap x y) q
theorem ap_while {p a : Int} {x : Nat → Int} (ha : Cv a) : ap (whileT p x) a = lp fun y => ifv p (ap x y) a := by unfold ap whileT; rw [cv_nat ha]; rfl
theorem ap_starD {a : Int} {x : Nat → Int} (ha : Cv a) : ap (starD x) a = lp fun y => band (ap x y) a := by unfold ap starD; rw [cv_nat ha]; rfl
theorem ap_starA {a : Int} {x : Nat → Int} (ha : Cv a) : ap (starA x) a = lp fun y => bor (ap x y) a := by unfold ap starA; rw [cv_nat ha]; rfl
theorem Tr.while {p : Int} {x : Nat → Int} (hp : Cv p) (hx : Tr x) : Tr (whileT p x) := Tr.mk' (fun a ha => by rw [ap_while ha]; exact lp_cv (mono_w hp hx ha)) fun a b ha hb h => by
  rw [ap_while ha, ap_while hb]
  exact lp_sub (mono_w hp hx ha) (mono_w hp hx hb) fun y hy => if_sub hp (hx.cv hy) (hx.cv hy) ha hb (Sub.refl (hx.cv hy)) h
theorem Tr.starD {x : Nat → Int} (hx : Tr x) : Tr (starD x) := Tr.mk' (fun a ha => by rw [ap_starD ha]; exact lp_cv (mono_d hx ha)) fun a b ha hb h => by
  rw [ap_starD ha, ap_starD hb]
  exact lp_sub (mono_d hx ha) (mono_d hx hb) fun y hy => and_sub (hx.cv hy) (hx.cv hy) ha hb (Sub.refl (hx.cv hy)) h
theorem Tr.starA {x : Nat → Int} (hx : Tr x) : Tr (starA x) := Tr.mk' (fun a ha => by rw [ap_starA ha]; exact lp_cv (mono_a hx ha)) fun a b ha hb h => by
  rw [ap_starA ha, ap_starA hb]
  exact lp_sub (mono_a hx ha) (mono_a hx hb) fun y hy => or_sub (hx.cv hy) (hx.cv hy) ha hb (Sub.refl (hx.cv hy)) h
/-- Which letters have no part, one, and two. -/
theorem shp0 {o : UInt8} {d : Nat} (h : shp o = some (0, d)) : (o = 115 ∧ d = 0) ∨ (o = 97 ∧ d = 0) ∨ (o = 109 ∧ d = 0) ∨ (o = 33 ∧ d = 1) ∨ (o = 63 ∧ d = 1) ∨ (o = 65 ∧ d = 4) ∨ (o = 68 ∧ d = 4) := by
  have h8 : ∀ n : Fin 256, ∀ q : Fin 5, shp (UInt8.ofNat n.val) = some (0, q.val) → (UInt8.ofNat n.val = 115 ∧ q.val = 0) ∨ (UInt8.ofNat n.val = 97 ∧ q.val = 0) ∨ (UInt8.ofNat n.val = 109 ∧ q.val = 0) ∨ (UInt8.ofNat n.val = 33 ∧ q.val = 1) ∨ (UInt8.ofNat n.val = 63 ∧ q.val = 1) ∨ (UInt8.ofNat n.val = 65 ∧ q.val = 4) ∨ (UInt8.ofNat n.val = 68 ∧ q.val = 4) := by decide +kernel
  have hd := (shp_k h).2
  have := h8 ⟨o.toNat, o.toNat_lt⟩ ⟨d, by omega⟩
  simp at this
  exact this h
theorem shp1 {o : UInt8} {d : Nat} (h : shp o = some (1, d)) : (o = 119 ∧ d = 1) ∨ (o = 42 ∧ d = 0) ∨ (o = 43 ∧ d = 0) := by
  have h8 : ∀ n : Fin 256, ∀ q : Fin 5, shp (UInt8.ofNat n.val) = some (1, q.val) → (UInt8.ofNat n.val = 119 ∧ q.val = 1) ∨ (UInt8.ofNat n.val = 42 ∧ q.val = 0) ∨ (UInt8.ofNat n.val = 43 ∧ q.val = 0) := by decide +kernel
  have hd := (shp_k h).2
  have := h8 ⟨o.toNat, o.toNat_lt⟩ ⟨d, by omega⟩
  simp at this
  exact this h
theorem shp2 {o : UInt8} {d : Nat} (h : shp o = some (2, d)) : (o = 59 ∧ d = 0) ∨ (o = 38 ∧ d = 0) ∨ (o = 124 ∧ d = 0) ∨ (o = 105 ∧ d = 1) := by
  have h8 : ∀ n : Fin 256, ∀ q : Fin 5, shp (UInt8.ofNat n.val) = some (2, q.val) → (UInt8.ofNat n.val = 59 ∧ q.val = 0) ∨ (UInt8.ofNat n.val = 38 ∧ q.val = 0) ∨ (UInt8.ofNat n.val = 124 ∧ q.val = 0) ∨ (UInt8.ofNat n.val = 105 ∧ q.val = 1) := by decide +kernel
  have hd := (shp_k h).2
  have := h8 ⟨o.toNat, o.toNat_lt⟩ ⟨d, by omega⟩
  simp at this
  exact this h
theorem tr_s (d) : tr (.z 115 d) = assertT 15 := rfl
theorem tr_a (d) : tr (.z 97 d) = assertT 0 := rfl
theorem tr_m (d) : tr (.z 109 d) = assumeT 0 := rfl
theorem tr_assert (d) : tr (.z 33 d) = assertT (pv d) := rfl
theorem tr_assume (d) : tr (.z 63 d) = assumeT (pv d) := rfl
theorem tr_angel (d) : tr (.z 65 d) = angelT (rv d) := rfl
theorem tr_demon (d) : tr (.z 68 d) = demonT (rv d) := rfl
theorem tr_while (d) (x : Ct) : tr (.u 119 d x) = whileT (pv d) (tr x) := rfl
theorem tr_starD (d) (x : Ct) : tr (.u 42 d x) = starD (tr x) := rfl
theorem tr_starA (d) (x : Ct) : tr (.u 43 d x) = starA (tr x) := rfl
theorem tr_then (d) (x y : Ct) : tr (.b 59 d x y) = thenT (tr x) (tr y) := rfl
theorem tr_meet (d) (x y : Ct) : tr (.b 38 d x y) = meetT (tr x) (tr y) := rfl
theorem tr_join (d) (x y : Ct) : tr (.b 124 d x y) = joinT (tr x) (tr y) := rfl
theorem tr_if (d) (x y : Ct) : tr (.b 105 d x y) = fun q => ifv (pv d) (tr x q) (tr y q) := rfl
theorem tr_Tr : ∀ {t : Ct}, t.wf = true → Tr (tr t)
  | .z o d, h => by
    obtain ⟨hs, hd⟩ := Ct.wf_z h
    rcases shp0 hs with ⟨rfl, hl⟩ | ⟨rfl, hl⟩ | ⟨rfl, hl⟩ | ⟨rfl, hl⟩ | ⟨rfl, hl⟩ | ⟨rfl, hl⟩ | ⟨rfl, hl⟩
    · exact Tr.assert Cv.c15
    · exact Tr.assert Cv.c0
    · exact Tr.assume Cv.c0
    · exact Tr.assert (pv_cv hd)
    · exact Tr.assume (pv_cv hd)
    · exact Tr.angel (rv_Dg hd hl)
    · exact Tr.demon (rv_Dg hd hl)
  | .u o d x, h => by
    obtain ⟨hs, hd, hx⟩ := Ct.wf_u h
    rcases shp1 hs with ⟨rfl, hl⟩ | ⟨rfl, hl⟩ | ⟨rfl, hl⟩
    · exact Tr.while (pv_cv hd) (tr_Tr hx)
    · exact Tr.starD (tr_Tr hx)
    · exact Tr.starA (tr_Tr hx)
  | .b o d x y, h => by
    obtain ⟨hs, hd, hx, hy⟩ := Ct.wf_b h
    rcases shp2 hs with ⟨rfl, hl⟩ | ⟨rfl, hl⟩ | ⟨rfl, hl⟩ | ⟨rfl, hl⟩
    · exact Tr.then (tr_Tr hx) (tr_Tr hy)
    · exact Tr.meet (tr_Tr hx) (tr_Tr hy)
    · exact Tr.join (tr_Tr hx) (tr_Tr hy)
    · exact Tr.if_ (pv_cv hd) (tr_Tr hx) (tr_Tr hy)
end Go.DC
namespace Go.DC
open Go.RowKit
set_option linter.unusedVariables false
set_option linter.unusedSimpArgs false
/-- The cells of a statement. -/
def recC (o : UInt8) (p : Int) (x : Nat → Int) (v : Value) (t : ByteArray) : Array Value :=
  #[.int .u8 (o.toNat : Int), .int .i64 p, .int .i64 (x 0), .int .i64 (x 1), .int .i64 (x 2), .int .i64 (x 3), v, .string t]
/-- Block b holds a statement. -/
def Rec (w : World) (b : Nat) (o : UInt8) (p : Int) (x : Nat → Int) (v : Value) (t : ByteArray) : Prop := ∃ T, w.heap[b]? = some (.cells (recC o p x v t) T (0, 0))
section
variable {w w' : World} {b : Nat} {o : UInt8} {p : Int} {x : Nat → Int} {v : Value} {t : ByteArray}
theorem Rec.lt (h : Rec w b o p x v t) : b < w.heap.size := by obtain ⟨T, h⟩ := h; exact lt_of_block h
theorem Rec.c0 (h : Rec w b o p x v t) : w.cell? ⟨b, 0, none⟩ = some (.int .u8 (o.toNat : Int)) := by obtain ⟨T, h⟩ := h; rw [cell_of_row w b 0 _ T _ h]; rfl
theorem Rec.c1 (h : Rec w b o p x v t) : w.cell? ⟨b, 1, none⟩ = some (.int .i64 p) := by obtain ⟨T, h⟩ := h; rw [cell_of_row w b 1 _ T _ h]; rfl
theorem Rec.cr (h : Rec w b o p x v t) {i : Nat} (hi : i < 4) : w.cell? ⟨b, 2 + i, none⟩ = some (.int .i64 (x i)) := by
  obtain ⟨T, h⟩ := h
  rw [cell_of_row w b _ _ T _ h]
  match i, hi with
  | 0, _ => rfl
  | 1, _ => rfl
  | 2, _ => rfl
  | 3, _ => rfl
theorem Rec.c6 (h : Rec w b o p x v t) : w.cell? ⟨b, 6, none⟩ = some v := by obtain ⟨T, h⟩ := h; rw [cell_of_row w b 6 _ T _ h]; rfl
theorem Rec.c7 (h : Rec w b o p x v t) : w.cell? ⟨b, 7, none⟩ = some (.string t) := by obtain ⟨T, h⟩ := h; rw [cell_of_row w b 7 _ T _ h]; rfl
theorem Rec.free (h : Rec w b o p x v t) (i : Nat) : w.frozen? ⟨b, i, none⟩ = false := by obtain ⟨T, h⟩ := h; exact frozen_of_row w b i _ T h
theorem Rec.setp (h : Rec w b o p x v t) (q : Int) : Rec (w.setCell ⟨b, 1, none⟩ (.int .i64 q)) b o q x v t := by
  obtain ⟨T, h⟩ := h; exact ⟨T, by rw [heap_setCell_same w b 1 _ T _ h]; rfl⟩
theorem Rec.setr (h : Rec w b o p x v t) {i : Nat} (hi : i < 4) (q : Int) : Rec (w.setCell ⟨b, 2 + i, none⟩ (.int .i64 q)) b o p (upd x i q) v t := by
  obtain ⟨T, h⟩ := h
  refine ⟨T, ?_⟩
  rw [heap_setCell_same w b _ _ T _ h]
  match i, hi with
  | 0, _ => rfl
  | 1, _ => rfl
  | 2, _ => rfl
  | 3, _ => rfl
theorem Rec.setv (h : Rec w b o p x v t) (v' : Value) : Rec (w.setCell ⟨b, 6, none⟩ v') b o p x v' t := by
  obtain ⟨T, h⟩ := h; exact ⟨T, by rw [heap_setCell_same w b 6 _ T _ h]; rfl⟩
theorem Rec.sett (h : Rec w b o p x v t) (t' : ByteArray) : Rec (w.setCell ⟨b, 7, none⟩ (.string t')) b o p x v t' := by
  obtain ⟨T, h⟩ := h; exact ⟨T, by rw [heap_setCell_same w b 7 _ T _ h]; rfl⟩
theorem Rec.go (h : Rec w b o p x v t) (hb : Below w.heap.size w w') : Rec w' b o p x v t := by
  have hl := h.lt
  obtain ⟨T, h⟩ := h; exact ⟨T, by rw [hb.block b hl]; exact h⟩
theorem Rec.alloc (h : Rec w b o p x v t) (c : Obj) : Rec (w.alloc c) b o p x v t := h.go (ba1 w c)
theorem Rec.drew (h : Rec w b o p x v t) : Rec w.drew b o p x v t := h
theorem Rec.drewN (h : Rec w b o p x v t) (n : Nat) : Rec (w.drewN n) b o p x v t := h.go (below_drewN (Below.refl _ _) n)
theorem Rec.xr {x' : Nat → Int} (h : Rec w b o p x v t) (e : ∀ i, i < 4 → x i = x' i) : Rec w b o p x' v t := by
  obtain ⟨T, h⟩ := h
  refine ⟨T, ?_⟩
  rw [h]; unfold recC
  rw [e 0 (by decide), e 1 (by decide), e 2 (by decide), e 3 (by decide)]
theorem Rec.new (w : World) (T : TypeId) (o : UInt8) : Rec (w.alloc (.cells #[.int .u8 (o.toNat : Int), .int .i64 0, .int .i64 0, .int .i64 0, .int .i64 0, .int .i64 0, .slice none 0 0, .string ByteArray.empty] T)) w.heap.size o 0 (fun _ => 0) (.slice none 0 0) ByteArray.empty :=
  ⟨T, heap_alloc_new w _⟩
end
/-- The relation that a head leaves. -/
def xv (d : List UInt8) : Nat → Int := if d.length = 4 then rv d else fun _ => 0
/-- Block b holds the contract t. -/
def Held (w : World) : Ct → Nat → Prop
  | .z o d, b => Rec w b o (pv d) (xv d) (.slice none 0 0) (Ct.z o d).bytes
  | .u o d x, b => ∃ g cap bx, Rec w b o (pv d) (xv d) (.slice (some ⟨g, 0, none⟩) 1 cap) (Ct.u o d x).bytes ∧ w.cell? ⟨g, 0, none⟩ = some (.pointer (some ⟨bx, 0, none⟩)) ∧ Held w x bx
  | .b o d x y, b => ∃ g cap bx by', Rec w b o (pv d) (xv d) (.slice (some ⟨g, 0, none⟩) 2 cap) (Ct.b o d x y).bytes ∧ w.cell? ⟨g, 0, none⟩ = some (.pointer (some ⟨bx, 0, none⟩)) ∧
      w.cell? ⟨g, 1, none⟩ = some (.pointer (some ⟨by', 0, none⟩)) ∧ Held w x bx ∧ Held w y by'
theorem cell_go {w w' : World} {g i : Nat} {v : Value} (h : w.cell? ⟨g, i, none⟩ = some v) (hb : Below w.heap.size w w') : w'.cell? ⟨g, i, none⟩ = some v := by
  have hl := block_lt_of_cell h
  rw [hb.cell (p := ⟨g, i, none⟩) hl]; exact h
theorem Held.go {w w' : World} (hb : Below w.heap.size w w') : ∀ {t : Ct} {b : Nat}, Held w t b → Held w' t b
  | .z _ _, _, h => Rec.go h hb
  | .u _ _ _, _, ⟨g, cap, bx, h1, h2, h3⟩ => ⟨g, cap, bx, h1.go hb, cell_go h2 hb, Held.go hb h3⟩
  | .b _ _ _ _, _, ⟨g, cap, bx, by', h1, h2, h3, h4, h5⟩ => ⟨g, cap, bx, by', h1.go hb, cell_go h2 hb, cell_go h3 hb, Held.go hb h4, Held.go hb h5⟩
/-- A slice holds contracts. -/
def Kids (w : World) (v : Value) (l : List Ct) : Prop :=
  (l = [] ∧ v = .slice none 0 0) ∨ ∃ g cap, v = .slice (some ⟨g, 0, none⟩) l.length cap ∧ ∀ i (hi : i < l.length), ∃ bx, w.cell? ⟨g, i, none⟩ = some (.pointer (some ⟨bx, 0, none⟩)) ∧ Held w l[i] bx
theorem Kids.go {w w' : World} {v : Value} {l : List Ct} (h : Kids w v l) (hb : Below w.heap.size w w') : Kids w' v l := by
  rcases h with h | ⟨g, cap, h1, h2⟩
  · exact .inl h
  · exact .inr ⟨g, cap, h1, fun i hi => by obtain ⟨bx, h3, h4⟩ := h2 i hi; exact ⟨bx, cell_go h3 hb, h4.go hb⟩⟩
theorem Held.parts {w : World} : ∀ {t : Ct} {b : Nat}, Held w t b → ∃ v, Rec w b t.o (pv t.ds) (xv t.ds) v t.bytes ∧ Kids w v t.kids
  | .z _ _, _, h => ⟨_, h, .inl ⟨rfl, rfl⟩⟩
  | .u _ _ x, _, ⟨g, cap, bx, h1, h2, h3⟩ => ⟨_, h1, .inr ⟨g, cap, rfl, fun i hi => by
      have : i = 0 := by simp [Ct.kids] at hi; omega
      subst this; exact ⟨bx, h2, h3⟩⟩⟩
  | .b _ _ x y, _, ⟨g, cap, bx, by', h1, h2, h3, h4, h5⟩ => ⟨_, h1, .inr ⟨g, cap, rfl, fun i hi => by
      have : i = 0 ∨ i = 1 := by simp [Ct.kids] at hi; omega
      rcases this with rfl | rfl
      · exact ⟨bx, h2, h4⟩
      · exact ⟨by', h3, h5⟩⟩⟩
theorem Held.lt {w : World} {t : Ct} {b : Nat} (h : Held w t b) : b < w.heap.size := by
  obtain ⟨v, h1, _⟩ := h.parts
  exact h1.lt
end Go.DC
namespace Go.DC
open Go.RowKit
set_option linter.unusedVariables false
set_option linter.unusedSimpArgs false
/-- k parts are read, one behind the other. -/
def prk : Nat → List UInt8 → Option (List Ct × List UInt8)
  | 0, l => some ([], l)
  | k + 1, l => match pr l with
    | none => none
    | some (x, l1) => match prk k l1 with
      | none => none
      | some (xs, l2) => some (x :: xs, l2)
def mkC (o : UInt8) (d : List UInt8) : List Ct → Ct
  | [] => .z o d
  | [x] => .u o d x
  | x :: y :: _ => .b o d x y
theorem pr_parts (o : UInt8) (l : List UInt8) {k d : Nat} (hs : shp o = some (k, d)) (h : d ≤ l.length) (h2 : hxs (l.take d) = true) :
    pr (o :: l) = (prk k (l.drop d)).map fun q => (mkC o (l.take d) q.1, q.2) := by
  rw [pr_cons, hs]
  simp only [h, h2, and_self, if_true]
  rcases (shp_k hs).1 with rfl | rfl | rfl
  · rfl
  · cases hx : pr (l.drop d) with
    | none => simp [prk, hx]
    | some q => obtain ⟨x, l1⟩ := q; simp [prk, hx, mkC]
  · cases hx : pr (l.drop d) with
    | none => simp [prk, hx]
    | some q =>
      obtain ⟨x, l1⟩ := q
      cases hy : pr l1 with
      | none => simp [prk, hx, hy]
      | some q2 => obtain ⟨y, l2⟩ := q2; simp [prk, hx, hy, mkC]
theorem pr_noshape (o : UInt8) (l : List UInt8) (hs : shp o = none) : pr (o :: l) = none := by rw [pr_cons, hs]
theorem pr_short (o : UInt8) (l : List UInt8) {k d : Nat} (hs : shp o = some (k, d)) (h : ¬ (d ≤ l.length ∧ hxs (l.take d) = true)) : pr (o :: l) = none := by
  rw [pr_cons, hs]; simp only [if_neg h]
theorem prk_len : ∀ (k : Nat) {l r : List UInt8} {ts : List Ct}, prk k l = some (ts, r) → ts.length = k
  | 0, _, _, _, h => by simp [prk] at h; rw [h.1]; rfl
  | k + 1, l, r, ts, h => by
    unfold prk at h
    cases hx : pr l with
    | none => simp [hx] at h
    | some q =>
      obtain ⟨x, l1⟩ := q
      simp only [hx] at h
      cases hy : prk k l1 with
      | none => simp [hy] at h
      | some q2 =>
        obtain ⟨xs, l2⟩ := q2
        have := prk_len k hy
        simp only [hy, Option.some.injEq, Prod.mk.injEq] at h
        rw [← h.1]; simp [this]
theorem drop_app {l a r : List UInt8} {n : Nat} (h : l.drop n = a ++ r) (ha : 1 ≤ a.length) : r = l.drop (n + a.length) ∧ n + a.length ≤ l.length := by
  constructor
  · rw [← List.drop_drop, h, List.drop_left]
  · have e := congrArg List.length h
    simp at e
    omega
theorem take_app {l a r : List UInt8} {n : Nat} (h : l.drop n = a ++ r) : (l.drop n).take a.length = a := by rw [h, List.take_left]

theorem take_step {c : ByteArray} {q j : Nat} (h : q + j < c.size) : (c.data.toList.drop q).take (j + 1) = (c.data.toList.drop q).take j ++ [c[q + j]] := by
  have h' : q + j < c.data.toList.length := h
  rw [List.take_succ_eq_append_getElem (by simp; omega)]
  congr 2
  rw [List.getElem_drop]; rfl
theorem pv_snoc (l : List UInt8) (b : UInt8) : pv (l ++ [b]) = hx b := by unfold pv; simp
theorem hxs_snoc (l : List UInt8) (b : UInt8) : hxs (l ++ [b]) = (hxs l && decide (0 ≤ hx b)) := by unfold hxs; simp
theorem rv_at {c : ByteArray} {q j d : Nat} (hj : j < d) (h : q + j < c.size) : rv ((c.data.toList.drop q).take d) j = hx c[q + j] := by
  have h' : q + j < c.data.toList.length := h
  unfold rv
  congr 1
  have : j < ((c.data.toList.drop q).take d).length := by simp; omega
  simp only [List.getD, List.getElem?_eq_getElem this, Option.getD_some, List.getElem_take, List.getElem_drop]
  rfl
theorem Rec.pre_succ {w : World} {b : Nat} {o : UInt8} {p q : Int} {v : Value} {t : ByteArray} {j : Nat} {f : Nat → Int} (h : Rec w b o p (upd (pre j f) j q) v t) (hq : q = f j) : Rec w b o p (pre (j + 1) f) v t := h.xr fun i _ => by
  unfold upd pre
  by_cases e : i = j
  · subst e; simp [hq]
  · have : (i < j + 1) ↔ i < j := by omega
    simp [e, this]
/-- The relation that the first j digits of four make. -/
def xr (d j : Nat) (ds : List UInt8) : Nat → Int := if d = 4 then pre j (rv ds) else fun _ => 0
theorem xr_none {d : Nat} (h : d ≠ 4) (j i : Nat) (ds : List UInt8) : xr d j ds i = 0 := by unfold xr; rw [if_neg h]
theorem xr_four (j : Nat) (ds : List UInt8) : xr 4 j ds = pre j (rv ds) := by unfold xr; rw [if_pos rfl]
theorem xr_zero (d : Nat) (ds : List UInt8) (i : Nat) : 0 = xr d 0 ds i := by unfold xr; split <;> simp [pre]
theorem xr_all {d : Nat} {ds : List UInt8} (hl : ds.length = d) (i : Nat) (hi : i < 4) : xr d d ds i = xv ds i := by
  unfold xr xv
  rw [hl]
  split
  · rename_i h; subst h; simp [pre, hi]
  · rfl
theorem drop_at {c : ByteArray} {p : Nat} (h : p < c.size) : c.data.toList.drop p = c[p] :: c.data.toList.drop (p + 1) := by
  have h' : p < c.data.toList.length := h
  rw [List.drop_eq_getElem_cons h']; rfl
/-- A byte that is no digit: no digits. -/
theorem no_digits {c : ByteArray} {q j d : Nat} (hj : j < d) (h : q + j < c.size) (hn : hx c[q + j] < 0) : ¬ hxs ((c.data.toList.drop q).take d) = true := fun h2 => by
  have h' : q + j < c.data.toList.length := h
  have hl : j < ((c.data.toList.drop q).take d).length := by simp; omega
  have e : ((c.data.toList.drop q).take d)[j] = c[q + j] := by simp only [List.getElem_take, List.getElem_drop]; rfl
  have := (hxs_mem h2 (List.getElem_mem hl)).1
  rw [e] at this
  omega
/-- Block b holds the contract t, all of whose blocks lie from lo on and below hi. -/
def HeldIn (lo hi : Nat) (w : World) : Ct → Nat → Prop
  | .z o d, b => (lo ≤ b ∧ b < hi) ∧ Rec w b o (pv d) (xv d) (.slice none 0 0) (Ct.z o d).bytes
  | .u o d x, b => (lo ≤ b ∧ b < hi) ∧ ∃ g cap bx, (lo ≤ g ∧ g < hi) ∧ Rec w b o (pv d) (xv d) (.slice (some ⟨g, 0, none⟩) 1 cap) (Ct.u o d x).bytes ∧ w.cell? ⟨g, 0, none⟩ = some (.pointer (some ⟨bx, 0, none⟩)) ∧ HeldIn lo hi w x bx
  | .b o d x y, b => (lo ≤ b ∧ b < hi) ∧ ∃ g cap bx by', (lo ≤ g ∧ g < hi) ∧ Rec w b o (pv d) (xv d) (.slice (some ⟨g, 0, none⟩) 2 cap) (Ct.b o d x y).bytes ∧ w.cell? ⟨g, 0, none⟩ = some (.pointer (some ⟨bx, 0, none⟩)) ∧
      w.cell? ⟨g, 1, none⟩ = some (.pointer (some ⟨by', 0, none⟩)) ∧ HeldIn lo hi w x bx ∧ HeldIn lo hi w y by'
theorem HeldIn.held {lo hi : Nat} {w : World} : ∀ {t : Ct} {b : Nat}, HeldIn lo hi w t b → Held w t b
  | .z _ _, _, h => h.2
  | .u _ _ _, _, ⟨_, g, cap, bx, _, h1, h2, h3⟩ => ⟨g, cap, bx, h1, h2, HeldIn.held h3⟩
  | .b _ _ _ _, _, ⟨_, g, cap, bx, by', _, h1, h2, h3, h4, h5⟩ => ⟨g, cap, bx, by', h1, h2, h3, HeldIn.held h4, HeldIn.held h5⟩
theorem HeldIn.wide {lo hi lo' hi' : Nat} {w : World} (h1 : lo' ≤ lo) (h2 : hi ≤ hi') : ∀ {t : Ct} {b : Nat}, HeldIn lo hi w t b → HeldIn lo' hi' w t b
  | .z _ _, _, h => ⟨by have := h.1; omega, h.2⟩
  | .u _ _ _, _, ⟨h, g, cap, bx, hg, h3, h4, h5⟩ => ⟨by omega, g, cap, bx, by omega, h3, h4, HeldIn.wide h1 h2 h5⟩
  | .b _ _ _ _, _, ⟨h, g, cap, bx, by', hg, h3, h4, h5, h6, h7⟩ => ⟨by omega, g, cap, bx, by', by omega, h3, h4, h5, HeldIn.wide h1 h2 h6, HeldIn.wide h1 h2 h7⟩
theorem Rec.keep {w w' : World} {b : Nat} {o : UInt8} {p : Int} {x : Nat → Int} {v : Value} {t : ByteArray} (h : Rec w b o p x v t) (e : w'.heap[b]? = w.heap[b]?) : Rec w' b o p x v t := by
  obtain ⟨T, h⟩ := h; exact ⟨T, by rw [e]; exact h⟩
theorem cell_keep {w w' : World} {g i : Nat} {v : Value} (h : w.cell? ⟨g, i, none⟩ = some v) (e : w'.heap[g]? = w.heap[g]?) : w'.cell? ⟨g, i, none⟩ = some v := by
  rw [World.cell?_of_block (w := w) (a := ⟨g, i, none⟩) e]; exact h
theorem HeldIn.keep {lo hi : Nat} {w w' : World} (hk : ∀ k, lo ≤ k → k < hi → w'.heap[k]? = w.heap[k]?) : ∀ {t : Ct} {b : Nat}, HeldIn lo hi w t b → HeldIn lo hi w' t b
  | .z _ _, _, h => ⟨h.1, h.2.keep (hk _ h.1.1 h.1.2)⟩
  | .u _ _ _, _, ⟨h, g, cap, bx, hg, h3, h4, h5⟩ => ⟨h, g, cap, bx, hg, h3.keep (hk _ h.1 h.2), cell_keep h4 (hk _ hg.1 hg.2), HeldIn.keep hk h5⟩
  | .b _ _ _ _, _, ⟨h, g, cap, bx, by', hg, h3, h4, h5, h6, h7⟩ => ⟨h, g, cap, bx, by', hg, h3.keep (hk _ h.1 h.2), cell_keep h4 (hk _ hg.1 hg.2), cell_keep h5 (hk _ hg.1 hg.2), HeldIn.keep hk h6, HeldIn.keep hk h7⟩
def ptr (b : Nat) : Value := .pointer (some ⟨b, 0, none⟩)
theorem ownsRow_base {w : World} {base base' : Nat} {e : TypeId} {size : Nat} {v : Value} {n : Nat} {xs : List Value} (h : w.ownsRow base e size v n xs) (hb : base' ≤ base) : w.ownsRow base' e size v n xs := by
  refine ⟨h.1, ?_⟩
  rcases h.2 with h | ⟨g, cap, cur, h1, h2, h3⟩
  · exact .inl h
  · exact .inr ⟨g, cap, cur, h1, Nat.le_trans hb h2, h3⟩
/-- 'append' of one element of one cell to a slice of the call's own: either the same row, or a new one. -/
theorem wpList_push {P : Program} (w : World) {ops : Array Oper} {rest : List Oper} {o : Oper} {a : Act} {Q : Exit → Act → World → Prop}
    (hg : o.guard = none) (s x : Operand) (t : TypeId) (hop : o.op = Op.call { callee := Callee.builtin Builtin.append, args := #[s, x], argTypes := #[t, t] })
    (base : Nat) (e : TypeId) (i : TypeInfo) (z : Value) (bytes : Nat) (h1 : P.underlying t = some (.slice e)) (h2 : P.info? e = some i) (h3 : i.zero = some z) (h4 : i.size = 1) (h5 : i.bytes = bytes) (h6 : z.cells.size = 1)
    (v : Value) (n : Nat) (xs : List Value) (hs : a.eval s = v) (hown : w.ownsRow base e 1 v n xs)
    (ad : Addr) (c : Nat) (u : Value) (hx : a.eval x = .slice (some ad) 1 c) (hc : w.cell? ad = some u) (h1c : u.oneCell' = true)
    (b1 : n + 1 ≤ maxLen) (b2 : (n + 1) * bytes ≤ 140737488355328) (hbase : base ≤ w.heap.size)
    (hK : ∀ v' w', w'.ownsRow base e 1 v' (n + 1) (xs ++ [u]) → w.grownBy w' v.ownBlock → (v'.ownBlock = v.ownBlock ∨ ∀ g, v'.ownBlock = some g → w.heap.size ≤ g) → wpList P ops Q rest (a.put o.dst v') w') :
    wpList P ops Q (o :: rest) a w := by
  have hc' : ∀ j y, ([u] : List Value)[j]? = some y → w.cell? (ad.add j) = some y := fun j y hj => by
    match j, hj with
    | 0, hj => simp at hj; subst hj; simpa [Addr.add] using hc
  have h1c' : ∀ y ∈ [u], y.oneCell' = true := fun y hy => by simp at hy; subst hy; exact h1c
  have grow : ∀ (ao : Option Addr) (cap : Nat), v = .slice ao n cap → (ao = none → n = 0 ∧ cap = 0) → (∀ b, ao = some b → ∀ j y, xs[j]? = some y → w.cell? (b.add j) = some y) → cap < n + 1 → wpList P ops Q (o :: rest) a w := by
    intro ao cap hv hnone holds hfull
    refine wpList_append_grows w hg s x t hop e i z 1 bytes h1 h2 h3 h4 h5 h6 (by decide) ao n cap xs (by rw [hs]; exact hv) hnone hown.1 holds ad 1 c [u] hx rfl hc' h1c' hfull b1 b2 fun v' w' r1 r2 => ?_
    refine hK v' w' (ownsRow_base r1 hbase) ⟨r2.os, r2.tape, r2.output, r2.size, fun k hk _ => r2.block k hk (by simp)⟩ (.inr fun g hgv => ?_)
    exact (r1.lt g hgv).1
  rcases hown.2 with ⟨hv, hn⟩ | ⟨g, cap, cur, hv, hb, hgg, hle, hm, hsz, htk⟩
  · exact grow none 0 (by rw [hv, hn]) (fun _ => ⟨hn, rfl⟩) (fun b hb => by cases hb) (by omega)
  · by_cases hroom : n + 1 ≤ cap
    · subst hv
      refine wpList_append_fits w hg s x t hop base e i 1 h1 h2 h4 g n cap xs hs hown ad 1 c [u] hx rfl hc' h1c' hroom fun w' r1 r2 => ?_
      exact hK _ w' r1 r2 (.inl rfl)
    · exact grow _ cap hv (fun h => by cases h) (fun b hb' => by injection hb' with hb'; subst hb'; exact hown.cells (by rw [hv]; rfl)) (by omega)

/-- What the loop over the parts has done: i of k parts have been read, up to the place en. -/
def PS (c : List UInt8) (l0 : List UInt8) (k i : Nat) (e : TypeId) (b : Nat) (wr : World) (v : Value) (en : Nat) (bs : List Nat) : Prop :=
  ∃ (ts : List Ct), ts.length = i ∧ bs.length = i ∧ (prk k l0 = (prk (k - i) (c.drop en)).map fun q => (ts ++ q.1, q.2)) ∧
    wr.ownsRow (b + 1) e 1 v i (bs.map ptr) ∧ (i = 0 → v = .slice none 0 0) ∧
    ∀ j (h1 : j < ts.length) (h2 : j < bs.length), ∃ lo hi, b < lo ∧ hi ≤ wr.heap.size ∧ HeldIn lo hi wr ts[j] bs[j] ∧ ∀ g, v.ownBlock = some g → g < lo ∨ hi ≤ g
theorem PS.start {c l0 : List UInt8} {k : Nat} {e : TypeId} {b : Nat} {wr : World} {en : Nat} (h : l0 = c.drop en) : PS c l0 k 0 e b wr (.slice none 0 0) en [] :=
  ⟨[], rfl, rfl, by
    rw [h]
    show _ = (prk k _).map _
    cases prk k (c.drop en) <;> simp, World.ownsRow_nil _ _ _ _, fun _ => rfl, fun j h1 _ => absurd h1 (Nat.not_lt_zero _)⟩
theorem PS.own {c l0 : List UInt8} {k i : Nat} {e : TypeId} {b : Nat} {wr : World} {v : Value} {en : Nat} {bs : List Nat} (h : PS c l0 k i e b wr v en bs) : wr.ownsRow (b + 1) e 1 v i (bs.map ptr) := by
  obtain ⟨ts, _, _, _, q4, _⟩ := h
  exact q4
/-- No part at the place: no contract. -/
theorem PS.bad {c l0 : List UInt8} {k i : Nat} {e : TypeId} {b : Nat} {wr : World} {v : Value} {en : Nat} {bs : List Nat} (h : PS c l0 k i e b wr v en bs) (hi : i < k) (hn : pr (c.drop en) = none) : prk k l0 = none := by
  obtain ⟨ts, _, _, hp, _⟩ := h
  rw [hp]
  have : k - i = (k - i - 1) + 1 := by omega
  rw [this]
  simp [prk, hn]
/-- Blocks that are as they were keep all parts. -/
theorem PS.below {c l0 : List UInt8} {k i : Nat} {e : TypeId} {b : Nat} {wr w' : World} {v : Value} {en : Nat} {bs : List Nat} (h : PS c l0 k i e b wr v en bs) (hb : Below wr.heap.size wr w') : PS c l0 k i e b w' v en bs := by
  obtain ⟨ts, h1, h2, h3, h4, h5, h6⟩ := h
  refine ⟨ts, h1, h2, h3, ?_, h5, fun j j1 j2 => ?_⟩
  · exact h4.kept (row := none) ⟨hb.os, hb.tape, hb.output, hb.size, fun k hk _ => hb.block k hk⟩ (by cases hv : v.ownBlock <;> simp)
  · obtain ⟨lo, hi, a1, a2, a3, a4⟩ := h6 j j1 j2
    exact ⟨lo, hi, a1, Nat.le_trans a2 hb.size, a3.keep fun k _ hk => hb.block k (Nat.lt_of_lt_of_le hk a2), a4⟩
/-- A store into block b keeps all parts. -/
theorem PS.set {c l0 : List UInt8} {k i : Nat} {e : TypeId} {b : Nat} {wr : World} {v : Value} {en : Nat} {bs : List Nat} (h : PS c l0 k i e b wr v en bs) (j : Nat) (u : Value) : PS c l0 k i e b (wr.setCell ⟨b, j, none⟩ u) v en bs := by
  obtain ⟨ts, h1, h2, h3, h4, h5, h6⟩ := h
  have hg : wr.grownBy (wr.setCell ⟨b, j, none⟩ u) (some b) := ⟨rfl, rfl, rfl, by simp [World.setCell], fun k _ hk => Below.heap_setCell _ _ _ _ (by intro e; exact hk (by rw [e]))⟩
  refine ⟨ts, h1, h2, h3, ?_, h5, fun j j1 j2 => ?_⟩
  · refine h4.kept hg ?_
    cases hv : v.ownBlock with
    | none => exact .inl rfl
    | some g =>
      have := (h4.lt g hv).1
      exact .inr (by simp; omega)
  · obtain ⟨lo, hi, a1, a2, a3, a4⟩ := h6 j j1 j2
    exact ⟨lo, hi, a1, by simpa [World.setCell] using a2, a3.keep fun k hk _ => Below.heap_setCell _ _ _ _ (by simp; omega), a4⟩
/-- One more part. -/
theorem PS.step {c l0 : List UInt8} {k i : Nat} {e : TypeId} {b : Nat} {wr w2 w3 : World} {v v' : Value} {en bx : Nat} {bs : List Nat} {x : Ct}
    (h : PS c l0 k i e b wr v en bs) (hi : i < k) (hp : pr (c.drop en) = some (x, c.drop (en + x.tx.length))) (hb : Below wr.heap.size wr w2) (hx : HeldIn wr.heap.size w2.heap.size w2 x bx) (hbw : b < wr.heap.size)
    (o : Obj) (hown : w3.ownsRow (b + 1) e 1 v' (i + 1) (bs.map ptr ++ [ptr bx])) (hgr : (w2.alloc o).grownBy w3 v.ownBlock)
    (hnew : v'.ownBlock = v.ownBlock ∨ ∀ g, v'.ownBlock = some g → w2.heap.size + 1 ≤ g) : PS c l0 k (i + 1) e b w3 v' (en + x.tx.length) (bs ++ [bx]) := by
  obtain ⟨ts, h1, h2, h3, h4, h5, h6⟩ := h.below hb
  have hsz : w2.heap.size + 1 = (w2.alloc o).heap.size := by simp
  have hkeep : ∀ k, k < w2.heap.size → some k ≠ v.ownBlock → w3.heap[k]? = w2.heap[k]? := fun k hk hn => by
    rw [hgr.block k (by omega) hn, Below.heap_alloc w2 o k hk]
  have hlo : ∀ g, v.ownBlock = some g → g < wr.heap.size := fun g hgv => by
    obtain ⟨ts', _, _, _, q4, _⟩ := h
    exact (q4.lt g hgv).2
  have hs3 := hgr.size
  refine ⟨ts ++ [x], by simp [h1], by simp [h2], ?_, ?_, fun h => by omega, fun j j1 j2 => ?_⟩
  · rw [h3]
    have : k - i = (k - (i + 1)) + 1 := by omega
    rw [this]
    simp only [prk, hp]
    cases prk (k - (i + 1)) (c.drop (en + x.tx.length)) <;> simp
  · simpa [List.map_append] using hown
  · by_cases hj : j < ts.length
    · have hj2 : j < bs.length := by omega
      obtain ⟨lo, hi', a1, a2, a3, a4⟩ := h6 j hj hj2
      refine ⟨lo, hi', a1, by omega, ?_, fun g hgv => ?_⟩
      · have e1 : (ts ++ [x])[j] = ts[j] := List.getElem_append_left hj
        have e2 : (bs ++ [bx])[j] = bs[j] := List.getElem_append_left hj2
        rw [e1, e2]
        exact a3.keep fun k hk1 hk2 => hkeep k (by omega) (fun e => by
          have := a4 k e.symm
          omega)
      · rcases hnew with hn | hn
        · exact a4 g (by rw [← hn]; exact hgv)
        · have := hn g hgv
          omega
    · have hjt : j = ts.length := by simp at j1; omega
      subst hjt
      have e1 : (ts ++ [x])[ts.length] = x := by simp
      have e2 : (bs ++ [bx])[ts.length]'j2 = bx := by
        have : ts.length = bs.length := by omega
        simp [this]
      rw [e1, e2]
      refine ⟨wr.heap.size, w2.heap.size, hbw, by omega, ?_, fun g hgv => ?_⟩
      · exact hx.keep fun k hk1 hk2 => hkeep k hk2 (fun e => by have := hlo k e.symm; omega)
      · rcases hnew with hn | hn
        · exact .inl (hlo g (by rw [← hn]; exact hgv))
        · have := hn g hgv
          exact .inr (by omega)
/-- All parts have been read: the contract is held. -/
theorem PS.done {c l0 : List UInt8} {k : Nat} {e : TypeId} {b : Nat} {wr : World} {v : Value} {en : Nat} {bs : List Nat} {o : UInt8} {d : List UInt8} {T : ByteArray} {ts : List Ct} {r : List UInt8} (h : PS c l0 k k e b wr v en bs)
    (hk : k = 0 ∨ k = 1 ∨ k = 2) (hr : Rec wr b o (pv d) (xv d) v T) (hp : prk k l0 = some (ts, r)) (hT : T = (mkC o d ts).bytes) : HeldIn b wr.heap.size wr (mkC o d ts) b ∧ r = c.drop en := by
  obtain ⟨us, h1, h2, h3, h4, h5, h6⟩ := h
  rw [hp, Nat.sub_self] at h3
  simp only [prk, Option.map_some, List.append_nil, Option.some.injEq, Prod.mk.injEq] at h3
  obtain ⟨rfl, rfl⟩ := h3
  refine ⟨?_, rfl⟩
  have hlt := hr.lt
  subst hT
  have hcell : ∀ g cap, v = .slice (some ⟨g, 0, none⟩) k cap → ∀ j (hj : j < bs.length), wr.cell? ⟨g, j, none⟩ = some (ptr bs[j]) := fun g cap hv j hj => by
    have := h4.cells (g := g) (by rw [hv]; rfl) j (ptr bs[j]) (by simp [hj])
    have hadd : (⟨g, 0, none⟩ : Addr).add j = ⟨g, j, none⟩ := by unfold Addr.add; split <;> simp_all
    rwa [hadd] at this
  have hform : 0 < k → ∃ g cap, v = .slice (some ⟨g, 0, none⟩) k cap ∧ b ≤ g ∧ g < wr.heap.size := fun hk0 => by
    rcases h4.2 with ⟨_, h0⟩ | ⟨g, cap, cur, hv, hb, hgg, _⟩
    · omega
    · exact ⟨g, cap, hv, by omega, lt_of_block hgg⟩
  have kid : ∀ j (hj : j < ts.length), HeldIn b wr.heap.size wr ts[j] (bs[j]'(by omega)) := fun j hj => by
    obtain ⟨lo, hi, a1, a2, a3, _⟩ := h6 j hj (by omega)
    exact a3.wide (by omega) a2
  rcases hk with rfl | rfl | rfl
  · have : ts = [] := List.eq_nil_of_length_eq_zero h1
    subst this
    have hv := h5 rfl
    subst hv
    exact ⟨⟨Nat.le_refl _, hlt⟩, hr⟩
  · obtain ⟨g, cap, hv, g1, g2⟩ := hform (by decide)
    obtain ⟨x, rfl⟩ : ∃ x, ts = [x] := by
      match ts, h1 with
      | [x], _ => exact ⟨x, rfl⟩
    · have k0 := kid 0 (by simp)
      have c0 := hcell g cap hv 0 (by omega)
      subst hv
      exact ⟨⟨Nat.le_refl _, hlt⟩, g, cap, _, ⟨g1, g2⟩, hr, c0, k0⟩
  · obtain ⟨g, cap, hv, g1, g2⟩ := hform (by decide)
    obtain ⟨x, y, rfl⟩ : ∃ x y, ts = [x, y] := by
      match ts, h1 with
      | [x, y], _ => exact ⟨x, y, rfl⟩
    · have k0 := kid 0 (by simp)
      have k1 := kid 1 (by simp)
      have c0 := hcell g cap hv 0 (by omega)
      have c1 := hcell g cap hv 1 (by omega)
      subst hv
      exact ⟨⟨Nat.le_refl _, hlt⟩, g, cap, _, _, ⟨g1, g2⟩, hr, c0, c1, k0, k1⟩
/-- What all parts have come to. -/
theorem PS.all {c l0 : List UInt8} {k : Nat} {e : TypeId} {b : Nat} {wr : World} {v : Value} {en : Nat} {bs : List Nat} (h : PS c l0 k k e b wr v en bs) : ∃ ts, prk k l0 = some (ts, c.drop en) := by
  obtain ⟨ts, h1, h2, h3, h4, h5, h6⟩ := h
  rw [Nat.sub_self] at h3
  exact ⟨ts, by rw [h3]; simp [prk]⟩
theorem extract_list (c : ByteArray) (p q : Nat) : (c.extract p q).data.toList = (c.data.toList.drop p).take (q - p) := by
  rw [ByteArray.data_extract, Array.toList_extract]
/-- A contract that was read up to q is the text up to q. -/
theorem text_of {c : ByteArray} {p q : Nat} {t : Ct} (h : pr (c.data.toList.drop p) = some (t, c.data.toList.drop q)) (hq : q ≤ c.size) (hpq : p ≤ q) : q = p + t.tx.length ∧ c.extract p q = t.bytes := by
  have hs := pr_some h
  have hsz : c.data.toList.length = c.size := rfl
  have hd := drop_app hs.1 t.tx_pos
  have e1 := congrArg List.length hd.1
  simp at e1
  have hq' : q = p + t.tx.length := by
    have := hd.2
    have e2 : c.data.size = c.size := rfl
    rw [hsz] at this
    omega
  refine ⟨hq', bytes_of_list ?_⟩
  rw [extract_list, hq', Nat.add_sub_cancel_left]
  exact take_app hs.1
end Go.DC
