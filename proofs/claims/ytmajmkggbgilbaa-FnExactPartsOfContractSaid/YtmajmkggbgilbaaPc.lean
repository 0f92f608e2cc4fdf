/-
  Plain definitions and laws: letters of contracts, counted. No program in sight.
-/
import Derived.Test.YtmajmkggbgilbaaPe
import Derived.Lib.IndexAny
namespace Go.DC
open Go.RowKit
set_option linter.unusedVariables false
set_option linter.unusedSimpArgs false
/-- One, if the letter is one of some. -/
def one (ops : List UInt8) (o : UInt8) : Int := if 0 ≤ Lib.indexByte ops o then 1 else 0
/-- How many statements of some letters there are. -/
def cnt (ops : List UInt8) : Ct → Int
  | .z o _ => one ops o
  | .u o _ x => one ops o + cnt ops x
  | .b o _ x y => one ops o + cnt ops x + cnt ops y
/-- The same of a list, one behind the other, from a number on. -/
def cntL (ops : List UInt8) : Int → List Ct → Int
  | a, [] => a
  | a, x :: l => cntL ops (a + cnt ops x) l
theorem cntL_snoc (ops : List UInt8) (x : Ct) : ∀ (l : List Ct) (a : Int), cntL ops a (l ++ [x]) = cntL ops a l + cnt ops x
  | [], a => rfl
  | y :: l, a => cntL_snoc ops x l _
theorem cnt_kids (ops : List UInt8) (t : Ct) : cntL ops (one ops t.o) t.kids = cnt ops t := by cases t <;> rfl
theorem one_rng (ops : List UInt8) (o : UInt8) : 0 ≤ one ops o ∧ one ops o ≤ 1 := by unfold one; split <;> omega
theorem cnt_rng (ops : List UInt8) : ∀ t : Ct, 0 ≤ cnt ops t ∧ cnt ops t ≤ t.tx.length
  | .z o d => by have := one_rng ops o; simp [cnt, Ct.tx]; omega
  | .u o d x => by have := one_rng ops o; have := cnt_rng ops x; simp [cnt, Ct.tx]; omega
  | .b o d x y => by have := one_rng ops o; have := cnt_rng ops x; have := cnt_rng ops y; simp [cnt, Ct.tx]; omega
theorem kid_lt {t x : Ct} (h : x ∈ t.kids) : x.tx.length < t.tx.length := by
  cases t with
  | z o d => simp [Ct.kids] at h
  | u o d y => simp [Ct.kids] at h; subst h; simp [Ct.tx]; omega
  | b o d y z => simp [Ct.kids] at h; rcases h with rfl | rfl <;> simp [Ct.tx] <;> omega
theorem kid_wf {t x : Ct} (hw : t.wf = true) (h : x ∈ t.kids) : x.wf = true := by
  cases t with
  | z o d => simp [Ct.kids] at h
  | u o d y => simp [Ct.kids] at h; subst h; exact (Ct.wf_u hw).2.2
  | b o d y z => simp [Ct.kids] at h; rcases h with rfl | rfl; exact (Ct.wf_b hw).2.2.1; exact (Ct.wf_b hw).2.2.2
theorem kids_le (t : Ct) : t.kids.length ≤ 2 := by cases t <;> simp [Ct.kids]
theorem cntL_rng (ops : List UInt8) : ∀ (l : List Ct) (a : Int), (∀ x ∈ l, x.tx.length ≤ 200) → 0 ≤ a → 0 ≤ cntL ops a l ∧ cntL ops a l ≤ a + 200 * l.length
  | [], a, _, h => by simp [cntL]; exact h
  | x :: l, a, h, ha => by
    have h1 := cnt_rng ops x
    have h2 := h x (by simp)
    have ih := cntL_rng ops l (a + cnt ops x) (fun y hy => h y (by simp [hy])) (by omega)
    simp only [cntL, List.length_cons]
    omega
theorem cntL_take (ops : List UInt8) {l : List Ct} {a : Int} {m : Nat} (h : m < l.length) : cntL ops a (l.take (m + 1)) = cntL ops a (l.take m) + cnt ops l[m] := by
  rw [List.take_succ_eq_append_getElem h, cntL_snoc]
/-- The letters of all statements. -/
def lets : Ct → List UInt8
  | .z o _ => [o]
  | .u o _ x => o :: lets x
  | .b o _ x y => o :: (lets x ++ lets y)
theorem mem_iff (l : List UInt8) (c : UInt8) : 0 ≤ Lib.indexByte l c ↔ c ∈ l := by
  rw [← decide_eq_true_iff (p := 0 ≤ Lib.indexByte l c), ← Lib.contains_iff_indexByte]
  simp
theorem one_pos {ops : List UInt8} {o : UInt8} : 0 < one ops o ↔ o ∈ ops := by
  unfold one
  rw [← mem_iff]
  split <;> simp_all
theorem cnt_pos (ops : List UInt8) : ∀ t : Ct, 0 < cnt ops t ↔ ∃ o, o ∈ lets t ∧ o ∈ ops
  | .z o d => by simp [cnt, lets, one_pos]
  | .u o d x => by
    have h1 := one_rng ops o
    have h2 := cnt_rng ops x
    have ih := cnt_pos ops x
    have e : (0 < cnt ops (.u o d x)) ↔ 0 < one ops o ∨ 0 < cnt ops x := by simp only [cnt]; omega
    rw [e, ih, one_pos]
    simp only [lets, List.mem_cons]
    constructor
    · rintro (h | ⟨a, h1, h2⟩)
      · exact ⟨o, .inl rfl, h⟩
      · exact ⟨a, .inr h1, h2⟩
    · rintro ⟨a, rfl | h1, h2⟩
      · exact .inl h2
      · exact .inr ⟨a, h1, h2⟩
  | .b o d x y => by
    have h1 := one_rng ops o
    have h2 := cnt_rng ops x
    have h3 := cnt_rng ops y
    have ih := cnt_pos ops x
    have ih2 := cnt_pos ops y
    have e : (0 < cnt ops (.b o d x y)) ↔ 0 < one ops o ∨ 0 < cnt ops x ∨ 0 < cnt ops y := by simp only [cnt]; omega
    rw [e, ih, ih2, one_pos]
    simp only [lets, List.mem_cons, List.mem_append]
    constructor
    · rintro (h | ⟨a, h1, h2⟩ | ⟨a, h1, h2⟩)
      · exact ⟨o, .inl rfl, h⟩
      · exact ⟨a, .inr (.inl h1), h2⟩
      · exact ⟨a, .inr (.inr h1), h2⟩
    · rintro ⟨a, rfl | h1 | h1, h2⟩
      · exact .inl h2
      · exact .inr (.inl ⟨a, h1, h2⟩)
      · exact .inr (.inr ⟨a, h1, h2⟩)
/-- A text has one of some letters. -/
def anyB (s ops : List UInt8) : Bool := ops.any fun b => decide (0 ≤ Lib.indexByte s b)
theorem any_cnt (ops : List UInt8) (t : Ct) : anyB (lets t) ops = decide (0 < cnt ops t) := by
  rw [Bool.eq_iff_iff, decide_eq_true_iff, cnt_pos]
  unfold anyB
  rw [List.any_eq_true]
  simp only [decide_eq_true_iff, mem_iff]
  exact ⟨fun ⟨b, h1, h2⟩ => ⟨b, h2, h1⟩, fun ⟨b, h1, h2⟩ => ⟨b, h2, h1⟩⟩
def anyOps : List UInt8 := [115, 97, 109, 33, 63, 65, 68, 59, 38, 124, 105, 119, 42, 43]
theorem one_any {o : UInt8} {q : Nat × Nat} (h : shp o = some q) : one anyOps o = 1 := by
  have h8 : ∀ n : Fin 256, (shp (UInt8.ofNat n.val)).isSome = true → one anyOps (UInt8.ofNat n.val) = 1 := by decide +kernel
  have := h8 ⟨o.toNat, o.toNat_lt⟩
  simp at this
  exact this (by rw [h]; rfl)
theorem cnt_any : ∀ {t : Ct}, t.wf = true → cnt anyOps t = ((lets t).length : Int)
  | .z o d, h => by simp [cnt, lets, one_any (Ct.wf_z h).1]
  | .u o d x, h => by
    have := cnt_any (Ct.wf_u h).2.2
    simp [cnt, lets, one_any (Ct.wf_u h).1, this]; omega
  | .b o d x y, h => by
    have h1 := cnt_any (Ct.wf_b h).2.2.1
    have h2 := cnt_any (Ct.wf_b h).2.2.2
    simp [cnt, lets, one_any (Ct.wf_b h).1, h1, h2]; omega
/-- What is asked of a contract, or a value for no contract. -/
def ctv {α : Type} (c : ByteArray) (no : α) (f : Ct → α) : α := match cto c with
  | none => no
  | some t => f t
theorem ctv_none {α : Type} {c : ByteArray} (no : α) (f : Ct → α) (h : cto c = none) : ctv c no f = no := by unfold ctv; rw [h]
theorem ctv_some {α : Type} {c : ByteArray} {t : Ct} (no : α) (f : Ct → α) (h : cto c = some t) : ctv c no f = f t := by unfold ctv; rw [h]
end Go.DC
