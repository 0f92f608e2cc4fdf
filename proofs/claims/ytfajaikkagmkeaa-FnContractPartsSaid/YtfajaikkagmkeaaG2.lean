/-
  Plain laws: where contracts end. No program in sight.
  Plain definitions and laws: letters of contracts, counted. No program in sight.
  Plain laws and memory: texts of contracts, slices of texts. Over any program.
  Plain laws: the reference's way to what a contract tells. No program in sight.
  Plain definitions and laws: the dual contract. No program in sight.
  The reader that draws: what its block holds, and what a draw leaves as it was. Over any program.
  Plain laws: closures of relations. No program in sight.
  Plain definitions and laws for the laws on relations. No program in sight.
  Plain laws: what the laws on relations say. No program in sight.
-/
import Derived.Test.YtfajaikkagmkeaaG1
import Derived.Lib.IndexAny
import Derived.Laws.StructEq
import Derived.OwnWalk
namespace Go.DC
open Go.RowKit
set_option linter.unusedVariables false
set_option linter.unusedSimpArgs false
/-- Where the contract ends that begins at p, or -1. -/
def pe (c : ByteArray) (p : Int) : Int := if p < 0 then -1 else
  match pr (c.data.toList.drop p.toNat) with
  | none => -1
  | some (t, _) => p + t.tx.length
/-- Where d digits end that begin at q, or -1. -/
def sk (c : ByteArray) (q d : Nat) : Int := if q + d ≤ c.size ∧ hxs ((c.data.toList.drop q).take d) = true then (q : Int) + d else -1
theorem pe_neg (c : ByteArray) : pe c (-1) = -1 := rfl
theorem pe_nat (c : ByteArray) (p : Nat) : pe c p = match pr (c.data.toList.drop p) with
  | none => -1
  | some (t, _) => (p : Int) + t.tx.length := by
  unfold pe
  rw [if_neg (by omega)]
  simp
theorem pe_rng {c : ByteArray} {p : Nat} (hp : p ≤ c.size) : pe c p = -1 ∨ ((p : Int) < pe c p ∧ pe c p ≤ c.size) := by
  rw [pe_nat]
  cases h : pr (c.data.toList.drop p) with
  | none => exact .inl rfl
  | some q =>
    obtain ⟨t, r⟩ := q
    have h2 := pr_some h
    have h3 := (drop_app h2.1 t.tx_pos).2
    have h4 := t.tx_pos
    have hsz : c.data.toList.length = c.size := rfl
    refine .inr ⟨?_, ?_⟩
    · show (p : Int) < p + t.tx.length; omega
    · show (p : Int) + t.tx.length ≤ c.size; omega
theorem pe_out {c : ByteArray} {p : Nat} (hp : c.size ≤ p) : pe c p = -1 := by
  rw [pe_nat, List.drop_eq_nil_of_le (show c.data.toList.length ≤ p from hp)]; rfl
theorem sk_zero {c : ByteArray} {q : Nat} (hq : q ≤ c.size) : sk c q 0 = q := by
  unfold sk; rw [if_pos ⟨by omega, rfl⟩]; simp
theorem sk_rng (c : ByteArray) (q d : Nat) : sk c q d = -1 ∨ (sk c q d = ((q + d : Nat) : Int) ∧ q + d ≤ c.size) := by
  unfold sk
  split
  · rename_i h; exact .inr ⟨by simp, h.1⟩
  · exact .inl rfl
theorem dvB_hxs {t : ByteArray} {d : Nat} (h : t.size = d) : dvB d t = hxs t.data.toList := by
  rw [Bool.eq_iff_iff, dvB_iff]
  have hl : t.data.toList.length = d := h
  constructor
  · rintro ⟨_, h2⟩
    unfold hxs
    rw [List.all_eq_true]
    intro b hb
    obtain ⟨i, hi, rfl⟩ := List.getElem_of_mem hb
    have := h2 i (by omega)
    unfold dg at this
    rw [List.getD, List.getElem?_eq_getElem hi] at this
    simpa using this
  · intro h2
    refine ⟨h, fun i hi => ?_⟩
    unfold dg
    rw [List.getD, List.getElem?_eq_getElem (by omega)]
    exact (hxs_mem h2 (List.getElem_mem _)).1
theorem dvB_sub {c : ByteArray} {q d : Nat} (h : q + d ≤ c.size) : dvB d (c.extract q (q + d)) = hxs ((c.data.toList.drop q).take d) := by
  rw [dvB_hxs (by rw [ByteArray.size_extract]; omega), extract_list, Nat.add_sub_cancel_left]
section
variable {c : ByteArray} {p : Nat} (hp : p < c.size)
include hp
theorem pe_none (hs : shp c[p] = none) : pe c p = -1 := by
  rw [pe_nat, drop_at hp, pr_noshape _ _ hs]
theorem pe_parts {k d : Nat} (hs : shp c[p] = some (k, d)) : pe c p = if p + 1 + d ≤ c.size ∧ hxs ((c.data.toList.drop (p + 1)).take d) = true then
    match prk k (c.data.toList.drop (p + 1 + d)) with
    | none => -1
    | some (ts, r) => (c.size : Int) - r.length
  else -1 := by
  have hsz : c.data.toList.length = c.size := rfl
  rw [pe_nat, drop_at hp]
  by_cases h : p + 1 + d ≤ c.size ∧ hxs ((c.data.toList.drop (p + 1)).take d) = true
  · rw [if_pos h, pr_parts _ _ hs (by simp; omega) h.2, List.drop_drop]
    cases hk : prk k (c.data.toList.drop (p + 1 + d)) with
    | none => rfl
    | some q =>
      obtain ⟨ts, r⟩ := q
      have e : pr (c.data.toList.drop p) = some (mkC c[p] ((c.data.toList.drop (p + 1)).take d) ts, r) := by
        rw [drop_at hp, pr_parts _ _ hs (by simp; omega) h.2, List.drop_drop, hk]; rfl
      have e2 := congrArg List.length (pr_some e).1
      simp only [List.length_drop, List.length_append, hsz] at e2
      show (p : Int) + (mkC c[p] ((c.data.toList.drop (p + 1)).take d) ts).tx.length = (c.size : Int) - r.length
      omega
  · rw [if_neg h, pr_short _ _ hs (by simp only [List.length_drop, hsz]; intro h2; exact h ⟨by omega, h2.2⟩)]
omit hp in
theorem pe_list (q : Nat) (hq : q ≤ c.size) : pe c q = match pr (c.data.toList.drop q) with
    | none => -1
    | some (t, r) => (c.size : Int) - r.length := by
  have hsz : c.data.toList.length = c.size := rfl
  rw [pe_nat]
  cases h : pr (c.data.toList.drop q) with
  | none => rfl
  | some x =>
    obtain ⟨t, r⟩ := x
    have e2 := congrArg List.length (pr_some h).1
    simp only [List.length_drop, List.length_append, hsz] at e2
    show (q : Int) + t.tx.length = (c.size : Int) - r.length
    omega
omit hp in
theorem pe_at {q : Nat} {t : Ct} {r : List UInt8} (hq : q ≤ c.size) (h : pr (c.data.toList.drop q) = some (t, r)) : pe c q = ((c.size - r.length : Nat) : Int) ∧ r = c.data.toList.drop (c.size - r.length) ∧ c.size - r.length ≤ c.size := by
  have hsz : c.data.toList.length = c.size := rfl
  have h2 := pr_some h
  have h3 := drop_app h2.1 t.tx_pos
  have e2 := congrArg List.length h2.1
  simp only [List.length_drop, List.length_append, hsz] at e2
  have hr : c.size - r.length = q + t.tx.length := by have := h3.2; omega
  refine ⟨?_, ?_, by omega⟩
  · rw [pe_list q hq, h]; show (c.size : Int) - r.length = _; omega
  · rw [hr]; exact h3.1
theorem pe_step0 {d : Nat} (hs : shp c[p] = some (0, d)) : pe c p = sk c (p + 1) d := by
  rw [pe_parts hp hs]
  unfold sk
  split
  · rename_i h
    have hsz : c.data.toList.length = c.size := rfl
    have hl : (c.data.toList.drop (p + 1 + d)).length = c.size - (p + 1 + d) := by rw [List.length_drop, hsz]
    show (c.size : Int) - ((c.data.toList.drop (p + 1 + d)).length : Int) = ((p + 1 : Nat) : Int) + d
    rw [hl]
    have := h.1
    omega
  · rfl
theorem pe_step1 {d : Nat} (hs : shp c[p] = some (1, d)) : pe c p = pe c (sk c (p + 1) d) := by
  rw [pe_parts hp hs]
  unfold sk
  split
  · rename_i h
    have e : ((p + 1 : Nat) : Int) + (d : Int) = ((p + 1 + d : Nat) : Int) := by simp
    rw [e]
    cases hx : pr (c.data.toList.drop (p + 1 + d)) with
    | none => rw [pe_list _ h.1, hx]; simp [prk, hx]
    | some q =>
      obtain ⟨x, r⟩ := q
      rw [pe_list _ h.1, hx]
      simp [prk, hx]
  · rfl
theorem pe_step2 {d : Nat} (hs : shp c[p] = some (2, d)) : pe c p = pe c (pe c (sk c (p + 1) d)) := by
  rw [pe_parts hp hs]
  unfold sk
  split
  · rename_i h
    have e : ((p + 1 : Nat) : Int) + (d : Int) = ((p + 1 + d : Nat) : Int) := by simp
    rw [e]
    cases hx : pr (c.data.toList.drop (p + 1 + d)) with
    | none => rw [pe_list _ h.1, hx]; simp [prk, hx]; rfl
    | some q =>
      obtain ⟨x, r⟩ := q
      have h2 := pe_at h.1 hx
      rw [h2.1]
      cases hy : pr r with
      | none =>
        have hy' := hy
        rw [h2.2.1] at hy'
        rw [pe_list _ h2.2.2, hy']
        simp [prk, hx, hy]
      | some q2 =>
        obtain ⟨y, r2⟩ := q2
        have hy' := hy
        rw [h2.2.1] at hy'
        rw [pe_list _ h2.2.2, hy']
        simp [prk, hx, hy]
  · rfl
end
/-- A text is a contract exactly if the contract that begins at its head ends at its end. -/
theorem pe_valid (c : ByteArray) : (decide (c.size ≤ 200) && (pe c 0 == (c.size : Int))) = (cto c).isSome := by
  unfold cto
  by_cases hc : c.size ≤ 200
  · rw [if_pos hc, decide_eq_true hc, Bool.true_and]
    have h0 : pe c 0 = pe c ((0 : Nat) : Int) := rfl
    rw [h0, pe_list 0 (Nat.zero_le _), List.drop_zero]
    cases h : pr c.data.toList with
    | none =>
      show ((-1 : Int) == c.size) = false
      rw [beq_eq_false_iff_ne]; omega
    | some q =>
      obtain ⟨t, r⟩ := q
      have hsz : c.data.toList.length = c.size := rfl
      have e2 := congrArg List.length (pr_some h).1
      simp only [List.length_append, hsz] at e2
      show ((c.size : Int) - r.length == c.size) = _
      cases r with
      | nil => simp
      | cons a r =>
        show _ = false
        rw [beq_eq_false_iff_ne]
        simp only [List.length_cons]; omega
  · rw [if_neg hc, decide_eq_false hc]; rfl
end Go.DC
namespace Go.DC
open Go.RowKit
set_option linter.unusedVariables false
set_option linter.unusedSimpArgs false
/-- One, if the letter is one of some. -/
def one (ops : List UInt8) (o : UInt8) : Int := if 0 ≤ Lib.indexByte ops o then 1 else 0
/-- How many statements of some letters there are. -/
def cnt (ops : List UInt8) : Ct → Int
  | .z o _ => one ops o
  | .u o _ x => one ops o + cnt ops x
  | .b o _ x y => one ops o + cnt ops x + cnt ops y
/-- The same of a list, one behind the other, from a number on. -/
def cntL (ops : List UInt8) : Int → List Ct → Int
  | a, [] => a
  | a, x :: l => cntL ops (a + cnt ops x) l
theorem cntL_snoc (ops : List UInt8) (x : Ct) : ∀ (l : List Ct) (a : Int), cntL ops a (l ++ [x]) = cntL ops a l + cnt ops x
  | [], a => rfl
  | y :: l, a => cntL_snoc ops x l _
theorem cnt_kids (ops : List UInt8) (t : Ct) : cntL ops (one ops t.o) t.kids = cnt ops t := by cases t <;> rfl
theorem one_rng (ops : List UInt8) (o : UInt8) : 0 ≤ one ops o ∧ one ops o ≤ 1 := by unfold one; split <;> omega
theorem cnt_rng (ops : List UInt8) : ∀ t : Ct, 0 ≤ cnt ops t ∧ cnt ops t ≤ t.tx.length
  | .z o d => by have := one_rng ops o; simp [cnt, Ct.tx]; omega
  | .u o d x => by have := one_rng ops o; have := cnt_rng ops x; simp [cnt, Ct.tx]; omega
  | .b o d x y => by have := one_rng ops o; have := cnt_rng ops x; have := cnt_rng ops y; simp [cnt, Ct.tx]; omega
theorem kid_lt {t x : Ct} (h : x ∈ t.kids) : x.tx.length < t.tx.length := by
  cases t with
  | z o d => simp [Ct.kids] at h
  | u o d y => simp [Ct.kids] at h; subst h; simp [Ct.tx]; omega
  | b o d y z => simp [Ct.kids] at h; rcases h with rfl | rfl <;> simp [Ct.tx] <;> omega
theorem kid_wf {t x : Ct} (hw : t.wf = true) (h : x ∈ t.kids) : x.wf = true := by
  cases t with
  | z o d => simp [Ct.kids] at h
  | u o d y => simp [Ct.kids] at h; subst h; exact (Ct.wf_u hw).2.2
  | b o d y z => simp [Ct.kids] at h; rcases h with rfl | rfl; exact (Ct.wf_b hw).2.2.1; exact (Ct.wf_b hw).2.2.2
theorem kids_le (t : Ct) : t.kids.length ≤ 2 := by cases t <;> simp [Ct.kids]
theorem cntL_rng (ops : List UInt8) : ∀ (l : List Ct) (a : Int), (∀ x ∈ l, x.tx.length ≤ 200) → 0 ≤ a → 0 ≤ cntL ops a l ∧ cntL ops a l ≤ a + 200 * l.length
  | [], a, _, h => by simp [cntL]; exact h
  | x :: l, a, h, ha => by
    have h1 := cnt_rng ops x
    have h2 := h x (by simp)
    have ih := cntL_rng ops l (a + cnt ops x) (fun y hy => h y (by simp [hy])) (by omega)
    simp only [cntL, List.length_cons]
    omega
theorem cntL_take (ops : List UInt8) {l : List Ct} {a : Int} {m : Nat} (h : m < l.length) : cntL ops a (l.take (m + 1)) = cntL ops a (l.take m) + cnt ops l[m] := by
  rw [List.take_succ_eq_append_getElem h, cntL_snoc]
/-- The letters of all statements. -/
def lets : Ct → List UInt8
  | .z o _ => [o]
  | .u o _ x => o :: lets x
  | .b o _ x y => o :: (lets x ++ lets y)
theorem mem_iff (l : List UInt8) (c : UInt8) : 0 ≤ Lib.indexByte l c ↔ c ∈ l := by
  rw [← decide_eq_true_iff (p := 0 ≤ Lib.indexByte l c), ← Lib.contains_iff_indexByte]
  simp
theorem one_pos {ops : List UInt8} {o : UInt8} : 0 < one ops o ↔ o ∈ ops := by
  unfold one
  rw [← mem_iff]
  split <;> simp_all
theorem cnt_pos (ops : List UInt8) : ∀ t : Ct, 0 < cnt ops t ↔ ∃ o, o ∈ lets t ∧ o ∈ ops
  | .z o d => by simp [cnt, lets, one_pos]
  | .u o d x => by
    have h1 := one_rng ops o
    have h2 := cnt_rng ops x
    have ih := cnt_pos ops x
    have e : (0 < cnt ops (.u o d x)) ↔ 0 < one ops o ∨ 0 < cnt ops x := by simp only [cnt]; omega
    rw [e, ih, one_pos]
    simp only [lets, List.mem_cons]
    constructor
    · rintro (h | ⟨a, h1, h2⟩)
      · exact ⟨o, .inl rfl, h⟩
      · exact ⟨a, .inr h1, h2⟩
    · rintro ⟨a, rfl | h1, h2⟩
      · exact .inl h2
      · exact .inr ⟨a, h1, h2⟩
  | .b o d x y => by
    have h1 := one_rng ops o
    have h2 := cnt_rng ops x
    have h3 := cnt_rng ops y
    have ih := cnt_pos ops x
    have ih2 := cnt_pos ops y
    have e : (0 < cnt ops (.b o d x y)) ↔ 0 < one ops o ∨ 0 < cnt ops x ∨ 0 < cnt ops y := by simp only [cnt]; omega
    rw [e, ih, ih2, one_pos]
    simp only [lets, List.mem_cons, List.mem_append]
    constructor
    · rintro (h | ⟨a, h1, h2⟩ | ⟨a, h1, h2⟩)
      · exact ⟨o, .inl rfl, h⟩
      · exact ⟨a, .inr (.inl h1), h2⟩
      · exact ⟨a, .inr (.inr h1), h2⟩
    · rintro ⟨a, rfl | h1 | h1, h2⟩
      · exact .inl h2
      · exact .inr (.inl ⟨a, h1, h2⟩)
      · exact .inr (.inr ⟨a, h1, h2⟩)
/-- A text has one of some letters. -/
def anyB (s ops : List UInt8) : Bool := ops.any fun b => decide (0 ≤ Lib.indexByte s b)
theorem any_cnt (ops : List UInt8) (t : Ct) : anyB (lets t) ops = decide (0 < cnt ops t) := by
  rw [Bool.eq_iff_iff, decide_eq_true_iff, cnt_pos]
  unfold anyB
  rw [List.any_eq_true]
  simp only [decide_eq_true_iff, mem_iff]
  exact ⟨fun ⟨b, h1, h2⟩ => ⟨b, h2, h1⟩, fun ⟨b, h1, h2⟩ => ⟨b, h2, h1⟩⟩
def anyOps : List UInt8 := [115, 97, 109, 33, 63, 65, 68, 59, 38, 124, 105, 119, 42, 43]
theorem one_any {o : UInt8} {q : Nat × Nat} (h : shp o = some q) : one anyOps o = 1 := by
  have h8 : ∀ n : Fin 256, (shp (UInt8.ofNat n.val)).isSome = true → one anyOps (UInt8.ofNat n.val) = 1 := by decide +kernel
  have := h8 ⟨o.toNat, o.toNat_lt⟩
  simp at this
  exact this (by rw [h]; rfl)
theorem cnt_any : ∀ {t : Ct}, t.wf = true → cnt anyOps t = ((lets t).length : Int)
  | .z o d, h => by simp [cnt, lets, one_any (Ct.wf_z h).1]
  | .u o d x, h => by
    have := cnt_any (Ct.wf_u h).2.2
    simp [cnt, lets, one_any (Ct.wf_u h).1, this]; omega
  | .b o d x y, h => by
    have h1 := cnt_any (Ct.wf_b h).2.2.1
    have h2 := cnt_any (Ct.wf_b h).2.2.2
    simp [cnt, lets, one_any (Ct.wf_b h).1, h1, h2]; omega
/-- What is asked of a contract, or a value for no contract. -/
def ctv {α : Type} (c : ByteArray) (no : α) (f : Ct → α) : α := match cto c with
  | none => no
  | some t => f t
theorem ctv_none {α : Type} {c : ByteArray} (no : α) (f : Ct → α) (h : cto c = none) : ctv c no f = no := by unfold ctv; rw [h]
theorem ctv_some {α : Type} {c : ByteArray} {t : Ct} (no : α) (f : Ct → α) (h : cto c = some t) : ctv c no f = f t := by unfold ctv; rw [h]
end Go.DC
namespace Go.DC
open Go.RowKit
set_option linter.unusedVariables false
set_option linter.unusedSimpArgs false
def bts (l : List UInt8) : ByteArray := ⟨l.toArray⟩
theorem bts_list (l : List UInt8) : (bts l).data.toList = l := by simp [bts]
theorem bts_size (l : List UInt8) : (bts l).size = l.length := by show l.toArray.size = _; simp
theorem bts_app (l r : List UInt8) : bts l ++ bts r = bts (l ++ r) := by
  simp [bts, ByteArray.mk_append_mk]
theorem bts_of {c : ByteArray} {l : List UInt8} (h : c.data.toList = l) : c = bts l := by
  have : c.data = l.toArray := by rw [← h]
  show c = ⟨l.toArray⟩
  rw [← this]
theorem bytes_bts (t : Ct) : t.bytes = bts t.tx := rfl
theorem run_bts_add {P : Program} (l r : List UInt8) (w : World) (h : l.length + r.length ≤ 9223372036854775807) : (Op.stringOp .add (bts l) (bts r)).run P w = .ok (.string (bts (l ++ r))) w := by
  rw [run_string_add_sum w _ _ (by rw [bts_size, bts_size]; exact h), bts_app]
theorem bytes_pos (t : Ct) : 0 < t.bytes.size := by rw [Ct.bytes_size]; exact t.tx_pos
theorem tx_head (t : Ct) : ∃ r, t.tx = t.o :: r := by cases t <;> exact ⟨_, rfl⟩
theorem bytes_head (t : Ct) : t.bytes[0]'(bytes_pos t) = t.o := by
  obtain ⟨r, h⟩ := tx_head t
  have h0 : 0 < t.bytes.data.toList.length := by rw [Ct.bytes_list]; exact t.tx_pos
  show t.bytes.data.toList[0] = t.o
  have : t.bytes.data.toList = t.o :: r := by rw [Ct.bytes_list, h]
  simp [this]
/-- The text behind the head. -/
def txs (l : List Ct) : List UInt8 := (l.map Ct.tx).flatten
theorem txs_cons (x : Ct) (l : List Ct) : txs (x :: l) = x.tx ++ txs l := by simp [txs]
theorem tx_kids (t : Ct) : t.tx = t.o :: (t.ds ++ txs t.kids) := by cases t <;> simp [Ct.tx, Ct.o, Ct.ds, Ct.kids, txs]
theorem drop_kids (t : Ct) : t.bytes.data.toList.drop (1 + t.ds.length) = txs t.kids := by
  rw [Ct.bytes_list, tx_kids, Nat.add_comm, List.drop_succ_cons, List.drop_left]
/-- How many digits a letter has. -/
theorem wf_shp {t : Ct} (h : t.wf = true) : ∃ k, shp t.o = some (k, t.ds.length) ∧ k = t.kids.length := by
  cases t with
  | z o d => exact ⟨0, (Ct.wf_z h).1, rfl⟩
  | u o d x => exact ⟨1, (Ct.wf_u h).1, rfl⟩
  | b o d x y => exact ⟨2, (Ct.wf_b h).1, rfl⟩
theorem wf_hxs {t : Ct} (h : t.wf = true) : hxs t.ds = true := by
  cases t with
  | z o d => exact (Ct.wf_z h).2
  | u o d x => exact (Ct.wf_u h).2.1
  | b o d x y => exact (Ct.wf_b h).2.1
theorem shp_d {o : UInt8} {k d : Nat} (h : shp o = some (k, d)) : (d = 1 ∧ (o = 33 ∨ o = 63 ∨ o = 105 ∨ o = 119)) ∨ (d = 4 ∧ (o = 65 ∨ o = 68)) ∨
    (d = 0 ∧ o ≠ 33 ∧ o ≠ 63 ∧ o ≠ 105 ∧ o ≠ 119 ∧ o ≠ 65 ∧ o ≠ 68) := by
  rcases (shp_k h).1 with rfl | rfl | rfl
  · rcases shp0 h with ⟨rfl, rfl⟩ | ⟨rfl, rfl⟩ | ⟨rfl, rfl⟩ | ⟨rfl, rfl⟩ | ⟨rfl, rfl⟩ | ⟨rfl, rfl⟩ | ⟨rfl, rfl⟩ <;> decide
  · rcases shp1 h with ⟨rfl, rfl⟩ | ⟨rfl, rfl⟩ | ⟨rfl, rfl⟩ <;> decide
  · rcases shp2 h with ⟨rfl, rfl⟩ | ⟨rfl, rfl⟩ | ⟨rfl, rfl⟩ | ⟨rfl, rfl⟩ <;> decide
/-- The next part. -/
theorem part_at {c : ByteArray} {q : Nat} {x : Ct} {l : List Ct} (hx : x.wf = true) (h : c.data.toList.drop q = txs (x :: l)) :
    pe c q = ((q + x.tx.length : Nat) : Int) ∧ q + x.tx.length ≤ c.size ∧ c.extract q (q + x.tx.length) = x.bytes ∧ c.data.toList.drop (q + x.tx.length) = txs l := by
  rw [txs_cons] at h
  have h3 := drop_app h x.tx_pos
  refine ⟨?_, h3.2, ?_, h3.1.symm⟩
  · rw [pe_nat, h, pr_tx _ hx]; simp
  · refine bytes_of_list ?_
    rw [extract_list, Nat.add_sub_cancel_left]
    exact take_app h
theorem no_part {c : ByteArray} {q : Nat} (h : c.data.toList.drop q = txs []) : c.size ≤ q := by
  have : (c.data.toList.drop q).length = 0 := by rw [h]; rfl
  have hsz : c.data.toList.length = c.size := rfl
  simp only [List.length_drop, hsz] at this
  omega
theorem part_more {c : ByteArray} {q : Nat} {x : Ct} {l : List Ct} (h : c.data.toList.drop q = txs (x :: l)) : q < c.size := by
  rw [txs_cons] at h
  have := (drop_app h x.tx_pos).2
  have h2 := x.tx_pos
  have hsz : c.data.toList.length = c.size := rfl
  omega
/-- A slice value that holds texts. -/
def Strs (w : World) (v : Value) (l : List ByteArray) : Prop := ∃ g cap, v = .slice (some ⟨g, 0, none⟩) l.length cap ∧ g < w.heap.size ∧ ∀ i (hi : i < l.length), w.cell? ⟨g, i, none⟩ = some (.string l[i])
theorem Strs.go {w w' : World} {v : Value} {l : List ByteArray} (h : Strs w v l) (hb : Below w.heap.size w w') : Strs w' v l := by
  obtain ⟨g, cap, h1, h2, h3⟩ := h
  exact ⟨g, cap, h1, Nat.lt_of_lt_of_le h2 hb.size, fun i hi => cell_go (h3 i hi) hb⟩
theorem Strs.of_own {w : World} {base : Nat} {e : TypeId} {g n cap : Nat} {l : List ByteArray} (h : w.ownsRow base e 1 (.slice (some ⟨g, 0, none⟩) n cap) n (l.map Value.string)) (hn : n = l.length) : Strs w (.slice (some ⟨g, 0, none⟩) n cap) l := by
  subst hn
  refine ⟨g, cap, rfl, (h.lt g rfl).2, fun i hi => ?_⟩
  have := h.cells (g := g) rfl i (.string l[i]) (by simp [hi])
  have hadd : (⟨g, 0, none⟩ : Addr).add i = ⟨g, i, none⟩ := by unfold Addr.add; split <;> simp_all
  rwa [hadd] at this
/-- The letters of a list. -/
def letsL (l : List Ct) : List UInt8 := (l.map lets).flatten
theorem letsL_app (l r : List Ct) : letsL (l ++ r) = letsL l ++ letsL r := by unfold letsL; rw [List.map_append, List.flatten_append]
theorem lets_kids (t : Ct) : lets t = t.o :: letsL t.kids := by cases t <;> simp [lets, Ct.o, Ct.kids, letsL]
theorem letsL_take {l : List Ct} {m : Nat} (h : m < l.length) : letsL (l.take (m + 1)) = letsL (l.take m) ++ lets l[m] := by
  unfold letsL
  rw [List.take_succ_eq_append_getElem h, List.map_append, List.flatten_append]; simp
theorem lets_len : ∀ t : Ct, (lets t).length ≤ t.tx.length
  | .z o d => by simp [lets, Ct.tx]
  | .u o d x => by have := lets_len x; simp [lets, Ct.tx]; omega
  | .b o d x y => by have := lets_len x; have := lets_len y; simp [lets, Ct.tx]; omega
end Go.DC
namespace Go.DC
open Go.RowKit
set_option linter.unusedVariables false
set_option linter.unusedSimpArgs false
theorem meet_txt {x y : Nat → Int} (hx : Dg 16 x) (hy : Dg 16 y) : txt 16 (meetT (dg (txt 16 x)) (dg (txt 16 y))) = txt 16 (meetT x y) := txt_congr fun p hp => by
  unfold meetT; rw [dg_txt hx hp, dg_txt hy hp]
theorem join_txt {x y : Nat → Int} (hx : Dg 16 x) (hy : Dg 16 y) : txt 16 (joinT (dg (txt 16 x)) (dg (txt 16 y))) = txt 16 (joinT x y) := txt_congr fun p hp => by
  unfold joinT; rw [dg_txt hx hp, dg_txt hy hp]
theorem dual_assert {p : Int} (hp : Cv p) : txt 16 (dual (assertT p)) = txt 16 (assumeT p) := txt_congr fun q hq => by
  have hf : ∀ m n : Fin 16, bandn 15 (band (m.val : Int) (bandn 15 (n.val : Int))) = bor (n.val : Int) (bandn 15 (m.val : Int)) := by decide +kernel
  have h := cond_all2 (P := fun a b => bandn 15 (band a (bandn 15 b)) = bor b (bandn 15 a)) hf hp.1 hp.2 (Cv.nat hq).1 (Cv.nat hq).2
  have hr := bandn_rng (a := 15) (b := (q : Int)) (by decide) (by decide) (by omega) (by omega)
  unfold dual assertT assumeT
  rw [Int.toNat_of_nonneg hr.1]
  exact h
theorem dual_angel {x : Nat → Int} (hx : Dg 4 x) : txt 16 (dual (angelT x)) = txt 16 (demonT x) := txt_congr fun q hq => (demon_eq hx hq).symm
theorem if_join {p : Int} (hp : Cv p) {x y : Nat → Int} (hx : Dg 16 x) (hy : Dg 16 y) : txt 16 (joinT (thenT (assertT p) x) (thenT (assertT (bandn 15 p)) y)) = txt 16 (fun q => ifv p (x q) (y q)) := txt_congr fun q hq => by
  have h1 := hx q hq
  have h2 := hy q hq
  unfold joinT thenT assertT ifv
  rw [Int.toNat_of_nonneg h1.1, Int.toNat_of_nonneg h2.1]
  have hf : ∀ m n : Fin 16, band (bandn 15 (m.val : Int)) (n.val : Int) = bandn (n.val : Int) (m.val : Int) := by decide +kernel
  rw [cond_all2 (P := fun a b => band (bandn 15 a) b = bandn b a) hf hp.1 hp.2 h2.1 h2.2]
/-- The turn of a loop. -/
def turnV (o : UInt8) (p a q : Int) : Int := if o = 42 then band a q else if o = 43 then bor a q else ifv p a q
theorem tr_loop {o : UInt8} {d : List UInt8} {x : Ct} (h : (Ct.u o d x).wf = true) (q : Nat) : tr (.u o d x) q = lp fun y => turnV o (pv d) (ap (tr x) y) q := by
  rcases shp1 (Ct.wf_u h).1 with ⟨rfl, _⟩ | ⟨rfl, _⟩ | ⟨rfl, _⟩ <;> rfl
theorem mono_loop {o : UInt8} {d : List UInt8} {x : Ct} (h : (Ct.u o d x).wf = true) {q : Int} (hq : Cv q) : Mono fun y => turnV o (pv d) (ap (tr x) y) q := by
  obtain ⟨hs, hd, hx⟩ := Ct.wf_u h
  rcases shp1 hs with ⟨rfl, _⟩ | ⟨rfl, _⟩ | ⟨rfl, _⟩
  · exact mono_w (pv_cv hd) (tr_Tr hx) hq
  · exact mono_d (tr_Tr hx) hq
  · exact mono_a (tr_Tr hx) hq
theorem bytes_one {t : Ct} {d0 : UInt8} (h : t.ds = [d0]) : ∃ h1 : 1 < t.bytes.size, t.bytes[1]'h1 = d0 := by
  have hl : t.tx = t.o :: d0 :: txs t.kids := by rw [tx_kids, h]; rfl
  have h1 : 1 < t.bytes.size := by rw [Ct.bytes_size, hl]; simp
  refine ⟨h1, ?_⟩
  have h1' : 1 < t.bytes.data.toList.length := h1
  show t.bytes.data.toList[1] = d0
  have : t.bytes.data.toList = t.o :: d0 :: txs t.kids := by rw [Ct.bytes_list, hl]
  simp [this]
theorem bytes_four {t : Ct} (h : t.ds.length = 4) : 5 ≤ t.bytes.size ∧ t.bytes.extract 1 5 = bts t.ds := by
  constructor
  · rw [Ct.bytes_size, tx_kids]; simp; omega
  · refine bts_of ?_
    rw [extract_list, Ct.bytes_list, tx_kids, List.drop_succ_cons, List.drop_zero]
    have : 5 - 1 = t.ds.length := by rw [h]
    rw [this, List.take_left]
theorem one_digit {l : List UInt8} (h : l.length = 1) : ∃ b, l = [b] ∧ pv l = hx b := by
  match l, h with
  | [b], _ => exact ⟨b, rfl, rfl⟩
theorem dg_bts (l : List UInt8) (i : Nat) : dg (bts l) i = rv l i := by unfold dg rv; rw [bts_list]
theorem angel_bts (l : List UInt8) : angelT (dg (bts l)) = angelT (rv l) := by
  have : dg (bts l) = rv l := funext fun i => dg_bts l i
  rw [this]
theorem eq_bytes (a b : ByteArray) : (a.toList == b.toList) = decide (a = b) := by
  rw [ByteArray.toList_eq, ByteArray.toList_eq, Bool.eq_iff_iff, beq_iff_eq, decide_eq_true_iff]
  constructor
  · intro h
    have h1 := bts_of (c := a) rfl
    have h2 := bts_of (c := b) rfl
    rw [h1, h2, h]
  · rintro rfl; rfl
/-- A transformer refines another one exactly if it is what both have at least. -/
theorem ref_join {r q : ByteArray} (hr : Dg 16 (dg r)) (hq : dvB 16 q = true) : decide (txt 16 (joinT (dg r) (dg q)) = q) = refB (dg r) (dg q) := by
  rw [Bool.eq_iff_iff, decide_eq_true_iff, refB_iff]
  have hd := dvB_Dg hq
  have hf : ∀ m n : Fin 16, (bor (m.val : Int) (n.val : Int) = (n.val : Int) ↔ bandn (m.val : Int) (n.val : Int) = 0) := by decide +kernel
  have key : ∀ k, k < 16 → (joinT (dg r) (dg q) k = dg q k ↔ bandn (dg r k) (dg q k) = 0) := fun k hk =>
    cond_all2 (P := fun a b => (bor a b = b ↔ bandn a b = 0)) hf (hr k hk).1 (hr k hk).2 (hd k hk).1 (hd k hk).2
  constructor
  · intro h k hk
    rw [← key k hk]
    have := congrArg (fun t => dg t k) h
    have e : dg (txt 16 (joinT (dg r) (dg q))) k = dg q k := this
    rw [dg_txt (joinT_Dg hr hd) hk] at e
    exact e
  · intro h
    rw [← txt_dg hq]
    refine txt_congr fun k hk => ?_
    rw [txt_dg hq]
    exact (key k hk).2 (h k hk)
theorem refB_txt {x y : Nat → Int} (hx : Dg 16 x) (hy : Dg 16 y) : refB (dg (txt 16 x)) (dg (txt 16 y)) = refB x y := by
  rw [Bool.eq_iff_iff, refB_iff, refB_iff]
  constructor
  · intro h k hk; have := h k hk; rwa [dg_txt hx hk, dg_txt hy hk] at this
  · intro h k hk; rw [dg_txt hx hk, dg_txt hy hk]; exact h k hk
/-- The text of a transformer is one. -/
theorem tvB_txt {x : Nat → Int} (h : Tr x) : tvB (txt 16 x) = true := by
  unfold tvB
  rw [dvB_txt h.dg, Bool.true_and, all2_iff]
  intro p q hp hq
  unfold badM
  rw [dg_txt h.dg hp, dg_txt h.dg hq]
  cases hb : (bits .andNot .i64 (p : Int) (q : Int) == 0)
  · rfl
  · have hs : Sub (p : Int) (q : Int) := by simpa [Sub, bandn] using hb
    have := h.sub (Cv.nat hp) (Cv.nat hq) hs
    rw [ap_nat, ap_nat] at this
    unfold Sub bandn at this
    rw [this]; rfl
/-- What is needed before a contract. -/
def need (c : ByteArray) (p : Int) : Int := ctv c (-1) fun t => askV (cv p) (ap (tr t) p)
/-- Two tables of 16 numbers are one. -/
def eqT (x y : Nat → Int) : Bool := (List.range 16).all fun k => x k == y k
theorem eqT_iff {x y : Nat → Int} : eqT x y = true ↔ ∀ k, k < 16 → x k = y k := by unfold eqT; simp
theorem eqT_txt {x y : Nat → Int} (hx : Dg 16 x) (hy : Dg 16 y) : decide (txt 16 x = txt 16 y) = eqT x y := by
  rw [Bool.eq_iff_iff, decide_eq_true_iff, eqT_iff]
  exact ⟨fun h => txt_inj hx hy h, fun h => txt_congr h⟩
end Go.DC
namespace Go.DC
open Go.RowKit
set_option linter.unusedVariables false
set_option linter.unusedSimpArgs false
/-- The letter with angel and demon exchanged. -/
def duO (o : UInt8) : UInt8 := if o = 97 then 109 else if o = 109 then 97 else if o = 33 then 63 else if o = 63 then 33 else if o = 65 then 68 else if o = 68 then 65
  else if o = 38 then 124 else if o = 124 then 38 else o
/-- The dual contract. -/
def du : Ct → Ct
  | .z o d => .z (duO o) d
  | .u o d x => .u (duO o) d (du x)
  | .b o d x y => .b (duO o) d (du x) (du y)
def loopOps : List UInt8 := [119, 42, 43]
theorem du_kids (t : Ct) : (du t).kids = t.kids.map du := by cases t <;> rfl
theorem du_o (t : Ct) : (du t).o = duO t.o := by cases t <;> rfl
theorem du_ds (t : Ct) : (du t).ds = t.ds := by cases t <;> rfl
theorem du_tx (t : Ct) : (du t).tx = duO t.o :: (t.ds ++ txs (t.kids.map du)) := by rw [tx_kids, du_o, du_ds, du_kids]
theorem du_len : ∀ t : Ct, (du t).tx.length = t.tx.length
  | .z o d => rfl
  | .u o d x => by have := du_len x; simp [du, Ct.tx, this]
  | .b o d x y => by have := du_len x; have := du_len y; simp [du, Ct.tx, *]
theorem shp_duO (o : UInt8) : shp (duO o) = shp o := by
  have h8 : ∀ n : Fin 256, shp (duO (UInt8.ofNat n.val)) = shp (UInt8.ofNat n.val) := by decide +kernel
  have := h8 ⟨o.toNat, o.toNat_lt⟩
  simpa using this
theorem du_wf : ∀ t : Ct, (du t).wf = t.wf
  | .z o d => by simp [du, Ct.wf, shp_duO]
  | .u o d x => by have := du_wf x; simp [du, Ct.wf, shp_duO, this]
  | .b o d x y => by have := du_wf x; have := du_wf y; simp [du, Ct.wf, shp_duO, *]
theorem duO_duO (o : UInt8) : duO (duO o) = o := by
  have h8 : ∀ n : Fin 256, duO (duO (UInt8.ofNat n.val)) = UInt8.ofNat n.val := by decide +kernel
  have := h8 ⟨o.toNat, o.toNat_lt⟩
  simpa using this
theorem du_du : ∀ t : Ct, du (du t) = t
  | .z o d => by simp [du, duO_duO]
  | .u o d x => by simp [du, duO_duO, du_du x]
  | .b o d x y => by simp [du, duO_duO, du_du x, du_du y]
theorem txs_app (l r : List Ct) : txs (l ++ r) = txs l ++ txs r := by unfold txs; rw [List.map_append, List.flatten_append]
theorem txs_take {l : List Ct} {m : Nat} (h : m < l.length) : txs (l.take (m + 1)) = txs (l.take m) ++ l[m].tx := by
  rw [List.take_succ_eq_append_getElem h, txs_app]; simp [txs]
/-- The exchange of letters, as the program makes it. -/
def duA : List UInt8 := [97, 109, 33, 63, 65, 68, 38, 124]
def duB : ByteArray := ⟨#[109, 97, 63, 33, 68, 65, 124, 38]⟩
theorem duA_yes {o : UInt8} (h : 0 ≤ Lib.indexByte duA o) : ∃ m : Nat, Lib.indexByte duA o = m ∧ m + 1 ≤ 8 ∧ duB.extract m (m + 1) = bts [duO o] := by
  have h8 : ∀ n : Fin 256, 0 ≤ Lib.indexByte duA (UInt8.ofNat n.val) → ∃ m : Fin 8, Lib.indexByte duA (UInt8.ofNat n.val) = (m.val : Int) ∧ duB.extract m.val (m.val + 1) = bts [duO (UInt8.ofNat n.val)] := by decide +kernel
  have := h8 ⟨o.toNat, o.toNat_lt⟩
  simp at this
  obtain ⟨m, h1, h2⟩ := this h
  exact ⟨m.val, h1, by omega, h2⟩
theorem duA_no {o : UInt8} (h : ¬ 0 ≤ Lib.indexByte duA o) : duO o = o := by
  have h8 : ∀ n : Fin 256, ¬ 0 ≤ Lib.indexByte duA (UInt8.ofNat n.val) → duO (UInt8.ofNat n.val) = UInt8.ofNat n.val := by decide +kernel
  have := h8 ⟨o.toNat, o.toNat_lt⟩
  simp at this
  exact this (by omega)
/-- The exchange of letters, as the reference makes it. -/
def duF : ByteArray := ⟨#[115, 97, 109, 33, 63, 65, 68, 59, 38, 124, 105]⟩
def duT : ByteArray := ⟨#[115, 109, 97, 63, 33, 68, 65, 59, 124, 38, 105]⟩
theorem duF_yes {o : UInt8} {q : Nat × Nat} (h : shp o = some q) (h2 : one loopOps o = 0) : ∃ m : Nat, Lib.indexByte duF.data.toList o = m ∧ m + 1 ≤ 11 ∧ duT.extract m (m + 1) = bts [duO o] := by
  have h8 : ∀ n : Fin 256, (shp (UInt8.ofNat n.val)).isSome = true → one loopOps (UInt8.ofNat n.val) = 0 → ∃ m : Fin 11, Lib.indexByte duF.data.toList (UInt8.ofNat n.val) = (m.val : Int) ∧ duT.extract m.val (m.val + 1) = bts [duO (UInt8.ofNat n.val)] := by decide +kernel
  have := h8 ⟨o.toNat, o.toNat_lt⟩
  simp at this
  obtain ⟨m, h1, h3⟩ := this (by rw [h]; rfl) h2
  exact ⟨m.val, h1, by omega, h3⟩
theorem noloop_o {t : Ct} (h : cnt loopOps t = 0) : one loopOps t.o = 0 := by
  have h1 := one_rng loopOps t.o
  cases t with
  | z o d => exact h
  | u o d x => have := cnt_rng loopOps x; simp only [cnt] at h; simp only [Ct.o] at h1 ⊢; omega
  | b o d x y => have := cnt_rng loopOps x; have := cnt_rng loopOps y; simp only [cnt] at h; simp only [Ct.o] at h1 ⊢; omega
theorem noloop_kid {t x : Ct} (h : cnt loopOps t = 0) (hx : x ∈ t.kids) : cnt loopOps x = 0 := by
  cases t with
  | z o d => simp [Ct.kids] at hx
  | u o d y =>
    simp [Ct.kids] at hx; subst hx
    have := one_rng loopOps o; have := cnt_rng loopOps x; simp only [cnt] at h; omega
  | b o d y z =>
    have := one_rng loopOps o; have := cnt_rng loopOps y; have := cnt_rng loopOps z; simp only [cnt] at h
    simp [Ct.kids] at hx; rcases hx with rfl | rfl <;> omega
theorem head_cut (t : Ct) : t.bytes.extract 0 (1 + t.ds.length) = bts (t.o :: t.ds) := by
  refine bts_of ?_
  rw [extract_list, Ct.bytes_list, tx_kids, List.drop_zero, Nat.sub_zero, Nat.add_comm, List.take_succ_cons, List.take_left]
theorem tail_cut (t : Ct) : t.bytes.extract 1 (1 + t.ds.length) = bts t.ds := by
  refine bts_of ?_
  rw [extract_list, Ct.bytes_list, tx_kids, List.drop_succ_cons, List.drop_zero, Nat.add_sub_cancel_left, List.take_left]
theorem cons_cut (o : UInt8) (l : List UInt8) : (bts (o :: l)).extract 1 (1 + l.length) = bts l := by
  refine bts_of ?_
  rw [extract_list, bts_list, List.drop_succ_cons, List.drop_zero, Nat.add_sub_cancel_left, List.take_length]
theorem head_fits (t : Ct) : 1 + t.ds.length ≤ t.bytes.size := by rw [Ct.bytes_size, tx_kids]; simp; omega
theorem ds_le {t : Ct} (h : t.wf = true) : t.ds.length ≤ 4 := by
  obtain ⟨k, hs, _⟩ := wf_shp h
  exact (shp_k hs).2
end Go.DC
namespace Go.DC
open Go.RowKit
set_option linter.unusedVariables false
set_option linter.unusedSimpArgs false

/-- All that was there but block b is as it was. -/
structure Els (b : Nat) (w w' : World) : Prop where
  os : w'.os = w.os
  tape : w'.tape = w.tape
  output : w'.output = w.output
  size : w.heap.size ≤ w'.heap.size
  block : ∀ k, k < w.heap.size → k ≠ b → w'.heap[k]? = w.heap[k]?
theorem Els.refl (b : Nat) (w : World) : Els b w w := ⟨rfl, rfl, rfl, Nat.le_refl _, fun _ _ _ => rfl⟩
theorem Els.trans {b : Nat} {u v w : World} (h : Els b u v) (k : Els b v w) : Els b u w :=
  ⟨k.os.trans h.os, k.tape.trans h.tape, k.output.trans h.output, Nat.le_trans h.size k.size, fun i hi hb => (k.block i (Nat.lt_of_lt_of_le hi h.size) hb).trans (h.block i hi hb)⟩
theorem Els.of_below {b : Nat} {w w' : World} (h : Below w.heap.size w w') : Els b w w' := ⟨h.os, h.tape, h.output, h.size, fun k hk _ => h.block k hk⟩
theorem Els.below {b B : Nat} {w w' : World} (h : Els b w w') (hB : B ≤ b) (hB' : B ≤ w.heap.size) : Below B w w' :=
  ⟨h.os, h.tape, h.output, h.size, fun k hk => h.block k (by omega) (by omega)⟩
theorem Els.setCell {b : Nat} {u w : World} (h : Els b u w) (i : Nat) (v : Value) : Els b u (w.setCell ⟨b, i, none⟩ v) :=
  h.trans ⟨rfl, rfl, rfl, by simp [World.setCell], fun k _ hk => Below.heap_setCell _ _ _ _ hk⟩
theorem Els.drewN {b : Nat} {u w : World} (h : Els b u w) (n : Nat) : Els b u (w.drewN n) := h.trans (Els.of_below (below_drewN (Below.refl _ _) n))
theorem Els.alloc {b : Nat} {u w : World} (h : Els b u w) (o : Obj) : Els b u (w.alloc o) := h.trans (Els.of_below (ba1 w o))

/-- Block b is a reader that has read p times; its bytes lie in another block. -/
def Rd (w : World) (b p : Nat) : Prop :=
  ∃ (t : TypeId) (a : Option Addr) (len cap : Nat), w.heap[b]? = some (.cells #[.slice a len cap, .int .i64 p] t (0, 0)) ∧ len ≤ 2000 ∧
    (len = 0 ∨ ∃ (c off : Nat) (z : Nat → Int), a = some ⟨c, off, none⟩ ∧ c < b ∧ c < w.heap.size ∧ ∀ k, k < len → w.cell? ⟨c, off + k, none⟩ = some (.int .u8 (z k)) ∧ 0 ≤ z k ∧ z k < 256)
theorem Rd.lt {w : World} {b p : Nat} (h : Rd w b p) : b < w.heap.size := by
  obtain ⟨t, a, len, cap, hb, _⟩ := h
  exact lt_of_block hb
theorem Rd.els {w w' : World} {b c p : Nat} (h : Rd w b p) (hE : Els c w w') (hc : c ≠ b) (hlt : w.heap.size ≤ c) : Rd w' b p := by
  have hl := h.lt
  obtain ⟨t, a, len, cap, hb, h2, h3⟩ := h
  refine ⟨t, a, len, cap, by rw [hE.block b hl (fun e => hc e.symm)]; exact hb, h2, ?_⟩
  rcases h3 with h3 | ⟨d, off, z, ha, hd, hds, hz⟩
  · exact .inl h3
  · refine .inr ⟨d, off, z, ha, hd, Nat.lt_of_lt_of_le hds hE.size, fun k hk => ?_⟩
    obtain ⟨h5, h6⟩ := hz k hk
    exact ⟨by rw [World.cell?_of_block (w := w) (hE.block d hds (by omega))]; exact h5, h6⟩
theorem Rd.below {w w' : World} {b p : Nat} (h : Rd w b p) (hE : Below w.heap.size w w') : Rd w' b p := by
  have hl := h.lt
  obtain ⟨t, a, len, cap, hb, h2, h3⟩ := h
  refine ⟨t, a, len, cap, by rw [hE.block b hl]; exact hb, h2, ?_⟩
  rcases h3 with h3 | ⟨d, off, z, ha, hd, hds, hz⟩
  · exact .inl h3
  · refine .inr ⟨d, off, z, ha, hd, Nat.lt_of_lt_of_le hds hE.size, fun k hk => ?_⟩
    obtain ⟨h5, h6⟩ := hz k hk
    exact ⟨by rw [World.cell?_of_block (w := w) (hE.block d hds)]; exact h5, h6⟩
/-- A row of the call's own may grow beside a reader. -/
theorem Rd.grown {w w' : World} {b B p : Nat} {o : Option Nat} (h : Rd w b p) (hg : w.grownBy w' o) (ho : ∀ k, o = some k → B ≤ k) (hB : b < B) : Rd w' b p := by
  have hl := h.lt
  obtain ⟨t, a, len, cap, hb, h2, h3⟩ := h
  refine ⟨t, a, len, cap, by rw [hg.block b hl (fun e => by have := ho b e.symm; omega)]; exact hb, h2, ?_⟩
  rcases h3 with h3 | ⟨d, off, z, ha, hd, hds, hz⟩
  · exact .inl h3
  · refine .inr ⟨d, off, z, ha, hd, Nat.lt_of_lt_of_le hds hg.size, fun k hk => ?_⟩
    obtain ⟨h5, h6⟩ := hz k hk
    exact ⟨by rw [World.cell?_of_block (w := w) (hg.block d hds (fun e => by have := ho d e.symm; omega))]; exact h5, h6⟩
theorem Els.grown {b B : Nat} {u w w' : World} {o : Option Nat} (h : Els b u w) (hg : w.grownBy w' o) (ho : ∀ k, o = some k → B ≤ k) (hB : u.heap.size ≤ B) : Els b u w' :=
  ⟨hg.os.trans h.os, hg.tape.trans h.tape, hg.output.trans h.output, Nat.le_trans h.size hg.size, fun k hk hkb => (hg.block k (Nat.lt_of_lt_of_le hk h.size) (fun e => by have := ho k e.symm; omega)).trans (h.block k hk hkb)⟩
theorem World.ownsRow.els {w w' : World} {b base size n : Nat} {e : TypeId} {v : Value} {xs : List Value} (h : w.ownsRow base e size v n xs) (hE : Els b w w') (hb : b < base) : w'.ownsRow base e size v n xs := by
  refine ⟨h.1, ?_⟩
  rcases h.2 with h | ⟨g, cap, cur, h1, h2, h3, h4⟩
  · exact .inl h
  · exact .inr ⟨g, cap, cur, h1, h2, by rw [hE.block g (lt_of_block h3) (by omega)]; exact h3, h4⟩
theorem or_16 {a : Int} (h0 : 0 ≤ a) (h1 : a ≤ 65535) {q : Nat} (hq : q < 16) : 0 ≤ bits .or .i64 a (wrap64 (2 ^ q)) ∧ bits .or .i64 a (wrap64 (2 ^ q)) ≤ 65535 := by
  obtain ⟨a, rfl⟩ := Int.eq_ofNat_of_zero_le h0
  have h2 : (2 : Nat) ^ q < 2 ^ 16 := Nat.pow_lt_pow_right (by decide) hq
  have ha : a < 2 ^ 16 := by omega
  rw [wrap_pow q (by omega), show ((2 : Int) ^ q) = ((2 ^ q : Nat) : Int) by simp, or_nat a (2 ^ q) (by omega) (by omega)]
  have h3 : a ||| 2 ^ q < 2 ^ 16 := Nat.or_lt_two_pow ha h2
  exact ⟨Int.natCast_nonneg _, by have : (2 : Nat) ^ 16 = 65536 := by decide
                                  omega⟩
theorem xor_nat (a b : Nat) (ha : a < 2 ^ 62) (hb : b < 2 ^ 62) : bits .xor .i64 (a : Int) (b : Int) = ((a ^^^ b : Nat) : Int) := by
  have ha' : a % 2 ^ 64 = a := Nat.mod_eq_of_lt (by omega)
  have hb' : b % 2 ^ 64 = b := Nat.mod_eq_of_lt (by omega)
  have hk : IntKind.bits .i64 = 64 := rfl
  simp only [bits, BitVec.ofInt_natCast, BitVec.toNat_xor, BitVec.toNat_ofNat, hk, ha', hb']
  exact wrap64_small _ (Int.natCast_nonneg _) (by exact_mod_cast Nat.xor_lt_two_pow ha hb)
theorem xor_rng {x : Int} (h0 : 0 ≤ x) (h1 : x < 4611686018427387904) : 0 ≤ bits .xor .i64 x (x / 64) := by
  obtain ⟨a, rfl⟩ := Int.eq_ofNat_of_zero_le h0
  have e : ((a : Int) / 64) = ((a / 64 : Nat) : Int) := by simp
  have ha : a < 4611686018427387904 := by omega
  have e62 : (2 : Nat) ^ 62 = 4611686018427387904 := by decide
  rw [e, xor_nat a (a / 64) (by rw [e62]; exact ha) (by rw [e62]; omega)]
  exact Int.natCast_nonneg _
theorem Row.els {w w' : World} {b c n : Nat} {f : Nat → Int} (h : Row w c n f) (hE : Els b w w') (hc : c ≠ b) : Row w' c n f := by
  have hl := h.lt
  obtain ⟨t, h⟩ := h
  exact ⟨t, by rw [hE.block c hl hc]; exact h⟩
def l3 (a b c : Int) : Nat → Int := fun i => if i = 0 then a else if i = 1 then b else c
theorem Row.list3 (w : World) (t : TypeId) (a b c : Int) : Row (w.alloc (.cells #[.int .i64 a, .int .i64 b, .int .i64 c] t)) w.heap.size 3 (l3 a b c) := Row.new w 3 (l3 a b c) t rfl
/-- Block c holds texts. -/
def Texts (w : World) (c n : Nat) (f : Nat → ByteArray) : Prop := c < w.heap.size ∧ ∀ i, i < n → w.cell? ⟨c, i, none⟩ = some (.string (f i))
theorem Texts.els {w w' : World} {b c n : Nat} {f : Nat → ByteArray} (h : Texts w c n f) (hE : Els b w w') (hc : c ≠ b) : Texts w' c n f :=
  ⟨Nat.lt_of_lt_of_le h.1 hE.size, fun i hi => by rw [World.cell?_of_block (w := w) (hE.block c h.1 hc)]; exact h.2 i hi⟩
def tx (l : List ByteArray) : Nat → ByteArray := fun i => l.getD i ByteArray.empty
theorem Texts.new (w : World) (t : TypeId) (l : List ByteArray) : Texts (w.alloc (.cells (l.map Value.string).toArray t)) w.heap.size l.length (tx l) :=
  ⟨by simp, fun i hi => by rw [World.cell?_alloc_at _ _ _ _ rfl]; simp [tx, List.getD, hi]⟩
theorem tx_size {l : List ByteArray} {m : Nat} (h : ∀ s ∈ l, s.size ≤ m) : ∀ i, i < l.length → (tx l i).size ≤ m := fun i hi => by
  unfold tx
  simp [List.getD, hi]
  exact h _ (List.getElem_mem hi)
/-- What the walk is told of a slice of integers that came in. -/
def IsRow (k : IntKind) (w : World) (a : Option Addr) (len cap : Nat) (zs : List Int) : Prop :=
  (a = none ∧ len = 0 ∧ cap = 0 ∧ zs = []) ∨
  ∃ x, a = some x ∧ len ≤ cap ∧ cap ≤ maxLen ∧ zs.length = cap ∧ (∀ i, i < zs.length → w.cell? (x.add i) = some (.int k (zs.getD i 0))) ∧ ∀ n ∈ zs, (Lit.int k n).wf = true
theorem wf_u8 {n : Int} (h : (Lit.int .u8 n).wf = true) : 0 ≤ n ∧ n < 256 := by
  have h1 : IntKind.u8.min = 0 := rfl
  have h2 : IntKind.u8.max = 255 := rfl
  simp [Lit.wf, h1, h2] at h
  omega
/-- A reader over the first bytes of a slice that came in. -/
theorem Rd.of_row {w w' : World} {a : Option Addr} {len cap : Nat} {zs : List Int} (h : IsRow .u8 w a len cap zs) {m : Nat} (hm : m ≤ len) (hm2 : m ≤ 2000) {b : Nat} (hb : w.heap.size ≤ b) (hE : Below w.heap.size w w') {t : TypeId}
    (hc : w'.heap[b]? = some (.cells #[.slice a m cap, .int .i64 0] t (0, 0))) : Rd w' b 0 := by
  refine ⟨t, a, m, cap, hc, hm2, ?_⟩
  by_cases h0 : m = 0
  · exact .inl h0
  rcases h with ⟨_, h, _⟩ | ⟨x, rfl, hl, hmx, hz, hcell, hwf⟩
  · exact absurd h (by omega)
  · obtain ⟨c, off, spot⟩ := x
    have h1 := hcell 0 (by omega)
    have hs : spot = none := by simpa [Addr.add] using World.cell?_spot h1
    subst hs
    have hadd : ∀ i, (⟨c, off, none⟩ : Addr).add i = ⟨c, off + i, none⟩ := fun i => by unfold Addr.add; split <;> simp_all
    have hlt : c < w.heap.size := by
      have := block_lt_of_cell h1
      rw [hadd] at this
      exact this
    refine .inr ⟨c, off, fun i => zs.getD i 0, rfl, by omega, Nat.lt_of_lt_of_le hlt hE.size, fun k hk => ?_⟩
    have h2 := hcell k (by omega)
    rw [hadd] at h2
    have hk' : k < zs.length := by omega
    have h3 := wf_u8 (hwf (zs.getD k 0) (by simp [List.getD, List.getElem?_eq_getElem hk']))
    exact ⟨by rw [hE.cell (p := ⟨c, off + k, none⟩) hlt]; exact h2, h3⟩
/-- A number was drawn, by so many draws. -/
def DrawN (b p q : Nat) (w : World) (e : Ending) (w' : World) : Prop := ∃ v : Int, e = .returned (.int .i64 v) ∧ Rd w' b (p + q) ∧ Els b w w'
/-- A text was drawn, by so many draws. -/
def DrawT (b p q m : Nat) (w : World) (e : Ending) (w' : World) : Prop := ∃ s : ByteArray, s.size ≤ m ∧ e = .returned (.string s) ∧ Rd w' b (p + q) ∧ Els b w w'
/-- What a draw of a number below n leaves. -/
def Pick (b p : Nat) (n : Int) (w : World) (e : Ending) (w' : World) : Prop := ∃ v : Int, 0 ≤ v ∧ v < n ∧ e = .returned (.int .i64 v) ∧ Rd w' b (p + 1) ∧ Els b w w'
end Go.DC
namespace Go.DC
open Go.RowKit
set_option linter.unusedVariables false
set_option linter.unusedSimpArgs false
/-- The states to which states of p are related. -/
def img (x : Nat → Int) (p : Int) : Int := un 4 (fun u => hasb p u) x
theorem then_img (x y : Nat → Int) (s : Nat) : thenR x y s = img y (x s) := rfl
theorem img_cv {x : Nat → Int} (hx : Dg 4 x) (p : Int) : Cv (img x p) := un_rng hx 4 (Nat.le_refl _)
theorem hasb_img {x : Nat → Int} (hx : Dg 4 x) (p : Int) {i : Nat} (hi : i < 4) : hasb (img x p) i = true ↔ ∃ k, k < 4 ∧ hasb p k = true ∧ hasb (x k) i = true := by
  unfold img
  rw [hasb_un hx hi 4 (Nat.le_refl _), List.any_eq_true]
  constructor
  · rintro ⟨k, hk, h⟩; rw [Bool.and_eq_true] at h; exact ⟨k, List.mem_range.1 hk, h.1, h.2⟩
  · rintro ⟨k, hk, h1, h2⟩; exact ⟨k, List.mem_range.2 hk, by rw [h1, h2]; rfl⟩
theorem img_sub {x : Nat → Int} (hx : Dg 4 x) {a b : Int} (ha : Cv a) (hb : Cv b) (h : Sub a b) : Sub (img x a) (img x b) :=
  (sub_bits (img_cv hx _) (img_cv hx _)).2 fun i hi hs => by
    obtain ⟨k, hk, h1, h2⟩ := (hasb_img hx a hi).1 hs
    exact (hasb_img hx b hi).2 ⟨k, hk, (sub_bits ha hb).1 h k hk h1, h2⟩
theorem un_congr {c : Nat → Bool} {x y : Nat → Int} : ∀ n, (∀ s, s < n → x s = y s) → un n c x = un n c y
  | 0, _ => rfl
  | n + 1, h => by
    have ih := un_congr (c := c) n fun s hs => h s (by omega)
    unfold un
    rw [ih, h n (by omega)]
theorem img_congr {x y : Nat → Int} (h : ∀ s, s < 4 → x s = y s) (p : Int) : img x p = img y p := un_congr 4 h
theorem thenR_congr {x y x' y' : Nat → Int} (h : ∀ s, s < 4 → x s = x' s) (h2 : ∀ s, s < 4 → y s = y' s) : ∀ s, s < 4 → thenR x y s = thenR x' y' s := fun s hs => by
  rw [then_img, then_img, h s hs, img_congr h2]
theorem img_then {x y : Nat → Int} (hx : Dg 4 x) (hy : Dg 4 y) (p : Int) : img (thenR x y) p = img y (img x p) := by
  have h1 := thenR_Dg x hy
  refine cv_ext (img_cv h1 _) (img_cv hy _) fun i hi => ?_
  rw [Bool.eq_iff_iff, hasb_img h1 p hi, hasb_img hy _ hi]
  constructor
  · rintro ⟨k, hk, h2, h3⟩
    rw [then_img, hasb_img hy _ hi] at h3
    obtain ⟨j, hj, h4, h5⟩ := h3
    exact ⟨j, hj, (hasb_img hx p hj).2 ⟨k, hk, h2, h4⟩, h5⟩
  · rintro ⟨j, hj, h4, h5⟩
    obtain ⟨k, hk, h2, h3⟩ := (hasb_img hx p hj).1 h4
    exact ⟨k, hk, h2, by rw [then_img, hasb_img hy _ hi]; exact ⟨j, hj, h3, h5⟩⟩
def idR : Nat → Int := fun s => 2 ^ s
theorem idR_Dg : Dg 4 idR := fun s hs => ⟨(pow_in hs).1, (pow_in hs).2.1⟩
theorem hasb_id {s i : Nat} (hs : s < 4) (hi : i < 4) : hasb (idR s) i = decide (i = s) := has_pow hi hs
theorem img_id {p : Int} (hp : Cv p) : img idR p = p := cv_ext (img_cv idR_Dg _) hp fun i hi => by
  rw [Bool.eq_iff_iff, hasb_img idR_Dg p hi]
  constructor
  · rintro ⟨k, hk, h1, h2⟩
    rw [hasb_id hk hi] at h2
    have : i = k := by simpa using h2
    rw [this]; exact h1
  · intro h; exact ⟨i, hi, h, by rw [hasb_id hi hi]; simp⟩
theorem img_one {x : Nat → Int} (hx : Dg 4 x) {s : Nat} (hs : s < 4) : img x (idR s) = x s := cv_ext (img_cv hx _) (hx s hs) fun i hi => by
  rw [Bool.eq_iff_iff, hasb_img hx _ hi]
  constructor
  · rintro ⟨k, hk, h1, h2⟩
    rw [hasb_id hs hk] at h1
    have : k = s := by simpa using h1
    rw [← this]; exact h2
  · intro h; exact ⟨s, hs, by rw [hasb_id hs hs]; simp, h⟩
/-- n steps. -/
def pw (x : Nat → Int) : Nat → Nat → Int
  | 0, s => idR s
  | n + 1, s => img x (pw x n s)
theorem pw_Dg {x : Nat → Int} (hx : Dg 4 x) : ∀ n, Dg 4 (pw x n)
  | 0 => idR_Dg
  | n + 1 => fun s _ => img_cv hx _
theorem pw_add {x : Nat → Int} (hx : Dg 4 x) (n : Nat) {s : Nat} (hs : s < 4) : ∀ m, pw x (n + m) s = img (pw x m) (pw x n s)
  | 0 => (img_id (pw_Dg hx n s hs)).symm
  | m + 1 => by
    have ih := pw_add hx n hs m
    have e : pw x (n + (m + 1)) s = img x (pw x (n + m) s) := rfl
    rw [e, ih, ← img_then (pw_Dg hx m) hx]
    rfl
theorem pw_then {x : Nat → Int} (hx : Dg 4 x) (n m : Nat) : ∀ s, s < 4 → thenR (pw x n) (pw x m) s = pw x (n + m) s := fun s hs => by
  rw [pw_add hx n hs m, then_img]
theorem pw_one {x : Nat → Int} (hx : Dg 4 x) : ∀ s, s < 4 → pw x 1 s = x s := fun s hs => img_one hx hs
theorem pw_pw {x : Nat → Int} (hx : Dg 4 x) (k : Nat) : ∀ n s, s < 4 → pw (pw x k) n s = pw x (n * k) s
  | 0, s, _ => by rw [Nat.zero_mul]; rfl
  | n + 1, s, hs => by
    have e : pw (pw x k) (n + 1) s = img (pw x k) (pw (pw x k) n s) := rfl
    rw [e, pw_pw hx k n s hs, ← pw_add hx (n * k) hs k, Nat.succ_mul]
theorem pw_congr {x y : Nat → Int} (h : ∀ s, s < 4 → x s = y s) : ∀ n s, s < 4 → pw x n s = pw y n s
  | 0, _, _ => rfl
  | n + 1, s, hs => by
    have e : ∀ x : Nat → Int, pw x (n + 1) s = img x (pw x n s) := fun _ => rfl
    rw [e, e, pw_congr h n s hs, img_congr h]
/-- Every state is related to itself. -/
def Refl (x : Nat → Int) : Prop := ∀ s, s < 4 → hasb (x s) s = true
theorem Refl.sub {x : Nat → Int} (h : Refl x) (hx : Dg 4 x) {p : Int} (hp : Cv p) : Sub p (img x p) :=
  (sub_bits hp (img_cv hx _)).2 fun i hi hs => (hasb_img hx p hi).2 ⟨i, hi, hs, h i hi⟩
theorem pw_up {x : Nat → Int} (h : Refl x) (hx : Dg 4 x) (n : Nat) {s : Nat} (hs : s < 4) : Sub (pw x n s) (pw x (n + 1) s) := h.sub hx (pw_Dg hx n s hs)
theorem pw_refl {x : Nat → Int} (h : Refl x) (hx : Dg 4 x) : ∀ n, Refl (pw x n)
  | 0 => fun s hs => by show hasb (idR s) s = true; rw [hasb_id hs hs]; simp
  | n + 1 => fun s hs => (sub_bits (pw_Dg hx n s hs) (pw_Dg hx (n + 1) s hs)).1 (pw_up h hx n hs) s hs (pw_refl h hx n s hs)
def crd (a : Int) : Nat := (List.range 4).countP fun i => hasb a i
theorem crd_lt {a b : Int} (ha : Cv a) (hb : Cv b) (h : Sub a b) (hn : a ≠ b) : crd a < crd b := by
  have : ∀ m n : Fin 16, bandn (m.val : Int) (n.val : Int) = 0 → (m.val : Int) ≠ (n.val : Int) → crd (m.val : Int) < crd (n.val : Int) := by decide +kernel
  exact cond_all2 (P := fun a b => bandn a b = 0 → a ≠ b → crd a < crd b) this ha.1 ha.2 hb.1 hb.2 h hn
theorem crd_le {a : Int} (ha : Cv a) : crd a ≤ 4 := by
  have : ∀ m : Fin 16, crd (m.val : Int) ≤ 4 := by decide +kernel
  exact cond_all (P := fun a => crd a ≤ 4) this ha.1 ha.2
theorem crd_id {s : Nat} (hs : s < 4) : crd (idR s) = 1 := by
  have : ∀ s : Fin 4, crd (idR s.val) = 1 := by decide +kernel
  exact this ⟨s, hs⟩
theorem pw_stop {x : Nat → Int} {n s : Nat} (h : pw x (n + 1) s = pw x n s) : pw x (n + 1 + 1) s = pw x (n + 1) s := by
  show img x (pw x (n + 1) s) = img x (pw x n s)
  rw [h]
/-- Three steps are enough. -/
theorem pw_three {x : Nat → Int} (h : Refl x) (hx : Dg 4 x) {s : Nat} (hs : s < 4) : pw x 4 s = pw x 3 s := by
  refine Classical.byContradiction fun h4 => ?_
  have h3 : pw x 3 s ≠ pw x 2 s := fun e => h4 (pw_stop e)
  have h2 : pw x 2 s ≠ pw x 1 s := fun e => h3 (pw_stop e)
  have h1 : pw x 1 s ≠ pw x 0 s := fun e => h2 (pw_stop e)
  have hd := fun n => pw_Dg hx n s hs
  have l := fun n (e : pw x (n + 1) s ≠ pw x n s) => crd_lt (hd n) (hd (n + 1)) (pw_up h hx n hs) (fun e' => e e'.symm)
  have l0 := l 0 h1
  have l1 := l 1 h2
  have l2 := l 2 h3
  have l3 := l 3 h4
  have c0 : crd (pw x 0 s) = 1 := crd_id hs
  have c4 := crd_le (hd 4)
  simp only [Nat.reduceAdd, Nat.zero_add] at l0 l1 l2 l3
  omega
theorem pw_all {x : Nat → Int} (h : Refl x) (hx : Dg 4 x) {s : Nat} (hs : s < 4) : ∀ j, pw x (3 + j) s = pw x 3 s
  | 0 => rfl
  | j + 1 => by
    have ih := pw_all h hx hs j
    have e : pw x (3 + (j + 1)) s = img x (pw x (3 + j) s) := rfl
    rw [e, ih]
    exact pw_three h hx hs
theorem pw_ge {x : Nat → Int} (h : Refl x) (hx : Dg 4 x) {s : Nat} (hs : s < 4) {n m : Nat} (hn : 3 ≤ n) (hm : 3 ≤ m) : pw x n s = pw x m s := by
  have e1 := pw_all h hx hs (n - 3)
  have e2 := pw_all h hx hs (m - 3)
  rw [show 3 + (n - 3) = n by omega] at e1
  rw [show 3 + (m - 3) = m by omega] at e2
  rw [e1, e2]
/-- The relation and all states with themselves. -/
theorem idR_cv {s : Nat} (hs : s < 4) : Cv (idR s) := idR_Dg s hs
def withId (x : Nat → Int) : Nat → Int := fun s => bor (x s) (idR s)
theorem withId_Dg {x : Nat → Int} (hx : Dg 4 x) : Dg 4 (withId x) := fun s hs => bor_rng (hx s hs).1 (hx s hs).2 (idR_Dg s hs).1 (idR_Dg s hs).2
theorem withId_refl {x : Nat → Int} (hx : Dg 4 x) : Refl (withId x) := fun s hs => by
  unfold withId
  rw [Cv.has_or (hx s hs) (idR_Dg s hs) hs, hasb_id hs hs]; simp
/-- The closure. -/
def clo (x : Nat → Int) : Nat → Int := pw (withId x) 16
theorem clo_Dg {x : Nat → Int} (hx : Dg 4 x) : Dg 4 (clo x) := pw_Dg (withId_Dg hx) 16
/-- Out of a reflexive relation and its square the reference makes the square. -/
theorem or_sq {x : Nat → Int} (h : Refl x) (hx : Dg 4 x) {s : Nat} (hs : s < 4) : bor (x s) (thenR x x s) = thenR x x s := by
  have hs2 := h.sub hx (hx s hs)
  have hc := img_cv hx (x s)
  refine cv_ext (Cv.or (hx s hs) hc) hc fun i hi => ?_
  rw [then_img, Cv.has_or (hx s hs) hc hi]
  cases e : hasb (x s) i
  · rfl
  · rw [(sub_bits (hx s hs) hc).1 hs2 i hi e]; rfl
theorem pw_or {x : Nat → Int} (h : Refl x) (hx : Dg 4 x) (n : Nat) {s : Nat} (hs : s < 4) : bor (pw x n s) (thenR (pw x n) (pw x n) s) = pw x (n + n) s := by
  rw [or_sq (pw_refl h hx n) (pw_Dg hx n) hs, pw_then hx n n s hs]
/-- A power that is its own square is the closure. -/
theorem pw_done {x : Nat → Int} (h : Refl x) (hx : Dg 4 x) {n : Nat} (hn : 1 ≤ n) (e : ∀ s, s < 4 → pw x n s = pw x (n + n) s) : ∀ s, s < 4 → pw x n s = pw x 16 s := by
  have h2 : ∀ s, s < 4 → pw x (n + n) s = pw x (n + n + (n + n)) s := fun s hs => by
    rw [← pw_then hx n n s hs, ← pw_then hx (n + n) (n + n) s hs]
    exact thenR_congr e e s hs
  intro s hs
  rw [e s hs, h2 s hs]
  exact pw_ge h hx hs (by omega) (by omega)
/-- As the law makes it: no step, or one more. -/
def stp (x : Nat → Int) : Nat → Nat → Int
  | 0, s => idR s
  | n + 1, s => bor (idR s) (thenR (stp x n) x s)
theorem stp_Dg {x : Nat → Int} (hx : Dg 4 x) : ∀ n, Dg 4 (stp x n)
  | 0 => idR_Dg
  | n + 1 => fun s hs => Cv.or (idR_Dg s hs) (img_cv hx _)
theorem img_with {x : Nat → Int} (hx : Dg 4 x) {p : Int} (hp : Cv p) : img (withId x) p = bor (img x p) p := by
  have hw := withId_Dg hx
  refine cv_ext (img_cv hw _) ((img_cv hx p).or hp) fun i hi => ?_
  rw [Cv.has_or (img_cv hx p) hp hi, Bool.eq_iff_iff, hasb_img hw p hi, Bool.or_eq_true, hasb_img hx p hi]
  have hk : ∀ k, k < 4 → (hasb (withId x k) i = true ↔ hasb (x k) i = true ∨ i = k) := fun k hk => by
    unfold withId
    rw [Cv.has_or (hx k hk) (idR_Dg k hk) hi, hasb_id hk hi]; simp
  constructor
  · rintro ⟨k, h4, h1, h2⟩
    rcases (hk k h4).1 h2 with h3 | rfl
    · exact .inl ⟨k, h4, h1, h3⟩
    · exact .inr h1
  · rintro (⟨k, h4, h1, h2⟩ | h)
    · exact ⟨k, h4, h1, (hk k h4).2 (.inl h2)⟩
    · exact ⟨i, hi, h, (hk i hi).2 (.inr rfl)⟩
theorem stp_pw {x : Nat → Int} (hx : Dg 4 x) {s : Nat} (hs : s < 4) : ∀ n, stp x n s = pw (withId x) n s ∧ Sub (stp x n s) (stp x (n + 1) s)
  | 0 => ⟨rfl, (sub_bits (idR_Dg s hs) (stp_Dg hx 1 s hs)).2 fun i hi h => by
      show hasb (bor (idR s) (img x (stp x 0 s))) i = true
      rw [Cv.has_or (idR_Dg s hs) (img_cv hx _) hi, h]; rfl⟩
  | n + 1 => by
    have ih := stp_pw hx hs n
    have hd := fun n => stp_Dg hx n s hs
    refine ⟨?_, ?_⟩
    · have e : pw (withId x) (n + 1) s = img (withId x) (pw (withId x) n s) := rfl
      rw [e, ← ih.1, img_with hx (hd n)]
      refine cv_ext (hd (n + 1)) ((img_cv hx _).or (hd n)) fun i hi => ?_
      have e1 : stp x (n + 1) s = bor (idR s) (img x (stp x n s)) := rfl
      rw [Cv.has_or (img_cv hx _) (hd n) hi]
      cases h : hasb (stp x n s) i
      · rw [e1, Cv.has_or (idR_Dg s hs) (img_cv hx _) hi, Bool.or_false]
        have : hasb (idR s) i = false := by
          cases h0 : hasb (idR s) i
          · rfl
          · have hin : ∀ n, hasb (stp x n s) i = true := fun n => by
              cases n with
              | zero => exact h0
              | succ n =>
                show hasb (bor (idR s) (img x (stp x n s))) i = true
                rw [Cv.has_or (idR_Dg s hs) (img_cv hx _) hi, h0]; rfl
            rw [hin n] at h; exact absurd h (by simp)
        rw [this]; rfl
      · rw [(sub_bits (hd n) (hd (n + 1))).1 ih.2 i hi h, Bool.or_true]
    · show Sub (bor (idR s) (img x (stp x n s))) (bor (idR s) (img x (stp x (n + 1) s)))
      have hc := fun n => img_cv hx (stp x n s)
      exact (sub_bits ((idR_cv hs).or (hc n)) ((idR_cv hs).or (hc (n + 1)))).2 fun i hi h => by
        rw [Cv.has_or (idR_Dg s hs) (hc n) hi, Bool.or_eq_true] at h
        rw [Cv.has_or (idR_Dg s hs) (hc (n + 1)) hi, Bool.or_eq_true]
        exact h.imp id fun h => (sub_bits (hc n) (hc (n + 1))).1 (img_sub hx (hd n) (hd (n + 1)) ih.2) i hi h
theorem clo_stp {x : Nat → Int} (hx : Dg 4 x) {s : Nat} (hs : s < 4) : clo x s = stp x 4 s := by
  rw [(stp_pw hx hs 4).1]
  exact pw_ge (withId_refl hx) (withId_Dg hx) hs (by decide) (by decide)
theorem clo_twice {x : Nat → Int} (hx : Dg 4 x) {s : Nat} (hs : s < 4) : thenR (clo x) (clo x) s = clo x s := by
  unfold clo
  rw [pw_then (withId_Dg hx) 16 16 s hs]
  exact pw_ge (withId_refl hx) (withId_Dg hx) hs (by decide) (by decide)
theorem with_refl {x : Nat → Int} (h : Refl x) (hx : Dg 4 x) {s : Nat} (hs : s < 4) : withId x s = x s := cv_ext (withId_Dg hx s hs) (hx s hs) fun i hi => by
  unfold withId
  rw [Cv.has_or (hx s hs) (idR_Dg s hs) hi, hasb_id hs hi]
  by_cases e : i = s
  · subst e; rw [h i hi]; rfl
  · simp [e]
theorem clo_again {x : Nat → Int} (hx : Dg 4 x) {s : Nat} (hs : s < 4) : clo (clo x) s = clo x s := by
  have hr := pw_refl (withId_refl hx) (withId_Dg hx) 16
  have hd := clo_Dg hx
  show pw (withId (clo x)) 16 s = _
  rw [pw_congr (x := withId (clo x)) (y := clo x) (fun s hs => with_refl hr hd hs) 16 s hs]
  unfold clo
  rw [pw_pw (withId_Dg hx) 16 16 s hs]
  exact pw_ge (withId_refl hx) (withId_Dg hx) hs (by decide) (by decide)
theorem clo_in {x : Nat → Int} (hx : Dg 4 x) {s : Nat} (hs : s < 4) : Sub (x s) (clo x s) := by
  rw [clo_stp hx hs, (stp_pw hx hs 4).1, pw_ge (withId_refl hx) (withId_Dg hx) hs (n := 4) (m := 15 + 1) (by decide) (by decide)]
  have hw := withId_Dg hx
  have h1 : Sub (x s) (withId x s) := (sub_bits (hx s hs) (hw s hs)).2 fun i hi h => by
    unfold withId
    rw [Cv.has_or (hx s hs) (idR_Dg s hs) hi, h]; rfl
  refine Sub.trans (hx s hs) (hw s hs) (pw_Dg hw 16 s hs) h1 ?_
  rw [pw_add hw 15 hs 1, img_congr (pw_one hw)]
  have hid : Sub (idR s) (pw (withId x) 15 s) := (sub_bits (idR_Dg s hs) (pw_Dg hw 15 s hs)).2 fun i hi h => by
    rw [hasb_id hs hi] at h
    have : i = s := by simpa using h
    rw [this]; exact pw_refl (withId_refl hx) hw 15 s hs
  have := img_sub hw (idR_Dg s hs) (pw_Dg hw 15 s hs) hid
  rw [img_one hw hs] at this
  exact this
end Go.DC
namespace Go.DC
open Go.RowKit
set_option linter.unusedVariables false
set_option linter.unusedSimpArgs false
/-- How many of the first n states a condition has, as the loop counts. -/
def cntS (p : Int) : Nat → Int
  | 0 => 0
  | n + 1 => cntS p n + bits .and .i64 (p / 2 ^ n) 1
theorem bit_rng {p : Int} (hp : Cv p) {n : Nat} (hn : n < 4) : bits .and .i64 (p / 2 ^ n) 1 = if hasb p n then 1 else 0 := by
  have : ∀ m : Fin 16, ∀ n : Fin 4, bits .and .i64 ((m.val : Int) / 2 ^ n.val) 1 = if hasb (m.val : Int) n.val then 1 else 0 := by decide +kernel
  exact cond_all (P := fun p => bits .and .i64 (p / 2 ^ n) 1 = if hasb p n then 1 else 0) (fun m => this m ⟨n, hn⟩) hp.1 hp.2
theorem cntS_rng {p : Int} (hp : Cv p) : ∀ n, n ≤ 4 → 0 ≤ cntS p n ∧ cntS p n ≤ n
  | 0, _ => ⟨Int.le_refl _, Int.le_refl _⟩
  | n + 1, h => by
    have ih := cntS_rng hp n (by omega)
    have hb := bit_rng hp (n := n) (by omega)
    unfold cntS
    rw [hb]
    split <;> omega
/-- The pairs of the first n states, counted. -/
def cntP (x : Nat → Int) : Nat → Int
  | 0 => 0
  | n + 1 => cntP x n + cntS (x n) 4
theorem cntP_rng {x : Nat → Int} (hx : Dg 4 x) : ∀ n, n ≤ 4 → 0 ≤ cntP x n ∧ cntP x n ≤ 4 * n
  | 0, _ => ⟨Int.le_refl _, Int.le_refl _⟩
  | n + 1, h => by
    have ih := cntP_rng hx n (by omega)
    have hb := cntS_rng (hx n (by omega)) 4 (Nat.le_refl _)
    unfold cntP
    omega
/-- Each of the first n states is related to one state. -/
def funB (x : Nat → Int) : Nat → Bool
  | 0 => true
  | n + 1 => funB x n && cntS (x n) 4 == 1
/-- Each row of x lies within that of y. -/
def subB (x y : Nat → Int) : Bool := (List.range 4).all fun k => bandn (x k) (y k) == 0
theorem subB_iff {x y : Nat → Int} : subB x y = true ↔ ∀ k, k < 4 → Sub (x k) (y k) := by unfold subB Sub; simp
theorem subB_bad {x y : Nat → Int} {n : Nat} (hn : n < 4) (h : (bits BinOp.andNot IntKind.i64 (x n) (y n) != 0) = true) : subB x y = false := by
  cases hd : subB x y
  · rfl
  · have := subB_iff.1 hd n hn
    unfold Sub bandn at this
    simp [this] at h
theorem subB_ok {x y : Nat → Int} (h : ∀ k, k < 4 → (bits BinOp.andNot IntKind.i64 (x k) (y k) != 0) = false) : subB x y = true :=
  subB_iff.2 fun k hk => by have := h k hk; simpa [Sub, bandn] using this
/-- The test of a condition. -/
def testR (p : Int) : Nat → Int := fun s => mk 4 fun t => decide (s = t) && hasb p s
theorem testR_Dg (p : Int) : Dg 4 (testR p) := fun _ _ => ⟨mk4_ge _, mk4_le _⟩
theorem hasb_test (p : Int) {s t : Nat} (ht : t < 4) : hasb (testR p s) t = (decide (s = t) && hasb p s) := by
  unfold testR; rw [hasb_mk _ _ _ (by decide)]; simp [ht]
theorem test_spec {p : Int} (hp : Cv p) {s : Nat} (hs : s < 4) : testR p s = band p (2 ^ s) := by
  have hi := idR_cv hs
  refine cv_ext (testR_Dg p s hs) (hp.and hi) fun i hi4 => ?_
  rw [hasb_test p hi4, show (2 : Int) ^ s = idR s from rfl, Cv.has_and hp (idR_cv hs) hi4, hasb_id hs hi4]
  by_cases e : s = i
  · subst e; simp
  · have e2 : ¬ i = s := fun h => e h.symm
    simp [e, e2]
theorem eq_test (p : Int) : orNo (cv p) (txt 4 (testR p)) = orNo (cv p) (txt 4 fun s => band p (2 ^ s)) := orNo_congr fun h => txt_congr fun s hs => test_spec (cv_iff.1 h) hs
theorem eq_text (a b : ByteArray) : (a.toList == b.toList) = decide (a = b) := by
  rw [ByteArray.toList_eq, ByteArray.toList_eq, Bool.eq_iff_iff, beq_iff_eq, decide_eq_true_iff]
  constructor
  · intro h
    have h1 : a = ⟨a.data.toList.toArray⟩ := by simp
    have h2 : b = ⟨b.data.toList.toArray⟩ := by simp
    rw [h1, h2, h]
  · rintro rfl; rfl
/-- A relation lies within another one exactly if the union is the other one. -/
theorem sub_or {r q : ByteArray} (hr : Dg 4 (dg r)) (hq : dvB 4 q = true) : decide (txt 4 (fun s => bor (dg r s) (dg q s)) = q) = subB (dg r) (dg q) := by
  rw [Bool.eq_iff_iff, decide_eq_true_iff, subB_iff]
  have hd := dvB_Dg hq
  have hf : ∀ m n : Fin 16, (bor (m.val : Int) (n.val : Int) = (n.val : Int) ↔ bandn (m.val : Int) (n.val : Int) = 0) := by decide +kernel
  have key : ∀ k, k < 4 → (bor (dg r k) (dg q k) = dg q k ↔ bandn (dg r k) (dg q k) = 0) := fun k hk =>
    cond_all2 (P := fun a b => (bor a b = b ↔ bandn a b = 0)) hf (hr k hk).1 (hr k hk).2 (hd k hk).1 (hd k hk).2
  have hD : Dg 4 (fun s => bor (dg r s) (dg q s)) := fun s hs => bor_rng (hr s hs).1 (hr s hs).2 (hd s hs).1 (hd s hs).2
  constructor
  · intro h k hk
    have e : dg (txt 4 (fun s => bor (dg r s) (dg q s))) k = dg q k := congrArg (fun t => dg t k) h
    rw [dg_txt hD hk] at e
    exact (key k hk).1 e
  · intro h
    conv => rhs; rw [← txt_dg hq]
    exact txt_congr fun k hk => (key k hk).2 (h k hk)
/-- The closure, as the program and as the reference make it, step by step. -/
theorem clo_sq {x : Nat → Int} (hx : Dg 4 x) (k : Nat) : ∀ s, s < 4 → thenR (pw (withId x) (2 ^ k)) (pw (withId x) (2 ^ k)) s = pw (withId x) (2 ^ (k + 1)) s := fun s hs => by
  rw [pw_then (withId_Dg hx) _ _ s hs]
  congr 1
  rw [Nat.pow_succ]; omega
theorem pow_bits (s : Nat) (hs : s < 4) : wrap64 (2 ^ s) = idR s := wrap_pow s (by omega)
theorem id_txt : (⟨#[49, 50, 52, 56]⟩ : ByteArray) = txt 4 idR := by decide +kernel
end Go.DC
namespace Go.DC
open Go.RowKit
set_option linter.unusedVariables false
set_option linter.unusedSimpArgs false
theorem dgt4 {x : Nat → Int} (h : Dg 4 x) : ∀ s, s < 4 → dg (txt 4 x) s = x s := fun s hs => dg_txt h hs
theorem dia_congr {x y : Nat → Int} (h : ∀ s, s < 4 → x s = y s) (p : Int) : dia x p = dia y p := mk_congr 4 fun s hs => by rw [h s hs]
theorem turn_congr {x y : Nat → Int} (h : ∀ s, s < 4 → x s = y s) (s : Nat) : turn x s = turn y s := mk_congr 4 fun t ht => by rw [h t ht]
theorem cntP_congr {x y : Nat → Int} : ∀ n, (∀ s, s < n → x s = y s) → cntP x n = cntP y n
  | 0, _ => rfl
  | n + 1, h => by
    have ih := cntP_congr n fun s hs => h s (by omega)
    unfold cntP
    rw [ih, h n (by omega)]
theorem sub_iff {a b : Int} (ha : Cv a) (hb : Cv b) : (bandn a b == 0) = true ↔ ∀ k, k < 4 → hasb a k = true → hasb b k = true := by
  have := sub_bits ha hb
  unfold Sub at this
  rw [beq_iff_eq]; exact this
theorem box_iff {x : Nat → Int} (hx : Dg 4 x) {q : Int} (hq : Cv q) {i : Nat} (hi : i < 4) : hasb (boxR x q) i = true ↔ ∀ k, k < 4 → hasb (x i) k = true → hasb q k = true := by
  rw [hasb_box _ hi]; exact sub_iff (hx i hi) hq
theorem dia_iff {x : Nat → Int} (hx : Dg 4 x) {q : Int} (hq : Cv q) {i : Nat} (hi : i < 4) : hasb (dia x q) i = true ↔ ∃ k, k < 4 ∧ hasb (x i) k = true ∧ hasb q k = true := by
  rw [hasb_dia _ _ hi]; exact meet_iff (hx i hi) hq
theorem img_eq {x : Nat → Int} (hx : Dg 4 x) {q : Int} (hq : Cv q) : dia (turn x) q = img x q := (image_eq hx hq.1 hq.2).symm
theorem ext_iff {a b : Int} (ha : Cv a) (hb : Cv b) (h : ∀ i, i < 4 → (hasb a i = true ↔ hasb b i = true)) : a = b := cv_ext ha hb fun i hi => by rw [Bool.eq_iff_iff]; exact h i hi
theorem not_has {a : Bool} : (!a) = true ↔ ¬ a = true := by cases a <;> simp
/-! ### tests -/
theorem test_iff {p : Int} {s t : Nat} (ht : t < 4) : hasb (testR p s) t = true ↔ s = t ∧ hasb p s = true := by rw [hasb_test p ht, Bool.and_eq_true, decide_eq_true_iff]
theorem test_then {p q : Int} (hp : Cv p) (hq : Cv q) : txt 4 (thenR (dg (txt 4 (testR p))) (dg (txt 4 (testR q)))) = txt 4 (testR (band p q)) := txt_congr fun s hs => by
  have h1 := testR_Dg p
  have h2 := testR_Dg q
  rw [thenR_congr (dgt4 h1) (dgt4 h2) s hs, then_img]
  refine ext_iff (img_cv h2 _) (testR_Dg _ s hs) fun i hi => ?_
  rw [hasb_img h2 _ hi, test_iff hi, Cv.has_and hp hq hs, Bool.and_eq_true]
  constructor
  · rintro ⟨k, hk, h3, h4⟩
    rw [test_iff hk] at h3
    rw [test_iff hi] at h4
    obtain ⟨rfl, h3⟩ := h3
    obtain ⟨rfl, h4⟩ := h4
    exact ⟨rfl, h3, h4⟩
  · rintro ⟨rfl, h3, h4⟩
    exact ⟨s, hs, (test_iff hs).2 ⟨rfl, h3⟩, (test_iff hs).2 ⟨rfl, h4⟩⟩
theorem test_img {p q : Int} (hp : Cv p) (hq : Cv q) : dia (turn (dg (txt 4 (testR p)))) q = band p q := by
  have h1 := testR_Dg p
  rw [dia_congr (fun s _ => turn_congr (dgt4 h1) s), img_eq h1 hq]
  refine ext_iff (img_cv h1 _) (hp.and hq) fun i hi => ?_
  rw [hasb_img h1 _ hi, Cv.has_and hp hq hi, Bool.and_eq_true]
  constructor
  · rintro ⟨k, hk, h3, h4⟩
    rw [test_iff hi] at h4
    obtain ⟨rfl, h4⟩ := h4
    exact ⟨h4, h3⟩
  · rintro ⟨h3, h4⟩
    exact ⟨i, hi, h4, (test_iff hi).2 ⟨rfl, h3⟩⟩
theorem test_box {p q : Int} (hp : Cv p) (hq : Cv q) : boxR (dg (txt 4 (testR p))) q = bor (bandn 15 p) q := by
  have h1 := testR_Dg p
  rw [boxR_congr (dgt4 h1)]
  have hn := Cv.c15.andn hp
  refine ext_iff (box_cv _ _) (hn.or hq) fun i hi => ?_
  rw [box_iff h1 hq hi, Cv.has_or hn hq hi, Bool.or_eq_true, Cv.has_andn Cv.c15 hp hi, has15 hi, Bool.true_and, not_has]
  constructor
  · intro h
    cases e : hasb p i
    · exact .inl (by simp)
    · exact .inr (h i hi ((test_iff hi).2 ⟨rfl, e⟩))
  · rintro h k hk h3
    rw [test_iff hk] at h3
    obtain ⟨rfl, h3⟩ := h3
    exact h.elim (fun h => absurd h3 h) id
theorem test_dom {p : Int} (hp : Cv p) : dia (dg (txt 4 (testR p))) 15 = p := by
  have h1 := testR_Dg p
  rw [dia_congr (dgt4 h1)]
  refine ext_iff (dia_cv _ _) hp fun i hi => ?_
  rw [dia_iff h1 Cv.c15 hi]
  constructor
  · rintro ⟨k, hk, h3, _⟩
    rw [test_iff hk] at h3
    exact h3.2
  · intro h
    exact ⟨i, hi, (test_iff hi).2 ⟨rfl, h⟩, has15 hi⟩
/-! ### composition -/
theorem then_iff {x y : Nat → Int} (hy : Dg 4 y) {s t : Nat} (ht : t < 4) : hasb (thenR x y s) t = true ↔ ∃ k, k < 4 ∧ hasb (x s) k = true ∧ hasb (y k) t = true := by
  rw [then_img, hasb_img hy _ ht]
theorem turn_iff {x : Nat → Int} {s t : Nat} (ht : t < 4) : hasb (turn x s) t = true ↔ hasb (x t) s = true := by rw [hasb_turn x ht]
theorem then_assoc {x y z : Nat → Int} (hy : Dg 4 y) (hz : Dg 4 z) {s : Nat} (hs : s < 4) : thenR (thenR x y) z s = thenR x (thenR y z) s := by
  refine ext_iff (thenR_Dg _ hz s hs) (thenR_Dg _ (thenR_Dg _ hz) s hs) fun i hi => ?_
  rw [then_iff hz hi, then_iff (thenR_Dg _ hz) hi]
  constructor
  · rintro ⟨k, hk, h1, h2⟩
    obtain ⟨j, hj, h3, h4⟩ := (then_iff hy hk).1 h1
    exact ⟨j, hj, h3, (then_iff hz hi).2 ⟨k, hk, h4, h2⟩⟩
  · rintro ⟨j, hj, h3, h5⟩
    obtain ⟨k, hk, h4, h2⟩ := (then_iff hz hi).1 h5
    exact ⟨k, hk, (then_iff hy hk).2 ⟨j, hj, h3, h4⟩, h2⟩
theorem turn_then {x y : Nat → Int} (hx : Dg 4 x) (hy : Dg 4 y) {s : Nat} (hs : s < 4) : turn (thenR x y) s = thenR (turn y) (turn x) s := by
  refine ext_iff (turn_Dg _ s hs) (thenR_Dg _ (turn_Dg x) s hs) fun i hi => ?_
  rw [turn_iff hi, then_iff hy hs, then_iff (turn_Dg x) hi]
  constructor
  · rintro ⟨k, hk, h1, h2⟩; exact ⟨k, hk, (turn_iff hk).2 h2, (turn_iff hi).2 h1⟩
  · rintro ⟨k, hk, h1, h2⟩; exact ⟨k, hk, (turn_iff hi).1 h2, (turn_iff hk).1 h1⟩
theorem then_id {x : Nat → Int} (hx : Dg 4 x) {s : Nat} (hs : s < 4) : thenR x idR s = x s := by rw [then_img, img_id (hx s hs)]
theorem id_then {x : Nat → Int} (hx : Dg 4 x) {s : Nat} (hs : s < 4) : thenR idR x s = x s := by rw [then_img, img_one hx hs]
/-! ### closures -/
theorem clo_congr {x y : Nat → Int} (h : ∀ s, s < 4 → x s = y s) : ∀ s, s < 4 → clo x s = clo y s := fun s hs => pw_congr (fun s hs => by unfold withId; rw [h s hs]) 16 s hs
theorem clo_txt_twice {x : Nat → Int} (hx : Dg 4 x) : txt 4 (thenR (dg (txt 4 (clo x))) (dg (txt 4 (clo x)))) = txt 4 (clo x) := txt_congr fun s hs => by
  have h := dgt4 (clo_Dg hx)
  rw [thenR_congr h h s hs, clo_twice hx hs]
theorem clo_txt_again {x : Nat → Int} (hx : Dg 4 x) : txt 4 (clo (dg (txt 4 (clo x)))) = txt 4 (clo x) := txt_congr fun s hs => by
  rw [clo_congr (dgt4 (clo_Dg hx)) s hs, clo_again hx hs]
theorem stp_txt {x : Nat → Int} (hx : Dg 4 x) (n : Nat) : txt 4 (fun s => bor (dg (txt 4 idR) s) (dg (txt 4 (thenR (dg (txt 4 (stp x n))) x)) s)) = txt 4 (stp x (n + 1)) := txt_congr fun s hs => by
  rw [dgt4 idR_Dg s hs, dgt4 (thenR_Dg _ hx) s hs, thenR_congr (dgt4 (stp_Dg hx n)) (fun _ _ => rfl) s hs]
  rfl
theorem clo_sub {x : Nat → Int} (hx : Dg 4 x) : subB x (dg (txt 4 (clo x))) = true := subB_iff.2 fun k hk => by
  rw [dgt4 (clo_Dg hx) k hk]; exact clo_in hx hk
theorem clo_steps {x : Nat → Int} (hx : Dg 4 x) : txt 4 (clo x) = txt 4 (stp x 4) := txt_congr fun s hs => clo_stp hx hs
/-! ### images compose -/
theorem ic_img {x y : Nat → Int} (hx : Dg 4 x) (hy : Dg 4 y) {p : Int} (hp : Cv p) : dia (turn (dg (txt 4 (thenR x y)))) p = dia (turn y) (dia (turn x) p) := by
  have h := thenR_Dg x hy
  rw [dia_congr (fun s _ => turn_congr (dgt4 h) s), img_eq h hp, img_eq hx hp, img_eq hy (img_cv hx p), img_then hx hy]
theorem ic_dia {x y : Nat → Int} (hx : Dg 4 x) (hy : Dg 4 y) {p : Int} (hp : Cv p) : dia (dg (txt 4 (thenR x y))) p = dia x (dia y p) := by
  have h := thenR_Dg x hy
  rw [dia_congr (dgt4 h)]
  refine ext_iff (dia_cv _ _) (dia_cv _ _) fun i hi => ?_
  rw [dia_iff h hp hi, dia_iff hx (dia_cv _ _) hi]
  constructor
  · rintro ⟨k, hk, h1, h2⟩
    obtain ⟨j, hj, h3, h4⟩ := (then_iff hy hk).1 h1
    exact ⟨j, hj, h3, (dia_iff hy hp hj).2 ⟨k, hk, h4, h2⟩⟩
  · rintro ⟨j, hj, h3, h5⟩
    obtain ⟨k, hk, h4, h2⟩ := (dia_iff hy hp hj).1 h5
    exact ⟨k, hk, (then_iff hy hk).2 ⟨j, hj, h3, h4⟩, h2⟩
theorem ic_box {x y : Nat → Int} (hx : Dg 4 x) (hy : Dg 4 y) {p : Int} (hp : Cv p) : boxR (dg (txt 4 (thenR x y))) p = boxR x (boxR y p) := by
  have h := thenR_Dg x hy
  rw [boxR_congr (dgt4 h)]
  refine ext_iff (box_cv _ _) (box_cv _ _) fun i hi => ?_
  rw [box_iff h hp hi, box_iff hx (box_cv _ _) hi]
  constructor
  · intro h1 j hj h3
    exact (box_iff hy hp hj).2 fun k hk h4 => h1 k hk ((then_iff hy hk).2 ⟨j, hj, h3, h4⟩)
  · intro h1 k hk h2
    obtain ⟨j, hj, h3, h4⟩ := (then_iff hy hk).1 h2
    exact (box_iff hy hp hj).1 (h1 j hj h3) k hk h4
def orR (x y : Nat → Int) : Nat → Int := fun s => bor (x s) (y s)
def andR (x y : Nat → Int) : Nat → Int := fun s => band (x s) (y s)
theorem orR_Dg {x y : Nat → Int} (hx : Dg 4 x) (hy : Dg 4 y) : Dg 4 (orR x y) := fun s hs => bor_rng (hx s hs).1 (hx s hs).2 (hy s hs).1 (hy s hs).2
theorem andR_Dg {x y : Nat → Int} (hx : Dg 4 x) (hy : Dg 4 y) : Dg 4 (andR x y) := fun s hs => band_rng (hx s hs).1 (hx s hs).2 (hy s hs).1 (hy s hs).2
theorem or_iff {x y : Nat → Int} (hx : Dg 4 x) (hy : Dg 4 y) {s t : Nat} (hs : s < 4) (ht : t < 4) : hasb (orR x y s) t = true ↔ hasb (x s) t = true ∨ hasb (y s) t = true := by
  unfold orR; rw [Cv.has_or (hx s hs) (hy s hs) ht, Bool.or_eq_true]
theorem and_iff {x y : Nat → Int} (hx : Dg 4 x) (hy : Dg 4 y) {s t : Nat} (hs : s < 4) (ht : t < 4) : hasb (andR x y s) t = true ↔ hasb (x s) t = true ∧ hasb (y s) t = true := by
  unfold andR; rw [Cv.has_and (hx s hs) (hy s hs) ht, Bool.and_eq_true]
theorem ic_boxor {x y : Nat → Int} (hx : Dg 4 x) (hy : Dg 4 y) {p : Int} (hp : Cv p) : boxR (dg (txt 4 (orR x y))) p = band (boxR x p) (boxR y p) := by
  have h := orR_Dg hx hy
  rw [boxR_congr (dgt4 h)]
  refine ext_iff (box_cv _ _) (Cv.and (box_cv _ _) (box_cv _ _)) fun i hi => ?_
  rw [box_iff h hp hi, Cv.has_and (box_cv _ _) (box_cv _ _) hi, Bool.and_eq_true, box_iff hx hp hi, box_iff hy hp hi]
  constructor
  · intro h1; exact ⟨fun k hk h2 => h1 k hk ((or_iff hx hy hi hk).2 (.inl h2)), fun k hk h2 => h1 k hk ((or_iff hx hy hi hk).2 (.inr h2))⟩
  · rintro ⟨h1, h2⟩ k hk h3
    exact ((or_iff hx hy hi hk).1 h3).elim (h1 k hk) (h2 k hk)
theorem ic_diaor {x y : Nat → Int} (hx : Dg 4 x) (hy : Dg 4 y) {p : Int} (hp : Cv p) : dia (dg (txt 4 (orR x y))) p = bor (dia x p) (dia y p) := by
  have h := orR_Dg hx hy
  rw [dia_congr (dgt4 h)]
  refine ext_iff (dia_cv _ _) (Cv.or (dia_cv _ _) (dia_cv _ _)) fun i hi => ?_
  rw [dia_iff h hp hi, Cv.has_or (dia_cv _ _) (dia_cv _ _) hi, Bool.or_eq_true, dia_iff hx hp hi, dia_iff hy hp hi]
  constructor
  · rintro ⟨k, hk, h1, h2⟩
    exact ((or_iff hx hy hi hk).1 h1).imp (fun h => ⟨k, hk, h, h2⟩) (fun h => ⟨k, hk, h, h2⟩)
  · rintro (⟨k, hk, h1, h2⟩ | ⟨k, hk, h1, h2⟩)
    · exact ⟨k, hk, (or_iff hx hy hi hk).2 (.inl h1), h2⟩
    · exact ⟨k, hk, (or_iff hx hy hi hk).2 (.inr h1), h2⟩
/-- The program's values of the union and of what both have. -/
theorem impl_or (r q : ByteArray) (h1 : dvB 4 r = true) (h2 : dvB 4 q = true) : txt 4 (fun s => mk 4 fun t => hasb (dg r s) t || hasb (dg q s) t) = txt 4 (orR (dg r) (dg q)) := txt_congr fun s hs =>
  or_mk (dvB_Dg h1 s hs).1 (dvB_Dg h1 s hs).2 (dvB_Dg h2 s hs).1 (dvB_Dg h2 s hs).2
theorem impl_and (r q : ByteArray) (h1 : dvB 4 r = true) (h2 : dvB 4 q = true) : txt 4 (fun s => mk 4 fun t => hasb (dg r s) t && hasb (dg q s) t) = txt 4 (andR (dg r) (dg q)) := txt_congr fun s hs =>
  and_mk (dvB_Dg h1 s hs).1 (dvB_Dg h1 s hs).2 (dvB_Dg h2 s hs).1 (dvB_Dg h2 s hs).2
end Go.DC
