/-
  Plain laws: where contracts end. No program in sight.
-/
import Derived.Test.YtmajmkggbgilbaaHin
namespace Go.DC
open Go.RowKit
set_option linter.unusedVariables false
set_option linter.unusedSimpArgs false
/-- Where the contract ends that begins at p, or -1. -/
def pe (c : ByteArray) (p : Int) : Int := if p < 0 then -1 else
  match pr (c.data.toList.drop p.toNat) with
  | none => -1
  | some (t, _) => p + t.tx.length
/-- Where d digits end that begin at q, or -1. -/
def sk (c : ByteArray) (q d : Nat) : Int := if q + d ≤ c.size ∧ hxs ((c.data.toList.drop q).take d) = true then (q : Int) + d else -1
theorem pe_neg (c : ByteArray) : pe c (-1) = -1 := rfl
theorem pe_nat (c : ByteArray) (p : Nat) : pe c p = match pr (c.data.toList.drop p) with
  | none => -1
  | some (t, _) => (p : Int) + t.tx.length := by
  unfold pe
  rw [if_neg (by omega)]
  simp
theorem pe_rng {c : ByteArray} {p : Nat} (hp : p ≤ c.size) : pe c p = -1 ∨ ((p : Int) < pe c p ∧ pe c p ≤ c.size) := by
  rw [pe_nat]
  cases h : pr (c.data.toList.drop p) with
  | none => exact .inl rfl
  | some q =>
    obtain ⟨t, r⟩ := q
    have h2 := pr_some h
    have h3 := (drop_app h2.1 t.tx_pos).2
    have h4 := t.tx_pos
    have hsz : c.data.toList.length = c.size := rfl
    refine .inr ⟨?_, ?_⟩
    · show (p : Int) < p + t.tx.length; omega
    · show (p : Int) + t.tx.length ≤ c.size; omega
theorem pe_out {c : ByteArray} {p : Nat} (hp : c.size ≤ p) : pe c p = -1 := by
  rw [pe_nat, List.drop_eq_nil_of_le (show c.data.toList.length ≤ p from hp)]; rfl
theorem sk_zero {c : ByteArray} {q : Nat} (hq : q ≤ c.size) : sk c q 0 = q := by
  unfold sk; rw [if_pos ⟨by omega, rfl⟩]; simp
theorem sk_rng (c : ByteArray) (q d : Nat) : sk c q d = -1 ∨ (sk c q d = ((q + d : Nat) : Int) ∧ q + d ≤ c.size) := by
  unfold sk
  split
  · rename_i h; exact .inr ⟨by simp, h.1⟩
  · exact .inl rfl
theorem dvB_hxs {t : ByteArray} {d : Nat} (h : t.size = d) : dvB d t = hxs t.data.toList := by
  rw [Bool.eq_iff_iff, dvB_iff]
  have hl : t.data.toList.length = d := h
  constructor
  · rintro ⟨_, h2⟩
    unfold hxs
    rw [List.all_eq_true]
    intro b hb
    obtain ⟨i, hi, rfl⟩ := List.getElem_of_mem hb
    have := h2 i (by omega)
    unfold dg at this
    rw [List.getD, List.getElem?_eq_getElem hi] at this
    simpa using this
  · intro h2
    refine ⟨h, fun i hi => ?_⟩
    unfold dg
    rw [List.getD, List.getElem?_eq_getElem (by omega)]
    exact (hxs_mem h2 (List.getElem_mem _)).1
theorem dvB_sub {c : ByteArray} {q d : Nat} (h : q + d ≤ c.size) : dvB d (c.extract q (q + d)) = hxs ((c.data.toList.drop q).take d) := by
  rw [dvB_hxs (by rw [ByteArray.size_extract]; omega), extract_list, Nat.add_sub_cancel_left]
section
variable {c : ByteArray} {p : Nat} (hp : p < c.size)
include hp
theorem pe_none (hs : shp c[p] = none) : pe c p = -1 := by
  rw [pe_nat, drop_at hp, pr_noshape _ _ hs]
theorem pe_parts {k d : Nat} (hs : shp c[p] = some (k, d)) : pe c p = if p + 1 + d ≤ c.size ∧ hxs ((c.data.toList.drop (p + 1)).take d) = true then
    match prk k (c.data.toList.drop (p + 1 + d)) with
    | none => -1
    | some (ts, r) => (c.size : Int) - r.length
  else -1 := by
  have hsz : c.data.toList.length = c.size := rfl
  rw [pe_nat, drop_at hp]
  by_cases h : p + 1 + d ≤ c.size ∧ hxs ((c.data.toList.drop (p + 1)).take d) = true
  · rw [if_pos h, pr_parts _ _ hs (by simp; omega) h.2, List.drop_drop]
    cases hk : prk k (c.data.toList.drop (p + 1 + d)) with
    | none => rfl
    | some q =>
      obtain ⟨ts, r⟩ := q
      have e : pr (c.data.toList.drop p) = some (mkC c[p] ((c.data.toList.drop (p + 1)).take d) ts, r) := by
        rw [drop_at hp, pr_parts _ _ hs (by simp; omega) h.2, List.drop_drop, hk]; rfl
      have e2 := congrArg List.length (pr_some e).1
      simp only [List.length_drop, List.length_append, hsz] at e2
      show (p : Int) + (mkC c[p] ((c.data.toList.drop (p + 1)).take d) ts).tx.length = (c.size : Int) - r.length
      omega
  · rw [if_neg h, pr_short _ _ hs (by simp only [List.length_drop, hsz]; intro h2; exact h ⟨by omega, h2.2⟩)]
omit hp in
theorem pe_list (q : Nat) (hq : q ≤ c.size) : pe c q = match pr (c.data.toList.drop q) with
    | none => -1
    | some (t, r) => (c.size : Int) - r.length := by
  have hsz : c.data.toList.length = c.size := rfl
  rw [pe_nat]
  cases h : pr (c.data.toList.drop q) with
  | none => rfl
  | some x =>
    obtain ⟨t, r⟩ := x
    have e2 := congrArg List.length (pr_some h).1
    simp only [List.length_drop, List.length_append, hsz] at e2
    show (q : Int) + t.tx.length = (c.size : Int) - r.length
    omega
omit hp in
theorem pe_at {q : Nat} {t : Ct} {r : List UInt8} (hq : q ≤ c.size) (h : pr (c.data.toList.drop q) = some (t, r)) : pe c q = ((c.size - r.length : Nat) : Int) ∧ r = c.data.toList.drop (c.size - r.length) ∧ c.size - r.length ≤ c.size := by
  have hsz : c.data.toList.length = c.size := rfl
  have h2 := pr_some h
  have h3 := drop_app h2.1 t.tx_pos
  have e2 := congrArg List.length h2.1
  simp only [List.length_drop, List.length_append, hsz] at e2
  have hr : c.size - r.length = q + t.tx.length := by have := h3.2; omega
  refine ⟨?_, ?_, by omega⟩
  · rw [pe_list q hq, h]; show (c.size : Int) - r.length = _; omega
  · rw [hr]; exact h3.1
theorem pe_step0 {d : Nat} (hs : shp c[p] = some (0, d)) : pe c p = sk c (p + 1) d := by
  rw [pe_parts hp hs]
  unfold sk
  split
  · rename_i h
    have hsz : c.data.toList.length = c.size := rfl
    have hl : (c.data.toList.drop (p + 1 + d)).length = c.size - (p + 1 + d) := by rw [List.length_drop, hsz]
    show (c.size : Int) - ((c.data.toList.drop (p + 1 + d)).length : Int) = ((p + 1 : Nat) : Int) + d
    rw [hl]
    have := h.1
    omega
  · rfl
theorem pe_step1 {d : Nat} (hs : shp c[p] = some (1, d)) : pe c p = pe c (sk c (p + 1) d) := by
  rw [pe_parts hp hs]
  unfold sk
  split
  · rename_i h
    have e : ((p + 1 : Nat) : Int) + (d : Int) = ((p + 1 + d : Nat) : Int) := by simp
    rw [e]
    cases hx : pr (c.data.toList.drop (p + 1 + d)) with
    | none => rw [pe_list _ h.1, hx]; simp [prk, hx]
    | some q =>
      obtain ⟨x, r⟩ := q
      rw [pe_list _ h.1, hx]
      simp [prk, hx]
  · rfl
theorem pe_step2 {d : Nat} (hs : shp c[p] = some (2, d)) : pe c p = pe c (pe c (sk c (p + 1) d)) := by
  rw [pe_parts hp hs]
  unfold sk
  split
  · rename_i h
    have e : ((p + 1 : Nat) : Int) + (d : Int) = ((p + 1 + d : Nat) : Int) := by simp
    rw [e]
    cases hx : pr (c.data.toList.drop (p + 1 + d)) with
    | none => rw [pe_list _ h.1, hx]; simp [prk, hx]; rfl
    | some q =>
      obtain ⟨x, r⟩ := q
      have h2 := pe_at h.1 hx
      rw [h2.1]
      cases hy : pr r with
      | none =>
        have hy' := hy
        rw [h2.2.1] at hy'
        rw [pe_list _ h2.2.2, hy']
        simp [prk, hx, hy]
      | some q2 =>
        obtain ⟨y, r2⟩ := q2
        have hy' := hy
        rw [h2.2.1] at hy'
        rw [pe_list _ h2.2.2, hy']
        simp [prk, hx, hy]
  · rfl
end
/-- A text is a contract exactly if the contract that begins at its head ends at its end. -/
theorem pe_valid (c : ByteArray) : (decide (c.size ≤ 200) && (pe c 0 == (c.size : Int))) = (cto c).isSome := by
  unfold cto
  by_cases hc : c.size ≤ 200
  · rw [if_pos hc, decide_eq_true hc, Bool.true_and]
    have h0 : pe c 0 = pe c ((0 : Nat) : Int) := rfl
    rw [h0, pe_list 0 (Nat.zero_le _), List.drop_zero]
    cases h : pr c.data.toList with
    | none =>
      show ((-1 : Int) == c.size) = false
      rw [beq_eq_false_iff_ne]; omega
    | some q =>
      obtain ⟨t, r⟩ := q
      have hsz : c.data.toList.length = c.size := rfl
      have e2 := congrArg List.length (pr_some h).1
      simp only [List.length_append, hsz] at e2
      show ((c.size : Int) - r.length == c.size) = _
      cases r with
      | nil => simp
      | cons a r =>
        show _ = false
        rw [beq_eq_false_iff_ne]
        simp only [List.length_cons]; omega
  · rw [if_neg hc, decide_eq_false hc]; rfl
end Go.DC
