/-
  Plain definitions and laws: contracts as trees, their texts, and how they are read. No program in sight.
-/
import Derived.Test.YtmajmkggbgilbaaPL
namespace Go.DC
open Go.RowKit
set_option linter.unusedVariables false
set_option linter.unusedSimpArgs false

/-- How many parts and how many digits a letter has. -/
def shp (o : UInt8) : Option (Nat × Nat) :=
  if o = 115 then some (0, 0) else if o = 97 then some (0, 0) else if o = 109 then some (0, 0)
  else if o = 33 then some (0, 1) else if o = 63 then some (0, 1)
  else if o = 65 then some (0, 4) else if o = 68 then some (0, 4)
  else if o = 59 then some (2, 0) else if o = 38 then some (2, 0) else if o = 124 then some (2, 0)
  else if o = 105 then some (2, 1) else if o = 119 then some (1, 1)
  else if o = 42 then some (1, 0) else if o = 43 then some (1, 0) else none
/-- A contract: a letter, its digits and its parts. -/
inductive Ct where
  | z (o : UInt8) (ds : List UInt8) : Ct
  | u (o : UInt8) (ds : List UInt8) (x : Ct) : Ct
  | b (o : UInt8) (ds : List UInt8) (x y : Ct) : Ct
/-- All are digits. -/
def hxs (l : List UInt8) : Bool := l.all fun b => decide (0 ≤ hx b)
namespace Ct
def o : Ct → UInt8
  | z o _ => o
  | u o _ _ => o
  | b o _ _ _ => o
def ds : Ct → List UInt8
  | z _ d => d
  | u _ d _ => d
  | b _ d _ _ => d
def kids : Ct → List Ct
  | z _ _ => []
  | u _ _ x => [x]
  | b _ _ x y => [x, y]
/-- The text. -/
def tx : Ct → List UInt8
  | z o d => o :: d
  | u o d x => o :: (d ++ x.tx)
  | b o d x y => o :: (d ++ (x.tx ++ y.tx))
/-- The letters have the parts and the digits that they should have. -/
def wf : Ct → Bool
  | z o d => shp o == some (0, d.length) && hxs d
  | u o d x => shp o == some (1, d.length) && hxs d && x.wf
  | b o d x y => shp o == some (2, d.length) && hxs d && x.wf && y.wf
theorem tx_pos (t : Ct) : 1 ≤ t.tx.length := by cases t <;> simp [tx]
theorem wf_z {o : UInt8} {d : List UInt8} (h : (z o d).wf = true) : shp o = some (0, d.length) ∧ hxs d = true := by
  simpa [wf] using h
theorem wf_u {o : UInt8} {d : List UInt8} {x : Ct} (h : (u o d x).wf = true) : shp o = some (1, d.length) ∧ hxs d = true ∧ x.wf = true := by
  simp [wf] at h; exact ⟨h.1.1, h.1.2, h.2⟩
theorem wf_b {o : UInt8} {d : List UInt8} {x y : Ct} (h : (b o d x y).wf = true) : shp o = some (2, d.length) ∧ hxs d = true ∧ x.wf = true ∧ y.wf = true := by
  simp [wf] at h; exact ⟨h.1.1.1, h.1.1.2, h.1.2, h.2⟩
end Ct
/-- A contract is read from the head of a list on; what is behind it is left. -/
def prs : Nat → List UInt8 → Option (Ct × List UInt8)
  | 0, _ => none
  | _ + 1, [] => none
  | f + 1, o :: l => match shp o with
    | none => none
    | some (k, d) =>
      if d ≤ l.length ∧ hxs (l.take d) = true then
        match k with
        | 0 => some (.z o (l.take d), l.drop d)
        | 1 => match prs f (l.drop d) with
          | none => none
          | some (x, l1) => some (.u o (l.take d) x, l1)
        | _ => match prs f (l.drop d) with
          | none => none
          | some (x, l1) => match prs f l1 with
            | none => none
            | some (y, l2) => some (.b o (l.take d) x y, l2)
      else none
theorem shp_k {o : UInt8} {k d : Nat} (h : shp o = some (k, d)) : (k = 0 ∨ k = 1 ∨ k = 2) ∧ d ≤ 4 := by
  have h8 : ∀ n : Fin 256, ∀ q ∈ shp (UInt8.ofNat n.val), (q.1 = 0 ∨ q.1 = 1 ∨ q.1 = 2) ∧ q.2 ≤ 4 := by decide +kernel
  have := h8 ⟨o.toNat, o.toNat_lt⟩ (k, d)
  simp at this
  exact this h
theorem prs_some : ∀ (f : Nat) {l r : List UInt8} {t : Ct}, prs f l = some (t, r) → l = t.tx ++ r ∧ t.wf = true
  | 0, _, _, _, h => by simp [prs] at h
  | f + 1, [], _, _, h => by simp [prs] at h
  | f + 1, o :: l, r, t, h => by
    unfold prs at h
    cases hs : shp o with
    | none => simp [hs] at h
    | some kd =>
      obtain ⟨k, d⟩ := kd
      have hk := (shp_k hs).1
      simp only [hs] at h
      split at h
      · rename_i hd
        obtain ⟨hd1, hd2⟩ := hd
        have hlen : (l.take d).length = d := by simp; omega
        rcases hk with rfl | rfl | rfl
        · simp only [Option.some.injEq, Prod.mk.injEq] at h
          obtain ⟨rfl, rfl⟩ := h
          refine ⟨by simp [Ct.tx], ?_⟩
          simp only [Ct.wf, hs, hd2, hlen]; simp
        · cases hx : prs f (l.drop d) with
          | none => simp [hx] at h
          | some xl =>
            obtain ⟨x, l1⟩ := xl
            have ih := prs_some f hx
            simp only [hx, Option.some.injEq, Prod.mk.injEq] at h
            obtain ⟨rfl, rfl⟩ := h
            refine ⟨?_, ?_⟩
            · have e := List.take_append_drop d l
              rw [ih.1] at e
              simp only [Ct.tx, List.cons_append, List.append_assoc]
              rw [e]
            · simp only [Ct.wf, hs, hd2, hlen, ih.2]; simp
        · cases hx : prs f (l.drop d) with
          | none => simp [hx] at h
          | some xl =>
            obtain ⟨x, l1⟩ := xl
            have ih := prs_some f hx
            simp only [hx] at h
            cases hy : prs f l1 with
            | none => simp [hy] at h
            | some yl =>
              obtain ⟨y, l2⟩ := yl
              have ih2 := prs_some f hy
              simp only [hy, Option.some.injEq, Prod.mk.injEq] at h
              obtain ⟨rfl, rfl⟩ := h
              refine ⟨?_, ?_⟩
              · have e := List.take_append_drop d l
                rw [ih.1, ih2.1] at e
                simp only [Ct.tx, List.cons_append, List.append_assoc]
                rw [e]
              · simp only [Ct.wf, hs, hd2, hlen, ih.2, ih2.2]; simp
      · simp at h
theorem prs_tx : ∀ (f : Nat) {t : Ct} (r : List UInt8), t.wf = true → t.tx.length ≤ f → prs f (t.tx ++ r) = some (t, r)
  | 0, t, _, _, h => by have := t.tx_pos; omega
  | f + 1, .z o d, r, h, hf => by
    obtain ⟨hs, hd⟩ := Ct.wf_z h
    unfold prs
    simp [Ct.tx, hs, hd]
  | f + 1, .u o d x, r, h, hf => by
    obtain ⟨hs, hd, hx⟩ := Ct.wf_u h
    have ih := prs_tx f r hx (by simp [Ct.tx] at hf; omega)
    unfold prs
    simp [Ct.tx, hs, hd, ih]
  | f + 1, .b o d x y, r, h, hf => by
    obtain ⟨hs, hd, hx, hy⟩ := Ct.wf_b h
    have ih := prs_tx f (y.tx ++ r) hx (by simp [Ct.tx] at hf; omega)
    have ih2 := prs_tx f r hy (by simp [Ct.tx] at hf; omega)
    unfold prs
    simp [Ct.tx, hs, hd, ih, ih2]
/-- What is read from the head of a list on. -/
def pr (l : List UInt8) : Option (Ct × List UInt8) := prs l.length l
theorem prs_pr {f : Nat} {l : List UInt8} (h : l.length ≤ f) : prs f l = pr l := by
  unfold pr
  cases h1 : prs l.length l with
  | some tr =>
    obtain ⟨t, r⟩ := tr
    have h2 := prs_some _ h1
    conv => lhs; rw [h2.1]
    exact prs_tx f r h2.2 (by have := congrArg List.length h2.1; simp at this; omega)
  | none =>
    cases h3 : prs f l with
    | none => rfl
    | some tr =>
      obtain ⟨t, r⟩ := tr
      have h2 := prs_some _ h3
      have h4 := prs_tx l.length r h2.2 (by have := congrArg List.length h2.1; simp at this; omega)
      rw [← h2.1, h1] at h4
      exact absurd h4 (by simp)
theorem pr_some {l r : List UInt8} {t : Ct} (h : pr l = some (t, r)) : l = t.tx ++ r ∧ t.wf = true := prs_some _ h
theorem pr_tx {t : Ct} (r : List UInt8) (h : t.wf = true) : pr (t.tx ++ r) = some (t, r) := prs_tx _ r h (by simp)
theorem pr_nil : pr [] = none := rfl
/-- The reader's step. -/
theorem pr_cons (o : UInt8) (l : List UInt8) : pr (o :: l) = match shp o with
    | none => none
    | some (k, d) =>
      if d ≤ l.length ∧ hxs (l.take d) = true then
        match k with
        | 0 => some (.z o (l.take d), l.drop d)
        | 1 => match pr (l.drop d) with
          | none => none
          | some (x, l1) => some (.u o (l.take d) x, l1)
        | _ => match pr (l.drop d) with
          | none => none
          | some (x, l1) => match pr l1 with
            | none => none
            | some (y, l2) => some (.b o (l.take d) x y, l2)
      else none := by
  show prs (l.length + 1) (o :: l) = _
  unfold prs
  have hdrop : ∀ d, prs l.length (l.drop d) = pr (l.drop d) := fun d => prs_pr (by simp)
  cases hs : shp o with
  | none => rfl
  | some kd =>
    obtain ⟨k, d⟩ := kd
    simp only []
    split
    · rename_i hd
      rcases (shp_k hs).1 with rfl | rfl | rfl
      · rfl
      · simp only [hdrop]
      · simp only [hdrop]
        cases hx : pr (l.drop d) with
        | none => rfl
        | some xl =>
          obtain ⟨x, l1⟩ := xl
          have := pr_some hx
          have hl : prs l.length l1 = pr l1 := prs_pr (by have e := congrArg List.length this.1; simp at e; omega)
          simp only [hl]
    · rfl
/-- The contract that a text is. -/
def cto (c : ByteArray) : Option Ct := if c.size ≤ 200 then
    match pr c.data.toList with
    | some (t, []) => some t
    | _ => none
  else none
/-- The text of a contract, as bytes. -/
def Ct.bytes (t : Ct) : ByteArray := ⟨t.tx.toArray⟩
theorem Ct.bytes_list (t : Ct) : t.bytes.data.toList = t.tx := by simp [Ct.bytes]
theorem Ct.bytes_size (t : Ct) : t.bytes.size = t.tx.length := by
  show t.tx.toArray.size = _
  simp
theorem bytes_of_list {c : ByteArray} {t : Ct} (h : c.data.toList = t.tx) : c = t.bytes := by
  have : c.data = t.tx.toArray := by rw [← h]
  show c = ⟨t.tx.toArray⟩
  rw [← this]
theorem cto_some {c : ByteArray} {t : Ct} : cto c = some t ↔ c = t.bytes ∧ t.wf = true ∧ t.tx.length ≤ 200 := by
  unfold cto
  have hsz : c.size = c.data.toList.length := rfl
  constructor
  · intro h
    split at h
    · rename_i hle
      cases hp : pr c.data.toList with
      | none => simp [hp] at h
      | some tr =>
        obtain ⟨t', r⟩ := tr
        cases r with
        | cons a r => simp [hp] at h
        | nil =>
          simp only [hp, Option.some.injEq] at h
          subst h
          have h2 := pr_some hp
          rw [List.append_nil] at h2
          exact ⟨bytes_of_list h2.1, h2.2, by rw [← h2.1]; exact hle⟩
    · simp at h
  · rintro ⟨rfl, hw, hl⟩
    rw [if_pos (by rw [Ct.bytes_size]; exact hl), Ct.bytes_list]
    have := pr_tx [] hw
    rw [List.append_nil] at this
    rw [this]
theorem cto_bytes {t : Ct} (hw : t.wf = true) (hl : t.tx.length ≤ 200) : cto t.bytes = some t := cto_some.2 ⟨rfl, hw, hl⟩
end Go.DC
