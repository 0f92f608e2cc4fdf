/-
  Plain definitions and laws: how a contract is shown. No program in sight.
-/
import Derived.Test.YtmajmkggbgilbaaPu
namespace Go.DC
open Go.RowKit
set_option linter.unusedVariables false
set_option linter.unusedSimpArgs false
/-- The first n states of a condition, as digits. -/
def fmtF (p : Int) : Nat → List UInt8
  | 0 => []
  | n + 1 => if hasb p n then fmtF p n ++ [dgb n] else fmtF p n
/-- A condition's text. -/
def fmt (p : Int) : List UInt8 := if fmtF p 4 = [] then [45] else fmtF p 4
theorem fmtF_len (p : Int) : ∀ n, (fmtF p n).length ≤ n
  | 0 => by simp [fmtF]
  | n + 1 => by have := fmtF_len p n; unfold fmtF; split <;> simp <;> omega
theorem fmt_len (p : Int) : (fmt p).length ≤ 4 := by
  unfold fmt
  split
  · decide
  · exact fmtF_len p 4
theorem fmt_pos (p : Int) : fmt p ≠ [] := by
  unfold fmt
  split
  · decide
  · assumption
/-- The text of a condition, nothing for what is none. -/
def fmtC (p : Int) : ByteArray := if cv p then bts (fmt p) else ByteArray.empty
/-- How a contract is shown. -/
def sh : Ct → List UInt8
  | .z o d => if o = 115 then [115, 107, 105, 112] else if o = 97 then [97, 98, 111, 114, 116] else if o = 109 then [109, 97, 103, 105, 99] else if o = 33 then [123] ++ fmt (pv d) ++ [125]
      else if o = 63 then [91] ++ fmt (pv d) ++ [93] else if o = 65 then [97, 110, 103, 101, 108, 32] ++ d else [100, 101, 109, 111, 110, 32] ++ d
  | .u o d x => if o = 119 then [119, 104, 105, 108, 101, 32] ++ fmt (pv d) ++ [32, 40] ++ sh x ++ [41] else if o = 42 then [97, 115, 32, 111, 102, 116, 101, 110, 32, 97, 115, 32, 116, 104, 101, 32, 100, 101, 109, 111, 110, 32, 119, 97, 110, 116, 115, 32, 40] ++ sh x ++ [41] else [97, 115, 32, 111, 102, 116, 101, 110, 32, 97, 115, 32, 116, 104, 101, 32, 97, 110, 103, 101, 108, 32, 119, 97, 110, 116, 115, 32, 40] ++ sh x ++ [41]
  | .b o d x y => if o = 59 then sh x ++ [59, 32] ++ sh y else if o = 38 then [40] ++ (sh x ++ [32, 111, 114, 32, 98, 121, 32, 116, 104, 101, 32, 100, 101, 109, 111, 110, 32] ++ sh y) ++ [41] else if o = 124 then [40] ++ (sh x ++ [32, 111, 114, 32, 98, 121, 32, 116, 104, 101, 32, 97, 110, 103, 101, 108, 32] ++ sh y) ++ [41]
      else [105, 102, 32] ++ fmt (pv d) ++ [32, 40] ++ sh x ++ [41, 32, 101, 108, 115, 101, 32, 40] ++ sh y ++ [41]
theorem sh_s (d) : sh (.z 115 d) = [115, 107, 105, 112] := rfl
theorem sh_a (d) : sh (.z 97 d) = [97, 98, 111, 114, 116] := rfl
theorem sh_m (d) : sh (.z 109 d) = [109, 97, 103, 105, 99] := rfl
theorem sh_assert (d) : sh (.z 33 d) = [123] ++ fmt (pv d) ++ [125] := rfl
theorem sh_assume (d) : sh (.z 63 d) = [91] ++ fmt (pv d) ++ [93] := rfl
theorem sh_angel (d) : sh (.z 65 d) = [97, 110, 103, 101, 108, 32] ++ d := rfl
theorem sh_demon (d) : sh (.z 68 d) = [100, 101, 109, 111, 110, 32] ++ d := rfl
theorem sh_while (d) (x : Ct) : sh (.u 119 d x) = [119, 104, 105, 108, 101, 32] ++ fmt (pv d) ++ [32, 40] ++ sh x ++ [41] := rfl
theorem sh_starD (d) (x : Ct) : sh (.u 42 d x) = [97, 115, 32, 111, 102, 116, 101, 110, 32, 97, 115, 32, 116, 104, 101, 32, 100, 101, 109, 111, 110, 32, 119, 97, 110, 116, 115, 32, 40] ++ sh x ++ [41] := rfl
theorem sh_starA (d) (x : Ct) : sh (.u 43 d x) = [97, 115, 32, 111, 102, 116, 101, 110, 32, 97, 115, 32, 116, 104, 101, 32, 97, 110, 103, 101, 108, 32, 119, 97, 110, 116, 115, 32, 40] ++ sh x ++ [41] := rfl
theorem sh_then (d) (x y : Ct) : sh (.b 59 d x y) = sh x ++ [59, 32] ++ sh y := rfl
theorem sh_meet (d) (x y : Ct) : sh (.b 38 d x y) = [40] ++ (sh x ++ [32, 111, 114, 32, 98, 121, 32, 116, 104, 101, 32, 100, 101, 109, 111, 110, 32] ++ sh y) ++ [41] := rfl
theorem sh_join (d) (x y : Ct) : sh (.b 124 d x y) = [40] ++ (sh x ++ [32, 111, 114, 32, 98, 121, 32, 116, 104, 101, 32, 97, 110, 103, 101, 108, 32] ++ sh y) ++ [41] := rfl
theorem sh_if (d) (x y : Ct) : sh (.b 105 d x y) = [105, 102, 32] ++ fmt (pv d) ++ [32, 40] ++ sh x ++ [41, 32, 101, 108, 115, 101, 32, 40] ++ sh y ++ [41] := rfl
theorem sh_len : ∀ {t : Ct}, t.wf = true → (sh t).length ≤ 40 * t.tx.length
  | .z o d, h => by
    obtain ⟨hs, hd⟩ := Ct.wf_z h
    have hf := fmt_len (pv d)
    rcases shp0 hs with ⟨rfl, hl⟩ | ⟨rfl, hl⟩ | ⟨rfl, hl⟩ | ⟨rfl, hl⟩ | ⟨rfl, hl⟩ | ⟨rfl, hl⟩ | ⟨rfl, hl⟩ <;> simp [sh, Ct.tx] <;> omega
  | .u o d x, h => by
    obtain ⟨hs, hd, hx⟩ := Ct.wf_u h
    have hf := fmt_len (pv d)
    have ih := sh_len hx
    rcases shp1 hs with ⟨rfl, hl⟩ | ⟨rfl, hl⟩ | ⟨rfl, hl⟩ <;> simp [sh, Ct.tx] <;> omega
  | .b o d x y, h => by
    obtain ⟨hs, hd, hx, hy⟩ := Ct.wf_b h
    have hf := fmt_len (pv d)
    have ih := sh_len hx
    have ih2 := sh_len hy
    rcases shp2 hs with ⟨rfl, hl⟩ | ⟨rfl, hl⟩ | ⟨rfl, hl⟩ | ⟨rfl, hl⟩ <;> simp [sh, Ct.tx] <;> omega
theorem sh_pos {t : Ct} (h : t.wf = true) : sh t ≠ [] := by
  cases t with
  | z o d => rcases shp0 (Ct.wf_z h).1 with ⟨rfl, _⟩ | ⟨rfl, _⟩ | ⟨rfl, _⟩ | ⟨rfl, _⟩ | ⟨rfl, _⟩ | ⟨rfl, _⟩ | ⟨rfl, _⟩ <;> simp [sh]
  | u o d x => rcases shp1 (Ct.wf_u h).1 with ⟨rfl, _⟩ | ⟨rfl, _⟩ | ⟨rfl, _⟩ <;> simp [sh]
  | b o d x y => rcases shp2 (Ct.wf_b h).1 with ⟨rfl, _⟩ | ⟨rfl, _⟩ | ⟨rfl, _⟩ | ⟨rfl, _⟩ <;> simp [sh]
/-- The digits of a relation are its text. -/
theorem txt_rv {d : List UInt8} (h : hxs d = true) (hl : d.length = 4) : txt 4 (rv d) = bts d := by
  match d, hl with
  | [a, b, c, e], _ =>
    simp [hxs] at h
    have h0 := dgb_hx h.1
    have h1 := dgb_hx h.2.1
    have h2 := dgb_hx h.2.2.1
    have h3 := dgb_hx h.2.2.2
    simp [txt, rv, bts, List.range, List.range.loop, h0, h1, h2, h3]
end Go.DC
