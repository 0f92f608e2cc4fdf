/-
  No cell of these rows narrows 'for every input' (looked for: loops, veiled, ifaces, maps, wideKeys, modest, calm, conditions, laid).
  DERIVED. THE GIVEN ROWS OF THIS SEAT. 8 by the template 'for every input the law returns true; each argument reads behind the call as it read before'; 0 by the template 'total and deterministic' (their statements: YtkdgoefpldnheaaTotals.lean).
  GIVEN WITH THE SEED: the statements are not yours to turn. If you find one false, say at which input.
  Laid BY PROGRAM, IN A SANDBOX (cutbox-rows.mjs): the forced cells as the released guide's own fill.sh prints them over the translation 5ebc1a63958950e3… (all of the seat's roots in one cut). By AI agents, Wed Nov 11 2026. No macro, syntax, notation, axiom, sorry.
-/
import Derived.Test.YtkdgoefpldnheaaChecked
import GoSem.Claim
import GoSem.ClaimJoined
import GoSem.ClaimMapViews
import Derived.JoinedTies
import Derived.KernelRfl
namespace Go.Proofs.Ytkdgoefpldnheaa
/- THE CELL 'sum', in the pinned program and in every row, IS THE sha256 OF THE DUMP (.gsa) THAT YtkdgoefpldnheaaProg.lean LOADS. Nothing in Lean hashes anything: it is a label: what it is worth is what the hold of that sum in a sandbox is worth. -/
noncomputable def Try.pinned : Pinned := { name := "ytkdgoefpldnheaa", sum := "5ebc1a63958950e3bbcb26bded19dd33c867065397410a4d7bcf5971cabc6ceb", checked := Try.checked }
namespace Rows
def none {H : Type} : Left H := { results := [], args := [] }

/-- 'laws.FnExactReachTrans': WHATEVER THE INPUT: true; the input reads as it did. -/
def fnExactReachTransSpec : ChangeSpec := { name := "fnExactReachTrans", fn := fun _ => fun
  | [d1, d2] => { results := [.lit (.bool true)], args := [d1, d2] }
  | _ => none }
def fnExactReachTransRow : OpenClaim := { program := "ytkdgoefpldnheaa", sum := "5ebc1a63958950e3bbcb26bded19dd33c867065397410a4d7bcf5971cabc6ceb", func := "loop.example/dualchoices/laws.FnExactReachTrans", spec := "fnExactReachTrans", unfollowed := true, recurses := true, apart := false }
def FnExactReachTransSaid : Prop := fnExactReachTransRow.holds Try.pinned (OpenSpec.ofChange fnExactReachTransSpec)

/-- ITS FALSE NEIGHBOUR: 'it returns false'. Refute it at one input. -/
def fnExactReachTransWrong : ChangeSpec := { name := "fnExactReachTrans", fn := fun _ => fun
  | [d1, d2] => { results := [.lit (.bool false)], args := [d1, d2] }
  | _ => none }
def FnExactReachTransWrongFalsely : Prop := fnExactReachTransRow.holds Try.pinned (OpenSpec.ofChange fnExactReachTransWrong)

/-- 'laws.FnExactCloseRel': WHATEVER THE INPUT: true; the input reads as it did. -/
def fnExactCloseRelSpec : ChangeSpec := { name := "fnExactCloseRel", fn := fun _ => fun
  | [d] => { results := [.lit (.bool true)], args := [d] }
  | _ => none }
def fnExactCloseRelRow : OpenClaim := { program := "ytkdgoefpldnheaa", sum := "5ebc1a63958950e3bbcb26bded19dd33c867065397410a4d7bcf5971cabc6ceb", func := "loop.example/dualchoices/laws.FnExactCloseRel", spec := "fnExactCloseRel", inPlace := ["internal/bytealg.IndexByteString"], apart := false }
def FnExactCloseRelSaid : Prop := fnExactCloseRelRow.holds Try.pinned (OpenSpec.ofChange fnExactCloseRelSpec)

/-- ITS FALSE NEIGHBOUR: 'it returns false'. Refute it at one input. -/
def fnExactCloseRelWrong : ChangeSpec := { name := "fnExactCloseRel", fn := fun _ => fun
  | [d] => { results := [.lit (.bool false)], args := [d] }
  | _ => none }
def FnExactCloseRelWrongFalsely : Prop := fnExactCloseRelRow.holds Try.pinned (OpenSpec.ofChange fnExactCloseRelWrong)

/-- 'laws.FnExactIsFunctional': WHATEVER THE INPUT: true; the input reads as it did. -/
def fnExactIsFunctionalSpec : ChangeSpec := { name := "fnExactIsFunctional", fn := fun _ => fun
  | [d] => { results := [.lit (.bool true)], args := [d] }
  | _ => none }
def fnExactIsFunctionalRow : OpenClaim := { program := "ytkdgoefpldnheaa", sum := "5ebc1a63958950e3bbcb26bded19dd33c867065397410a4d7bcf5971cabc6ceb", func := "loop.example/dualchoices/laws.FnExactIsFunctional", spec := "fnExactIsFunctional", inPlace := ["internal/bytealg.IndexByteString"], unfollowed := true, recurses := true, apart := false }
def FnExactIsFunctionalSaid : Prop := fnExactIsFunctionalRow.holds Try.pinned (OpenSpec.ofChange fnExactIsFunctionalSpec)

/-- ITS FALSE NEIGHBOUR: 'it returns false'. Refute it at one input. -/
def fnExactIsFunctionalWrong : ChangeSpec := { name := "fnExactIsFunctional", fn := fun _ => fun
  | [d] => { results := [.lit (.bool false)], args := [d] }
  | _ => none }
def FnExactIsFunctionalWrongFalsely : Prop := fnExactIsFunctionalRow.holds Try.pinned (OpenSpec.ofChange fnExactIsFunctionalWrong)

/-- 'laws.FnExactSpecTrans': WHATEVER THE INPUT: true; the input reads as it did. -/
def fnExactSpecTransSpec : ChangeSpec := { name := "fnExactSpecTrans", fn := fun _ => fun
  | [d1, d2] => { results := [.lit (.bool true)], args := [d1, d2] }
  | _ => none }
def fnExactSpecTransRow : OpenClaim := { program := "ytkdgoefpldnheaa", sum := "5ebc1a63958950e3bbcb26bded19dd33c867065397410a4d7bcf5971cabc6ceb", func := "loop.example/dualchoices/laws.FnExactSpecTrans", spec := "fnExactSpecTrans", inPlace := ["internal/bytealg.IndexByteString"], unfollowed := true, recurses := true, apart := false }
def FnExactSpecTransSaid : Prop := fnExactSpecTransRow.holds Try.pinned (OpenSpec.ofChange fnExactSpecTransSpec)

/-- ITS FALSE NEIGHBOUR: 'it returns false'. Refute it at one input. -/
def fnExactSpecTransWrong : ChangeSpec := { name := "fnExactSpecTrans", fn := fun _ => fun
  | [d1, d2] => { results := [.lit (.bool false)], args := [d1, d2] }
  | _ => none }
def FnExactSpecTransWrongFalsely : Prop := fnExactSpecTransRow.holds Try.pinned (OpenSpec.ofChange fnExactSpecTransWrong)

/-- 'laws.FnExactSpecOf': WHATEVER THE INPUT: true; the input reads as it did. -/
def fnExactSpecOfSpec : ChangeSpec := { name := "fnExactSpecOf", fn := fun _ => fun
  | [d] => { results := [.lit (.bool true)], args := [d] }
  | _ => none }
def fnExactSpecOfRow : OpenClaim := { program := "ytkdgoefpldnheaa", sum := "5ebc1a63958950e3bbcb26bded19dd33c867065397410a4d7bcf5971cabc6ceb", func := "loop.example/dualchoices/laws.FnExactSpecOf", spec := "fnExactSpecOf", inPlace := ["internal/bytealg.IndexByteString"], unfollowed := true, recurses := true, apart := false }
def FnExactSpecOfSaid : Prop := fnExactSpecOfRow.holds Try.pinned (OpenSpec.ofChange fnExactSpecOfSpec)

/-- ITS FALSE NEIGHBOUR: 'it returns false'. Refute it at one input. -/
def fnExactSpecOfWrong : ChangeSpec := { name := "fnExactSpecOf", fn := fun _ => fun
  | [d] => { results := [.lit (.bool false)], args := [d] }
  | _ => none }
def FnExactSpecOfWrongFalsely : Prop := fnExactSpecOfRow.holds Try.pinned (OpenSpec.ofChange fnExactSpecOfWrong)

/-- 'laws.FnExactAngelRelOf': WHATEVER THE INPUT: true; the input reads as it did. -/
def fnExactAngelRelOfSpec : ChangeSpec := { name := "fnExactAngelRelOf", fn := fun _ => fun
  | [d] => { results := [.lit (.bool true)], args := [d] }
  | _ => none }
def fnExactAngelRelOfRow : OpenClaim := { program := "ytkdgoefpldnheaa", sum := "5ebc1a63958950e3bbcb26bded19dd33c867065397410a4d7bcf5971cabc6ceb", func := "loop.example/dualchoices/laws.FnExactAngelRelOf", spec := "fnExactAngelRelOf", inPlace := ["internal/bytealg.IndexByteString"], unfollowed := true, recurses := true, apart := false }
def FnExactAngelRelOfSaid : Prop := fnExactAngelRelOfRow.holds Try.pinned (OpenSpec.ofChange fnExactAngelRelOfSpec)

/-- ITS FALSE NEIGHBOUR: 'it returns false'. Refute it at one input. -/
def fnExactAngelRelOfWrong : ChangeSpec := { name := "fnExactAngelRelOf", fn := fun _ => fun
  | [d] => { results := [.lit (.bool false)], args := [d] }
  | _ => none }
def FnExactAngelRelOfWrongFalsely : Prop := fnExactAngelRelOfRow.holds Try.pinned (OpenSpec.ofChange fnExactAngelRelOfWrong)

/-- 'laws.FnExactDemonAbove': WHATEVER THE INPUT: true; the input reads as it did. -/
def fnExactDemonAboveSpec : ChangeSpec := { name := "fnExactDemonAbove", fn := fun _ => fun
  | [d] => { results := [.lit (.bool true)], args := [d] }
  | _ => none }
def fnExactDemonAboveRow : OpenClaim := { program := "ytkdgoefpldnheaa", sum := "5ebc1a63958950e3bbcb26bded19dd33c867065397410a4d7bcf5971cabc6ceb", func := "loop.example/dualchoices/laws.FnExactDemonAbove", spec := "fnExactDemonAbove", inPlace := ["internal/bytealg.IndexByteString"], unfollowed := true, recurses := true, apart := false }
def FnExactDemonAboveSaid : Prop := fnExactDemonAboveRow.holds Try.pinned (OpenSpec.ofChange fnExactDemonAboveSpec)

/-- ITS FALSE NEIGHBOUR: 'it returns false'. Refute it at one input. -/
def fnExactDemonAboveWrong : ChangeSpec := { name := "fnExactDemonAbove", fn := fun _ => fun
  | [d] => { results := [.lit (.bool false)], args := [d] }
  | _ => none }
def FnExactDemonAboveWrongFalsely : Prop := fnExactDemonAboveRow.holds Try.pinned (OpenSpec.ofChange fnExactDemonAboveWrong)

/-- 'laws.FnExactAngelBelow': WHATEVER THE INPUT: true; the input reads as it did. -/
def fnExactAngelBelowSpec : ChangeSpec := { name := "fnExactAngelBelow", fn := fun _ => fun
  | [d] => { results := [.lit (.bool true)], args := [d] }
  | _ => none }
def fnExactAngelBelowRow : OpenClaim := { program := "ytkdgoefpldnheaa", sum := "5ebc1a63958950e3bbcb26bded19dd33c867065397410a4d7bcf5971cabc6ceb", func := "loop.example/dualchoices/laws.FnExactAngelBelow", spec := "fnExactAngelBelow", inPlace := ["internal/bytealg.IndexByteString"], unfollowed := true, recurses := true, apart := false }
def FnExactAngelBelowSaid : Prop := fnExactAngelBelowRow.holds Try.pinned (OpenSpec.ofChange fnExactAngelBelowSpec)

/-- ITS FALSE NEIGHBOUR: 'it returns false'. Refute it at one input. -/
def fnExactAngelBelowWrong : ChangeSpec := { name := "fnExactAngelBelow", fn := fun _ => fun
  | [d] => { results := [.lit (.bool false)], args := [d] }
  | _ => none }
def FnExactAngelBelowWrongFalsely : Prop := fnExactAngelBelowRow.holds Try.pinned (OpenSpec.ofChange fnExactAngelBelowWrong)

/- THE SECOND FORM. 'bulk': how many values and letters a reading holds, each counted each time it is reached (what is shared counts as often as it is met; a slice's spare places count too). A statement '..UptoSaid' is the law's where the arguments, and the package variables that the reading takes, are together of bulk at most 1048576: NARROWER than '..Said'. Prove '..Said' where nothing that the law and all that it calls make is longer than what came in: it says more and counts as full. Else prove '..UptoSaid'. A law counts once. -/
mutual
def uptoBulk {H : Type} : DataW H → Nat
  | .lit (.string bytes) => bytes.length + 1
  | .lit _ => 1
  | .nil => 1
  | .ptr d => uptoBulk d + 1
  | .slice elems spare => uptoBulkAll elems + uptoBulkAll spare + 1
  | .agg parts => uptoBulkAll parts + 1
  | .iface _ d => uptoBulk d + 1
  | .map entries => uptoBulkEntries entries + 1
  | .held _ => 1
def uptoBulkAll {H : Type} : List (DataW H) → Nat
  | [] => 0
  | d :: r => uptoBulk d + uptoBulkAll r
def uptoBulkEntries {H : Type} : List (Lit × DataW H) → Nat
  | [] => 0
  | x :: r => uptoBulkEntry x + uptoBulkEntries r
def uptoBulkEntry {H : Type} : Lit × DataW H → Nat
  | (.string bytes, d) => bytes.length + uptoBulk d + 1
  | (_, d) => uptoBulk d + 1
 end
def uptoSmall : (H : Type) → List (DataW H) → Bool := fun _ ds => decide (uptoBulkAll ds ≤ 1048576)
def OpenSpec.upto (s : _root_.Go.ChangeSpec) : _root_.Go.OpenSpec := { _root_.Go.OpenSpec.ofChange s with cond := some uptoSmall }

/-- 'laws.FnExactReachTrans', WHERE WHAT IT READS IS OF BULK AT MOST 1048576: true; the input reads as it did. -/
def fnExactReachTransUptoRow : OpenClaim := { program := "ytkdgoefpldnheaa", sum := "5ebc1a63958950e3bbcb26bded19dd33c867065397410a4d7bcf5971cabc6ceb", func := "loop.example/dualchoices/laws.FnExactReachTrans", spec := "fnExactReachTrans", unfollowed := true, recurses := true, apart := false, narrowed := true }
def FnExactReachTransUptoSaid : Prop := fnExactReachTransUptoRow.holds Try.pinned (OpenSpec.upto fnExactReachTransSpec)

/-- 'laws.FnExactCloseRel', WHERE WHAT IT READS IS OF BULK AT MOST 1048576: true; the input reads as it did. -/
def fnExactCloseRelUptoRow : OpenClaim := { program := "ytkdgoefpldnheaa", sum := "5ebc1a63958950e3bbcb26bded19dd33c867065397410a4d7bcf5971cabc6ceb", func := "loop.example/dualchoices/laws.FnExactCloseRel", spec := "fnExactCloseRel", inPlace := ["internal/bytealg.IndexByteString"], apart := false, narrowed := true }
def FnExactCloseRelUptoSaid : Prop := fnExactCloseRelUptoRow.holds Try.pinned (OpenSpec.upto fnExactCloseRelSpec)

/-- 'laws.FnExactIsFunctional', WHERE WHAT IT READS IS OF BULK AT MOST 1048576: true; the input reads as it did. -/
def fnExactIsFunctionalUptoRow : OpenClaim := { program := "ytkdgoefpldnheaa", sum := "5ebc1a63958950e3bbcb26bded19dd33c867065397410a4d7bcf5971cabc6ceb", func := "loop.example/dualchoices/laws.FnExactIsFunctional", spec := "fnExactIsFunctional", inPlace := ["internal/bytealg.IndexByteString"], unfollowed := true, recurses := true, apart := false, narrowed := true }
def FnExactIsFunctionalUptoSaid : Prop := fnExactIsFunctionalUptoRow.holds Try.pinned (OpenSpec.upto fnExactIsFunctionalSpec)

/-- 'laws.FnExactSpecTrans', WHERE WHAT IT READS IS OF BULK AT MOST 1048576: true; the input reads as it did. -/
def fnExactSpecTransUptoRow : OpenClaim := { program := "ytkdgoefpldnheaa", sum := "5ebc1a63958950e3bbcb26bded19dd33c867065397410a4d7bcf5971cabc6ceb", func := "loop.example/dualchoices/laws.FnExactSpecTrans", spec := "fnExactSpecTrans", inPlace := ["internal/bytealg.IndexByteString"], unfollowed := true, recurses := true, apart := false, narrowed := true }
def FnExactSpecTransUptoSaid : Prop := fnExactSpecTransUptoRow.holds Try.pinned (OpenSpec.upto fnExactSpecTransSpec)

/-- 'laws.FnExactSpecOf', WHERE WHAT IT READS IS OF BULK AT MOST 1048576: true; the input reads as it did. -/
def fnExactSpecOfUptoRow : OpenClaim := { program := "ytkdgoefpldnheaa", sum := "5ebc1a63958950e3bbcb26bded19dd33c867065397410a4d7bcf5971cabc6ceb", func := "loop.example/dualchoices/laws.FnExactSpecOf", spec := "fnExactSpecOf", inPlace := ["internal/bytealg.IndexByteString"], unfollowed := true, recurses := true, apart := false, narrowed := true }
def FnExactSpecOfUptoSaid : Prop := fnExactSpecOfUptoRow.holds Try.pinned (OpenSpec.upto fnExactSpecOfSpec)

/-- 'laws.FnExactAngelRelOf', WHERE WHAT IT READS IS OF BULK AT MOST 1048576: true; the input reads as it did. -/
def fnExactAngelRelOfUptoRow : OpenClaim := { program := "ytkdgoefpldnheaa", sum := "5ebc1a63958950e3bbcb26bded19dd33c867065397410a4d7bcf5971cabc6ceb", func := "loop.example/dualchoices/laws.FnExactAngelRelOf", spec := "fnExactAngelRelOf", inPlace := ["internal/bytealg.IndexByteString"], unfollowed := true, recurses := true, apart := false, narrowed := true }
def FnExactAngelRelOfUptoSaid : Prop := fnExactAngelRelOfUptoRow.holds Try.pinned (OpenSpec.upto fnExactAngelRelOfSpec)

/-- 'laws.FnExactDemonAbove', WHERE WHAT IT READS IS OF BULK AT MOST 1048576: true; the input reads as it did. -/
def fnExactDemonAboveUptoRow : OpenClaim := { program := "ytkdgoefpldnheaa", sum := "5ebc1a63958950e3bbcb26bded19dd33c867065397410a4d7bcf5971cabc6ceb", func := "loop.example/dualchoices/laws.FnExactDemonAbove", spec := "fnExactDemonAbove", inPlace := ["internal/bytealg.IndexByteString"], unfollowed := true, recurses := true, apart := false, narrowed := true }
def FnExactDemonAboveUptoSaid : Prop := fnExactDemonAboveUptoRow.holds Try.pinned (OpenSpec.upto fnExactDemonAboveSpec)

/-- 'laws.FnExactAngelBelow', WHERE WHAT IT READS IS OF BULK AT MOST 1048576: true; the input reads as it did. -/
def fnExactAngelBelowUptoRow : OpenClaim := { program := "ytkdgoefpldnheaa", sum := "5ebc1a63958950e3bbcb26bded19dd33c867065397410a4d7bcf5971cabc6ceb", func := "loop.example/dualchoices/laws.FnExactAngelBelow", spec := "fnExactAngelBelow", inPlace := ["internal/bytealg.IndexByteString"], unfollowed := true, recurses := true, apart := false, narrowed := true }
def FnExactAngelBelowUptoSaid : Prop := fnExactAngelBelowUptoRow.holds Try.pinned (OpenSpec.upto fnExactAngelBelowSpec)

end Rows
end Go.Proofs.Ytkdgoefpldnheaa
