/-
  No cell of these rows narrows 'for every input' (looked for: loops, veiled, ifaces, maps, wideKeys, modest, calm, conditions, laid).
  DERIVED. THE GIVEN ROWS OF THIS SEAT. 12 by the template 'for every input the law returns true; each argument reads behind the call as it read before'; 0 by the template 'total and deterministic' (their statements: YtbheabeeomaagaaTotals.lean).
  GIVEN WITH THE SEED: the statements are not yours to turn. If you find one false, say at which input.
  Laid BY PROGRAM, IN A SANDBOX (cutbox-rows.mjs): the forced cells as the released guide's own fill.sh prints them over the translation 6b90654bffc5b230… (all of the seat's roots in one cut). By AI agents, Wed Nov 11 2026. No macro, syntax, notation, axiom, sorry.
-/
import Derived.Test.YtbheabeeomaagaaChecked
import GoSem.Claim
import GoSem.ClaimJoined
import GoSem.ClaimMapViews
import Derived.JoinedTies
import Derived.KernelRfl
namespace Go.Proofs.Ytbheabeeomaagaa
/- THE CELL 'sum', in the pinned program and in every row, IS THE sha256 OF THE DUMP (.gsa) THAT YtbheabeeomaagaaProg.lean LOADS. Nothing in Lean hashes anything: it is a label: what it is worth is what the hold of that sum in a sandbox is worth. -/
noncomputable def Try.pinned : Pinned := { name := "ytbheabeeomaagaa", sum := "6b90654bffc5b230c0a209c2ef20fd3aa6f0bf4e061694b757eaab7c633a5cca", checked := Try.checked }
namespace Rows
def none {H : Type} : Left H := { results := [], args := [] }

/-- 'laws.FnExactPlayValue': WHATEVER THE INPUT: true; the input reads as it did. -/
def fnExactPlayValueSpec : ChangeSpec := { name := "fnExactPlayValue", fn := fun _ => fun
  | [d1, d2, d3] => { results := [.lit (.bool true)], args := [d1, d2, d3] }
  | _ => none }
def fnExactPlayValueRow : OpenClaim := { program := "ytbheabeeomaagaa", sum := "6b90654bffc5b230c0a209c2ef20fd3aa6f0bf4e061694b757eaab7c633a5cca", func := "loop.example/dualchoices/laws.FnExactPlayValue", spec := "fnExactPlayValue", apart := false }
def FnExactPlayValueSaid : Prop := fnExactPlayValueRow.holds Try.pinned (OpenSpec.ofChange fnExactPlayValueSpec)

/-- ITS FALSE NEIGHBOUR: 'it returns false'. Refute it at one input. -/
def fnExactPlayValueWrong : ChangeSpec := { name := "fnExactPlayValue", fn := fun _ => fun
  | [d1, d2, d3] => { results := [.lit (.bool false)], args := [d1, d2, d3] }
  | _ => none }
def FnExactPlayValueWrongFalsely : Prop := fnExactPlayValueRow.holds Try.pinned (OpenSpec.ofChange fnExactPlayValueWrong)

/-- 'laws.FnExactRelates': WHATEVER THE INPUT: true; the input reads as it did. -/
def fnExactRelatesSpec : ChangeSpec := { name := "fnExactRelates", fn := fun _ => fun
  | [d1, d2, d3] => { results := [.lit (.bool true)], args := [d1, d2, d3] }
  | _ => none }
def fnExactRelatesRow : OpenClaim := { program := "ytbheabeeomaagaa", sum := "6b90654bffc5b230c0a209c2ef20fd3aa6f0bf4e061694b757eaab7c633a5cca", func := "loop.example/dualchoices/laws.FnExactRelates", spec := "fnExactRelates", inPlace := ["internal/bytealg.IndexByteString"], apart := false }
def FnExactRelatesSaid : Prop := fnExactRelatesRow.holds Try.pinned (OpenSpec.ofChange fnExactRelatesSpec)

/-- ITS FALSE NEIGHBOUR: 'it returns false'. Refute it at one input. -/
def fnExactRelatesWrong : ChangeSpec := { name := "fnExactRelates", fn := fun _ => fun
  | [d1, d2, d3] => { results := [.lit (.bool false)], args := [d1, d2, d3] }
  | _ => none }
def FnExactRelatesWrongFalsely : Prop := fnExactRelatesRow.holds Try.pinned (OpenSpec.ofChange fnExactRelatesWrong)

/-- 'laws.FnPlayValue': WHATEVER THE INPUT: true; the input reads as it did. -/
def fnPlayValueSpec : ChangeSpec := { name := "fnPlayValue", fn := fun _ => fun
  | [d] => { results := [.lit (.bool true)], args := [d] }
  | _ => none }
def fnPlayValueRow : OpenClaim := { program := "ytbheabeeomaagaa", sum := "6b90654bffc5b230c0a209c2ef20fd3aa6f0bf4e061694b757eaab7c633a5cca", func := "loop.example/dualchoices/laws.FnPlayValue", spec := "fnPlayValue", apart := false }
def FnPlayValueSaid : Prop := fnPlayValueRow.holds Try.pinned (OpenSpec.ofChange fnPlayValueSpec)

/-- ITS FALSE NEIGHBOUR: 'it returns false'. Refute it at one input. -/
def fnPlayValueWrong : ChangeSpec := { name := "fnPlayValue", fn := fun _ => fun
  | [d] => { results := [.lit (.bool false)], args := [d] }
  | _ => none }
def FnPlayValueWrongFalsely : Prop := fnPlayValueRow.holds Try.pinned (OpenSpec.ofChange fnPlayValueWrong)

/-- 'laws.FnExactIsPoint': WHATEVER THE INPUT: true; the input reads as it did. -/
def fnExactIsPointSpec : ChangeSpec := { name := "fnExactIsPoint", fn := fun _ => fun
  | [d1, d2] => { results := [.lit (.bool true)], args := [d1, d2] }
  | _ => none }
def fnExactIsPointRow : OpenClaim := { program := "ytbheabeeomaagaa", sum := "6b90654bffc5b230c0a209c2ef20fd3aa6f0bf4e061694b757eaab7c633a5cca", func := "loop.example/dualchoices/laws.FnExactIsPoint", spec := "fnExactIsPoint", inPlace := ["internal/bytealg.IndexByteString"], apart := false }
def FnExactIsPointSaid : Prop := fnExactIsPointRow.holds Try.pinned (OpenSpec.ofChange fnExactIsPointSpec)

/-- ITS FALSE NEIGHBOUR: 'it returns false'. Refute it at one input. -/
def fnExactIsPointWrong : ChangeSpec := { name := "fnExactIsPoint", fn := fun _ => fun
  | [d1, d2] => { results := [.lit (.bool false)], args := [d1, d2] }
  | _ => none }
def FnExactIsPointWrongFalsely : Prop := fnExactIsPointRow.holds Try.pinned (OpenSpec.ofChange fnExactIsPointWrong)

/-- 'laws.FnExactNotRel': WHATEVER THE INPUT: true; the input reads as it did. -/
def fnExactNotRelSpec : ChangeSpec := { name := "fnExactNotRel", fn := fun _ => fun
  | [d] => { results := [.lit (.bool true)], args := [d] }
  | _ => none }
def fnExactNotRelRow : OpenClaim := { program := "ytbheabeeomaagaa", sum := "6b90654bffc5b230c0a209c2ef20fd3aa6f0bf4e061694b757eaab7c633a5cca", func := "loop.example/dualchoices/laws.FnExactNotRel", spec := "fnExactNotRel", inPlace := ["internal/bytealg.IndexByteString"], unfollowed := true, recurses := true, apart := false }
def FnExactNotRelSaid : Prop := fnExactNotRelRow.holds Try.pinned (OpenSpec.ofChange fnExactNotRelSpec)

/-- ITS FALSE NEIGHBOUR: 'it returns false'. Refute it at one input. -/
def fnExactNotRelWrong : ChangeSpec := { name := "fnExactNotRel", fn := fun _ => fun
  | [d] => { results := [.lit (.bool false)], args := [d] }
  | _ => none }
def FnExactNotRelWrongFalsely : Prop := fnExactNotRelRow.holds Try.pinned (OpenSpec.ofChange fnExactNotRelWrong)

/-- 'laws.FnExactAndRel': WHATEVER THE INPUT: true; the input reads as it did. -/
def fnExactAndRelSpec : ChangeSpec := { name := "fnExactAndRel", fn := fun _ => fun
  | [d1, d2] => { results := [.lit (.bool true)], args := [d1, d2] }
  | _ => none }
def fnExactAndRelRow : OpenClaim := { program := "ytbheabeeomaagaa", sum := "6b90654bffc5b230c0a209c2ef20fd3aa6f0bf4e061694b757eaab7c633a5cca", func := "loop.example/dualchoices/laws.FnExactAndRel", spec := "fnExactAndRel", inPlace := ["internal/bytealg.IndexByteString"], unfollowed := true, recurses := true, apart := false }
def FnExactAndRelSaid : Prop := fnExactAndRelRow.holds Try.pinned (OpenSpec.ofChange fnExactAndRelSpec)

/-- ITS FALSE NEIGHBOUR: 'it returns false'. Refute it at one input. -/
def fnExactAndRelWrong : ChangeSpec := { name := "fnExactAndRel", fn := fun _ => fun
  | [d1, d2] => { results := [.lit (.bool false)], args := [d1, d2] }
  | _ => none }
def FnExactAndRelWrongFalsely : Prop := fnExactAndRelRow.holds Try.pinned (OpenSpec.ofChange fnExactAndRelWrong)

/-- 'laws.FnExactGreatestPoint': WHATEVER THE INPUT: true; the input reads as it did. -/
def fnExactGreatestPointSpec : ChangeSpec := { name := "fnExactGreatestPoint", fn := fun _ => fun
  | [d] => { results := [.lit (.bool true)], args := [d] }
  | _ => none }
def fnExactGreatestPointRow : OpenClaim := { program := "ytbheabeeomaagaa", sum := "6b90654bffc5b230c0a209c2ef20fd3aa6f0bf4e061694b757eaab7c633a5cca", func := "loop.example/dualchoices/laws.FnExactGreatestPoint", spec := "fnExactGreatestPoint", inPlace := ["internal/bytealg.IndexByteString"], unfollowed := true, recurses := true, apart := false }
def FnExactGreatestPointSaid : Prop := fnExactGreatestPointRow.holds Try.pinned (OpenSpec.ofChange fnExactGreatestPointSpec)

/-- ITS FALSE NEIGHBOUR: 'it returns false'. Refute it at one input. -/
def fnExactGreatestPointWrong : ChangeSpec := { name := "fnExactGreatestPoint", fn := fun _ => fun
  | [d] => { results := [.lit (.bool false)], args := [d] }
  | _ => none }
def FnExactGreatestPointWrongFalsely : Prop := fnExactGreatestPointRow.holds Try.pinned (OpenSpec.ofChange fnExactGreatestPointWrong)

/-- 'laws.FnExactOrRel': WHATEVER THE INPUT: true; the input reads as it did. -/
def fnExactOrRelSpec : ChangeSpec := { name := "fnExactOrRel", fn := fun _ => fun
  | [d1, d2] => { results := [.lit (.bool true)], args := [d1, d2] }
  | _ => none }
def fnExactOrRelRow : OpenClaim := { program := "ytbheabeeomaagaa", sum := "6b90654bffc5b230c0a209c2ef20fd3aa6f0bf4e061694b757eaab7c633a5cca", func := "loop.example/dualchoices/laws.FnExactOrRel", spec := "fnExactOrRel", inPlace := ["internal/bytealg.IndexByteString"], unfollowed := true, recurses := true, apart := false }
def FnExactOrRelSaid : Prop := fnExactOrRelRow.holds Try.pinned (OpenSpec.ofChange fnExactOrRelSpec)

/-- ITS FALSE NEIGHBOUR: 'it returns false'. Refute it at one input. -/
def fnExactOrRelWrong : ChangeSpec := { name := "fnExactOrRel", fn := fun _ => fun
  | [d1, d2] => { results := [.lit (.bool false)], args := [d1, d2] }
  | _ => none }
def FnExactOrRelWrongFalsely : Prop := fnExactOrRelRow.holds Try.pinned (OpenSpec.ofChange fnExactOrRelWrong)

/-- 'laws.FnExactImageOf': WHATEVER THE INPUT: true; the input reads as it did. -/
def fnExactImageOfSpec : ChangeSpec := { name := "fnExactImageOf", fn := fun _ => fun
  | [d1, d2] => { results := [.lit (.bool true)], args := [d1, d2] }
  | _ => none }
def fnExactImageOfRow : OpenClaim := { program := "ytbheabeeomaagaa", sum := "6b90654bffc5b230c0a209c2ef20fd3aa6f0bf4e061694b757eaab7c633a5cca", func := "loop.example/dualchoices/laws.FnExactImageOf", spec := "fnExactImageOf", inPlace := ["internal/bytealg.IndexByteString"], unfollowed := true, recurses := true, apart := false }
def FnExactImageOfSaid : Prop := fnExactImageOfRow.holds Try.pinned (OpenSpec.ofChange fnExactImageOfSpec)

/-- ITS FALSE NEIGHBOUR: 'it returns false'. Refute it at one input. -/
def fnExactImageOfWrong : ChangeSpec := { name := "fnExactImageOf", fn := fun _ => fun
  | [d1, d2] => { results := [.lit (.bool false)], args := [d1, d2] }
  | _ => none }
def FnExactImageOfWrongFalsely : Prop := fnExactImageOfRow.holds Try.pinned (OpenSpec.ofChange fnExactImageOfWrong)

/-- 'laws.FnExactIsDisjunctive': WHATEVER THE INPUT: true; the input reads as it did. -/
def fnExactIsDisjunctiveSpec : ChangeSpec := { name := "fnExactIsDisjunctive", fn := fun _ => fun
  | [d] => { results := [.lit (.bool true)], args := [d] }
  | _ => none }
def fnExactIsDisjunctiveRow : OpenClaim := { program := "ytbheabeeomaagaa", sum := "6b90654bffc5b230c0a209c2ef20fd3aa6f0bf4e061694b757eaab7c633a5cca", func := "loop.example/dualchoices/laws.FnExactIsDisjunctive", spec := "fnExactIsDisjunctive", inPlace := ["internal/bytealg.IndexByteString"], unfollowed := true, recurses := true, apart := false }
def FnExactIsDisjunctiveSaid : Prop := fnExactIsDisjunctiveRow.holds Try.pinned (OpenSpec.ofChange fnExactIsDisjunctiveSpec)

/-- ITS FALSE NEIGHBOUR: 'it returns false'. Refute it at one input. -/
def fnExactIsDisjunctiveWrong : ChangeSpec := { name := "fnExactIsDisjunctive", fn := fun _ => fun
  | [d] => { results := [.lit (.bool false)], args := [d] }
  | _ => none }
def FnExactIsDisjunctiveWrongFalsely : Prop := fnExactIsDisjunctiveRow.holds Try.pinned (OpenSpec.ofChange fnExactIsDisjunctiveWrong)

/-- 'laws.FnExactComposeRel': WHATEVER THE INPUT: true; the input reads as it did. -/
def fnExactComposeRelSpec : ChangeSpec := { name := "fnExactComposeRel", fn := fun _ => fun
  | [d1, d2] => { results := [.lit (.bool true)], args := [d1, d2] }
  | _ => none }
def fnExactComposeRelRow : OpenClaim := { program := "ytbheabeeomaagaa", sum := "6b90654bffc5b230c0a209c2ef20fd3aa6f0bf4e061694b757eaab7c633a5cca", func := "loop.example/dualchoices/laws.FnExactComposeRel", spec := "fnExactComposeRel", inPlace := ["internal/bytealg.IndexByteString"], unfollowed := true, recurses := true, apart := false }
def FnExactComposeRelSaid : Prop := fnExactComposeRelRow.holds Try.pinned (OpenSpec.ofChange fnExactComposeRelSpec)

/-- ITS FALSE NEIGHBOUR: 'it returns false'. Refute it at one input. -/
def fnExactComposeRelWrong : ChangeSpec := { name := "fnExactComposeRel", fn := fun _ => fun
  | [d1, d2] => { results := [.lit (.bool false)], args := [d1, d2] }
  | _ => none }
def FnExactComposeRelWrongFalsely : Prop := fnExactComposeRelRow.holds Try.pinned (OpenSpec.ofChange fnExactComposeRelWrong)

/-- 'laws.FnExactTurnRel': WHATEVER THE INPUT: true; the input reads as it did. -/
def fnExactTurnRelSpec : ChangeSpec := { name := "fnExactTurnRel", fn := fun _ => fun
  | [d] => { results := [.lit (.bool true)], args := [d] }
  | _ => none }
def fnExactTurnRelRow : OpenClaim := { program := "ytbheabeeomaagaa", sum := "6b90654bffc5b230c0a209c2ef20fd3aa6f0bf4e061694b757eaab7c633a5cca", func := "loop.example/dualchoices/laws.FnExactTurnRel", spec := "fnExactTurnRel", inPlace := ["internal/bytealg.IndexByteString"], unfollowed := true, recurses := true, apart := false }
def FnExactTurnRelSaid : Prop := fnExactTurnRelRow.holds Try.pinned (OpenSpec.ofChange fnExactTurnRelSpec)

/-- ITS FALSE NEIGHBOUR: 'it returns false'. Refute it at one input. -/
def fnExactTurnRelWrong : ChangeSpec := { name := "fnExactTurnRel", fn := fun _ => fun
  | [d] => { results := [.lit (.bool false)], args := [d] }
  | _ => none }
def FnExactTurnRelWrongFalsely : Prop := fnExactTurnRelRow.holds Try.pinned (OpenSpec.ofChange fnExactTurnRelWrong)

/- THE SECOND FORM. 'bulk': how many values and letters a reading holds, each counted each time it is reached (what is shared counts as often as it is met; a slice's spare places count too). A statement '..UptoSaid' is the law's where the arguments, and the package variables that the reading takes, are together of bulk at most 1048576: NARROWER than '..Said'. Prove '..Said' where nothing that the law and all that it calls make is longer than what came in: it says more and counts as full. Else prove '..UptoSaid'. A law counts once. -/
mutual
def uptoBulk {H : Type} : DataW H → Nat
  | .lit (.string bytes) => bytes.length + 1
  | .lit _ => 1
  | .nil => 1
  | .ptr d => uptoBulk d + 1
  | .slice elems spare => uptoBulkAll elems + uptoBulkAll spare + 1
  | .agg parts => uptoBulkAll parts + 1
  | .iface _ d => uptoBulk d + 1
  | .map entries => uptoBulkEntries entries + 1
  | .held _ => 1
def uptoBulkAll {H : Type} : List (DataW H) → Nat
  | [] => 0
  | d :: r => uptoBulk d + uptoBulkAll r
def uptoBulkEntries {H : Type} : List (Lit × DataW H) → Nat
  | [] => 0
  | x :: r => uptoBulkEntry x + uptoBulkEntries r
def uptoBulkEntry {H : Type} : Lit × DataW H → Nat
  | (.string bytes, d) => bytes.length + uptoBulk d + 1
  | (_, d) => uptoBulk d + 1
 end
def uptoSmall : (H : Type) → List (DataW H) → Bool := fun _ ds => decide (uptoBulkAll ds ≤ 1048576)
def OpenSpec.upto (s : _root_.Go.ChangeSpec) : _root_.Go.OpenSpec := { _root_.Go.OpenSpec.ofChange s with cond := some uptoSmall }

/-- 'laws.FnExactPlayValue', WHERE WHAT IT READS IS OF BULK AT MOST 1048576: true; the input reads as it did. -/
def fnExactPlayValueUptoRow : OpenClaim := { program := "ytbheabeeomaagaa", sum := "6b90654bffc5b230c0a209c2ef20fd3aa6f0bf4e061694b757eaab7c633a5cca", func := "loop.example/dualchoices/laws.FnExactPlayValue", spec := "fnExactPlayValue", apart := false, narrowed := true }
def FnExactPlayValueUptoSaid : Prop := fnExactPlayValueUptoRow.holds Try.pinned (OpenSpec.upto fnExactPlayValueSpec)

/-- 'laws.FnExactRelates', WHERE WHAT IT READS IS OF BULK AT MOST 1048576: true; the input reads as it did. -/
def fnExactRelatesUptoRow : OpenClaim := { program := "ytbheabeeomaagaa", sum := "6b90654bffc5b230c0a209c2ef20fd3aa6f0bf4e061694b757eaab7c633a5cca", func := "loop.example/dualchoices/laws.FnExactRelates", spec := "fnExactRelates", inPlace := ["internal/bytealg.IndexByteString"], apart := false, narrowed := true }
def FnExactRelatesUptoSaid : Prop := fnExactRelatesUptoRow.holds Try.pinned (OpenSpec.upto fnExactRelatesSpec)

/-- 'laws.FnPlayValue', WHERE WHAT IT READS IS OF BULK AT MOST 1048576: true; the input reads as it did. -/
def fnPlayValueUptoRow : OpenClaim := { program := "ytbheabeeomaagaa", sum := "6b90654bffc5b230c0a209c2ef20fd3aa6f0bf4e061694b757eaab7c633a5cca", func := "loop.example/dualchoices/laws.FnPlayValue", spec := "fnPlayValue", apart := false, narrowed := true }
def FnPlayValueUptoSaid : Prop := fnPlayValueUptoRow.holds Try.pinned (OpenSpec.upto fnPlayValueSpec)

/-- 'laws.FnExactIsPoint', WHERE WHAT IT READS IS OF BULK AT MOST 1048576: true; the input reads as it did. -/
def fnExactIsPointUptoRow : OpenClaim := { program := "ytbheabeeomaagaa", sum := "6b90654bffc5b230c0a209c2ef20fd3aa6f0bf4e061694b757eaab7c633a5cca", func := "loop.example/dualchoices/laws.FnExactIsPoint", spec := "fnExactIsPoint", inPlace := ["internal/bytealg.IndexByteString"], apart := false, narrowed := true }
def FnExactIsPointUptoSaid : Prop := fnExactIsPointUptoRow.holds Try.pinned (OpenSpec.upto fnExactIsPointSpec)

/-- 'laws.FnExactNotRel', WHERE WHAT IT READS IS OF BULK AT MOST 1048576: true; the input reads as it did. -/
def fnExactNotRelUptoRow : OpenClaim := { program := "ytbheabeeomaagaa", sum := "6b90654bffc5b230c0a209c2ef20fd3aa6f0bf4e061694b757eaab7c633a5cca", func := "loop.example/dualchoices/laws.FnExactNotRel", spec := "fnExactNotRel", inPlace := ["internal/bytealg.IndexByteString"], unfollowed := true, recurses := true, apart := false, narrowed := true }
def FnExactNotRelUptoSaid : Prop := fnExactNotRelUptoRow.holds Try.pinned (OpenSpec.upto fnExactNotRelSpec)

/-- 'laws.FnExactAndRel', WHERE WHAT IT READS IS OF BULK AT MOST 1048576: true; the input reads as it did. -/
def fnExactAndRelUptoRow : OpenClaim := { program := "ytbheabeeomaagaa", sum := "6b90654bffc5b230c0a209c2ef20fd3aa6f0bf4e061694b757eaab7c633a5cca", func := "loop.example/dualchoices/laws.FnExactAndRel", spec := "fnExactAndRel", inPlace := ["internal/bytealg.IndexByteString"], unfollowed := true, recurses := true, apart := false, narrowed := true }
def FnExactAndRelUptoSaid : Prop := fnExactAndRelUptoRow.holds Try.pinned (OpenSpec.upto fnExactAndRelSpec)

/-- 'laws.FnExactGreatestPoint', WHERE WHAT IT READS IS OF BULK AT MOST 1048576: true; the input reads as it did. -/
def fnExactGreatestPointUptoRow : OpenClaim := { program := "ytbheabeeomaagaa", sum := "6b90654bffc5b230c0a209c2ef20fd3aa6f0bf4e061694b757eaab7c633a5cca", func := "loop.example/dualchoices/laws.FnExactGreatestPoint", spec := "fnExactGreatestPoint", inPlace := ["internal/bytealg.IndexByteString"], unfollowed := true, recurses := true, apart := false, narrowed := true }
def FnExactGreatestPointUptoSaid : Prop := fnExactGreatestPointUptoRow.holds Try.pinned (OpenSpec.upto fnExactGreatestPointSpec)

/-- 'laws.FnExactOrRel', WHERE WHAT IT READS IS OF BULK AT MOST 1048576: true; the input reads as it did. -/
def fnExactOrRelUptoRow : OpenClaim := { program := "ytbheabeeomaagaa", sum := "6b90654bffc5b230c0a209c2ef20fd3aa6f0bf4e061694b757eaab7c633a5cca", func := "loop.example/dualchoices/laws.FnExactOrRel", spec := "fnExactOrRel", inPlace := ["internal/bytealg.IndexByteString"], unfollowed := true, recurses := true, apart := false, narrowed := true }
def FnExactOrRelUptoSaid : Prop := fnExactOrRelUptoRow.holds Try.pinned (OpenSpec.upto fnExactOrRelSpec)

/-- 'laws.FnExactImageOf', WHERE WHAT IT READS IS OF BULK AT MOST 1048576: true; the input reads as it did. -/
def fnExactImageOfUptoRow : OpenClaim := { program := "ytbheabeeomaagaa", sum := "6b90654bffc5b230c0a209c2ef20fd3aa6f0bf4e061694b757eaab7c633a5cca", func := "loop.example/dualchoices/laws.FnExactImageOf", spec := "fnExactImageOf", inPlace := ["internal/bytealg.IndexByteString"], unfollowed := true, recurses := true, apart := false, narrowed := true }
def FnExactImageOfUptoSaid : Prop := fnExactImageOfUptoRow.holds Try.pinned (OpenSpec.upto fnExactImageOfSpec)

/-- 'laws.FnExactIsDisjunctive', WHERE WHAT IT READS IS OF BULK AT MOST 1048576: true; the input reads as it did. -/
def fnExactIsDisjunctiveUptoRow : OpenClaim := { program := "ytbheabeeomaagaa", sum := "6b90654bffc5b230c0a209c2ef20fd3aa6f0bf4e061694b757eaab7c633a5cca", func := "loop.example/dualchoices/laws.FnExactIsDisjunctive", spec := "fnExactIsDisjunctive", inPlace := ["internal/bytealg.IndexByteString"], unfollowed := true, recurses := true, apart := false, narrowed := true }
def FnExactIsDisjunctiveUptoSaid : Prop := fnExactIsDisjunctiveUptoRow.holds Try.pinned (OpenSpec.upto fnExactIsDisjunctiveSpec)

/-- 'laws.FnExactComposeRel', WHERE WHAT IT READS IS OF BULK AT MOST 1048576: true; the input reads as it did. -/
def fnExactComposeRelUptoRow : OpenClaim := { program := "ytbheabeeomaagaa", sum := "6b90654bffc5b230c0a209c2ef20fd3aa6f0bf4e061694b757eaab7c633a5cca", func := "loop.example/dualchoices/laws.FnExactComposeRel", spec := "fnExactComposeRel", inPlace := ["internal/bytealg.IndexByteString"], unfollowed := true, recurses := true, apart := false, narrowed := true }
def FnExactComposeRelUptoSaid : Prop := fnExactComposeRelUptoRow.holds Try.pinned (OpenSpec.upto fnExactComposeRelSpec)

/-- 'laws.FnExactTurnRel', WHERE WHAT IT READS IS OF BULK AT MOST 1048576: true; the input reads as it did. -/
def fnExactTurnRelUptoRow : OpenClaim := { program := "ytbheabeeomaagaa", sum := "6b90654bffc5b230c0a209c2ef20fd3aa6f0bf4e061694b757eaab7c633a5cca", func := "loop.example/dualchoices/laws.FnExactTurnRel", spec := "fnExactTurnRel", inPlace := ["internal/bytealg.IndexByteString"], unfollowed := true, recurses := true, apart := false, narrowed := true }
def FnExactTurnRelUptoSaid : Prop := fnExactTurnRelUptoRow.holds Try.pinned (OpenSpec.upto fnExactTurnRelSpec)

end Rows
end Go.Proofs.Ytbheabeeomaagaa
