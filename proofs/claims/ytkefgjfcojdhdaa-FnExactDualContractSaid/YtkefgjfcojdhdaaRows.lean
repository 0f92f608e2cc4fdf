/-
  No cell of these rows narrows 'for every input' (looked for: loops, veiled, ifaces, maps, wideKeys, modest, calm, conditions, laid).
  DERIVED. THE GIVEN ROWS OF THIS SEAT. 12 by the template 'for every input the law returns true; each argument reads behind the call as it read before'; 0 by the template 'total and deterministic' (their statements: YtkefgjfcojdhdaaTotals.lean).
  GIVEN WITH THE SEED: the statements are not yours to turn. If you find one false, say at which input.
  Laid BY PROGRAM, IN A SANDBOX (cutbox-rows.mjs): the forced cells as the released guide's own fill.sh prints them over the translation d8a2a6c619b4e255… (all of the seat's roots in one cut). By AI agents, Wed Nov 11 2026. No macro, syntax, notation, axiom, sorry.
-/
import Derived.Test.YtkefgjfcojdhdaaChecked
import GoSem.Claim
import GoSem.ClaimJoined
import GoSem.ClaimMapViews
import Derived.JoinedTies
import Derived.KernelRfl
namespace Go.Proofs.Ytkefgjfcojdhdaa
/- THE CELL 'sum', in the pinned program and in every row, IS THE sha256 OF THE DUMP (.gsa) THAT YtkefgjfcojdhdaaProg.lean LOADS. Nothing in Lean hashes anything: it is a label: what it is worth is what the hold of that sum in a sandbox is worth. -/
noncomputable def Try.pinned : Pinned := { name := "ytkefgjfcojdhdaa", sum := "d8a2a6c619b4e255b099f699e9acb048783beecc8040f429007e2aa02309787e", checked := Try.checked }
namespace Rows
def none {H : Type} : Left H := { results := [], args := [] }

/-- 'laws.FnExactContractValid': WHATEVER THE INPUT: true; the input reads as it did. -/
def fnExactContractValidSpec : ChangeSpec := { name := "fnExactContractValid", fn := fun _ => fun
  | [d] => { results := [.lit (.bool true)], args := [d] }
  | _ => none }
def fnExactContractValidRow : OpenClaim := { program := "ytkefgjfcojdhdaa", sum := "d8a2a6c619b4e255b099f699e9acb048783beecc8040f429007e2aa02309787e", func := "loop.example/dualchoices/laws.FnExactContractValid", spec := "fnExactContractValid", inPlace := ["internal/bytealg.IndexByteString"], recurses := true, apart := false }
def FnExactContractValidSaid : Prop := fnExactContractValidRow.holds Try.pinned (OpenSpec.ofChange fnExactContractValidSpec)

/-- ITS FALSE NEIGHBOUR: 'it returns false'. Refute it at one input. -/
def fnExactContractValidWrong : ChangeSpec := { name := "fnExactContractValid", fn := fun _ => fun
  | [d] => { results := [.lit (.bool false)], args := [d] }
  | _ => none }
def FnExactContractValidWrongFalsely : Prop := fnExactContractValidRow.holds Try.pinned (OpenSpec.ofChange fnExactContractValidWrong)

/-- 'laws.FnExactSizeOfContract': WHATEVER THE INPUT: true; the input reads as it did. -/
def fnExactSizeOfContractSpec : ChangeSpec := { name := "fnExactSizeOfContract", fn := fun _ => fun
  | [d] => { results := [.lit (.bool true)], args := [d] }
  | _ => none }
def fnExactSizeOfContractRow : OpenClaim := { program := "ytkefgjfcojdhdaa", sum := "d8a2a6c619b4e255b099f699e9acb048783beecc8040f429007e2aa02309787e", func := "loop.example/dualchoices/laws.FnExactSizeOfContract", spec := "fnExactSizeOfContract", inPlace := ["internal/bytealg.IndexByteString"], recurses := true, apart := false }
def FnExactSizeOfContractSaid : Prop := fnExactSizeOfContractRow.holds Try.pinned (OpenSpec.ofChange fnExactSizeOfContractSpec)

/-- ITS FALSE NEIGHBOUR: 'it returns false'. Refute it at one input. -/
def fnExactSizeOfContractWrong : ChangeSpec := { name := "fnExactSizeOfContract", fn := fun _ => fun
  | [d] => { results := [.lit (.bool false)], args := [d] }
  | _ => none }
def FnExactSizeOfContractWrongFalsely : Prop := fnExactSizeOfContractRow.holds Try.pinned (OpenSpec.ofChange fnExactSizeOfContractWrong)

/-- 'laws.FnExactHasLoops': WHATEVER THE INPUT: true; the input reads as it did. -/
def fnExactHasLoopsSpec : ChangeSpec := { name := "fnExactHasLoops", fn := fun _ => fun
  | [d] => { results := [.lit (.bool true)], args := [d] }
  | _ => none }
def fnExactHasLoopsRow : OpenClaim := { program := "ytkefgjfcojdhdaa", sum := "d8a2a6c619b4e255b099f699e9acb048783beecc8040f429007e2aa02309787e", func := "loop.example/dualchoices/laws.FnExactHasLoops", spec := "fnExactHasLoops", inPlace := ["internal/bytealg.IndexByteString"], recurses := true, apart := false }
def FnExactHasLoopsSaid : Prop := fnExactHasLoopsRow.holds Try.pinned (OpenSpec.ofChange fnExactHasLoopsSpec)

/-- ITS FALSE NEIGHBOUR: 'it returns false'. Refute it at one input. -/
def fnExactHasLoopsWrong : ChangeSpec := { name := "fnExactHasLoops", fn := fun _ => fun
  | [d] => { results := [.lit (.bool false)], args := [d] }
  | _ => none }
def FnExactHasLoopsWrongFalsely : Prop := fnExactHasLoopsRow.holds Try.pinned (OpenSpec.ofChange fnExactHasLoopsWrong)

/-- 'laws.FnExactChoosesIn': WHATEVER THE INPUT: true; the input reads as it did. -/
def fnExactChoosesInSpec : ChangeSpec := { name := "fnExactChoosesIn", fn := fun _ => fun
  | [d] => { results := [.lit (.bool true)], args := [d] }
  | _ => none }
def fnExactChoosesInRow : OpenClaim := { program := "ytkefgjfcojdhdaa", sum := "d8a2a6c619b4e255b099f699e9acb048783beecc8040f429007e2aa02309787e", func := "loop.example/dualchoices/laws.FnExactChoosesIn", spec := "fnExactChoosesIn", inPlace := ["internal/bytealg.IndexByteString"], recurses := true, apart := false }
def FnExactChoosesInSaid : Prop := fnExactChoosesInRow.holds Try.pinned (OpenSpec.ofChange fnExactChoosesInSpec)

/-- ITS FALSE NEIGHBOUR: 'it returns false'. Refute it at one input. -/
def fnExactChoosesInWrong : ChangeSpec := { name := "fnExactChoosesIn", fn := fun _ => fun
  | [d] => { results := [.lit (.bool false)], args := [d] }
  | _ => none }
def FnExactChoosesInWrongFalsely : Prop := fnExactChoosesInRow.holds Try.pinned (OpenSpec.ofChange fnExactChoosesInWrong)

/-- 'laws.FnExactPartsOfContract': WHATEVER THE INPUT: true; the input reads as it did. -/
def fnExactPartsOfContractSpec : ChangeSpec := { name := "fnExactPartsOfContract", fn := fun _ => fun
  | [d] => { results := [.lit (.bool true)], args := [d] }
  | _ => none }
def fnExactPartsOfContractRow : OpenClaim := { program := "ytkefgjfcojdhdaa", sum := "d8a2a6c619b4e255b099f699e9acb048783beecc8040f429007e2aa02309787e", func := "loop.example/dualchoices/laws.FnExactPartsOfContract", spec := "fnExactPartsOfContract", inPlace := ["internal/bytealg.IndexByteString"], recurses := true, apart := false }
def FnExactPartsOfContractSaid : Prop := fnExactPartsOfContractRow.holds Try.pinned (OpenSpec.ofChange fnExactPartsOfContractSpec)

/-- ITS FALSE NEIGHBOUR: 'it returns false'. Refute it at one input. -/
def fnExactPartsOfContractWrong : ChangeSpec := { name := "fnExactPartsOfContract", fn := fun _ => fun
  | [d] => { results := [.lit (.bool false)], args := [d] }
  | _ => none }
def FnExactPartsOfContractWrongFalsely : Prop := fnExactPartsOfContractRow.holds Try.pinned (OpenSpec.ofChange fnExactPartsOfContractWrong)

/-- 'laws.FnExactDualContract': WHATEVER THE INPUT: true; the input reads as it did. -/
def fnExactDualContractSpec : ChangeSpec := { name := "fnExactDualContract", fn := fun _ => fun
  | [d] => { results := [.lit (.bool true)], args := [d] }
  | _ => none }
def fnExactDualContractRow : OpenClaim := { program := "ytkefgjfcojdhdaa", sum := "d8a2a6c619b4e255b099f699e9acb048783beecc8040f429007e2aa02309787e", func := "loop.example/dualchoices/laws.FnExactDualContract", spec := "fnExactDualContract", inPlace := ["internal/bytealg.IndexByteString"], unfollowed := true, recurses := true, apart := false }
def FnExactDualContractSaid : Prop := fnExactDualContractRow.holds Try.pinned (OpenSpec.ofChange fnExactDualContractSpec)

/-- ITS FALSE NEIGHBOUR: 'it returns false'. Refute it at one input. -/
def fnExactDualContractWrong : ChangeSpec := { name := "fnExactDualContract", fn := fun _ => fun
  | [d] => { results := [.lit (.bool false)], args := [d] }
  | _ => none }
def FnExactDualContractWrongFalsely : Prop := fnExactDualContractRow.holds Try.pinned (OpenSpec.ofChange fnExactDualContractWrong)

/-- 'laws.FnExactEqualContracts': WHATEVER THE INPUT: true; the input reads as it did. -/
def fnExactEqualContractsSpec : ChangeSpec := { name := "fnExactEqualContracts", fn := fun _ => fun
  | [d1, d2] => { results := [.lit (.bool true)], args := [d1, d2] }
  | _ => none }
def fnExactEqualContractsRow : OpenClaim := { program := "ytkefgjfcojdhdaa", sum := "d8a2a6c619b4e255b099f699e9acb048783beecc8040f429007e2aa02309787e", func := "loop.example/dualchoices/laws.FnExactEqualContracts", spec := "fnExactEqualContracts", inPlace := ["internal/bytealg.IndexByteString"], unfollowed := true, recurses := true, apart := false }
def FnExactEqualContractsSaid : Prop := fnExactEqualContractsRow.holds Try.pinned (OpenSpec.ofChange fnExactEqualContractsSpec)

/-- ITS FALSE NEIGHBOUR: 'it returns false'. Refute it at one input. -/
def fnExactEqualContractsWrong : ChangeSpec := { name := "fnExactEqualContracts", fn := fun _ => fun
  | [d1, d2] => { results := [.lit (.bool false)], args := [d1, d2] }
  | _ => none }
def FnExactEqualContractsWrongFalsely : Prop := fnExactEqualContractsRow.holds Try.pinned (OpenSpec.ofChange fnExactEqualContractsWrong)

/-- 'laws.FnExactNeedsBefore': WHATEVER THE INPUT: true; the input reads as it did. -/
def fnExactNeedsBeforeSpec : ChangeSpec := { name := "fnExactNeedsBefore", fn := fun _ => fun
  | [d1, d2] => { results := [.lit (.bool true)], args := [d1, d2] }
  | _ => none }
def fnExactNeedsBeforeRow : OpenClaim := { program := "ytkefgjfcojdhdaa", sum := "d8a2a6c619b4e255b099f699e9acb048783beecc8040f429007e2aa02309787e", func := "loop.example/dualchoices/laws.FnExactNeedsBefore", spec := "fnExactNeedsBefore", inPlace := ["internal/bytealg.IndexByteString"], unfollowed := true, recurses := true, apart := false }
def FnExactNeedsBeforeSaid : Prop := fnExactNeedsBeforeRow.holds Try.pinned (OpenSpec.ofChange fnExactNeedsBeforeSpec)

/-- ITS FALSE NEIGHBOUR: 'it returns false'. Refute it at one input. -/
def fnExactNeedsBeforeWrong : ChangeSpec := { name := "fnExactNeedsBefore", fn := fun _ => fun
  | [d1, d2] => { results := [.lit (.bool false)], args := [d1, d2] }
  | _ => none }
def FnExactNeedsBeforeWrongFalsely : Prop := fnExactNeedsBeforeRow.holds Try.pinned (OpenSpec.ofChange fnExactNeedsBeforeWrong)

/-- 'laws.FnExactTransOfContract': WHATEVER THE INPUT: true; the input reads as it did. -/
def fnExactTransOfContractSpec : ChangeSpec := { name := "fnExactTransOfContract", fn := fun _ => fun
  | [d] => { results := [.lit (.bool true)], args := [d] }
  | _ => none }
def fnExactTransOfContractRow : OpenClaim := { program := "ytkefgjfcojdhdaa", sum := "d8a2a6c619b4e255b099f699e9acb048783beecc8040f429007e2aa02309787e", func := "loop.example/dualchoices/laws.FnExactTransOfContract", spec := "fnExactTransOfContract", inPlace := ["internal/bytealg.IndexByteString"], unfollowed := true, recurses := true, apart := false }
def FnExactTransOfContractSaid : Prop := fnExactTransOfContractRow.holds Try.pinned (OpenSpec.ofChange fnExactTransOfContractSpec)

/-- ITS FALSE NEIGHBOUR: 'it returns false'. Refute it at one input. -/
def fnExactTransOfContractWrong : ChangeSpec := { name := "fnExactTransOfContract", fn := fun _ => fun
  | [d] => { results := [.lit (.bool false)], args := [d] }
  | _ => none }
def FnExactTransOfContractWrongFalsely : Prop := fnExactTransOfContractRow.holds Try.pinned (OpenSpec.ofChange fnExactTransOfContractWrong)

/-- 'laws.FnExactAngelWins': WHATEVER THE INPUT: true; the input reads as it did. -/
def fnExactAngelWinsSpec : ChangeSpec := { name := "fnExactAngelWins", fn := fun _ => fun
  | [d1, d2, d3] => { results := [.lit (.bool true)], args := [d1, d2, d3] }
  | _ => none }
def fnExactAngelWinsRow : OpenClaim := { program := "ytkefgjfcojdhdaa", sum := "d8a2a6c619b4e255b099f699e9acb048783beecc8040f429007e2aa02309787e", func := "loop.example/dualchoices/laws.FnExactAngelWins", spec := "fnExactAngelWins", inPlace := ["internal/bytealg.IndexByteString"], unfollowed := true, recurses := true, apart := false }
def FnExactAngelWinsSaid : Prop := fnExactAngelWinsRow.holds Try.pinned (OpenSpec.ofChange fnExactAngelWinsSpec)

/-- ITS FALSE NEIGHBOUR: 'it returns false'. Refute it at one input. -/
def fnExactAngelWinsWrong : ChangeSpec := { name := "fnExactAngelWins", fn := fun _ => fun
  | [d1, d2, d3] => { results := [.lit (.bool false)], args := [d1, d2, d3] }
  | _ => none }
def FnExactAngelWinsWrongFalsely : Prop := fnExactAngelWinsRow.holds Try.pinned (OpenSpec.ofChange fnExactAngelWinsWrong)

/-- 'laws.FnExactShowContract': WHATEVER THE INPUT: true; the input reads as it did. -/
def fnExactShowContractSpec : ChangeSpec := { name := "fnExactShowContract", fn := fun _ => fun
  | [d] => { results := [.lit (.bool true)], args := [d] }
  | _ => none }
def fnExactShowContractRow : OpenClaim := { program := "ytkefgjfcojdhdaa", sum := "d8a2a6c619b4e255b099f699e9acb048783beecc8040f429007e2aa02309787e", func := "loop.example/dualchoices/laws.FnExactShowContract", spec := "fnExactShowContract", inPlace := ["internal/bytealg.IndexByteString", "internal/abi.NoEscape", "internal/bytealg.MakeNoZero"], recurses := true, apart := false }
def FnExactShowContractSaid : Prop := fnExactShowContractRow.holds Try.pinned (OpenSpec.ofChange fnExactShowContractSpec)

/-- ITS FALSE NEIGHBOUR: 'it returns false'. Refute it at one input. -/
def fnExactShowContractWrong : ChangeSpec := { name := "fnExactShowContract", fn := fun _ => fun
  | [d] => { results := [.lit (.bool false)], args := [d] }
  | _ => none }
def FnExactShowContractWrongFalsely : Prop := fnExactShowContractRow.holds Try.pinned (OpenSpec.ofChange fnExactShowContractWrong)

/-- 'laws.FnExactRefinesContract': WHATEVER THE INPUT: true; the input reads as it did. -/
def fnExactRefinesContractSpec : ChangeSpec := { name := "fnExactRefinesContract", fn := fun _ => fun
  | [d1, d2] => { results := [.lit (.bool true)], args := [d1, d2] }
  | _ => none }
def fnExactRefinesContractRow : OpenClaim := { program := "ytkefgjfcojdhdaa", sum := "d8a2a6c619b4e255b099f699e9acb048783beecc8040f429007e2aa02309787e", func := "loop.example/dualchoices/laws.FnExactRefinesContract", spec := "fnExactRefinesContract", inPlace := ["internal/bytealg.IndexByteString"], unfollowed := true, recurses := true, apart := false }
def FnExactRefinesContractSaid : Prop := fnExactRefinesContractRow.holds Try.pinned (OpenSpec.ofChange fnExactRefinesContractSpec)

/-- ITS FALSE NEIGHBOUR: 'it returns false'. Refute it at one input. -/
def fnExactRefinesContractWrong : ChangeSpec := { name := "fnExactRefinesContract", fn := fun _ => fun
  | [d1, d2] => { results := [.lit (.bool false)], args := [d1, d2] }
  | _ => none }
def FnExactRefinesContractWrongFalsely : Prop := fnExactRefinesContractRow.holds Try.pinned (OpenSpec.ofChange fnExactRefinesContractWrong)

/- THE SECOND FORM. 'bulk': how many values and letters a reading holds, each counted each time it is reached (what is shared counts as often as it is met; a slice's spare places count too). A statement '..UptoSaid' is the law's where the arguments, and the package variables that the reading takes, are together of bulk at most 1048576: NARROWER than '..Said'. Prove '..Said' where nothing that the law and all that it calls make is longer than what came in: it says more and counts as full. Else prove '..UptoSaid'. A law counts once. -/
mutual
def uptoBulk {H : Type} : DataW H → Nat
  | .lit (.string bytes) => bytes.length + 1
  | .lit _ => 1
  | .nil => 1
  | .ptr d => uptoBulk d + 1
  | .slice elems spare => uptoBulkAll elems + uptoBulkAll spare + 1
  | .agg parts => uptoBulkAll parts + 1
  | .iface _ d => uptoBulk d + 1
  | .map entries => uptoBulkEntries entries + 1
  | .held _ => 1
def uptoBulkAll {H : Type} : List (DataW H) → Nat
  | [] => 0
  | d :: r => uptoBulk d + uptoBulkAll r
def uptoBulkEntries {H : Type} : List (Lit × DataW H) → Nat
  | [] => 0
  | x :: r => uptoBulkEntry x + uptoBulkEntries r
def uptoBulkEntry {H : Type} : Lit × DataW H → Nat
  | (.string bytes, d) => bytes.length + uptoBulk d + 1
  | (_, d) => uptoBulk d + 1
 end
def uptoSmall : (H : Type) → List (DataW H) → Bool := fun _ ds => decide (uptoBulkAll ds ≤ 1048576)
def OpenSpec.upto (s : _root_.Go.ChangeSpec) : _root_.Go.OpenSpec := { _root_.Go.OpenSpec.ofChange s with cond := some uptoSmall }

/-- 'laws.FnExactContractValid', WHERE WHAT IT READS IS OF BULK AT MOST 1048576: true; the input reads as it did. -/
def fnExactContractValidUptoRow : OpenClaim := { program := "ytkefgjfcojdhdaa", sum := "d8a2a6c619b4e255b099f699e9acb048783beecc8040f429007e2aa02309787e", func := "loop.example/dualchoices/laws.FnExactContractValid", spec := "fnExactContractValid", inPlace := ["internal/bytealg.IndexByteString"], recurses := true, apart := false, narrowed := true }
def FnExactContractValidUptoSaid : Prop := fnExactContractValidUptoRow.holds Try.pinned (OpenSpec.upto fnExactContractValidSpec)

/-- 'laws.FnExactSizeOfContract', WHERE WHAT IT READS IS OF BULK AT MOST 1048576: true; the input reads as it did. -/
def fnExactSizeOfContractUptoRow : OpenClaim := { program := "ytkefgjfcojdhdaa", sum := "d8a2a6c619b4e255b099f699e9acb048783beecc8040f429007e2aa02309787e", func := "loop.example/dualchoices/laws.FnExactSizeOfContract", spec := "fnExactSizeOfContract", inPlace := ["internal/bytealg.IndexByteString"], recurses := true, apart := false, narrowed := true }
def FnExactSizeOfContractUptoSaid : Prop := fnExactSizeOfContractUptoRow.holds Try.pinned (OpenSpec.upto fnExactSizeOfContractSpec)

/-- 'laws.FnExactHasLoops', WHERE WHAT IT READS IS OF BULK AT MOST 1048576: true; the input reads as it did. -/
def fnExactHasLoopsUptoRow : OpenClaim := { program := "ytkefgjfcojdhdaa", sum := "d8a2a6c619b4e255b099f699e9acb048783beecc8040f429007e2aa02309787e", func := "loop.example/dualchoices/laws.FnExactHasLoops", spec := "fnExactHasLoops", inPlace := ["internal/bytealg.IndexByteString"], recurses := true, apart := false, narrowed := true }
def FnExactHasLoopsUptoSaid : Prop := fnExactHasLoopsUptoRow.holds Try.pinned (OpenSpec.upto fnExactHasLoopsSpec)

/-- 'laws.FnExactChoosesIn', WHERE WHAT IT READS IS OF BULK AT MOST 1048576: true; the input reads as it did. -/
def fnExactChoosesInUptoRow : OpenClaim := { program := "ytkefgjfcojdhdaa", sum := "d8a2a6c619b4e255b099f699e9acb048783beecc8040f429007e2aa02309787e", func := "loop.example/dualchoices/laws.FnExactChoosesIn", spec := "fnExactChoosesIn", inPlace := ["internal/bytealg.IndexByteString"], recurses := true, apart := false, narrowed := true }
def FnExactChoosesInUptoSaid : Prop := fnExactChoosesInUptoRow.holds Try.pinned (OpenSpec.upto fnExactChoosesInSpec)

/-- 'laws.FnExactPartsOfContract', WHERE WHAT IT READS IS OF BULK AT MOST 1048576: true; the input reads as it did. -/
def fnExactPartsOfContractUptoRow : OpenClaim := { program := "ytkefgjfcojdhdaa", sum := "d8a2a6c619b4e255b099f699e9acb048783beecc8040f429007e2aa02309787e", func := "loop.example/dualchoices/laws.FnExactPartsOfContract", spec := "fnExactPartsOfContract", inPlace := ["internal/bytealg.IndexByteString"], recurses := true, apart := false, narrowed := true }
def FnExactPartsOfContractUptoSaid : Prop := fnExactPartsOfContractUptoRow.holds Try.pinned (OpenSpec.upto fnExactPartsOfContractSpec)

/-- 'laws.FnExactDualContract', WHERE WHAT IT READS IS OF BULK AT MOST 1048576: true; the input reads as it did. -/
def fnExactDualContractUptoRow : OpenClaim := { program := "ytkefgjfcojdhdaa", sum := "d8a2a6c619b4e255b099f699e9acb048783beecc8040f429007e2aa02309787e", func := "loop.example/dualchoices/laws.FnExactDualContract", spec := "fnExactDualContract", inPlace := ["internal/bytealg.IndexByteString"], unfollowed := true, recurses := true, apart := false, narrowed := true }
def FnExactDualContractUptoSaid : Prop := fnExactDualContractUptoRow.holds Try.pinned (OpenSpec.upto fnExactDualContractSpec)

/-- 'laws.FnExactEqualContracts', WHERE WHAT IT READS IS OF BULK AT MOST 1048576: true; the input reads as it did. -/
def fnExactEqualContractsUptoRow : OpenClaim := { program := "ytkefgjfcojdhdaa", sum := "d8a2a6c619b4e255b099f699e9acb048783beecc8040f429007e2aa02309787e", func := "loop.example/dualchoices/laws.FnExactEqualContracts", spec := "fnExactEqualContracts", inPlace := ["internal/bytealg.IndexByteString"], unfollowed := true, recurses := true, apart := false, narrowed := true }
def FnExactEqualContractsUptoSaid : Prop := fnExactEqualContractsUptoRow.holds Try.pinned (OpenSpec.upto fnExactEqualContractsSpec)

/-- 'laws.FnExactNeedsBefore', WHERE WHAT IT READS IS OF BULK AT MOST 1048576: true; the input reads as it did. -/
def fnExactNeedsBeforeUptoRow : OpenClaim := { program := "ytkefgjfcojdhdaa", sum := "d8a2a6c619b4e255b099f699e9acb048783beecc8040f429007e2aa02309787e", func := "loop.example/dualchoices/laws.FnExactNeedsBefore", spec := "fnExactNeedsBefore", inPlace := ["internal/bytealg.IndexByteString"], unfollowed := true, recurses := true, apart := false, narrowed := true }
def FnExactNeedsBeforeUptoSaid : Prop := fnExactNeedsBeforeUptoRow.holds Try.pinned (OpenSpec.upto fnExactNeedsBeforeSpec)

/-- 'laws.FnExactTransOfContract', WHERE WHAT IT READS IS OF BULK AT MOST 1048576: true; the input reads as it did. -/
def fnExactTransOfContractUptoRow : OpenClaim := { program := "ytkefgjfcojdhdaa", sum := "d8a2a6c619b4e255b099f699e9acb048783beecc8040f429007e2aa02309787e", func := "loop.example/dualchoices/laws.FnExactTransOfContract", spec := "fnExactTransOfContract", inPlace := ["internal/bytealg.IndexByteString"], unfollowed := true, recurses := true, apart := false, narrowed := true }
def FnExactTransOfContractUptoSaid : Prop := fnExactTransOfContractUptoRow.holds Try.pinned (OpenSpec.upto fnExactTransOfContractSpec)

/-- 'laws.FnExactAngelWins', WHERE WHAT IT READS IS OF BULK AT MOST 1048576: true; the input reads as it did. -/
def fnExactAngelWinsUptoRow : OpenClaim := { program := "ytkefgjfcojdhdaa", sum := "d8a2a6c619b4e255b099f699e9acb048783beecc8040f429007e2aa02309787e", func := "loop.example/dualchoices/laws.FnExactAngelWins", spec := "fnExactAngelWins", inPlace := ["internal/bytealg.IndexByteString"], unfollowed := true, recurses := true, apart := false, narrowed := true }
def FnExactAngelWinsUptoSaid : Prop := fnExactAngelWinsUptoRow.holds Try.pinned (OpenSpec.upto fnExactAngelWinsSpec)

/-- 'laws.FnExactShowContract', WHERE WHAT IT READS IS OF BULK AT MOST 1048576: true; the input reads as it did. -/
def fnExactShowContractUptoRow : OpenClaim := { program := "ytkefgjfcojdhdaa", sum := "d8a2a6c619b4e255b099f699e9acb048783beecc8040f429007e2aa02309787e", func := "loop.example/dualchoices/laws.FnExactShowContract", spec := "fnExactShowContract", inPlace := ["internal/bytealg.IndexByteString", "internal/abi.NoEscape", "internal/bytealg.MakeNoZero"], recurses := true, apart := false, narrowed := true }
def FnExactShowContractUptoSaid : Prop := fnExactShowContractUptoRow.holds Try.pinned (OpenSpec.upto fnExactShowContractSpec)

/-- 'laws.FnExactRefinesContract', WHERE WHAT IT READS IS OF BULK AT MOST 1048576: true; the input reads as it did. -/
def fnExactRefinesContractUptoRow : OpenClaim := { program := "ytkefgjfcojdhdaa", sum := "d8a2a6c619b4e255b099f699e9acb048783beecc8040f429007e2aa02309787e", func := "loop.example/dualchoices/laws.FnExactRefinesContract", spec := "fnExactRefinesContract", inPlace := ["internal/bytealg.IndexByteString"], unfollowed := true, recurses := true, apart := false, narrowed := true }
def FnExactRefinesContractUptoSaid : Prop := fnExactRefinesContractUptoRow.holds Try.pinned (OpenSpec.upto fnExactRefinesContractSpec)

end Rows
end Go.Proofs.Ytkefgjfcojdhdaa
