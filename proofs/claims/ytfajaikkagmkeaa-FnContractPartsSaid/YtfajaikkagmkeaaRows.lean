/-
  No cell of these rows narrows 'for every input' (looked for: loops, veiled, ifaces, maps, wideKeys, modest, calm, conditions, laid).
  DERIVED. THE GIVEN ROWS OF THIS SEAT. 8 by the template 'for every input the law returns true; each argument reads behind the call as it read before'; 0 by the template 'total and deterministic' (their statements: YtfajaikkagmkeaaTotals.lean).
  GIVEN WITH THE SEED: the statements are not yours to turn. If you find one false, say at which input.
  Laid BY PROGRAM, IN A SANDBOX (cutbox-rows.mjs): the forced cells as the released guide's own fill.sh prints them over the translation f6ce0bd2a45623b3… (all of the seat's roots in one cut). By AI agents, Wed Nov 11 2026. No macro, syntax, notation, axiom, sorry.
-/
import Derived.Test.YtfajaikkagmkeaaChecked
import GoSem.Claim
import GoSem.ClaimJoined
import GoSem.ClaimMapViews
import Derived.JoinedTies
import Derived.KernelRfl
namespace Go.Proofs.Ytfajaikkagmkeaa
/- THE CELL 'sum', in the pinned program and in every row, IS THE sha256 OF THE DUMP (.gsa) THAT YtfajaikkagmkeaaProg.lean LOADS. Nothing in Lean hashes anything: it is a label: what it is worth is what the hold of that sum in a sandbox is worth. -/
noncomputable def Try.pinned : Pinned := { name := "ytfajaikkagmkeaa", sum := "f6ce0bd2a45623b3e7a3602f1fdead118fd1dd4b3e26eb7359e21570f7ca523a", checked := Try.checked }
namespace Rows
def none {H : Type} : Left H := { results := [], args := [] }

/-- 'laws.FnWinsSome': WHATEVER THE INPUT: true; the input reads as it did. -/
def fnWinsSomeSpec : ChangeSpec := { name := "fnWinsSome", fn := fun _ => fun
  | [d1, d2] => { results := [.lit (.bool true)], args := [d1, d2] }
  | _ => none }
def fnWinsSomeRow : OpenClaim := { program := "ytfajaikkagmkeaa", sum := "f6ce0bd2a45623b3e7a3602f1fdead118fd1dd4b3e26eb7359e21570f7ca523a", func := "loop.example/dualchoices/laws.FnWinsSome", spec := "fnWinsSome", inPlace := ["internal/bytealg.IndexByteString"], unfollowed := true, recurses := true, apart := false }
def FnWinsSomeSaid : Prop := fnWinsSomeRow.holds Try.pinned (OpenSpec.ofChange fnWinsSomeSpec)

/-- ITS FALSE NEIGHBOUR: 'it returns false'. Refute it at one input. -/
def fnWinsSomeWrong : ChangeSpec := { name := "fnWinsSome", fn := fun _ => fun
  | [d1, d2] => { results := [.lit (.bool false)], args := [d1, d2] }
  | _ => none }
def FnWinsSomeWrongFalsely : Prop := fnWinsSomeRow.holds Try.pinned (OpenSpec.ofChange fnWinsSomeWrong)

/-- 'laws.FnRefinesContract': WHATEVER THE INPUT: true; the input reads as it did. -/
def fnRefinesContractSpec : ChangeSpec := { name := "fnRefinesContract", fn := fun _ => fun
  | [d1, d2] => { results := [.lit (.bool true)], args := [d1, d2] }
  | _ => none }
def fnRefinesContractRow : OpenClaim := { program := "ytfajaikkagmkeaa", sum := "f6ce0bd2a45623b3e7a3602f1fdead118fd1dd4b3e26eb7359e21570f7ca523a", func := "loop.example/dualchoices/laws.FnRefinesContract", spec := "fnRefinesContract", inPlace := ["internal/bytealg.IndexByteString"], unfollowed := true, recurses := true, apart := false }
def FnRefinesContractSaid : Prop := fnRefinesContractRow.holds Try.pinned (OpenSpec.ofChange fnRefinesContractSpec)

/-- ITS FALSE NEIGHBOUR: 'it returns false'. Refute it at one input. -/
def fnRefinesContractWrong : ChangeSpec := { name := "fnRefinesContract", fn := fun _ => fun
  | [d1, d2] => { results := [.lit (.bool false)], args := [d1, d2] }
  | _ => none }
def FnRefinesContractWrongFalsely : Prop := fnRefinesContractRow.holds Try.pinned (OpenSpec.ofChange fnRefinesContractWrong)

/-- 'laws.FnContractParts': WHATEVER THE INPUT: true; the input reads as it did. -/
def fnContractPartsSpec : ChangeSpec := { name := "fnContractParts", fn := fun _ => fun
  | [d] => { results := [.lit (.bool true)], args := [d] }
  | _ => none }
def fnContractPartsRow : OpenClaim := { program := "ytfajaikkagmkeaa", sum := "f6ce0bd2a45623b3e7a3602f1fdead118fd1dd4b3e26eb7359e21570f7ca523a", func := "loop.example/dualchoices/laws.FnContractParts", spec := "fnContractParts", inPlace := ["internal/bytealg.IndexByteString"], unfollowed := true, recurses := true, apart := false }
def FnContractPartsSaid : Prop := fnContractPartsRow.holds Try.pinned (OpenSpec.ofChange fnContractPartsSpec)

/-- ITS FALSE NEIGHBOUR: 'it returns false'. Refute it at one input. -/
def fnContractPartsWrong : ChangeSpec := { name := "fnContractParts", fn := fun _ => fun
  | [d] => { results := [.lit (.bool false)], args := [d] }
  | _ => none }
def FnContractPartsWrongFalsely : Prop := fnContractPartsRow.holds Try.pinned (OpenSpec.ofChange fnContractPartsWrong)

/-- 'laws.FnNeeds': WHATEVER THE INPUT: true; the input reads as it did. -/
def fnNeedsSpec : ChangeSpec := { name := "fnNeeds", fn := fun _ => fun
  | [d1, d2] => { results := [.lit (.bool true)], args := [d1, d2] }
  | _ => none }
def fnNeedsRow : OpenClaim := { program := "ytfajaikkagmkeaa", sum := "f6ce0bd2a45623b3e7a3602f1fdead118fd1dd4b3e26eb7359e21570f7ca523a", func := "loop.example/dualchoices/laws.FnNeeds", spec := "fnNeeds", inPlace := ["internal/bytealg.IndexByteString"], unfollowed := true, recurses := true, apart := false }
def FnNeedsSaid : Prop := fnNeedsRow.holds Try.pinned (OpenSpec.ofChange fnNeedsSpec)

/-- ITS FALSE NEIGHBOUR: 'it returns false'. Refute it at one input. -/
def fnNeedsWrong : ChangeSpec := { name := "fnNeeds", fn := fun _ => fun
  | [d1, d2] => { results := [.lit (.bool false)], args := [d1, d2] }
  | _ => none }
def FnNeedsWrongFalsely : Prop := fnNeedsRow.holds Try.pinned (OpenSpec.ofChange fnNeedsWrong)

/-- 'laws.FnLoopFixpoint': WHATEVER THE INPUT: true; the input reads as it did. -/
def fnLoopFixpointSpec : ChangeSpec := { name := "fnLoopFixpoint", fn := fun _ => fun
  | [d1, d2] => { results := [.lit (.bool true)], args := [d1, d2] }
  | _ => none }
def fnLoopFixpointRow : OpenClaim := { program := "ytfajaikkagmkeaa", sum := "f6ce0bd2a45623b3e7a3602f1fdead118fd1dd4b3e26eb7359e21570f7ca523a", func := "loop.example/dualchoices/laws.FnLoopFixpoint", spec := "fnLoopFixpoint", inPlace := ["internal/bytealg.IndexByteString"], unfollowed := true, recurses := true, apart := false }
def FnLoopFixpointSaid : Prop := fnLoopFixpointRow.holds Try.pinned (OpenSpec.ofChange fnLoopFixpointSpec)

/-- ITS FALSE NEIGHBOUR: 'it returns false'. Refute it at one input. -/
def fnLoopFixpointWrong : ChangeSpec := { name := "fnLoopFixpoint", fn := fun _ => fun
  | [d1, d2] => { results := [.lit (.bool false)], args := [d1, d2] }
  | _ => none }
def FnLoopFixpointWrongFalsely : Prop := fnLoopFixpointRow.holds Try.pinned (OpenSpec.ofChange fnLoopFixpointWrong)

/-- 'laws.FnChoosesIn': WHATEVER THE INPUT: true; the input reads as it did. -/
def fnChoosesInSpec : ChangeSpec := { name := "fnChoosesIn", fn := fun _ => fun
  | [d] => { results := [.lit (.bool true)], args := [d] }
  | _ => none }
def fnChoosesInRow : OpenClaim := { program := "ytfajaikkagmkeaa", sum := "f6ce0bd2a45623b3e7a3602f1fdead118fd1dd4b3e26eb7359e21570f7ca523a", func := "loop.example/dualchoices/laws.FnChoosesIn", spec := "fnChoosesIn", inPlace := ["internal/bytealg.IndexByteString"], unfollowed := true, recurses := true, apart := false }
def FnChoosesInSaid : Prop := fnChoosesInRow.holds Try.pinned (OpenSpec.ofChange fnChoosesInSpec)

/-- ITS FALSE NEIGHBOUR: 'it returns false'. Refute it at one input. -/
def fnChoosesInWrong : ChangeSpec := { name := "fnChoosesIn", fn := fun _ => fun
  | [d] => { results := [.lit (.bool false)], args := [d] }
  | _ => none }
def FnChoosesInWrongFalsely : Prop := fnChoosesInRow.holds Try.pinned (OpenSpec.ofChange fnChoosesInWrong)

/-- 'laws.FnDualContract': WHATEVER THE INPUT: true; the input reads as it did. -/
def fnDualContractSpec : ChangeSpec := { name := "fnDualContract", fn := fun _ => fun
  | [d] => { results := [.lit (.bool true)], args := [d] }
  | _ => none }
def fnDualContractRow : OpenClaim := { program := "ytfajaikkagmkeaa", sum := "f6ce0bd2a45623b3e7a3602f1fdead118fd1dd4b3e26eb7359e21570f7ca523a", func := "loop.example/dualchoices/laws.FnDualContract", spec := "fnDualContract", inPlace := ["internal/bytealg.IndexByteString"], unfollowed := true, recurses := true, apart := false }
def FnDualContractSaid : Prop := fnDualContractRow.holds Try.pinned (OpenSpec.ofChange fnDualContractSpec)

/-- ITS FALSE NEIGHBOUR: 'it returns false'. Refute it at one input. -/
def fnDualContractWrong : ChangeSpec := { name := "fnDualContract", fn := fun _ => fun
  | [d] => { results := [.lit (.bool false)], args := [d] }
  | _ => none }
def FnDualContractWrongFalsely : Prop := fnDualContractRow.holds Try.pinned (OpenSpec.ofChange fnDualContractWrong)

/-- 'laws.FnContractText': WHATEVER THE INPUT: true; the input reads as it did. -/
def fnContractTextSpec : ChangeSpec := { name := "fnContractText", fn := fun _ => fun
  | [d] => { results := [.lit (.bool true)], args := [d] }
  | _ => none }
def fnContractTextRow : OpenClaim := { program := "ytfajaikkagmkeaa", sum := "f6ce0bd2a45623b3e7a3602f1fdead118fd1dd4b3e26eb7359e21570f7ca523a", func := "loop.example/dualchoices/laws.FnContractText", spec := "fnContractText", inPlace := ["internal/bytealg.IndexByteString", "internal/abi.NoEscape", "internal/bytealg.MakeNoZero"], recurses := true, apart := false }
def FnContractTextSaid : Prop := fnContractTextRow.holds Try.pinned (OpenSpec.ofChange fnContractTextSpec)

/-- ITS FALSE NEIGHBOUR: 'it returns false'. Refute it at one input. -/
def fnContractTextWrong : ChangeSpec := { name := "fnContractText", fn := fun _ => fun
  | [d] => { results := [.lit (.bool false)], args := [d] }
  | _ => none }
def FnContractTextWrongFalsely : Prop := fnContractTextRow.holds Try.pinned (OpenSpec.ofChange fnContractTextWrong)

/- THE SECOND FORM. 'bulk': how many values and letters a reading holds, each counted each time it is reached (what is shared counts as often as it is met; a slice's spare places count too). A statement '..UptoSaid' is the law's where the arguments, and the package variables that the reading takes, are together of bulk at most 1048576: NARROWER than '..Said'. Prove '..Said' where nothing that the law and all that it calls make is longer than what came in: it says more and counts as full. Else prove '..UptoSaid'. A law counts once. -/
mutual
def uptoBulk {H : Type} : DataW H → Nat
  | .lit (.string bytes) => bytes.length + 1
  | .lit _ => 1
  | .nil => 1
  | .ptr d => uptoBulk d + 1
  | .slice elems spare => uptoBulkAll elems + uptoBulkAll spare + 1
  | .agg parts => uptoBulkAll parts + 1
  | .iface _ d => uptoBulk d + 1
  | .map entries => uptoBulkEntries entries + 1
  | .held _ => 1
def uptoBulkAll {H : Type} : List (DataW H) → Nat
  | [] => 0
  | d :: r => uptoBulk d + uptoBulkAll r
def uptoBulkEntries {H : Type} : List (Lit × DataW H) → Nat
  | [] => 0
  | x :: r => uptoBulkEntry x + uptoBulkEntries r
def uptoBulkEntry {H : Type} : Lit × DataW H → Nat
  | (.string bytes, d) => bytes.length + uptoBulk d + 1
  | (_, d) => uptoBulk d + 1
 end
def uptoSmall : (H : Type) → List (DataW H) → Bool := fun _ ds => decide (uptoBulkAll ds ≤ 1048576)
def OpenSpec.upto (s : _root_.Go.ChangeSpec) : _root_.Go.OpenSpec := { _root_.Go.OpenSpec.ofChange s with cond := some uptoSmall }

/-- 'laws.FnWinsSome', WHERE WHAT IT READS IS OF BULK AT MOST 1048576: true; the input reads as it did. -/
def fnWinsSomeUptoRow : OpenClaim := { program := "ytfajaikkagmkeaa", sum := "f6ce0bd2a45623b3e7a3602f1fdead118fd1dd4b3e26eb7359e21570f7ca523a", func := "loop.example/dualchoices/laws.FnWinsSome", spec := "fnWinsSome", inPlace := ["internal/bytealg.IndexByteString"], unfollowed := true, recurses := true, apart := false, narrowed := true }
def FnWinsSomeUptoSaid : Prop := fnWinsSomeUptoRow.holds Try.pinned (OpenSpec.upto fnWinsSomeSpec)

/-- 'laws.FnRefinesContract', WHERE WHAT IT READS IS OF BULK AT MOST 1048576: true; the input reads as it did. -/
def fnRefinesContractUptoRow : OpenClaim := { program := "ytfajaikkagmkeaa", sum := "f6ce0bd2a45623b3e7a3602f1fdead118fd1dd4b3e26eb7359e21570f7ca523a", func := "loop.example/dualchoices/laws.FnRefinesContract", spec := "fnRefinesContract", inPlace := ["internal/bytealg.IndexByteString"], unfollowed := true, recurses := true, apart := false, narrowed := true }
def FnRefinesContractUptoSaid : Prop := fnRefinesContractUptoRow.holds Try.pinned (OpenSpec.upto fnRefinesContractSpec)

/-- 'laws.FnContractParts', WHERE WHAT IT READS IS OF BULK AT MOST 1048576: true; the input reads as it did. -/
def fnContractPartsUptoRow : OpenClaim := { program := "ytfajaikkagmkeaa", sum := "f6ce0bd2a45623b3e7a3602f1fdead118fd1dd4b3e26eb7359e21570f7ca523a", func := "loop.example/dualchoices/laws.FnContractParts", spec := "fnContractParts", inPlace := ["internal/bytealg.IndexByteString"], unfollowed := true, recurses := true, apart := false, narrowed := true }
def FnContractPartsUptoSaid : Prop := fnContractPartsUptoRow.holds Try.pinned (OpenSpec.upto fnContractPartsSpec)

/-- 'laws.FnNeeds', WHERE WHAT IT READS IS OF BULK AT MOST 1048576: true; the input reads as it did. -/
def fnNeedsUptoRow : OpenClaim := { program := "ytfajaikkagmkeaa", sum := "f6ce0bd2a45623b3e7a3602f1fdead118fd1dd4b3e26eb7359e21570f7ca523a", func := "loop.example/dualchoices/laws.FnNeeds", spec := "fnNeeds", inPlace := ["internal/bytealg.IndexByteString"], unfollowed := true, recurses := true, apart := false, narrowed := true }
def FnNeedsUptoSaid : Prop := fnNeedsUptoRow.holds Try.pinned (OpenSpec.upto fnNeedsSpec)

/-- 'laws.FnLoopFixpoint', WHERE WHAT IT READS IS OF BULK AT MOST 1048576: true; the input reads as it did. -/
def fnLoopFixpointUptoRow : OpenClaim := { program := "ytfajaikkagmkeaa", sum := "f6ce0bd2a45623b3e7a3602f1fdead118fd1dd4b3e26eb7359e21570f7ca523a", func := "loop.example/dualchoices/laws.FnLoopFixpoint", spec := "fnLoopFixpoint", inPlace := ["internal/bytealg.IndexByteString"], unfollowed := true, recurses := true, apart := false, narrowed := true }
def FnLoopFixpointUptoSaid : Prop := fnLoopFixpointUptoRow.holds Try.pinned (OpenSpec.upto fnLoopFixpointSpec)

/-- 'laws.FnChoosesIn', WHERE WHAT IT READS IS OF BULK AT MOST 1048576: true; the input reads as it did. -/
def fnChoosesInUptoRow : OpenClaim := { program := "ytfajaikkagmkeaa", sum := "f6ce0bd2a45623b3e7a3602f1fdead118fd1dd4b3e26eb7359e21570f7ca523a", func := "loop.example/dualchoices/laws.FnChoosesIn", spec := "fnChoosesIn", inPlace := ["internal/bytealg.IndexByteString"], unfollowed := true, recurses := true, apart := false, narrowed := true }
def FnChoosesInUptoSaid : Prop := fnChoosesInUptoRow.holds Try.pinned (OpenSpec.upto fnChoosesInSpec)

/-- 'laws.FnDualContract', WHERE WHAT IT READS IS OF BULK AT MOST 1048576: true; the input reads as it did. -/
def fnDualContractUptoRow : OpenClaim := { program := "ytfajaikkagmkeaa", sum := "f6ce0bd2a45623b3e7a3602f1fdead118fd1dd4b3e26eb7359e21570f7ca523a", func := "loop.example/dualchoices/laws.FnDualContract", spec := "fnDualContract", inPlace := ["internal/bytealg.IndexByteString"], unfollowed := true, recurses := true, apart := false, narrowed := true }
def FnDualContractUptoSaid : Prop := fnDualContractUptoRow.holds Try.pinned (OpenSpec.upto fnDualContractSpec)

/-- 'laws.FnContractText', WHERE WHAT IT READS IS OF BULK AT MOST 1048576: true; the input reads as it did. -/
def fnContractTextUptoRow : OpenClaim := { program := "ytfajaikkagmkeaa", sum := "f6ce0bd2a45623b3e7a3602f1fdead118fd1dd4b3e26eb7359e21570f7ca523a", func := "loop.example/dualchoices/laws.FnContractText", spec := "fnContractText", inPlace := ["internal/bytealg.IndexByteString", "internal/abi.NoEscape", "internal/bytealg.MakeNoZero"], recurses := true, apart := false, narrowed := true }
def FnContractTextUptoSaid : Prop := fnContractTextUptoRow.holds Try.pinned (OpenSpec.upto fnContractTextSpec)

end Rows
end Go.Proofs.Ytfajaikkagmkeaa
