/-
  No cell of these rows narrows 'for every input' (looked for: loops, veiled, ifaces, maps, wideKeys, modest, calm, conditions, laid).
  DERIVED. THE GIVEN ROWS OF THIS SEAT. 7 by the template 'for every input the law returns true; each argument reads behind the call as it read before'; 0 by the template 'total and deterministic' (their statements: YtlebkjjknggjfaaTotals.lean).
  GIVEN WITH THE SEED: the statements are not yours to turn. If you find one false, say at which input.
  Laid BY PROGRAM, IN A SANDBOX (cutbox-rows.mjs): the forced cells as the released guide's own fill.sh prints them over the translation 5d2b282c1101655b… (all of the seat's roots in one cut). By AI agents, Wed Nov 11 2026. No macro, syntax, notation, axiom, sorry.
-/
import Derived.Test.YtlebkjjknggjfaaChecked
import GoSem.Claim
import GoSem.ClaimJoined
import GoSem.ClaimMapViews
import Derived.JoinedTies
import Derived.KernelRfl
namespace Go.Proofs.Ytlebkjjknggjfaa
/- THE CELL 'sum', in the pinned program and in every row, IS THE sha256 OF THE DUMP (.gsa) THAT YtlebkjjknggjfaaProg.lean LOADS. Nothing in Lean hashes anything: it is a label: what it is worth is what the hold of that sum in a sandbox is worth. -/
noncomputable def Try.pinned : Pinned := { name := "ytlebkjjknggjfaa", sum := "5d2b282c1101655bd755c54e3e90db0b874391ea290f18f3efb33d5e63472fd2", checked := Try.checked }
namespace Rows
def none {H : Type} : Left H := { results := [], args := [] }

/-- 'laws.FnTestRel': WHATEVER THE INPUT: true; the input reads as it did. -/
def fnTestRelSpec : ChangeSpec := { name := "fnTestRel", fn := fun _ => fun
  | [d1, d2] => { results := [.lit (.bool true)], args := [d1, d2] }
  | _ => none }
def fnTestRelRow : OpenClaim := { program := "ytlebkjjknggjfaa", sum := "5d2b282c1101655bd755c54e3e90db0b874391ea290f18f3efb33d5e63472fd2", func := "loop.example/dualchoices/laws.FnTestRel", spec := "fnTestRel", inPlace := ["internal/bytealg.IndexByteString"], unfollowed := true, recurses := true, apart := false }
def FnTestRelSaid : Prop := fnTestRelRow.holds Try.pinned (OpenSpec.ofChange fnTestRelSpec)

/-- ITS FALSE NEIGHBOUR: 'it returns false'. Refute it at one input. -/
def fnTestRelWrong : ChangeSpec := { name := "fnTestRel", fn := fun _ => fun
  | [d1, d2] => { results := [.lit (.bool false)], args := [d1, d2] }
  | _ => none }
def FnTestRelWrongFalsely : Prop := fnTestRelRow.holds Try.pinned (OpenSpec.ofChange fnTestRelWrong)

/-- 'laws.FnComposeRel': WHATEVER THE INPUT: true; the input reads as it did. -/
def fnComposeRelSpec : ChangeSpec := { name := "fnComposeRel", fn := fun _ => fun
  | [d1, d2] => { results := [.lit (.bool true)], args := [d1, d2] }
  | _ => none }
def fnComposeRelRow : OpenClaim := { program := "ytlebkjjknggjfaa", sum := "5d2b282c1101655bd755c54e3e90db0b874391ea290f18f3efb33d5e63472fd2", func := "loop.example/dualchoices/laws.FnComposeRel", spec := "fnComposeRel", inPlace := ["internal/bytealg.IndexByteString"], unfollowed := true, recurses := true, apart := false }
def FnComposeRelSaid : Prop := fnComposeRelRow.holds Try.pinned (OpenSpec.ofChange fnComposeRelSpec)

/-- ITS FALSE NEIGHBOUR: 'it returns false'. Refute it at one input. -/
def fnComposeRelWrong : ChangeSpec := { name := "fnComposeRel", fn := fun _ => fun
  | [d1, d2] => { results := [.lit (.bool false)], args := [d1, d2] }
  | _ => none }
def FnComposeRelWrongFalsely : Prop := fnComposeRelRow.holds Try.pinned (OpenSpec.ofChange fnComposeRelWrong)

/-- 'laws.FnRelates': WHATEVER THE INPUT: true; the input reads as it did. -/
def fnRelatesSpec : ChangeSpec := { name := "fnRelates", fn := fun _ => fun
  | [d] => { results := [.lit (.bool true)], args := [d] }
  | _ => none }
def fnRelatesRow : OpenClaim := { program := "ytlebkjjknggjfaa", sum := "5d2b282c1101655bd755c54e3e90db0b874391ea290f18f3efb33d5e63472fd2", func := "loop.example/dualchoices/laws.FnRelates", spec := "fnRelates", inPlace := ["internal/bytealg.IndexByteString"], unfollowed := true, recurses := true, apart := false }
def FnRelatesSaid : Prop := fnRelatesRow.holds Try.pinned (OpenSpec.ofChange fnRelatesSpec)

/-- ITS FALSE NEIGHBOUR: 'it returns false'. Refute it at one input. -/
def fnRelatesWrong : ChangeSpec := { name := "fnRelates", fn := fun _ => fun
  | [d] => { results := [.lit (.bool false)], args := [d] }
  | _ => none }
def FnRelatesWrongFalsely : Prop := fnRelatesRow.holds Try.pinned (OpenSpec.ofChange fnRelatesWrong)

/-- 'laws.FnCloseRel': WHATEVER THE INPUT: true; the input reads as it did. -/
def fnCloseRelSpec : ChangeSpec := { name := "fnCloseRel", fn := fun _ => fun
  | [d] => { results := [.lit (.bool true)], args := [d] }
  | _ => none }
def fnCloseRelRow : OpenClaim := { program := "ytlebkjjknggjfaa", sum := "5d2b282c1101655bd755c54e3e90db0b874391ea290f18f3efb33d5e63472fd2", func := "loop.example/dualchoices/laws.FnCloseRel", spec := "fnCloseRel", inPlace := ["internal/bytealg.IndexByteString"], unfollowed := true, recurses := true, apart := false }
def FnCloseRelSaid : Prop := fnCloseRelRow.holds Try.pinned (OpenSpec.ofChange fnCloseRelSpec)

/-- ITS FALSE NEIGHBOUR: 'it returns false'. Refute it at one input. -/
def fnCloseRelWrong : ChangeSpec := { name := "fnCloseRel", fn := fun _ => fun
  | [d] => { results := [.lit (.bool false)], args := [d] }
  | _ => none }
def FnCloseRelWrongFalsely : Prop := fnCloseRelRow.holds Try.pinned (OpenSpec.ofChange fnCloseRelWrong)

/-- 'laws.FnRelSets': WHATEVER THE INPUT: true; the input reads as it did. -/
def fnRelSetsSpec : ChangeSpec := { name := "fnRelSets", fn := fun _ => fun
  | [d] => { results := [.lit (.bool true)], args := [d] }
  | _ => none }
def fnRelSetsRow : OpenClaim := { program := "ytlebkjjknggjfaa", sum := "5d2b282c1101655bd755c54e3e90db0b874391ea290f18f3efb33d5e63472fd2", func := "loop.example/dualchoices/laws.FnRelSets", spec := "fnRelSets", inPlace := ["internal/bytealg.IndexByteString"], unfollowed := true, recurses := true, apart := false }
def FnRelSetsSaid : Prop := fnRelSetsRow.holds Try.pinned (OpenSpec.ofChange fnRelSetsSpec)

/-- ITS FALSE NEIGHBOUR: 'it returns false'. Refute it at one input. -/
def fnRelSetsWrong : ChangeSpec := { name := "fnRelSets", fn := fun _ => fun
  | [d] => { results := [.lit (.bool false)], args := [d] }
  | _ => none }
def FnRelSetsWrongFalsely : Prop := fnRelSetsRow.holds Try.pinned (OpenSpec.ofChange fnRelSetsWrong)

/-- 'laws.FnImagesCompose': WHATEVER THE INPUT: true; the input reads as it did. -/
def fnImagesComposeSpec : ChangeSpec := { name := "fnImagesCompose", fn := fun _ => fun
  | [d1, d2] => { results := [.lit (.bool true)], args := [d1, d2] }
  | _ => none }
def fnImagesComposeRow : OpenClaim := { program := "ytlebkjjknggjfaa", sum := "5d2b282c1101655bd755c54e3e90db0b874391ea290f18f3efb33d5e63472fd2", func := "loop.example/dualchoices/laws.FnImagesCompose", spec := "fnImagesCompose", inPlace := ["internal/bytealg.IndexByteString"], unfollowed := true, recurses := true, apart := false }
def FnImagesComposeSaid : Prop := fnImagesComposeRow.holds Try.pinned (OpenSpec.ofChange fnImagesComposeSpec)

/-- ITS FALSE NEIGHBOUR: 'it returns false'. Refute it at one input. -/
def fnImagesComposeWrong : ChangeSpec := { name := "fnImagesCompose", fn := fun _ => fun
  | [d1, d2] => { results := [.lit (.bool false)], args := [d1, d2] }
  | _ => none }
def FnImagesComposeWrongFalsely : Prop := fnImagesComposeRow.holds Try.pinned (OpenSpec.ofChange fnImagesComposeWrong)

/-- 'laws.FnImages': WHATEVER THE INPUT: true; the input reads as it did. -/
def fnImagesSpec : ChangeSpec := { name := "fnImages", fn := fun _ => fun
  | [d1, d2] => { results := [.lit (.bool true)], args := [d1, d2] }
  | _ => none }
def fnImagesRow : OpenClaim := { program := "ytlebkjjknggjfaa", sum := "5d2b282c1101655bd755c54e3e90db0b874391ea290f18f3efb33d5e63472fd2", func := "loop.example/dualchoices/laws.FnImages", spec := "fnImages", inPlace := ["internal/bytealg.IndexByteString"], unfollowed := true, recurses := true, apart := false }
def FnImagesSaid : Prop := fnImagesRow.holds Try.pinned (OpenSpec.ofChange fnImagesSpec)

/-- ITS FALSE NEIGHBOUR: 'it returns false'. Refute it at one input. -/
def fnImagesWrong : ChangeSpec := { name := "fnImages", fn := fun _ => fun
  | [d1, d2] => { results := [.lit (.bool false)], args := [d1, d2] }
  | _ => none }
def FnImagesWrongFalsely : Prop := fnImagesRow.holds Try.pinned (OpenSpec.ofChange fnImagesWrong)

/- THE SECOND FORM. 'bulk': how many values and letters a reading holds, each counted each time it is reached (what is shared counts as often as it is met; a slice's spare places count too). A statement '..UptoSaid' is the law's where the arguments, and the package variables that the reading takes, are together of bulk at most 1048576: NARROWER than '..Said'. Prove '..Said' where nothing that the law and all that it calls make is longer than what came in: it says more and counts as full. Else prove '..UptoSaid'. A law counts once. -/
mutual
def uptoBulk {H : Type} : DataW H → Nat
  | .lit (.string bytes) => bytes.length + 1
  | .lit _ => 1
  | .nil => 1
  | .ptr d => uptoBulk d + 1
  | .slice elems spare => uptoBulkAll elems + uptoBulkAll spare + 1
  | .agg parts => uptoBulkAll parts + 1
  | .iface _ d => uptoBulk d + 1
  | .map entries => uptoBulkEntries entries + 1
  | .held _ => 1
def uptoBulkAll {H : Type} : List (DataW H) → Nat
  | [] => 0
  | d :: r => uptoBulk d + uptoBulkAll r
def uptoBulkEntries {H : Type} : List (Lit × DataW H) → Nat
  | [] => 0
  | x :: r => uptoBulkEntry x + uptoBulkEntries r
def uptoBulkEntry {H : Type} : Lit × DataW H → Nat
  | (.string bytes, d) => bytes.length + uptoBulk d + 1
  | (_, d) => uptoBulk d + 1
 end
def uptoSmall : (H : Type) → List (DataW H) → Bool := fun _ ds => decide (uptoBulkAll ds ≤ 1048576)
def OpenSpec.upto (s : _root_.Go.ChangeSpec) : _root_.Go.OpenSpec := { _root_.Go.OpenSpec.ofChange s with cond := some uptoSmall }

/-- 'laws.FnTestRel', WHERE WHAT IT READS IS OF BULK AT MOST 1048576: true; the input reads as it did. -/
def fnTestRelUptoRow : OpenClaim := { program := "ytlebkjjknggjfaa", sum := "5d2b282c1101655bd755c54e3e90db0b874391ea290f18f3efb33d5e63472fd2", func := "loop.example/dualchoices/laws.FnTestRel", spec := "fnTestRel", inPlace := ["internal/bytealg.IndexByteString"], unfollowed := true, recurses := true, apart := false, narrowed := true }
def FnTestRelUptoSaid : Prop := fnTestRelUptoRow.holds Try.pinned (OpenSpec.upto fnTestRelSpec)

/-- 'laws.FnComposeRel', WHERE WHAT IT READS IS OF BULK AT MOST 1048576: true; the input reads as it did. -/
def fnComposeRelUptoRow : OpenClaim := { program := "ytlebkjjknggjfaa", sum := "5d2b282c1101655bd755c54e3e90db0b874391ea290f18f3efb33d5e63472fd2", func := "loop.example/dualchoices/laws.FnComposeRel", spec := "fnComposeRel", inPlace := ["internal/bytealg.IndexByteString"], unfollowed := true, recurses := true, apart := false, narrowed := true }
def FnComposeRelUptoSaid : Prop := fnComposeRelUptoRow.holds Try.pinned (OpenSpec.upto fnComposeRelSpec)

/-- 'laws.FnRelates', WHERE WHAT IT READS IS OF BULK AT MOST 1048576: true; the input reads as it did. -/
def fnRelatesUptoRow : OpenClaim := { program := "ytlebkjjknggjfaa", sum := "5d2b282c1101655bd755c54e3e90db0b874391ea290f18f3efb33d5e63472fd2", func := "loop.example/dualchoices/laws.FnRelates", spec := "fnRelates", inPlace := ["internal/bytealg.IndexByteString"], unfollowed := true, recurses := true, apart := false, narrowed := true }
def FnRelatesUptoSaid : Prop := fnRelatesUptoRow.holds Try.pinned (OpenSpec.upto fnRelatesSpec)

/-- 'laws.FnCloseRel', WHERE WHAT IT READS IS OF BULK AT MOST 1048576: true; the input reads as it did. -/
def fnCloseRelUptoRow : OpenClaim := { program := "ytlebkjjknggjfaa", sum := "5d2b282c1101655bd755c54e3e90db0b874391ea290f18f3efb33d5e63472fd2", func := "loop.example/dualchoices/laws.FnCloseRel", spec := "fnCloseRel", inPlace := ["internal/bytealg.IndexByteString"], unfollowed := true, recurses := true, apart := false, narrowed := true }
def FnCloseRelUptoSaid : Prop := fnCloseRelUptoRow.holds Try.pinned (OpenSpec.upto fnCloseRelSpec)

/-- 'laws.FnRelSets', WHERE WHAT IT READS IS OF BULK AT MOST 1048576: true; the input reads as it did. -/
def fnRelSetsUptoRow : OpenClaim := { program := "ytlebkjjknggjfaa", sum := "5d2b282c1101655bd755c54e3e90db0b874391ea290f18f3efb33d5e63472fd2", func := "loop.example/dualchoices/laws.FnRelSets", spec := "fnRelSets", inPlace := ["internal/bytealg.IndexByteString"], unfollowed := true, recurses := true, apart := false, narrowed := true }
def FnRelSetsUptoSaid : Prop := fnRelSetsUptoRow.holds Try.pinned (OpenSpec.upto fnRelSetsSpec)

/-- 'laws.FnImagesCompose', WHERE WHAT IT READS IS OF BULK AT MOST 1048576: true; the input reads as it did. -/
def fnImagesComposeUptoRow : OpenClaim := { program := "ytlebkjjknggjfaa", sum := "5d2b282c1101655bd755c54e3e90db0b874391ea290f18f3efb33d5e63472fd2", func := "loop.example/dualchoices/laws.FnImagesCompose", spec := "fnImagesCompose", inPlace := ["internal/bytealg.IndexByteString"], unfollowed := true, recurses := true, apart := false, narrowed := true }
def FnImagesComposeUptoSaid : Prop := fnImagesComposeUptoRow.holds Try.pinned (OpenSpec.upto fnImagesComposeSpec)

/-- 'laws.FnImages', WHERE WHAT IT READS IS OF BULK AT MOST 1048576: true; the input reads as it did. -/
def fnImagesUptoRow : OpenClaim := { program := "ytlebkjjknggjfaa", sum := "5d2b282c1101655bd755c54e3e90db0b874391ea290f18f3efb33d5e63472fd2", func := "loop.example/dualchoices/laws.FnImages", spec := "fnImages", inPlace := ["internal/bytealg.IndexByteString"], unfollowed := true, recurses := true, apart := false, narrowed := true }
def FnImagesUptoSaid : Prop := fnImagesUptoRow.holds Try.pinned (OpenSpec.upto fnImagesSpec)

end Rows
end Go.Proofs.Ytlebkjjknggjfaa
