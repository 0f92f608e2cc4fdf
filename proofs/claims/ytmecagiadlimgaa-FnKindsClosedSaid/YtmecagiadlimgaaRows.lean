/-
  No cell of these rows narrows 'for every input' (looked for: loops, veiled, ifaces, maps, wideKeys, modest, calm, conditions, laid).
  DERIVED. THE GIVEN ROWS OF THIS SEAT. 9 by the template 'for every input the law returns true; each argument reads behind the call as it read before'; 0 by the template 'total and deterministic' (their statements: YtmecagiadlimgaaTotals.lean).
  GIVEN WITH THE SEED: the statements are not yours to turn. If you find one false, say at which input.
  Laid BY PROGRAM, IN A SANDBOX (cutbox-rows.mjs): the forced cells as the released guide's own fill.sh prints them over the translation 1773ab665ef776a8… (all of the seat's roots in one cut). By AI agents, Wed Nov 11 2026. No macro, syntax, notation, axiom, sorry.
-/
import Derived.Test.YtmecagiadlimgaaChecked
import GoSem.Claim
import GoSem.ClaimJoined
import GoSem.ClaimMapViews
import Derived.JoinedTies
import Derived.KernelRfl
namespace Go.Proofs.Ytmecagiadlimgaa
/- THE CELL 'sum', in the pinned program and in every row, IS THE sha256 OF THE DUMP (.gsa) THAT YtmecagiadlimgaaProg.lean LOADS. Nothing in Lean hashes anything: it is a label: what it is worth is what the hold of that sum in a sandbox is worth. -/
noncomputable def Try.pinned : Pinned := { name := "ytmecagiadlimgaa", sum := "1773ab665ef776a84b28a48fd7dd016460b46d6502f7f16d8a690bf02f04dae2", checked := Try.checked }
namespace Rows
def none {H : Type} : Left H := { results := [], args := [] }

/-- 'laws.FnStarts': WHATEVER THE INPUT: true; the input reads as it did. -/
def fnStartsSpec : ChangeSpec := { name := "fnStarts", fn := fun _ => fun
  | [d] => { results := [.lit (.bool true)], args := [d] }
  | _ => none }
def fnStartsRow : OpenClaim := { program := "ytmecagiadlimgaa", sum := "1773ab665ef776a84b28a48fd7dd016460b46d6502f7f16d8a690bf02f04dae2", func := "loop.example/dualchoices/laws.FnStarts", spec := "fnStarts", inPlace := ["internal/bytealg.IndexByteString"], unfollowed := true, recurses := true, apart := false }
def FnStartsSaid : Prop := fnStartsRow.holds Try.pinned (OpenSpec.ofChange fnStartsSpec)

/-- ITS FALSE NEIGHBOUR: 'it returns false'. Refute it at one input. -/
def fnStartsWrong : ChangeSpec := { name := "fnStarts", fn := fun _ => fun
  | [d] => { results := [.lit (.bool false)], args := [d] }
  | _ => none }
def FnStartsWrongFalsely : Prop := fnStartsRow.holds Try.pinned (OpenSpec.ofChange fnStartsWrong)

/-- 'laws.FnSpecTrans': WHATEVER THE INPUT: true; the input reads as it did. -/
def fnSpecTransSpec : ChangeSpec := { name := "fnSpecTrans", fn := fun _ => fun
  | [d] => { results := [.lit (.bool true)], args := [d] }
  | _ => none }
def fnSpecTransRow : OpenClaim := { program := "ytmecagiadlimgaa", sum := "1773ab665ef776a84b28a48fd7dd016460b46d6502f7f16d8a690bf02f04dae2", func := "loop.example/dualchoices/laws.FnSpecTrans", spec := "fnSpecTrans", inPlace := ["internal/bytealg.IndexByteString"], unfollowed := true, recurses := true, apart := false }
def FnSpecTransSaid : Prop := fnSpecTransRow.holds Try.pinned (OpenSpec.ofChange fnSpecTransSpec)

/-- ITS FALSE NEIGHBOUR: 'it returns false'. Refute it at one input. -/
def fnSpecTransWrong : ChangeSpec := { name := "fnSpecTrans", fn := fun _ => fun
  | [d] => { results := [.lit (.bool false)], args := [d] }
  | _ => none }
def FnSpecTransWrongFalsely : Prop := fnSpecTransRow.holds Try.pinned (OpenSpec.ofChange fnSpecTransWrong)

/-- 'laws.FnKindsClosed': WHATEVER THE INPUT: true; the input reads as it did. -/
def fnKindsClosedSpec : ChangeSpec := { name := "fnKindsClosed", fn := fun _ => fun
  | [d1, d2] => { results := [.lit (.bool true)], args := [d1, d2] }
  | _ => none }
def fnKindsClosedRow : OpenClaim := { program := "ytmecagiadlimgaa", sum := "1773ab665ef776a84b28a48fd7dd016460b46d6502f7f16d8a690bf02f04dae2", func := "loop.example/dualchoices/laws.FnKindsClosed", spec := "fnKindsClosed", inPlace := ["internal/bytealg.IndexByteString"], unfollowed := true, recurses := true, apart := false }
def FnKindsClosedSaid : Prop := fnKindsClosedRow.holds Try.pinned (OpenSpec.ofChange fnKindsClosedSpec)

/-- ITS FALSE NEIGHBOUR: 'it returns false'. Refute it at one input. -/
def fnKindsClosedWrong : ChangeSpec := { name := "fnKindsClosed", fn := fun _ => fun
  | [d1, d2] => { results := [.lit (.bool false)], args := [d1, d2] }
  | _ => none }
def FnKindsClosedWrongFalsely : Prop := fnKindsClosedRow.holds Try.pinned (OpenSpec.ofChange fnKindsClosedWrong)

/-- 'laws.FnKinds': WHATEVER THE INPUT: true; the input reads as it did. -/
def fnKindsSpec : ChangeSpec := { name := "fnKinds", fn := fun _ => fun
  | [d] => { results := [.lit (.bool true)], args := [d] }
  | _ => none }
def fnKindsRow : OpenClaim := { program := "ytmecagiadlimgaa", sum := "1773ab665ef776a84b28a48fd7dd016460b46d6502f7f16d8a690bf02f04dae2", func := "loop.example/dualchoices/laws.FnKinds", spec := "fnKinds", inPlace := ["internal/bytealg.IndexByteString"], unfollowed := true, recurses := true, apart := false }
def FnKindsSaid : Prop := fnKindsRow.holds Try.pinned (OpenSpec.ofChange fnKindsSpec)

/-- ITS FALSE NEIGHBOUR: 'it returns false'. Refute it at one input. -/
def fnKindsWrong : ChangeSpec := { name := "fnKinds", fn := fun _ => fun
  | [d] => { results := [.lit (.bool false)], args := [d] }
  | _ => none }
def FnKindsWrongFalsely : Prop := fnKindsRow.holds Try.pinned (OpenSpec.ofChange fnKindsWrong)

/-- 'laws.FnReach': WHATEVER THE INPUT: true; the input reads as it did. -/
def fnReachSpec : ChangeSpec := { name := "fnReach", fn := fun _ => fun
  | [d1, d2] => { results := [.lit (.bool true)], args := [d1, d2] }
  | _ => none }
def fnReachRow : OpenClaim := { program := "ytmecagiadlimgaa", sum := "1773ab665ef776a84b28a48fd7dd016460b46d6502f7f16d8a690bf02f04dae2", func := "loop.example/dualchoices/laws.FnReach", spec := "fnReach", inPlace := ["internal/bytealg.IndexByteString"], unfollowed := true, recurses := true, apart := false }
def FnReachSaid : Prop := fnReachRow.holds Try.pinned (OpenSpec.ofChange fnReachSpec)

/-- ITS FALSE NEIGHBOUR: 'it returns false'. Refute it at one input. -/
def fnReachWrong : ChangeSpec := { name := "fnReach", fn := fun _ => fun
  | [d1, d2] => { results := [.lit (.bool false)], args := [d1, d2] }
  | _ => none }
def FnReachWrongFalsely : Prop := fnReachRow.holds Try.pinned (OpenSpec.ofChange fnReachWrong)

/-- 'laws.FnDemonAbove': WHATEVER THE INPUT: true; the input reads as it did. -/
def fnDemonAboveSpec : ChangeSpec := { name := "fnDemonAbove", fn := fun _ => fun
  | [d1, d2] => { results := [.lit (.bool true)], args := [d1, d2] }
  | _ => none }
def fnDemonAboveRow : OpenClaim := { program := "ytmecagiadlimgaa", sum := "1773ab665ef776a84b28a48fd7dd016460b46d6502f7f16d8a690bf02f04dae2", func := "loop.example/dualchoices/laws.FnDemonAbove", spec := "fnDemonAbove", inPlace := ["internal/bytealg.IndexByteString"], unfollowed := true, recurses := true, apart := false }
def FnDemonAboveSaid : Prop := fnDemonAboveRow.holds Try.pinned (OpenSpec.ofChange fnDemonAboveSpec)

/-- ITS FALSE NEIGHBOUR: 'it returns false'. Refute it at one input. -/
def fnDemonAboveWrong : ChangeSpec := { name := "fnDemonAbove", fn := fun _ => fun
  | [d1, d2] => { results := [.lit (.bool false)], args := [d1, d2] }
  | _ => none }
def FnDemonAboveWrongFalsely : Prop := fnDemonAboveRow.holds Try.pinned (OpenSpec.ofChange fnDemonAboveWrong)

/-- 'laws.FnSpecOf': WHATEVER THE INPUT: true; the input reads as it did. -/
def fnSpecOfSpec : ChangeSpec := { name := "fnSpecOf", fn := fun _ => fun
  | [d] => { results := [.lit (.bool true)], args := [d] }
  | _ => none }
def fnSpecOfRow : OpenClaim := { program := "ytmecagiadlimgaa", sum := "1773ab665ef776a84b28a48fd7dd016460b46d6502f7f16d8a690bf02f04dae2", func := "loop.example/dualchoices/laws.FnSpecOf", spec := "fnSpecOf", inPlace := ["internal/bytealg.IndexByteString"], unfollowed := true, recurses := true, apart := false }
def FnSpecOfSaid : Prop := fnSpecOfRow.holds Try.pinned (OpenSpec.ofChange fnSpecOfSpec)

/-- ITS FALSE NEIGHBOUR: 'it returns false'. Refute it at one input. -/
def fnSpecOfWrong : ChangeSpec := { name := "fnSpecOf", fn := fun _ => fun
  | [d] => { results := [.lit (.bool false)], args := [d] }
  | _ => none }
def FnSpecOfWrongFalsely : Prop := fnSpecOfRow.holds Try.pinned (OpenSpec.ofChange fnSpecOfWrong)

/-- 'laws.FnAngelDemon': WHATEVER THE INPUT: true; the input reads as it did. -/
def fnAngelDemonSpec : ChangeSpec := { name := "fnAngelDemon", fn := fun _ => fun
  | [d1, d2] => { results := [.lit (.bool true)], args := [d1, d2] }
  | _ => none }
def fnAngelDemonRow : OpenClaim := { program := "ytmecagiadlimgaa", sum := "1773ab665ef776a84b28a48fd7dd016460b46d6502f7f16d8a690bf02f04dae2", func := "loop.example/dualchoices/laws.FnAngelDemon", spec := "fnAngelDemon", inPlace := ["internal/bytealg.IndexByteString"], unfollowed := true, recurses := true, apart := false }
def FnAngelDemonSaid : Prop := fnAngelDemonRow.holds Try.pinned (OpenSpec.ofChange fnAngelDemonSpec)

/-- ITS FALSE NEIGHBOUR: 'it returns false'. Refute it at one input. -/
def fnAngelDemonWrong : ChangeSpec := { name := "fnAngelDemon", fn := fun _ => fun
  | [d1, d2] => { results := [.lit (.bool false)], args := [d1, d2] }
  | _ => none }
def FnAngelDemonWrongFalsely : Prop := fnAngelDemonRow.holds Try.pinned (OpenSpec.ofChange fnAngelDemonWrong)

/-- 'laws.FnAngelRel': WHATEVER THE INPUT: true; the input reads as it did. -/
def fnAngelRelSpec : ChangeSpec := { name := "fnAngelRel", fn := fun _ => fun
  | [d] => { results := [.lit (.bool true)], args := [d] }
  | _ => none }
def fnAngelRelRow : OpenClaim := { program := "ytmecagiadlimgaa", sum := "1773ab665ef776a84b28a48fd7dd016460b46d6502f7f16d8a690bf02f04dae2", func := "loop.example/dualchoices/laws.FnAngelRel", spec := "fnAngelRel", inPlace := ["internal/bytealg.IndexByteString"], unfollowed := true, recurses := true, apart := false }
def FnAngelRelSaid : Prop := fnAngelRelRow.holds Try.pinned (OpenSpec.ofChange fnAngelRelSpec)

/-- ITS FALSE NEIGHBOUR: 'it returns false'. Refute it at one input. -/
def fnAngelRelWrong : ChangeSpec := { name := "fnAngelRel", fn := fun _ => fun
  | [d] => { results := [.lit (.bool false)], args := [d] }
  | _ => none }
def FnAngelRelWrongFalsely : Prop := fnAngelRelRow.holds Try.pinned (OpenSpec.ofChange fnAngelRelWrong)

/- THE SECOND FORM. 'bulk': how many values and letters a reading holds, each counted each time it is reached (what is shared counts as often as it is met; a slice's spare places count too). A statement '..UptoSaid' is the law's where the arguments, and the package variables that the reading takes, are together of bulk at most 1048576: NARROWER than '..Said'. Prove '..Said' where nothing that the law and all that it calls make is longer than what came in: it says more and counts as full. Else prove '..UptoSaid'. A law counts once. -/
mutual
def uptoBulk {H : Type} : DataW H → Nat
  | .lit (.string bytes) => bytes.length + 1
  | .lit _ => 1
  | .nil => 1
  | .ptr d => uptoBulk d + 1
  | .slice elems spare => uptoBulkAll elems + uptoBulkAll spare + 1
  | .agg parts => uptoBulkAll parts + 1
  | .iface _ d => uptoBulk d + 1
  | .map entries => uptoBulkEntries entries + 1
  | .held _ => 1
def uptoBulkAll {H : Type} : List (DataW H) → Nat
  | [] => 0
  | d :: r => uptoBulk d + uptoBulkAll r
def uptoBulkEntries {H : Type} : List (Lit × DataW H) → Nat
  | [] => 0
  | x :: r => uptoBulkEntry x + uptoBulkEntries r
def uptoBulkEntry {H : Type} : Lit × DataW H → Nat
  | (.string bytes, d) => bytes.length + uptoBulk d + 1
  | (_, d) => uptoBulk d + 1
 end
def uptoSmall : (H : Type) → List (DataW H) → Bool := fun _ ds => decide (uptoBulkAll ds ≤ 1048576)
def OpenSpec.upto (s : _root_.Go.ChangeSpec) : _root_.Go.OpenSpec := { _root_.Go.OpenSpec.ofChange s with cond := some uptoSmall }

/-- 'laws.FnStarts', WHERE WHAT IT READS IS OF BULK AT MOST 1048576: true; the input reads as it did. -/
def fnStartsUptoRow : OpenClaim := { program := "ytmecagiadlimgaa", sum := "1773ab665ef776a84b28a48fd7dd016460b46d6502f7f16d8a690bf02f04dae2", func := "loop.example/dualchoices/laws.FnStarts", spec := "fnStarts", inPlace := ["internal/bytealg.IndexByteString"], unfollowed := true, recurses := true, apart := false, narrowed := true }
def FnStartsUptoSaid : Prop := fnStartsUptoRow.holds Try.pinned (OpenSpec.upto fnStartsSpec)

/-- 'laws.FnSpecTrans', WHERE WHAT IT READS IS OF BULK AT MOST 1048576: true; the input reads as it did. -/
def fnSpecTransUptoRow : OpenClaim := { program := "ytmecagiadlimgaa", sum := "1773ab665ef776a84b28a48fd7dd016460b46d6502f7f16d8a690bf02f04dae2", func := "loop.example/dualchoices/laws.FnSpecTrans", spec := "fnSpecTrans", inPlace := ["internal/bytealg.IndexByteString"], unfollowed := true, recurses := true, apart := false, narrowed := true }
def FnSpecTransUptoSaid : Prop := fnSpecTransUptoRow.holds Try.pinned (OpenSpec.upto fnSpecTransSpec)

/-- 'laws.FnKindsClosed', WHERE WHAT IT READS IS OF BULK AT MOST 1048576: true; the input reads as it did. -/
def fnKindsClosedUptoRow : OpenClaim := { program := "ytmecagiadlimgaa", sum := "1773ab665ef776a84b28a48fd7dd016460b46d6502f7f16d8a690bf02f04dae2", func := "loop.example/dualchoices/laws.FnKindsClosed", spec := "fnKindsClosed", inPlace := ["internal/bytealg.IndexByteString"], unfollowed := true, recurses := true, apart := false, narrowed := true }
def FnKindsClosedUptoSaid : Prop := fnKindsClosedUptoRow.holds Try.pinned (OpenSpec.upto fnKindsClosedSpec)

/-- 'laws.FnKinds', WHERE WHAT IT READS IS OF BULK AT MOST 1048576: true; the input reads as it did. -/
def fnKindsUptoRow : OpenClaim := { program := "ytmecagiadlimgaa", sum := "1773ab665ef776a84b28a48fd7dd016460b46d6502f7f16d8a690bf02f04dae2", func := "loop.example/dualchoices/laws.FnKinds", spec := "fnKinds", inPlace := ["internal/bytealg.IndexByteString"], unfollowed := true, recurses := true, apart := false, narrowed := true }
def FnKindsUptoSaid : Prop := fnKindsUptoRow.holds Try.pinned (OpenSpec.upto fnKindsSpec)

/-- 'laws.FnReach', WHERE WHAT IT READS IS OF BULK AT MOST 1048576: true; the input reads as it did. -/
def fnReachUptoRow : OpenClaim := { program := "ytmecagiadlimgaa", sum := "1773ab665ef776a84b28a48fd7dd016460b46d6502f7f16d8a690bf02f04dae2", func := "loop.example/dualchoices/laws.FnReach", spec := "fnReach", inPlace := ["internal/bytealg.IndexByteString"], unfollowed := true, recurses := true, apart := false, narrowed := true }
def FnReachUptoSaid : Prop := fnReachUptoRow.holds Try.pinned (OpenSpec.upto fnReachSpec)

/-- 'laws.FnDemonAbove', WHERE WHAT IT READS IS OF BULK AT MOST 1048576: true; the input reads as it did. -/
def fnDemonAboveUptoRow : OpenClaim := { program := "ytmecagiadlimgaa", sum := "1773ab665ef776a84b28a48fd7dd016460b46d6502f7f16d8a690bf02f04dae2", func := "loop.example/dualchoices/laws.FnDemonAbove", spec := "fnDemonAbove", inPlace := ["internal/bytealg.IndexByteString"], unfollowed := true, recurses := true, apart := false, narrowed := true }
def FnDemonAboveUptoSaid : Prop := fnDemonAboveUptoRow.holds Try.pinned (OpenSpec.upto fnDemonAboveSpec)

/-- 'laws.FnSpecOf', WHERE WHAT IT READS IS OF BULK AT MOST 1048576: true; the input reads as it did. -/
def fnSpecOfUptoRow : OpenClaim := { program := "ytmecagiadlimgaa", sum := "1773ab665ef776a84b28a48fd7dd016460b46d6502f7f16d8a690bf02f04dae2", func := "loop.example/dualchoices/laws.FnSpecOf", spec := "fnSpecOf", inPlace := ["internal/bytealg.IndexByteString"], unfollowed := true, recurses := true, apart := false, narrowed := true }
def FnSpecOfUptoSaid : Prop := fnSpecOfUptoRow.holds Try.pinned (OpenSpec.upto fnSpecOfSpec)

/-- 'laws.FnAngelDemon', WHERE WHAT IT READS IS OF BULK AT MOST 1048576: true; the input reads as it did. -/
def fnAngelDemonUptoRow : OpenClaim := { program := "ytmecagiadlimgaa", sum := "1773ab665ef776a84b28a48fd7dd016460b46d6502f7f16d8a690bf02f04dae2", func := "loop.example/dualchoices/laws.FnAngelDemon", spec := "fnAngelDemon", inPlace := ["internal/bytealg.IndexByteString"], unfollowed := true, recurses := true, apart := false, narrowed := true }
def FnAngelDemonUptoSaid : Prop := fnAngelDemonUptoRow.holds Try.pinned (OpenSpec.upto fnAngelDemonSpec)

/-- 'laws.FnAngelRel', WHERE WHAT IT READS IS OF BULK AT MOST 1048576: true; the input reads as it did. -/
def fnAngelRelUptoRow : OpenClaim := { program := "ytmecagiadlimgaa", sum := "1773ab665ef776a84b28a48fd7dd016460b46d6502f7f16d8a690bf02f04dae2", func := "loop.example/dualchoices/laws.FnAngelRel", spec := "fnAngelRel", inPlace := ["internal/bytealg.IndexByteString"], unfollowed := true, recurses := true, apart := false, narrowed := true }
def FnAngelRelUptoSaid : Prop := fnAngelRelUptoRow.holds Try.pinned (OpenSpec.upto fnAngelRelSpec)

end Rows
end Go.Proofs.Ytmecagiadlimgaa
