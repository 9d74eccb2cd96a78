/-
  No cell of these rows narrows 'for every input' (looked for: loops, veiled, ifaces, maps, wideKeys, modest, calm, conditions, laid).
  DERIVED. THE GIVEN ROWS OF THIS SEAT. 11 by the template 'for every input the law returns true; each argument reads behind the call as it read before'; 0 by the template 'total and deterministic' (their statements: YtbmnmdpgkdaiiaaTotals.lean).
  GIVEN WITH THE SEED: the statements are not yours to turn. If you find one false, say at which input.
  Laid BY PROGRAM, IN A SANDBOX (cutbox-rows.mjs): the forced cells as the released guide's own fill.sh prints them over the translation 5368adfabbd827b8… (all of the seat's roots in one cut). By AI agents, Wed Nov 11 2026. No macro, syntax, notation, axiom, sorry.
-/
import Derived.Test.YtbmnmdpgkdaiiaaChecked
import GoSem.Claim
import GoSem.ClaimJoined
import GoSem.ClaimMapViews
import Derived.JoinedTies
import Derived.KernelRfl
namespace Go.Proofs.Ytbmnmdpgkdaiiaa
/- THE CELL 'sum', in the pinned program and in every row, IS THE sha256 OF THE DUMP (.gsa) THAT YtbmnmdpgkdaiiaaProg.lean LOADS. Nothing in Lean hashes anything: it is a label: what it is worth is what the hold of that sum in a sandbox is worth. -/
noncomputable def Try.pinned : Pinned := { name := "ytbmnmdpgkdaiiaa", sum := "5368adfabbd827b8a8db6957727ba1b0ad59c561ee66c1d48d18d46078d6b484", checked := Try.checked }
namespace Rows
def none {H : Type} : Left H := { results := [], args := [] }

/-- 'laws.FnTurnLength': WHATEVER THE INPUT: true; the input reads as it did. -/
def fnTurnLengthSpec : ChangeSpec := { name := "fnTurnLength", fn := fun _ => fun
  | [d] => { results := [.lit (.bool true)], args := [d] }
  | _ => none }
def fnTurnLengthRow : OpenClaim := { program := "ytbmnmdpgkdaiiaa", sum := "5368adfabbd827b8a8db6957727ba1b0ad59c561ee66c1d48d18d46078d6b484", func := "loop.example/paperrolls/laws.FnTurnLength", spec := "fnTurnLength", apart := false }
def FnTurnLengthSaid : Prop := fnTurnLengthRow.holds Try.pinned (OpenSpec.ofChange fnTurnLengthSpec)

/-- ITS FALSE NEIGHBOUR: 'it returns false'. Refute it at one input. -/
def fnTurnLengthWrong : ChangeSpec := { name := "fnTurnLength", fn := fun _ => fun
  | [d] => { results := [.lit (.bool false)], args := [d] }
  | _ => none }
def FnTurnLengthWrongFalsely : Prop := fnTurnLengthRow.holds Try.pinned (OpenSpec.ofChange fnTurnLengthWrong)

/-- 'laws.FnDiameterOf': WHATEVER THE INPUT: true; the input reads as it did. -/
def fnDiameterOfSpec : ChangeSpec := { name := "fnDiameterOf", fn := fun _ => fun
  | [d] => { results := [.lit (.bool true)], args := [d] }
  | _ => none }
def fnDiameterOfRow : OpenClaim := { program := "ytbmnmdpgkdaiiaa", sum := "5368adfabbd827b8a8db6957727ba1b0ad59c561ee66c1d48d18d46078d6b484", func := "loop.example/paperrolls/laws.FnDiameterOf", spec := "fnDiameterOf", apart := false }
def FnDiameterOfSaid : Prop := fnDiameterOfRow.holds Try.pinned (OpenSpec.ofChange fnDiameterOfSpec)

/-- ITS FALSE NEIGHBOUR: 'it returns false'. Refute it at one input. -/
def fnDiameterOfWrong : ChangeSpec := { name := "fnDiameterOf", fn := fun _ => fun
  | [d] => { results := [.lit (.bool false)], args := [d] }
  | _ => none }
def FnDiameterOfWrongFalsely : Prop := fnDiameterOfRow.holds Try.pinned (OpenSpec.ofChange fnDiameterOfWrong)

/-- 'laws.FnTurnsUnder': WHATEVER THE INPUT: true; the input reads as it did. -/
def fnTurnsUnderSpec : ChangeSpec := { name := "fnTurnsUnder", fn := fun _ => fun
  | [d] => { results := [.lit (.bool true)], args := [d] }
  | _ => none }
def fnTurnsUnderRow : OpenClaim := { program := "ytbmnmdpgkdaiiaa", sum := "5368adfabbd827b8a8db6957727ba1b0ad59c561ee66c1d48d18d46078d6b484", func := "loop.example/paperrolls/laws.FnTurnsUnder", spec := "fnTurnsUnder", apart := false }
def FnTurnsUnderSaid : Prop := fnTurnsUnderRow.holds Try.pinned (OpenSpec.ofChange fnTurnsUnderSpec)

/-- ITS FALSE NEIGHBOUR: 'it returns false'. Refute it at one input. -/
def fnTurnsUnderWrong : ChangeSpec := { name := "fnTurnsUnder", fn := fun _ => fun
  | [d] => { results := [.lit (.bool false)], args := [d] }
  | _ => none }
def FnTurnsUnderWrongFalsely : Prop := fnTurnsUnderRow.holds Try.pinned (OpenSpec.ofChange fnTurnsUnderWrong)

/-- 'laws.FnValidRoll': WHATEVER THE INPUT: true; the input reads as it did. -/
def fnValidRollSpec : ChangeSpec := { name := "fnValidRoll", fn := fun _ => fun
  | [d] => { results := [.lit (.bool true)], args := [d] }
  | _ => none }
def fnValidRollRow : OpenClaim := { program := "ytbmnmdpgkdaiiaa", sum := "5368adfabbd827b8a8db6957727ba1b0ad59c561ee66c1d48d18d46078d6b484", func := "loop.example/paperrolls/laws.FnValidRoll", spec := "fnValidRoll", apart := false }
def FnValidRollSaid : Prop := fnValidRollRow.holds Try.pinned (OpenSpec.ofChange fnValidRollSpec)

/-- ITS FALSE NEIGHBOUR: 'it returns false'. Refute it at one input. -/
def fnValidRollWrong : ChangeSpec := { name := "fnValidRoll", fn := fun _ => fun
  | [d] => { results := [.lit (.bool false)], args := [d] }
  | _ => none }
def FnValidRollWrongFalsely : Prop := fnValidRollRow.holds Try.pinned (OpenSpec.ofChange fnValidRollWrong)

/-- 'laws.FnWindRoll': WHATEVER THE INPUT: true; the input reads as it did. -/
def fnWindRollSpec : ChangeSpec := { name := "fnWindRoll", fn := fun _ => fun
  | [d] => { results := [.lit (.bool true)], args := [d] }
  | _ => none }
def fnWindRollRow : OpenClaim := { program := "ytbmnmdpgkdaiiaa", sum := "5368adfabbd827b8a8db6957727ba1b0ad59c561ee66c1d48d18d46078d6b484", func := "loop.example/paperrolls/laws.FnWindRoll", spec := "fnWindRoll", apart := false }
def FnWindRollSaid : Prop := fnWindRollRow.holds Try.pinned (OpenSpec.ofChange fnWindRollSpec)

/-- ITS FALSE NEIGHBOUR: 'it returns false'. Refute it at one input. -/
def fnWindRollWrong : ChangeSpec := { name := "fnWindRoll", fn := fun _ => fun
  | [d] => { results := [.lit (.bool false)], args := [d] }
  | _ => none }
def FnWindRollWrongFalsely : Prop := fnWindRollRow.holds Try.pinned (OpenSpec.ofChange fnWindRollWrong)

/-- 'laws.FnLengthOf': WHATEVER THE INPUT: true; the input reads as it did. -/
def fnLengthOfSpec : ChangeSpec := { name := "fnLengthOf", fn := fun _ => fun
  | [d] => { results := [.lit (.bool true)], args := [d] }
  | _ => none }
def fnLengthOfRow : OpenClaim := { program := "ytbmnmdpgkdaiiaa", sum := "5368adfabbd827b8a8db6957727ba1b0ad59c561ee66c1d48d18d46078d6b484", func := "loop.example/paperrolls/laws.FnLengthOf", spec := "fnLengthOf", apart := false }
def FnLengthOfSaid : Prop := fnLengthOfRow.holds Try.pinned (OpenSpec.ofChange fnLengthOfSpec)

/-- ITS FALSE NEIGHBOUR: 'it returns false'. Refute it at one input. -/
def fnLengthOfWrong : ChangeSpec := { name := "fnLengthOf", fn := fun _ => fun
  | [d] => { results := [.lit (.bool false)], args := [d] }
  | _ => none }
def FnLengthOfWrongFalsely : Prop := fnLengthOfRow.holds Try.pinned (OpenSpec.ofChange fnLengthOfWrong)

/-- 'laws.FnTurnsForRoll': WHATEVER THE INPUT: true; the input reads as it did. -/
def fnTurnsForRollSpec : ChangeSpec := { name := "fnTurnsForRoll", fn := fun _ => fun
  | [d] => { results := [.lit (.bool true)], args := [d] }
  | _ => none }
def fnTurnsForRollRow : OpenClaim := { program := "ytbmnmdpgkdaiiaa", sum := "5368adfabbd827b8a8db6957727ba1b0ad59c561ee66c1d48d18d46078d6b484", func := "loop.example/paperrolls/laws.FnTurnsForRoll", spec := "fnTurnsForRoll", apart := false }
def FnTurnsForRollSaid : Prop := fnTurnsForRollRow.holds Try.pinned (OpenSpec.ofChange fnTurnsForRollSpec)

/-- ITS FALSE NEIGHBOUR: 'it returns false'. Refute it at one input. -/
def fnTurnsForRollWrong : ChangeSpec := { name := "fnTurnsForRoll", fn := fun _ => fun
  | [d] => { results := [.lit (.bool false)], args := [d] }
  | _ => none }
def FnTurnsForRollWrongFalsely : Prop := fnTurnsForRollRow.holds Try.pinned (OpenSpec.ofChange fnTurnsForRollWrong)

/-- 'laws.FnTurnsFor': WHATEVER THE INPUT: true; the input reads as it did. -/
def fnTurnsForSpec : ChangeSpec := { name := "fnTurnsFor", fn := fun _ => fun
  | [d] => { results := [.lit (.bool true)], args := [d] }
  | _ => none }
def fnTurnsForRow : OpenClaim := { program := "ytbmnmdpgkdaiiaa", sum := "5368adfabbd827b8a8db6957727ba1b0ad59c561ee66c1d48d18d46078d6b484", func := "loop.example/paperrolls/laws.FnTurnsFor", spec := "fnTurnsFor", apart := false }
def FnTurnsForSaid : Prop := fnTurnsForRow.holds Try.pinned (OpenSpec.ofChange fnTurnsForSpec)

/-- ITS FALSE NEIGHBOUR: 'it returns false'. Refute it at one input. -/
def fnTurnsForWrong : ChangeSpec := { name := "fnTurnsFor", fn := fun _ => fun
  | [d] => { results := [.lit (.bool false)], args := [d] }
  | _ => none }
def FnTurnsForWrongFalsely : Prop := fnTurnsForRow.holds Try.pinned (OpenSpec.ofChange fnTurnsForWrong)

/-- 'laws.FnUnwindRoll': WHATEVER THE INPUT: true; the input reads as it did. -/
def fnUnwindRollSpec : ChangeSpec := { name := "fnUnwindRoll", fn := fun _ => fun
  | [d] => { results := [.lit (.bool true)], args := [d] }
  | _ => none }
def fnUnwindRollRow : OpenClaim := { program := "ytbmnmdpgkdaiiaa", sum := "5368adfabbd827b8a8db6957727ba1b0ad59c561ee66c1d48d18d46078d6b484", func := "loop.example/paperrolls/laws.FnUnwindRoll", spec := "fnUnwindRoll", apart := false }
def FnUnwindRollSaid : Prop := fnUnwindRollRow.holds Try.pinned (OpenSpec.ofChange fnUnwindRollSpec)

/-- ITS FALSE NEIGHBOUR: 'it returns false'. Refute it at one input. -/
def fnUnwindRollWrong : ChangeSpec := { name := "fnUnwindRoll", fn := fun _ => fun
  | [d] => { results := [.lit (.bool false)], args := [d] }
  | _ => none }
def FnUnwindRollWrongFalsely : Prop := fnUnwindRollRow.holds Try.pinned (OpenSpec.ofChange fnUnwindRollWrong)

/-- 'laws.FnTurnAt': WHATEVER THE INPUT: true; the input reads as it did. -/
def fnTurnAtSpec : ChangeSpec := { name := "fnTurnAt", fn := fun _ => fun
  | [d] => { results := [.lit (.bool true)], args := [d] }
  | _ => none }
def fnTurnAtRow : OpenClaim := { program := "ytbmnmdpgkdaiiaa", sum := "5368adfabbd827b8a8db6957727ba1b0ad59c561ee66c1d48d18d46078d6b484", func := "loop.example/paperrolls/laws.FnTurnAt", spec := "fnTurnAt", apart := false }
def FnTurnAtSaid : Prop := fnTurnAtRow.holds Try.pinned (OpenSpec.ofChange fnTurnAtSpec)

/-- ITS FALSE NEIGHBOUR: 'it returns false'. Refute it at one input. -/
def fnTurnAtWrong : ChangeSpec := { name := "fnTurnAt", fn := fun _ => fun
  | [d] => { results := [.lit (.bool false)], args := [d] }
  | _ => none }
def FnTurnAtWrongFalsely : Prop := fnTurnAtRow.holds Try.pinned (OpenSpec.ofChange fnTurnAtWrong)

/-- 'laws.FnRewind': WHATEVER THE INPUT: true; the input reads as it did. -/
def fnRewindSpec : ChangeSpec := { name := "fnRewind", fn := fun _ => fun
  | [d] => { results := [.lit (.bool true)], args := [d] }
  | _ => none }
def fnRewindRow : OpenClaim := { program := "ytbmnmdpgkdaiiaa", sum := "5368adfabbd827b8a8db6957727ba1b0ad59c561ee66c1d48d18d46078d6b484", func := "loop.example/paperrolls/laws.FnRewind", spec := "fnRewind", apart := false }
def FnRewindSaid : Prop := fnRewindRow.holds Try.pinned (OpenSpec.ofChange fnRewindSpec)

/-- ITS FALSE NEIGHBOUR: 'it returns false'. Refute it at one input. -/
def fnRewindWrong : ChangeSpec := { name := "fnRewind", fn := fun _ => fun
  | [d] => { results := [.lit (.bool false)], args := [d] }
  | _ => none }
def FnRewindWrongFalsely : Prop := fnRewindRow.holds Try.pinned (OpenSpec.ofChange fnRewindWrong)

/- THE SECOND FORM. 'bulk': how many values and letters a reading holds, each counted each time it is reached (what is shared counts as often as it is met; a slice's spare places count too). A statement '..UptoSaid' is the law's where the arguments, and the package variables that the reading takes, are together of bulk at most 1048576: NARROWER than '..Said'. Prove '..Said' where nothing that the law and all that it calls make is longer than what came in: it says more and counts as full. Else prove '..UptoSaid'. A law counts once. -/
mutual
def uptoBulk {H : Type} : DataW H → Nat
  | .lit (.string bytes) => bytes.length + 1
  | .lit _ => 1
  | .nil => 1
  | .ptr d => uptoBulk d + 1
  | .slice elems spare => uptoBulkAll elems + uptoBulkAll spare + 1
  | .agg parts => uptoBulkAll parts + 1
  | .iface _ d => uptoBulk d + 1
  | .map entries => uptoBulkEntries entries + 1
  | .held _ => 1
def uptoBulkAll {H : Type} : List (DataW H) → Nat
  | [] => 0
  | d :: r => uptoBulk d + uptoBulkAll r
def uptoBulkEntries {H : Type} : List (Lit × DataW H) → Nat
  | [] => 0
  | x :: r => uptoBulkEntry x + uptoBulkEntries r
def uptoBulkEntry {H : Type} : Lit × DataW H → Nat
  | (.string bytes, d) => bytes.length + uptoBulk d + 1
  | (_, d) => uptoBulk d + 1
 end
def uptoSmall : (H : Type) → List (DataW H) → Bool := fun _ ds => decide (uptoBulkAll ds ≤ 1048576)
def OpenSpec.upto (s : _root_.Go.ChangeSpec) : _root_.Go.OpenSpec := { _root_.Go.OpenSpec.ofChange s with cond := some uptoSmall }

/-- 'laws.FnTurnLength', WHERE WHAT IT READS IS OF BULK AT MOST 1048576: true; the input reads as it did. -/
def fnTurnLengthUptoRow : OpenClaim := { program := "ytbmnmdpgkdaiiaa", sum := "5368adfabbd827b8a8db6957727ba1b0ad59c561ee66c1d48d18d46078d6b484", func := "loop.example/paperrolls/laws.FnTurnLength", spec := "fnTurnLength", apart := false, narrowed := true }
def FnTurnLengthUptoSaid : Prop := fnTurnLengthUptoRow.holds Try.pinned (OpenSpec.upto fnTurnLengthSpec)

/-- 'laws.FnDiameterOf', WHERE WHAT IT READS IS OF BULK AT MOST 1048576: true; the input reads as it did. -/
def fnDiameterOfUptoRow : OpenClaim := { program := "ytbmnmdpgkdaiiaa", sum := "5368adfabbd827b8a8db6957727ba1b0ad59c561ee66c1d48d18d46078d6b484", func := "loop.example/paperrolls/laws.FnDiameterOf", spec := "fnDiameterOf", apart := false, narrowed := true }
def FnDiameterOfUptoSaid : Prop := fnDiameterOfUptoRow.holds Try.pinned (OpenSpec.upto fnDiameterOfSpec)

/-- 'laws.FnTurnsUnder', WHERE WHAT IT READS IS OF BULK AT MOST 1048576: true; the input reads as it did. -/
def fnTurnsUnderUptoRow : OpenClaim := { program := "ytbmnmdpgkdaiiaa", sum := "5368adfabbd827b8a8db6957727ba1b0ad59c561ee66c1d48d18d46078d6b484", func := "loop.example/paperrolls/laws.FnTurnsUnder", spec := "fnTurnsUnder", apart := false, narrowed := true }
def FnTurnsUnderUptoSaid : Prop := fnTurnsUnderUptoRow.holds Try.pinned (OpenSpec.upto fnTurnsUnderSpec)

/-- 'laws.FnValidRoll', WHERE WHAT IT READS IS OF BULK AT MOST 1048576: true; the input reads as it did. -/
def fnValidRollUptoRow : OpenClaim := { program := "ytbmnmdpgkdaiiaa", sum := "5368adfabbd827b8a8db6957727ba1b0ad59c561ee66c1d48d18d46078d6b484", func := "loop.example/paperrolls/laws.FnValidRoll", spec := "fnValidRoll", apart := false, narrowed := true }
def FnValidRollUptoSaid : Prop := fnValidRollUptoRow.holds Try.pinned (OpenSpec.upto fnValidRollSpec)

/-- 'laws.FnWindRoll', WHERE WHAT IT READS IS OF BULK AT MOST 1048576: true; the input reads as it did. -/
def fnWindRollUptoRow : OpenClaim := { program := "ytbmnmdpgkdaiiaa", sum := "5368adfabbd827b8a8db6957727ba1b0ad59c561ee66c1d48d18d46078d6b484", func := "loop.example/paperrolls/laws.FnWindRoll", spec := "fnWindRoll", apart := false, narrowed := true }
def FnWindRollUptoSaid : Prop := fnWindRollUptoRow.holds Try.pinned (OpenSpec.upto fnWindRollSpec)

/-- 'laws.FnLengthOf', WHERE WHAT IT READS IS OF BULK AT MOST 1048576: true; the input reads as it did. -/
def fnLengthOfUptoRow : OpenClaim := { program := "ytbmnmdpgkdaiiaa", sum := "5368adfabbd827b8a8db6957727ba1b0ad59c561ee66c1d48d18d46078d6b484", func := "loop.example/paperrolls/laws.FnLengthOf", spec := "fnLengthOf", apart := false, narrowed := true }
def FnLengthOfUptoSaid : Prop := fnLengthOfUptoRow.holds Try.pinned (OpenSpec.upto fnLengthOfSpec)

/-- 'laws.FnTurnsForRoll', WHERE WHAT IT READS IS OF BULK AT MOST 1048576: true; the input reads as it did. -/
def fnTurnsForRollUptoRow : OpenClaim := { program := "ytbmnmdpgkdaiiaa", sum := "5368adfabbd827b8a8db6957727ba1b0ad59c561ee66c1d48d18d46078d6b484", func := "loop.example/paperrolls/laws.FnTurnsForRoll", spec := "fnTurnsForRoll", apart := false, narrowed := true }
def FnTurnsForRollUptoSaid : Prop := fnTurnsForRollUptoRow.holds Try.pinned (OpenSpec.upto fnTurnsForRollSpec)

/-- 'laws.FnTurnsFor', WHERE WHAT IT READS IS OF BULK AT MOST 1048576: true; the input reads as it did. -/
def fnTurnsForUptoRow : OpenClaim := { program := "ytbmnmdpgkdaiiaa", sum := "5368adfabbd827b8a8db6957727ba1b0ad59c561ee66c1d48d18d46078d6b484", func := "loop.example/paperrolls/laws.FnTurnsFor", spec := "fnTurnsFor", apart := false, narrowed := true }
def FnTurnsForUptoSaid : Prop := fnTurnsForUptoRow.holds Try.pinned (OpenSpec.upto fnTurnsForSpec)

/-- 'laws.FnUnwindRoll', WHERE WHAT IT READS IS OF BULK AT MOST 1048576: true; the input reads as it did. -/
def fnUnwindRollUptoRow : OpenClaim := { program := "ytbmnmdpgkdaiiaa", sum := "5368adfabbd827b8a8db6957727ba1b0ad59c561ee66c1d48d18d46078d6b484", func := "loop.example/paperrolls/laws.FnUnwindRoll", spec := "fnUnwindRoll", apart := false, narrowed := true }
def FnUnwindRollUptoSaid : Prop := fnUnwindRollUptoRow.holds Try.pinned (OpenSpec.upto fnUnwindRollSpec)

/-- 'laws.FnTurnAt', WHERE WHAT IT READS IS OF BULK AT MOST 1048576: true; the input reads as it did. -/
def fnTurnAtUptoRow : OpenClaim := { program := "ytbmnmdpgkdaiiaa", sum := "5368adfabbd827b8a8db6957727ba1b0ad59c561ee66c1d48d18d46078d6b484", func := "loop.example/paperrolls/laws.FnTurnAt", spec := "fnTurnAt", apart := false, narrowed := true }
def FnTurnAtUptoSaid : Prop := fnTurnAtUptoRow.holds Try.pinned (OpenSpec.upto fnTurnAtSpec)

/-- 'laws.FnRewind', WHERE WHAT IT READS IS OF BULK AT MOST 1048576: true; the input reads as it did. -/
def fnRewindUptoRow : OpenClaim := { program := "ytbmnmdpgkdaiiaa", sum := "5368adfabbd827b8a8db6957727ba1b0ad59c561ee66c1d48d18d46078d6b484", func := "loop.example/paperrolls/laws.FnRewind", spec := "fnRewind", apart := false, narrowed := true }
def FnRewindUptoSaid : Prop := fnRewindUptoRow.holds Try.pinned (OpenSpec.upto fnRewindSpec)

end Rows
end Go.Proofs.Ytbmnmdpgkdaiiaa
