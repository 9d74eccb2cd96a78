/-
  No cell of these rows narrows 'for every input' (looked for: loops, veiled, ifaces, maps, wideKeys, modest, calm, conditions, laid).
  DERIVED. THE GIVEN ROWS OF THIS SEAT. 8 by the template 'for every input the law returns true; each argument reads behind the call as it read before'; 0 by the template 'total and deterministic' (their statements: YthoamjkakfghbaaTotals.lean).
  GIVEN WITH THE SEED: the statements are not yours to turn. If you find one false, say at which input.
  Laid BY PROGRAM, IN A SANDBOX (cutbox-rows.mjs): the forced cells as the released guide's own fill.sh prints them over the translation e2e8ef3450469201… (all of the seat's roots in one cut). By AI agents, Wed Nov 11 2026. No macro, syntax, notation, axiom, sorry.
-/
import Derived.Test.YthoamjkakfghbaaChecked
import GoSem.Claim
import GoSem.ClaimJoined
import GoSem.ClaimMapViews
import Derived.JoinedTies
import Derived.KernelRfl
namespace Go.Proofs.Ythoamjkakfghbaa
/- THE CELL 'sum', in the pinned program and in every row, IS THE sha256 OF THE DUMP (.gsa) THAT YthoamjkakfghbaaProg.lean LOADS. Nothing in Lean hashes anything: it is a label: what it is worth is what the hold of that sum in a sandbox is worth. -/
noncomputable def Try.pinned : Pinned := { name := "ythoamjkakfghbaa", sum := "e2e8ef34504692015b8de8947e463c67c9e933367f5c2bed8460d9509cb383d7", checked := Try.checked }
namespace Rows
def none {H : Type} : Left H := { results := [], args := [] }

/-- 'laws.FnExactMoveKnives': WHATEVER THE INPUT: true; the input reads as it did. -/
def fnExactMoveKnivesSpec : ChangeSpec := { name := "fnExactMoveKnives", fn := fun _ => fun
  | [d1, d2] => { results := [.lit (.bool true)], args := [d1, d2] }
  | _ => none }
def fnExactMoveKnivesRow : OpenClaim := { program := "ythoamjkakfghbaa", sum := "e2e8ef34504692015b8de8947e463c67c9e933367f5c2bed8460d9509cb383d7", func := "loop.example/paperrolls/laws.FnExactMoveKnives", spec := "fnExactMoveKnives", recurses := true, apart := false }
def FnExactMoveKnivesSaid : Prop := fnExactMoveKnivesRow.holds Try.pinned (OpenSpec.ofChange fnExactMoveKnivesSpec)

/-- ITS FALSE NEIGHBOUR: 'it returns false'. Refute it at one input. -/
def fnExactMoveKnivesWrong : ChangeSpec := { name := "fnExactMoveKnives", fn := fun _ => fun
  | [d1, d2] => { results := [.lit (.bool false)], args := [d1, d2] }
  | _ => none }
def FnExactMoveKnivesWrongFalsely : Prop := fnExactMoveKnivesRow.holds Try.pinned (OpenSpec.ofChange fnExactMoveKnivesWrong)

/-- 'laws.FnExactPairKnives': WHATEVER THE INPUT: true; the input reads as it did. -/
def fnExactPairKnivesSpec : ChangeSpec := { name := "fnExactPairKnives", fn := fun _ => fun
  | [d1, d2] => { results := [.lit (.bool true)], args := [d1, d2] }
  | _ => none }
def fnExactPairKnivesRow : OpenClaim := { program := "ythoamjkakfghbaa", sum := "e2e8ef34504692015b8de8947e463c67c9e933367f5c2bed8460d9509cb383d7", func := "loop.example/paperrolls/laws.FnExactPairKnives", spec := "fnExactPairKnives", apart := false }
def FnExactPairKnivesSaid : Prop := fnExactPairKnivesRow.holds Try.pinned (OpenSpec.ofChange fnExactPairKnivesSpec)

/-- ITS FALSE NEIGHBOUR: 'it returns false'. Refute it at one input. -/
def fnExactPairKnivesWrong : ChangeSpec := { name := "fnExactPairKnives", fn := fun _ => fun
  | [d1, d2] => { results := [.lit (.bool false)], args := [d1, d2] }
  | _ => none }
def FnExactPairKnivesWrongFalsely : Prop := fnExactPairKnivesRow.holds Try.pinned (OpenSpec.ofChange fnExactPairKnivesWrong)

/-- 'laws.FnExactBestSkip': WHATEVER THE INPUT: true; the input reads as it did. -/
def fnExactBestSkipSpec : ChangeSpec := { name := "fnExactBestSkip", fn := fun _ => fun
  | [d1, d2] => { results := [.lit (.bool true)], args := [d1, d2] }
  | _ => none }
def fnExactBestSkipRow : OpenClaim := { program := "ythoamjkakfghbaa", sum := "e2e8ef34504692015b8de8947e463c67c9e933367f5c2bed8460d9509cb383d7", func := "loop.example/paperrolls/laws.FnExactBestSkip", spec := "fnExactBestSkip", apart := false }
def FnExactBestSkipSaid : Prop := fnExactBestSkipRow.holds Try.pinned (OpenSpec.ofChange fnExactBestSkipSpec)

/-- ITS FALSE NEIGHBOUR: 'it returns false'. Refute it at one input. -/
def fnExactBestSkipWrong : ChangeSpec := { name := "fnExactBestSkip", fn := fun _ => fun
  | [d1, d2] => { results := [.lit (.bool false)], args := [d1, d2] }
  | _ => none }
def FnExactBestSkipWrongFalsely : Prop := fnExactBestSkipRow.holds Try.pinned (OpenSpec.ofChange fnExactBestSkipWrong)

/-- 'laws.FnExactValidReel': WHATEVER THE INPUT: true; the input reads as it did. -/
def fnExactValidReelSpec : ChangeSpec := { name := "fnExactValidReel", fn := fun _ => fun
  | [d] => { results := [.lit (.bool true)], args := [d] }
  | _ => none }
def fnExactValidReelRow : OpenClaim := { program := "ythoamjkakfghbaa", sum := "e2e8ef34504692015b8de8947e463c67c9e933367f5c2bed8460d9509cb383d7", func := "loop.example/paperrolls/laws.FnExactValidReel", spec := "fnExactValidReel", apart := false }
def FnExactValidReelSaid : Prop := fnExactValidReelRow.holds Try.pinned (OpenSpec.ofChange fnExactValidReelSpec)

/-- ITS FALSE NEIGHBOUR: 'it returns false'. Refute it at one input. -/
def fnExactValidReelWrong : ChangeSpec := { name := "fnExactValidReel", fn := fun _ => fun
  | [d] => { results := [.lit (.bool false)], args := [d] }
  | _ => none }
def FnExactValidReelWrongFalsely : Prop := fnExactValidReelRow.holds Try.pinned (OpenSpec.ofChange fnExactValidReelWrong)

/-- 'laws.FnExactValidPart': WHATEVER THE INPUT: true; the input reads as it did. -/
def fnExactValidPartSpec : ChangeSpec := { name := "fnExactValidPart", fn := fun _ => fun
  | [d1, d2] => { results := [.lit (.bool true)], args := [d1, d2] }
  | _ => none }
def fnExactValidPartRow : OpenClaim := { program := "ythoamjkakfghbaa", sum := "e2e8ef34504692015b8de8947e463c67c9e933367f5c2bed8460d9509cb383d7", func := "loop.example/paperrolls/laws.FnExactValidPart", spec := "fnExactValidPart", apart := false }
def FnExactValidPartSaid : Prop := fnExactValidPartRow.holds Try.pinned (OpenSpec.ofChange fnExactValidPartSpec)

/-- ITS FALSE NEIGHBOUR: 'it returns false'. Refute it at one input. -/
def fnExactValidPartWrong : ChangeSpec := { name := "fnExactValidPart", fn := fun _ => fun
  | [d1, d2] => { results := [.lit (.bool false)], args := [d1, d2] }
  | _ => none }
def FnExactValidPartWrongFalsely : Prop := fnExactValidPartRow.holds Try.pinned (OpenSpec.ofChange fnExactValidPartWrong)

/-- 'laws.FnExactValidPile': WHATEVER THE INPUT: true; the input reads as it did. -/
def fnExactValidPileSpec : ChangeSpec := { name := "fnExactValidPile", fn := fun _ => fun
  | [d] => { results := [.lit (.bool true)], args := [d] }
  | _ => none }
def fnExactValidPileRow : OpenClaim := { program := "ythoamjkakfghbaa", sum := "e2e8ef34504692015b8de8947e463c67c9e933367f5c2bed8460d9509cb383d7", func := "loop.example/paperrolls/laws.FnExactValidPile", spec := "fnExactValidPile", apart := false }
def FnExactValidPileSaid : Prop := fnExactValidPileRow.holds Try.pinned (OpenSpec.ofChange fnExactValidPileSpec)

/-- ITS FALSE NEIGHBOUR: 'it returns false'. Refute it at one input. -/
def fnExactValidPileWrong : ChangeSpec := { name := "fnExactValidPile", fn := fun _ => fun
  | [d] => { results := [.lit (.bool false)], args := [d] }
  | _ => none }
def FnExactValidPileWrongFalsely : Prop := fnExactValidPileRow.holds Try.pinned (OpenSpec.ofChange fnExactValidPileWrong)

/-- 'laws.FnExactFindRoll': WHATEVER THE INPUT: true; the input reads as it did. -/
def fnExactFindRollSpec : ChangeSpec := { name := "fnExactFindRoll", fn := fun _ => fun
  | [d1, d2] => { results := [.lit (.bool true)], args := [d1, d2] }
  | _ => none }
def fnExactFindRollRow : OpenClaim := { program := "ythoamjkakfghbaa", sum := "e2e8ef34504692015b8de8947e463c67c9e933367f5c2bed8460d9509cb383d7", func := "loop.example/paperrolls/laws.FnExactFindRoll", spec := "fnExactFindRoll", apart := false }
def FnExactFindRollSaid : Prop := fnExactFindRollRow.holds Try.pinned (OpenSpec.ofChange fnExactFindRollSpec)

/-- ITS FALSE NEIGHBOUR: 'it returns false'. Refute it at one input. -/
def fnExactFindRollWrong : ChangeSpec := { name := "fnExactFindRoll", fn := fun _ => fun
  | [d1, d2] => { results := [.lit (.bool false)], args := [d1, d2] }
  | _ => none }
def FnExactFindRollWrongFalsely : Prop := fnExactFindRollRow.holds Try.pinned (OpenSpec.ofChange fnExactFindRollWrong)

/-- 'laws.FnExactFullPile': WHATEVER THE INPUT: true; the input reads as it did. -/
def fnExactFullPileSpec : ChangeSpec := { name := "fnExactFullPile", fn := fun _ => fun
  | [d] => { results := [.lit (.bool true)], args := [d] }
  | _ => none }
def fnExactFullPileRow : OpenClaim := { program := "ythoamjkakfghbaa", sum := "e2e8ef34504692015b8de8947e463c67c9e933367f5c2bed8460d9509cb383d7", func := "loop.example/paperrolls/laws.FnExactFullPile", spec := "fnExactFullPile", apart := false }
def FnExactFullPileSaid : Prop := fnExactFullPileRow.holds Try.pinned (OpenSpec.ofChange fnExactFullPileSpec)

/-- ITS FALSE NEIGHBOUR: 'it returns false'. Refute it at one input. -/
def fnExactFullPileWrong : ChangeSpec := { name := "fnExactFullPile", fn := fun _ => fun
  | [d] => { results := [.lit (.bool false)], args := [d] }
  | _ => none }
def FnExactFullPileWrongFalsely : Prop := fnExactFullPileRow.holds Try.pinned (OpenSpec.ofChange fnExactFullPileWrong)

/- THE SECOND FORM. 'bulk': how many values and letters a reading holds, each counted each time it is reached (what is shared counts as often as it is met; a slice's spare places count too). A statement '..UptoSaid' is the law's where the arguments, and the package variables that the reading takes, are together of bulk at most 1048576: NARROWER than '..Said'. Prove '..Said' where nothing that the law and all that it calls make is longer than what came in: it says more and counts as full. Else prove '..UptoSaid'. A law counts once. -/
mutual
def uptoBulk {H : Type} : DataW H → Nat
  | .lit (.string bytes) => bytes.length + 1
  | .lit _ => 1
  | .nil => 1
  | .ptr d => uptoBulk d + 1
  | .slice elems spare => uptoBulkAll elems + uptoBulkAll spare + 1
  | .agg parts => uptoBulkAll parts + 1
  | .iface _ d => uptoBulk d + 1
  | .map entries => uptoBulkEntries entries + 1
  | .held _ => 1
def uptoBulkAll {H : Type} : List (DataW H) → Nat
  | [] => 0
  | d :: r => uptoBulk d + uptoBulkAll r
def uptoBulkEntries {H : Type} : List (Lit × DataW H) → Nat
  | [] => 0
  | x :: r => uptoBulkEntry x + uptoBulkEntries r
def uptoBulkEntry {H : Type} : Lit × DataW H → Nat
  | (.string bytes, d) => bytes.length + uptoBulk d + 1
  | (_, d) => uptoBulk d + 1
 end
def uptoSmall : (H : Type) → List (DataW H) → Bool := fun _ ds => decide (uptoBulkAll ds ≤ 1048576)
def OpenSpec.upto (s : _root_.Go.ChangeSpec) : _root_.Go.OpenSpec := { _root_.Go.OpenSpec.ofChange s with cond := some uptoSmall }

/-- 'laws.FnExactMoveKnives', WHERE WHAT IT READS IS OF BULK AT MOST 1048576: true; the input reads as it did. -/
def fnExactMoveKnivesUptoRow : OpenClaim := { program := "ythoamjkakfghbaa", sum := "e2e8ef34504692015b8de8947e463c67c9e933367f5c2bed8460d9509cb383d7", func := "loop.example/paperrolls/laws.FnExactMoveKnives", spec := "fnExactMoveKnives", recurses := true, apart := false, narrowed := true }
def FnExactMoveKnivesUptoSaid : Prop := fnExactMoveKnivesUptoRow.holds Try.pinned (OpenSpec.upto fnExactMoveKnivesSpec)

/-- 'laws.FnExactPairKnives', WHERE WHAT IT READS IS OF BULK AT MOST 1048576: true; the input reads as it did. -/
def fnExactPairKnivesUptoRow : OpenClaim := { program := "ythoamjkakfghbaa", sum := "e2e8ef34504692015b8de8947e463c67c9e933367f5c2bed8460d9509cb383d7", func := "loop.example/paperrolls/laws.FnExactPairKnives", spec := "fnExactPairKnives", apart := false, narrowed := true }
def FnExactPairKnivesUptoSaid : Prop := fnExactPairKnivesUptoRow.holds Try.pinned (OpenSpec.upto fnExactPairKnivesSpec)

/-- 'laws.FnExactBestSkip', WHERE WHAT IT READS IS OF BULK AT MOST 1048576: true; the input reads as it did. -/
def fnExactBestSkipUptoRow : OpenClaim := { program := "ythoamjkakfghbaa", sum := "e2e8ef34504692015b8de8947e463c67c9e933367f5c2bed8460d9509cb383d7", func := "loop.example/paperrolls/laws.FnExactBestSkip", spec := "fnExactBestSkip", apart := false, narrowed := true }
def FnExactBestSkipUptoSaid : Prop := fnExactBestSkipUptoRow.holds Try.pinned (OpenSpec.upto fnExactBestSkipSpec)

/-- 'laws.FnExactValidReel', WHERE WHAT IT READS IS OF BULK AT MOST 1048576: true; the input reads as it did. -/
def fnExactValidReelUptoRow : OpenClaim := { program := "ythoamjkakfghbaa", sum := "e2e8ef34504692015b8de8947e463c67c9e933367f5c2bed8460d9509cb383d7", func := "loop.example/paperrolls/laws.FnExactValidReel", spec := "fnExactValidReel", apart := false, narrowed := true }
def FnExactValidReelUptoSaid : Prop := fnExactValidReelUptoRow.holds Try.pinned (OpenSpec.upto fnExactValidReelSpec)

/-- 'laws.FnExactValidPart', WHERE WHAT IT READS IS OF BULK AT MOST 1048576: true; the input reads as it did. -/
def fnExactValidPartUptoRow : OpenClaim := { program := "ythoamjkakfghbaa", sum := "e2e8ef34504692015b8de8947e463c67c9e933367f5c2bed8460d9509cb383d7", func := "loop.example/paperrolls/laws.FnExactValidPart", spec := "fnExactValidPart", apart := false, narrowed := true }
def FnExactValidPartUptoSaid : Prop := fnExactValidPartUptoRow.holds Try.pinned (OpenSpec.upto fnExactValidPartSpec)

/-- 'laws.FnExactValidPile', WHERE WHAT IT READS IS OF BULK AT MOST 1048576: true; the input reads as it did. -/
def fnExactValidPileUptoRow : OpenClaim := { program := "ythoamjkakfghbaa", sum := "e2e8ef34504692015b8de8947e463c67c9e933367f5c2bed8460d9509cb383d7", func := "loop.example/paperrolls/laws.FnExactValidPile", spec := "fnExactValidPile", apart := false, narrowed := true }
def FnExactValidPileUptoSaid : Prop := fnExactValidPileUptoRow.holds Try.pinned (OpenSpec.upto fnExactValidPileSpec)

/-- 'laws.FnExactFindRoll', WHERE WHAT IT READS IS OF BULK AT MOST 1048576: true; the input reads as it did. -/
def fnExactFindRollUptoRow : OpenClaim := { program := "ythoamjkakfghbaa", sum := "e2e8ef34504692015b8de8947e463c67c9e933367f5c2bed8460d9509cb383d7", func := "loop.example/paperrolls/laws.FnExactFindRoll", spec := "fnExactFindRoll", apart := false, narrowed := true }
def FnExactFindRollUptoSaid : Prop := fnExactFindRollUptoRow.holds Try.pinned (OpenSpec.upto fnExactFindRollSpec)

/-- 'laws.FnExactFullPile', WHERE WHAT IT READS IS OF BULK AT MOST 1048576: true; the input reads as it did. -/
def fnExactFullPileUptoRow : OpenClaim := { program := "ythoamjkakfghbaa", sum := "e2e8ef34504692015b8de8947e463c67c9e933367f5c2bed8460d9509cb383d7", func := "loop.example/paperrolls/laws.FnExactFullPile", spec := "fnExactFullPile", apart := false, narrowed := true }
def FnExactFullPileUptoSaid : Prop := fnExactFullPileUptoRow.holds Try.pinned (OpenSpec.upto fnExactFullPileSpec)

end Rows
end Go.Proofs.Ythoamjkakfghbaa
