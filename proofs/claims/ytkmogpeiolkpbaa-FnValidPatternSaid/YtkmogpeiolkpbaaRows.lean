/-
  No cell of these rows narrows 'for every input' (looked for: loops, veiled, ifaces, maps, wideKeys, modest, calm, conditions, laid).
  DERIVED. THE GIVEN ROWS OF THIS SEAT. 11 by the template 'for every input the law returns true; each argument reads behind the call as it read before'; 0 by the template 'total and deterministic' (their statements: YtkmogpeiolkpbaaTotals.lean).
  GIVEN WITH THE SEED: the statements are not yours to turn. If you find one false, say at which input.
  Laid BY PROGRAM, IN A SANDBOX (cutbox-rows.mjs): the forced cells as the released guide's own fill.sh prints them over the translation 52335c9bfc74d4ff… (all of the seat's roots in one cut). By AI agents, Wed Nov 11 2026. No macro, syntax, notation, axiom, sorry.
-/
import Derived.Test.YtkmogpeiolkpbaaChecked
import GoSem.Claim
import GoSem.ClaimJoined
import GoSem.ClaimMapViews
import Derived.JoinedTies
import Derived.KernelRfl
namespace Go.Proofs.Ytkmogpeiolkpbaa
/- THE CELL 'sum', in the pinned program and in every row, IS THE sha256 OF THE DUMP (.gsa) THAT YtkmogpeiolkpbaaProg.lean LOADS. Nothing in Lean hashes anything: it is a label: what it is worth is what the hold of that sum in a sandbox is worth. -/
noncomputable def Try.pinned : Pinned := { name := "ytkmogpeiolkpbaa", sum := "52335c9bfc74d4ff13bed01cadb2b288ffd3e04c5b8d011b00366a377983900a", checked := Try.checked }
namespace Rows
def none {H : Type} : Left H := { results := [], args := [] }

/-- 'laws.FnLeftOver': WHATEVER THE INPUT: true; the input reads as it did. -/
def fnLeftOverSpec : ChangeSpec := { name := "fnLeftOver", fn := fun _ => fun
  | [d] => { results := [.lit (.bool true)], args := [d] }
  | _ => none }
def fnLeftOverRow : OpenClaim := { program := "ytkmogpeiolkpbaa", sum := "52335c9bfc74d4ff13bed01cadb2b288ffd3e04c5b8d011b00366a377983900a", func := "loop.example/paperrolls/laws.FnLeftOver", spec := "fnLeftOver", apart := false }
def FnLeftOverSaid : Prop := fnLeftOverRow.holds Try.pinned (OpenSpec.ofChange fnLeftOverSpec)

/-- ITS FALSE NEIGHBOUR: 'it returns false'. Refute it at one input. -/
def fnLeftOverWrong : ChangeSpec := { name := "fnLeftOver", fn := fun _ => fun
  | [d] => { results := [.lit (.bool false)], args := [d] }
  | _ => none }
def FnLeftOverWrongFalsely : Prop := fnLeftOverRow.holds Try.pinned (OpenSpec.ofChange fnLeftOverWrong)

/-- 'laws.FnValidLengths': WHATEVER THE INPUT: true; the input reads as it did. -/
def fnValidLengthsSpec : ChangeSpec := { name := "fnValidLengths", fn := fun _ => fun
  | [d] => { results := [.lit (.bool true)], args := [d] }
  | _ => none }
def fnValidLengthsRow : OpenClaim := { program := "ytkmogpeiolkpbaa", sum := "52335c9bfc74d4ff13bed01cadb2b288ffd3e04c5b8d011b00366a377983900a", func := "loop.example/paperrolls/laws.FnValidLengths", spec := "fnValidLengths", apart := false }
def FnValidLengthsSaid : Prop := fnValidLengthsRow.holds Try.pinned (OpenSpec.ofChange fnValidLengthsSpec)

/-- ITS FALSE NEIGHBOUR: 'it returns false'. Refute it at one input. -/
def fnValidLengthsWrong : ChangeSpec := { name := "fnValidLengths", fn := fun _ => fun
  | [d] => { results := [.lit (.bool false)], args := [d] }
  | _ => none }
def FnValidLengthsWrongFalsely : Prop := fnValidLengthsRow.holds Try.pinned (OpenSpec.ofChange fnValidLengthsWrong)

/-- 'laws.FnValidKnives': WHATEVER THE INPUT: true; the input reads as it did. -/
def fnValidKnivesSpec : ChangeSpec := { name := "fnValidKnives", fn := fun _ => fun
  | [d] => { results := [.lit (.bool true)], args := [d] }
  | _ => none }
def fnValidKnivesRow : OpenClaim := { program := "ytkmogpeiolkpbaa", sum := "52335c9bfc74d4ff13bed01cadb2b288ffd3e04c5b8d011b00366a377983900a", func := "loop.example/paperrolls/laws.FnValidKnives", spec := "fnValidKnives", apart := false }
def FnValidKnivesSaid : Prop := fnValidKnivesRow.holds Try.pinned (OpenSpec.ofChange fnValidKnivesSpec)

/-- ITS FALSE NEIGHBOUR: 'it returns false'. Refute it at one input. -/
def fnValidKnivesWrong : ChangeSpec := { name := "fnValidKnives", fn := fun _ => fun
  | [d] => { results := [.lit (.bool false)], args := [d] }
  | _ => none }
def FnValidKnivesWrongFalsely : Prop := fnValidKnivesRow.holds Try.pinned (OpenSpec.ofChange fnValidKnivesWrong)

/-- 'laws.FnEndsOf': WHATEVER THE INPUT: true; the input reads as it did. -/
def fnEndsOfSpec : ChangeSpec := { name := "fnEndsOf", fn := fun _ => fun
  | [d] => { results := [.lit (.bool true)], args := [d] }
  | _ => none }
def fnEndsOfRow : OpenClaim := { program := "ytkmogpeiolkpbaa", sum := "52335c9bfc74d4ff13bed01cadb2b288ffd3e04c5b8d011b00366a377983900a", func := "loop.example/paperrolls/laws.FnEndsOf", spec := "fnEndsOf", apart := false }
def FnEndsOfSaid : Prop := fnEndsOfRow.holds Try.pinned (OpenSpec.ofChange fnEndsOfSpec)

/-- ITS FALSE NEIGHBOUR: 'it returns false'. Refute it at one input. -/
def fnEndsOfWrong : ChangeSpec := { name := "fnEndsOf", fn := fun _ => fun
  | [d] => { results := [.lit (.bool false)], args := [d] }
  | _ => none }
def FnEndsOfWrongFalsely : Prop := fnEndsOfRow.holds Try.pinned (OpenSpec.ofChange fnEndsOfWrong)

/-- 'laws.FnPlaceOf': WHATEVER THE INPUT: true; the input reads as it did. -/
def fnPlaceOfSpec : ChangeSpec := { name := "fnPlaceOf", fn := fun _ => fun
  | [d] => { results := [.lit (.bool true)], args := [d] }
  | _ => none }
def fnPlaceOfRow : OpenClaim := { program := "ytkmogpeiolkpbaa", sum := "52335c9bfc74d4ff13bed01cadb2b288ffd3e04c5b8d011b00366a377983900a", func := "loop.example/paperrolls/laws.FnPlaceOf", spec := "fnPlaceOf", apart := false }
def FnPlaceOfSaid : Prop := fnPlaceOfRow.holds Try.pinned (OpenSpec.ofChange fnPlaceOfSpec)

/-- ITS FALSE NEIGHBOUR: 'it returns false'. Refute it at one input. -/
def fnPlaceOfWrong : ChangeSpec := { name := "fnPlaceOf", fn := fun _ => fun
  | [d] => { results := [.lit (.bool false)], args := [d] }
  | _ => none }
def FnPlaceOfWrongFalsely : Prop := fnPlaceOfRow.holds Try.pinned (OpenSpec.ofChange fnPlaceOfWrong)

/-- 'laws.FnValidWidths': WHATEVER THE INPUT: true; the input reads as it did. -/
def fnValidWidthsSpec : ChangeSpec := { name := "fnValidWidths", fn := fun _ => fun
  | [d] => { results := [.lit (.bool true)], args := [d] }
  | _ => none }
def fnValidWidthsRow : OpenClaim := { program := "ytkmogpeiolkpbaa", sum := "52335c9bfc74d4ff13bed01cadb2b288ffd3e04c5b8d011b00366a377983900a", func := "loop.example/paperrolls/laws.FnValidWidths", spec := "fnValidWidths", apart := false }
def FnValidWidthsSaid : Prop := fnValidWidthsRow.holds Try.pinned (OpenSpec.ofChange fnValidWidthsSpec)

/-- ITS FALSE NEIGHBOUR: 'it returns false'. Refute it at one input. -/
def fnValidWidthsWrong : ChangeSpec := { name := "fnValidWidths", fn := fun _ => fun
  | [d] => { results := [.lit (.bool false)], args := [d] }
  | _ => none }
def FnValidWidthsWrongFalsely : Prop := fnValidWidthsRow.holds Try.pinned (OpenSpec.ofChange fnValidWidthsWrong)

/-- 'laws.FnValidWants': WHATEVER THE INPUT: true; the input reads as it did. -/
def fnValidWantsSpec : ChangeSpec := { name := "fnValidWants", fn := fun _ => fun
  | [d] => { results := [.lit (.bool true)], args := [d] }
  | _ => none }
def fnValidWantsRow : OpenClaim := { program := "ytkmogpeiolkpbaa", sum := "52335c9bfc74d4ff13bed01cadb2b288ffd3e04c5b8d011b00366a377983900a", func := "loop.example/paperrolls/laws.FnValidWants", spec := "fnValidWants", apart := false }
def FnValidWantsSaid : Prop := fnValidWantsRow.holds Try.pinned (OpenSpec.ofChange fnValidWantsSpec)

/-- ITS FALSE NEIGHBOUR: 'it returns false'. Refute it at one input. -/
def fnValidWantsWrong : ChangeSpec := { name := "fnValidWants", fn := fun _ => fun
  | [d] => { results := [.lit (.bool false)], args := [d] }
  | _ => none }
def FnValidWantsWrongFalsely : Prop := fnValidWantsRow.holds Try.pinned (OpenSpec.ofChange fnValidWantsWrong)

/-- 'laws.FnValidPattern': WHATEVER THE INPUT: true; the input reads as it did. -/
def fnValidPatternSpec : ChangeSpec := { name := "fnValidPattern", fn := fun _ => fun
  | [d] => { results := [.lit (.bool true)], args := [d] }
  | _ => none }
def fnValidPatternRow : OpenClaim := { program := "ytkmogpeiolkpbaa", sum := "52335c9bfc74d4ff13bed01cadb2b288ffd3e04c5b8d011b00366a377983900a", func := "loop.example/paperrolls/laws.FnValidPattern", spec := "fnValidPattern", apart := false }
def FnValidPatternSaid : Prop := fnValidPatternRow.holds Try.pinned (OpenSpec.ofChange fnValidPatternSpec)

/-- ITS FALSE NEIGHBOUR: 'it returns false'. Refute it at one input. -/
def fnValidPatternWrong : ChangeSpec := { name := "fnValidPattern", fn := fun _ => fun
  | [d] => { results := [.lit (.bool false)], args := [d] }
  | _ => none }
def FnValidPatternWrongFalsely : Prop := fnValidPatternRow.holds Try.pinned (OpenSpec.ofChange fnValidPatternWrong)

/-- 'laws.FnMirrorKnives': WHATEVER THE INPUT: true; the input reads as it did. -/
def fnMirrorKnivesSpec : ChangeSpec := { name := "fnMirrorKnives", fn := fun _ => fun
  | [d] => { results := [.lit (.bool true)], args := [d] }
  | _ => none }
def fnMirrorKnivesRow : OpenClaim := { program := "ytkmogpeiolkpbaa", sum := "52335c9bfc74d4ff13bed01cadb2b288ffd3e04c5b8d011b00366a377983900a", func := "loop.example/paperrolls/laws.FnMirrorKnives", spec := "fnMirrorKnives", apart := false }
def FnMirrorKnivesSaid : Prop := fnMirrorKnivesRow.holds Try.pinned (OpenSpec.ofChange fnMirrorKnivesSpec)

/-- ITS FALSE NEIGHBOUR: 'it returns false'. Refute it at one input. -/
def fnMirrorKnivesWrong : ChangeSpec := { name := "fnMirrorKnives", fn := fun _ => fun
  | [d] => { results := [.lit (.bool false)], args := [d] }
  | _ => none }
def FnMirrorKnivesWrongFalsely : Prop := fnMirrorKnivesRow.holds Try.pinned (OpenSpec.ofChange fnMirrorKnivesWrong)

/-- 'laws.FnMoveKnives': WHATEVER THE INPUT: true; the input reads as it did. -/
def fnMoveKnivesSpec : ChangeSpec := { name := "fnMoveKnives", fn := fun _ => fun
  | [d] => { results := [.lit (.bool true)], args := [d] }
  | _ => none }
def fnMoveKnivesRow : OpenClaim := { program := "ytkmogpeiolkpbaa", sum := "52335c9bfc74d4ff13bed01cadb2b288ffd3e04c5b8d011b00366a377983900a", func := "loop.example/paperrolls/laws.FnMoveKnives", spec := "fnMoveKnives", recurses := true, apart := false }
def FnMoveKnivesSaid : Prop := fnMoveKnivesRow.holds Try.pinned (OpenSpec.ofChange fnMoveKnivesSpec)

/-- ITS FALSE NEIGHBOUR: 'it returns false'. Refute it at one input. -/
def fnMoveKnivesWrong : ChangeSpec := { name := "fnMoveKnives", fn := fun _ => fun
  | [d] => { results := [.lit (.bool false)], args := [d] }
  | _ => none }
def FnMoveKnivesWrongFalsely : Prop := fnMoveKnivesRow.holds Try.pinned (OpenSpec.ofChange fnMoveKnivesWrong)

/-- 'laws.FnMoveKnivesThree': WHATEVER THE INPUT: true; the input reads as it did. -/
def fnMoveKnivesThreeSpec : ChangeSpec := { name := "fnMoveKnivesThree", fn := fun _ => fun
  | [d] => { results := [.lit (.bool true)], args := [d] }
  | _ => none }
def fnMoveKnivesThreeRow : OpenClaim := { program := "ytkmogpeiolkpbaa", sum := "52335c9bfc74d4ff13bed01cadb2b288ffd3e04c5b8d011b00366a377983900a", func := "loop.example/paperrolls/laws.FnMoveKnivesThree", spec := "fnMoveKnivesThree", recurses := true, apart := false }
def FnMoveKnivesThreeSaid : Prop := fnMoveKnivesThreeRow.holds Try.pinned (OpenSpec.ofChange fnMoveKnivesThreeSpec)

/-- ITS FALSE NEIGHBOUR: 'it returns false'. Refute it at one input. -/
def fnMoveKnivesThreeWrong : ChangeSpec := { name := "fnMoveKnivesThree", fn := fun _ => fun
  | [d] => { results := [.lit (.bool false)], args := [d] }
  | _ => none }
def FnMoveKnivesThreeWrongFalsely : Prop := fnMoveKnivesThreeRow.holds Try.pinned (OpenSpec.ofChange fnMoveKnivesThreeWrong)

/- THE SECOND FORM. 'bulk': how many values and letters a reading holds, each counted each time it is reached (what is shared counts as often as it is met; a slice's spare places count too). A statement '..UptoSaid' is the law's where the arguments, and the package variables that the reading takes, are together of bulk at most 1048576: NARROWER than '..Said'. Prove '..Said' where nothing that the law and all that it calls make is longer than what came in: it says more and counts as full. Else prove '..UptoSaid'. A law counts once. -/
mutual
def uptoBulk {H : Type} : DataW H → Nat
  | .lit (.string bytes) => bytes.length + 1
  | .lit _ => 1
  | .nil => 1
  | .ptr d => uptoBulk d + 1
  | .slice elems spare => uptoBulkAll elems + uptoBulkAll spare + 1
  | .agg parts => uptoBulkAll parts + 1
  | .iface _ d => uptoBulk d + 1
  | .map entries => uptoBulkEntries entries + 1
  | .held _ => 1
def uptoBulkAll {H : Type} : List (DataW H) → Nat
  | [] => 0
  | d :: r => uptoBulk d + uptoBulkAll r
def uptoBulkEntries {H : Type} : List (Lit × DataW H) → Nat
  | [] => 0
  | x :: r => uptoBulkEntry x + uptoBulkEntries r
def uptoBulkEntry {H : Type} : Lit × DataW H → Nat
  | (.string bytes, d) => bytes.length + uptoBulk d + 1
  | (_, d) => uptoBulk d + 1
 end
def uptoSmall : (H : Type) → List (DataW H) → Bool := fun _ ds => decide (uptoBulkAll ds ≤ 1048576)
def OpenSpec.upto (s : _root_.Go.ChangeSpec) : _root_.Go.OpenSpec := { _root_.Go.OpenSpec.ofChange s with cond := some uptoSmall }

/-- 'laws.FnLeftOver', WHERE WHAT IT READS IS OF BULK AT MOST 1048576: true; the input reads as it did. -/
def fnLeftOverUptoRow : OpenClaim := { program := "ytkmogpeiolkpbaa", sum := "52335c9bfc74d4ff13bed01cadb2b288ffd3e04c5b8d011b00366a377983900a", func := "loop.example/paperrolls/laws.FnLeftOver", spec := "fnLeftOver", apart := false, narrowed := true }
def FnLeftOverUptoSaid : Prop := fnLeftOverUptoRow.holds Try.pinned (OpenSpec.upto fnLeftOverSpec)

/-- 'laws.FnValidLengths', WHERE WHAT IT READS IS OF BULK AT MOST 1048576: true; the input reads as it did. -/
def fnValidLengthsUptoRow : OpenClaim := { program := "ytkmogpeiolkpbaa", sum := "52335c9bfc74d4ff13bed01cadb2b288ffd3e04c5b8d011b00366a377983900a", func := "loop.example/paperrolls/laws.FnValidLengths", spec := "fnValidLengths", apart := false, narrowed := true }
def FnValidLengthsUptoSaid : Prop := fnValidLengthsUptoRow.holds Try.pinned (OpenSpec.upto fnValidLengthsSpec)

/-- 'laws.FnValidKnives', WHERE WHAT IT READS IS OF BULK AT MOST 1048576: true; the input reads as it did. -/
def fnValidKnivesUptoRow : OpenClaim := { program := "ytkmogpeiolkpbaa", sum := "52335c9bfc74d4ff13bed01cadb2b288ffd3e04c5b8d011b00366a377983900a", func := "loop.example/paperrolls/laws.FnValidKnives", spec := "fnValidKnives", apart := false, narrowed := true }
def FnValidKnivesUptoSaid : Prop := fnValidKnivesUptoRow.holds Try.pinned (OpenSpec.upto fnValidKnivesSpec)

/-- 'laws.FnEndsOf', WHERE WHAT IT READS IS OF BULK AT MOST 1048576: true; the input reads as it did. -/
def fnEndsOfUptoRow : OpenClaim := { program := "ytkmogpeiolkpbaa", sum := "52335c9bfc74d4ff13bed01cadb2b288ffd3e04c5b8d011b00366a377983900a", func := "loop.example/paperrolls/laws.FnEndsOf", spec := "fnEndsOf", apart := false, narrowed := true }
def FnEndsOfUptoSaid : Prop := fnEndsOfUptoRow.holds Try.pinned (OpenSpec.upto fnEndsOfSpec)

/-- 'laws.FnPlaceOf', WHERE WHAT IT READS IS OF BULK AT MOST 1048576: true; the input reads as it did. -/
def fnPlaceOfUptoRow : OpenClaim := { program := "ytkmogpeiolkpbaa", sum := "52335c9bfc74d4ff13bed01cadb2b288ffd3e04c5b8d011b00366a377983900a", func := "loop.example/paperrolls/laws.FnPlaceOf", spec := "fnPlaceOf", apart := false, narrowed := true }
def FnPlaceOfUptoSaid : Prop := fnPlaceOfUptoRow.holds Try.pinned (OpenSpec.upto fnPlaceOfSpec)

/-- 'laws.FnValidWidths', WHERE WHAT IT READS IS OF BULK AT MOST 1048576: true; the input reads as it did. -/
def fnValidWidthsUptoRow : OpenClaim := { program := "ytkmogpeiolkpbaa", sum := "52335c9bfc74d4ff13bed01cadb2b288ffd3e04c5b8d011b00366a377983900a", func := "loop.example/paperrolls/laws.FnValidWidths", spec := "fnValidWidths", apart := false, narrowed := true }
def FnValidWidthsUptoSaid : Prop := fnValidWidthsUptoRow.holds Try.pinned (OpenSpec.upto fnValidWidthsSpec)

/-- 'laws.FnValidWants', WHERE WHAT IT READS IS OF BULK AT MOST 1048576: true; the input reads as it did. -/
def fnValidWantsUptoRow : OpenClaim := { program := "ytkmogpeiolkpbaa", sum := "52335c9bfc74d4ff13bed01cadb2b288ffd3e04c5b8d011b00366a377983900a", func := "loop.example/paperrolls/laws.FnValidWants", spec := "fnValidWants", apart := false, narrowed := true }
def FnValidWantsUptoSaid : Prop := fnValidWantsUptoRow.holds Try.pinned (OpenSpec.upto fnValidWantsSpec)

/-- 'laws.FnValidPattern', WHERE WHAT IT READS IS OF BULK AT MOST 1048576: true; the input reads as it did. -/
def fnValidPatternUptoRow : OpenClaim := { program := "ytkmogpeiolkpbaa", sum := "52335c9bfc74d4ff13bed01cadb2b288ffd3e04c5b8d011b00366a377983900a", func := "loop.example/paperrolls/laws.FnValidPattern", spec := "fnValidPattern", apart := false, narrowed := true }
def FnValidPatternUptoSaid : Prop := fnValidPatternUptoRow.holds Try.pinned (OpenSpec.upto fnValidPatternSpec)

/-- 'laws.FnMirrorKnives', WHERE WHAT IT READS IS OF BULK AT MOST 1048576: true; the input reads as it did. -/
def fnMirrorKnivesUptoRow : OpenClaim := { program := "ytkmogpeiolkpbaa", sum := "52335c9bfc74d4ff13bed01cadb2b288ffd3e04c5b8d011b00366a377983900a", func := "loop.example/paperrolls/laws.FnMirrorKnives", spec := "fnMirrorKnives", apart := false, narrowed := true }
def FnMirrorKnivesUptoSaid : Prop := fnMirrorKnivesUptoRow.holds Try.pinned (OpenSpec.upto fnMirrorKnivesSpec)

/-- 'laws.FnMoveKnives', WHERE WHAT IT READS IS OF BULK AT MOST 1048576: true; the input reads as it did. -/
def fnMoveKnivesUptoRow : OpenClaim := { program := "ytkmogpeiolkpbaa", sum := "52335c9bfc74d4ff13bed01cadb2b288ffd3e04c5b8d011b00366a377983900a", func := "loop.example/paperrolls/laws.FnMoveKnives", spec := "fnMoveKnives", recurses := true, apart := false, narrowed := true }
def FnMoveKnivesUptoSaid : Prop := fnMoveKnivesUptoRow.holds Try.pinned (OpenSpec.upto fnMoveKnivesSpec)

/-- 'laws.FnMoveKnivesThree', WHERE WHAT IT READS IS OF BULK AT MOST 1048576: true; the input reads as it did. -/
def fnMoveKnivesThreeUptoRow : OpenClaim := { program := "ytkmogpeiolkpbaa", sum := "52335c9bfc74d4ff13bed01cadb2b288ffd3e04c5b8d011b00366a377983900a", func := "loop.example/paperrolls/laws.FnMoveKnivesThree", spec := "fnMoveKnivesThree", recurses := true, apart := false, narrowed := true }
def FnMoveKnivesThreeUptoSaid : Prop := fnMoveKnivesThreeUptoRow.holds Try.pinned (OpenSpec.upto fnMoveKnivesThreeSpec)

end Rows
end Go.Proofs.Ytkmogpeiolkpbaa
