/-
  No cell of these rows narrows 'for every input' (looked for: loops, veiled, ifaces, maps, wideKeys, modest, calm, conditions, laid).
  DERIVED. THE GIVEN ROWS OF THIS SEAT. 12 by the template 'for every input the law returns true; each argument reads behind the call as it read before'; 0 by the template 'total and deterministic' (their statements: YtheddimkifhnkaaTotals.lean).
  GIVEN WITH THE SEED: the statements are not yours to turn. If you find one false, say at which input.
  Laid BY PROGRAM, IN A SANDBOX (cutbox-rows.mjs): the forced cells as the released guide's own fill.sh prints them over the translation 9d0b158882085853… (all of the seat's roots in one cut). By AI agents, Wed Nov 11 2026. No macro, syntax, notation, axiom, sorry.
-/
import Derived.Test.YtheddimkifhnkaaChecked
import GoSem.Claim
import GoSem.ClaimJoined
import GoSem.ClaimMapViews
import Derived.JoinedTies
import Derived.KernelRfl
namespace Go.Proofs.Ytheddimkifhnkaa
/- THE CELL 'sum', in the pinned program and in every row, IS THE sha256 OF THE DUMP (.gsa) THAT YtheddimkifhnkaaProg.lean LOADS. Nothing in Lean hashes anything: it is a label: what it is worth is what the hold of that sum in a sandbox is worth. -/
noncomputable def Try.pinned : Pinned := { name := "ytheddimkifhnkaa", sum := "9d0b158882085853354b48826c3cea34b2bac8196f9aff564a9fb5993564ded4", checked := Try.checked }
namespace Rows
def none {H : Type} : Left H := { results := [], args := [] }

/-- 'laws.FnExactValidLengths': WHATEVER THE INPUT: true; the input reads as it did. -/
def fnExactValidLengthsSpec : ChangeSpec := { name := "fnExactValidLengths", fn := fun _ => fun
  | [d] => { results := [.lit (.bool true)], args := [d] }
  | _ => none }
def fnExactValidLengthsRow : OpenClaim := { program := "ytheddimkifhnkaa", sum := "9d0b158882085853354b48826c3cea34b2bac8196f9aff564a9fb5993564ded4", func := "loop.example/paperrolls/laws.FnExactValidLengths", spec := "fnExactValidLengths", apart := false }
def FnExactValidLengthsSaid : Prop := fnExactValidLengthsRow.holds Try.pinned (OpenSpec.ofChange fnExactValidLengthsSpec)

/-- ITS FALSE NEIGHBOUR: 'it returns false'. Refute it at one input. -/
def fnExactValidLengthsWrong : ChangeSpec := { name := "fnExactValidLengths", fn := fun _ => fun
  | [d] => { results := [.lit (.bool false)], args := [d] }
  | _ => none }
def FnExactValidLengthsWrongFalsely : Prop := fnExactValidLengthsRow.holds Try.pinned (OpenSpec.ofChange fnExactValidLengthsWrong)

/-- 'laws.FnExactValidKnives': WHATEVER THE INPUT: true; the input reads as it did. -/
def fnExactValidKnivesSpec : ChangeSpec := { name := "fnExactValidKnives", fn := fun _ => fun
  | [d] => { results := [.lit (.bool true)], args := [d] }
  | _ => none }
def fnExactValidKnivesRow : OpenClaim := { program := "ytheddimkifhnkaa", sum := "9d0b158882085853354b48826c3cea34b2bac8196f9aff564a9fb5993564ded4", func := "loop.example/paperrolls/laws.FnExactValidKnives", spec := "fnExactValidKnives", apart := false }
def FnExactValidKnivesSaid : Prop := fnExactValidKnivesRow.holds Try.pinned (OpenSpec.ofChange fnExactValidKnivesSpec)

/-- ITS FALSE NEIGHBOUR: 'it returns false'. Refute it at one input. -/
def fnExactValidKnivesWrong : ChangeSpec := { name := "fnExactValidKnives", fn := fun _ => fun
  | [d] => { results := [.lit (.bool false)], args := [d] }
  | _ => none }
def FnExactValidKnivesWrongFalsely : Prop := fnExactValidKnivesRow.holds Try.pinned (OpenSpec.ofChange fnExactValidKnivesWrong)

/-- 'laws.FnExactValidWidths': WHATEVER THE INPUT: true; the input reads as it did. -/
def fnExactValidWidthsSpec : ChangeSpec := { name := "fnExactValidWidths", fn := fun _ => fun
  | [d1, d2] => { results := [.lit (.bool true)], args := [d1, d2] }
  | _ => none }
def fnExactValidWidthsRow : OpenClaim := { program := "ytheddimkifhnkaa", sum := "9d0b158882085853354b48826c3cea34b2bac8196f9aff564a9fb5993564ded4", func := "loop.example/paperrolls/laws.FnExactValidWidths", spec := "fnExactValidWidths", apart := false }
def FnExactValidWidthsSaid : Prop := fnExactValidWidthsRow.holds Try.pinned (OpenSpec.ofChange fnExactValidWidthsSpec)

/-- ITS FALSE NEIGHBOUR: 'it returns false'. Refute it at one input. -/
def fnExactValidWidthsWrong : ChangeSpec := { name := "fnExactValidWidths", fn := fun _ => fun
  | [d1, d2] => { results := [.lit (.bool false)], args := [d1, d2] }
  | _ => none }
def FnExactValidWidthsWrongFalsely : Prop := fnExactValidWidthsRow.holds Try.pinned (OpenSpec.ofChange fnExactValidWidthsWrong)

/-- 'laws.FnExactEndsOf': WHATEVER THE INPUT: true; the input reads as it did. -/
def fnExactEndsOfSpec : ChangeSpec := { name := "fnExactEndsOf", fn := fun _ => fun
  | [d] => { results := [.lit (.bool true)], args := [d] }
  | _ => none }
def fnExactEndsOfRow : OpenClaim := { program := "ytheddimkifhnkaa", sum := "9d0b158882085853354b48826c3cea34b2bac8196f9aff564a9fb5993564ded4", func := "loop.example/paperrolls/laws.FnExactEndsOf", spec := "fnExactEndsOf", apart := false }
def FnExactEndsOfSaid : Prop := fnExactEndsOfRow.holds Try.pinned (OpenSpec.ofChange fnExactEndsOfSpec)

/-- ITS FALSE NEIGHBOUR: 'it returns false'. Refute it at one input. -/
def fnExactEndsOfWrong : ChangeSpec := { name := "fnExactEndsOf", fn := fun _ => fun
  | [d] => { results := [.lit (.bool false)], args := [d] }
  | _ => none }
def FnExactEndsOfWrongFalsely : Prop := fnExactEndsOfRow.holds Try.pinned (OpenSpec.ofChange fnExactEndsOfWrong)

/-- 'laws.FnExactMirrorKnives': WHATEVER THE INPUT: true; the input reads as it did. -/
def fnExactMirrorKnivesSpec : ChangeSpec := { name := "fnExactMirrorKnives", fn := fun _ => fun
  | [d1, d2] => { results := [.lit (.bool true)], args := [d1, d2] }
  | _ => none }
def fnExactMirrorKnivesRow : OpenClaim := { program := "ytheddimkifhnkaa", sum := "9d0b158882085853354b48826c3cea34b2bac8196f9aff564a9fb5993564ded4", func := "loop.example/paperrolls/laws.FnExactMirrorKnives", spec := "fnExactMirrorKnives", apart := false }
def FnExactMirrorKnivesSaid : Prop := fnExactMirrorKnivesRow.holds Try.pinned (OpenSpec.ofChange fnExactMirrorKnivesSpec)

/-- ITS FALSE NEIGHBOUR: 'it returns false'. Refute it at one input. -/
def fnExactMirrorKnivesWrong : ChangeSpec := { name := "fnExactMirrorKnives", fn := fun _ => fun
  | [d1, d2] => { results := [.lit (.bool false)], args := [d1, d2] }
  | _ => none }
def FnExactMirrorKnivesWrongFalsely : Prop := fnExactMirrorKnivesRow.holds Try.pinned (OpenSpec.ofChange fnExactMirrorKnivesWrong)

/-- 'laws.FnExactPlaceOf': WHATEVER THE INPUT: true; the input reads as it did. -/
def fnExactPlaceOfSpec : ChangeSpec := { name := "fnExactPlaceOf", fn := fun _ => fun
  | [d1, d2, d3, d4] => { results := [.lit (.bool true)], args := [d1, d2, d3, d4] }
  | _ => none }
def fnExactPlaceOfRow : OpenClaim := { program := "ytheddimkifhnkaa", sum := "9d0b158882085853354b48826c3cea34b2bac8196f9aff564a9fb5993564ded4", func := "loop.example/paperrolls/laws.FnExactPlaceOf", spec := "fnExactPlaceOf", apart := false }
def FnExactPlaceOfSaid : Prop := fnExactPlaceOfRow.holds Try.pinned (OpenSpec.ofChange fnExactPlaceOfSpec)

/-- ITS FALSE NEIGHBOUR: 'it returns false'. Refute it at one input. -/
def fnExactPlaceOfWrong : ChangeSpec := { name := "fnExactPlaceOf", fn := fun _ => fun
  | [d1, d2, d3, d4] => { results := [.lit (.bool false)], args := [d1, d2, d3, d4] }
  | _ => none }
def FnExactPlaceOfWrongFalsely : Prop := fnExactPlaceOfRow.holds Try.pinned (OpenSpec.ofChange fnExactPlaceOfWrong)

/-- 'laws.FnExactValidPattern': WHATEVER THE INPUT: true; the input reads as it did. -/
def fnExactValidPatternSpec : ChangeSpec := { name := "fnExactValidPattern", fn := fun _ => fun
  | [d1, d2, d3] => { results := [.lit (.bool true)], args := [d1, d2, d3] }
  | _ => none }
def fnExactValidPatternRow : OpenClaim := { program := "ytheddimkifhnkaa", sum := "9d0b158882085853354b48826c3cea34b2bac8196f9aff564a9fb5993564ded4", func := "loop.example/paperrolls/laws.FnExactValidPattern", spec := "fnExactValidPattern", apart := false }
def FnExactValidPatternSaid : Prop := fnExactValidPatternRow.holds Try.pinned (OpenSpec.ofChange fnExactValidPatternSpec)

/-- ITS FALSE NEIGHBOUR: 'it returns false'. Refute it at one input. -/
def fnExactValidPatternWrong : ChangeSpec := { name := "fnExactValidPattern", fn := fun _ => fun
  | [d1, d2, d3] => { results := [.lit (.bool false)], args := [d1, d2, d3] }
  | _ => none }
def FnExactValidPatternWrongFalsely : Prop := fnExactValidPatternRow.holds Try.pinned (OpenSpec.ofChange fnExactValidPatternWrong)

/-- 'laws.FnExactValidWants': WHATEVER THE INPUT: true; the input reads as it did. -/
def fnExactValidWantsSpec : ChangeSpec := { name := "fnExactValidWants", fn := fun _ => fun
  | [d1, d2, d3] => { results := [.lit (.bool true)], args := [d1, d2, d3] }
  | _ => none }
def fnExactValidWantsRow : OpenClaim := { program := "ytheddimkifhnkaa", sum := "9d0b158882085853354b48826c3cea34b2bac8196f9aff564a9fb5993564ded4", func := "loop.example/paperrolls/laws.FnExactValidWants", spec := "fnExactValidWants", apart := false }
def FnExactValidWantsSaid : Prop := fnExactValidWantsRow.holds Try.pinned (OpenSpec.ofChange fnExactValidWantsSpec)

/-- ITS FALSE NEIGHBOUR: 'it returns false'. Refute it at one input. -/
def fnExactValidWantsWrong : ChangeSpec := { name := "fnExactValidWants", fn := fun _ => fun
  | [d1, d2, d3] => { results := [.lit (.bool false)], args := [d1, d2, d3] }
  | _ => none }
def FnExactValidWantsWrongFalsely : Prop := fnExactValidWantsRow.holds Try.pinned (OpenSpec.ofChange fnExactValidWantsWrong)

/-- 'laws.FnExactTrimOf': WHATEVER THE INPUT: true; the input reads as it did. -/
def fnExactTrimOfSpec : ChangeSpec := { name := "fnExactTrimOf", fn := fun _ => fun
  | [d1, d2, d3] => { results := [.lit (.bool true)], args := [d1, d2, d3] }
  | _ => none }
def fnExactTrimOfRow : OpenClaim := { program := "ytheddimkifhnkaa", sum := "9d0b158882085853354b48826c3cea34b2bac8196f9aff564a9fb5993564ded4", func := "loop.example/paperrolls/laws.FnExactTrimOf", spec := "fnExactTrimOf", apart := false }
def FnExactTrimOfSaid : Prop := fnExactTrimOfRow.holds Try.pinned (OpenSpec.ofChange fnExactTrimOfSpec)

/-- ITS FALSE NEIGHBOUR: 'it returns false'. Refute it at one input. -/
def fnExactTrimOfWrong : ChangeSpec := { name := "fnExactTrimOf", fn := fun _ => fun
  | [d1, d2, d3] => { results := [.lit (.bool false)], args := [d1, d2, d3] }
  | _ => none }
def FnExactTrimOfWrongFalsely : Prop := fnExactTrimOfRow.holds Try.pinned (OpenSpec.ofChange fnExactTrimOfWrong)

/-- 'laws.FnExactLeftOver': WHATEVER THE INPUT: true; the input reads as it did. -/
def fnExactLeftOverSpec : ChangeSpec := { name := "fnExactLeftOver", fn := fun _ => fun
  | [d1, d2, d3] => { results := [.lit (.bool true)], args := [d1, d2, d3] }
  | _ => none }
def fnExactLeftOverRow : OpenClaim := { program := "ytheddimkifhnkaa", sum := "9d0b158882085853354b48826c3cea34b2bac8196f9aff564a9fb5993564ded4", func := "loop.example/paperrolls/laws.FnExactLeftOver", spec := "fnExactLeftOver", apart := false }
def FnExactLeftOverSaid : Prop := fnExactLeftOverRow.holds Try.pinned (OpenSpec.ofChange fnExactLeftOverSpec)

/-- ITS FALSE NEIGHBOUR: 'it returns false'. Refute it at one input. -/
def fnExactLeftOverWrong : ChangeSpec := { name := "fnExactLeftOver", fn := fun _ => fun
  | [d1, d2, d3] => { results := [.lit (.bool false)], args := [d1, d2, d3] }
  | _ => none }
def FnExactLeftOverWrongFalsely : Prop := fnExactLeftOverRow.holds Try.pinned (OpenSpec.ofChange fnExactLeftOverWrong)

/-- 'laws.FnExactKnivesFor': WHATEVER THE INPUT: true; the input reads as it did. -/
def fnExactKnivesForSpec : ChangeSpec := { name := "fnExactKnivesFor", fn := fun _ => fun
  | [d1, d2, d3] => { results := [.lit (.bool true)], args := [d1, d2, d3] }
  | _ => none }
def fnExactKnivesForRow : OpenClaim := { program := "ytheddimkifhnkaa", sum := "9d0b158882085853354b48826c3cea34b2bac8196f9aff564a9fb5993564ded4", func := "loop.example/paperrolls/laws.FnExactKnivesFor", spec := "fnExactKnivesFor", apart := false }
def FnExactKnivesForSaid : Prop := fnExactKnivesForRow.holds Try.pinned (OpenSpec.ofChange fnExactKnivesForSpec)

/-- ITS FALSE NEIGHBOUR: 'it returns false'. Refute it at one input. -/
def fnExactKnivesForWrong : ChangeSpec := { name := "fnExactKnivesFor", fn := fun _ => fun
  | [d1, d2, d3] => { results := [.lit (.bool false)], args := [d1, d2, d3] }
  | _ => none }
def FnExactKnivesForWrongFalsely : Prop := fnExactKnivesForRow.holds Try.pinned (OpenSpec.ofChange fnExactKnivesForWrong)

/-- 'laws.FnExactBestUse': WHATEVER THE INPUT: true; the input reads as it did. -/
def fnExactBestUseSpec : ChangeSpec := { name := "fnExactBestUse", fn := fun _ => fun
  | [d1, d2, d3] => { results := [.lit (.bool true)], args := [d1, d2, d3] }
  | _ => none }
def fnExactBestUseRow : OpenClaim := { program := "ytheddimkifhnkaa", sum := "9d0b158882085853354b48826c3cea34b2bac8196f9aff564a9fb5993564ded4", func := "loop.example/paperrolls/laws.FnExactBestUse", spec := "fnExactBestUse", apart := false }
def FnExactBestUseSaid : Prop := fnExactBestUseRow.holds Try.pinned (OpenSpec.ofChange fnExactBestUseSpec)

/-- ITS FALSE NEIGHBOUR: 'it returns false'. Refute it at one input. -/
def fnExactBestUseWrong : ChangeSpec := { name := "fnExactBestUse", fn := fun _ => fun
  | [d1, d2, d3] => { results := [.lit (.bool false)], args := [d1, d2, d3] }
  | _ => none }
def FnExactBestUseWrongFalsely : Prop := fnExactBestUseRow.holds Try.pinned (OpenSpec.ofChange fnExactBestUseWrong)

/- THE SECOND FORM. 'bulk': how many values and letters a reading holds, each counted each time it is reached (what is shared counts as often as it is met; a slice's spare places count too). A statement '..UptoSaid' is the law's where the arguments, and the package variables that the reading takes, are together of bulk at most 1048576: NARROWER than '..Said'. Prove '..Said' where nothing that the law and all that it calls make is longer than what came in: it says more and counts as full. Else prove '..UptoSaid'. A law counts once. -/
mutual
def uptoBulk {H : Type} : DataW H → Nat
  | .lit (.string bytes) => bytes.length + 1
  | .lit _ => 1
  | .nil => 1
  | .ptr d => uptoBulk d + 1
  | .slice elems spare => uptoBulkAll elems + uptoBulkAll spare + 1
  | .agg parts => uptoBulkAll parts + 1
  | .iface _ d => uptoBulk d + 1
  | .map entries => uptoBulkEntries entries + 1
  | .held _ => 1
def uptoBulkAll {H : Type} : List (DataW H) → Nat
  | [] => 0
  | d :: r => uptoBulk d + uptoBulkAll r
def uptoBulkEntries {H : Type} : List (Lit × DataW H) → Nat
  | [] => 0
  | x :: r => uptoBulkEntry x + uptoBulkEntries r
def uptoBulkEntry {H : Type} : Lit × DataW H → Nat
  | (.string bytes, d) => bytes.length + uptoBulk d + 1
  | (_, d) => uptoBulk d + 1
 end
def uptoSmall : (H : Type) → List (DataW H) → Bool := fun _ ds => decide (uptoBulkAll ds ≤ 1048576)
def OpenSpec.upto (s : _root_.Go.ChangeSpec) : _root_.Go.OpenSpec := { _root_.Go.OpenSpec.ofChange s with cond := some uptoSmall }

/-- 'laws.FnExactValidLengths', WHERE WHAT IT READS IS OF BULK AT MOST 1048576: true; the input reads as it did. -/
def fnExactValidLengthsUptoRow : OpenClaim := { program := "ytheddimkifhnkaa", sum := "9d0b158882085853354b48826c3cea34b2bac8196f9aff564a9fb5993564ded4", func := "loop.example/paperrolls/laws.FnExactValidLengths", spec := "fnExactValidLengths", apart := false, narrowed := true }
def FnExactValidLengthsUptoSaid : Prop := fnExactValidLengthsUptoRow.holds Try.pinned (OpenSpec.upto fnExactValidLengthsSpec)

/-- 'laws.FnExactValidKnives', WHERE WHAT IT READS IS OF BULK AT MOST 1048576: true; the input reads as it did. -/
def fnExactValidKnivesUptoRow : OpenClaim := { program := "ytheddimkifhnkaa", sum := "9d0b158882085853354b48826c3cea34b2bac8196f9aff564a9fb5993564ded4", func := "loop.example/paperrolls/laws.FnExactValidKnives", spec := "fnExactValidKnives", apart := false, narrowed := true }
def FnExactValidKnivesUptoSaid : Prop := fnExactValidKnivesUptoRow.holds Try.pinned (OpenSpec.upto fnExactValidKnivesSpec)

/-- 'laws.FnExactValidWidths', WHERE WHAT IT READS IS OF BULK AT MOST 1048576: true; the input reads as it did. -/
def fnExactValidWidthsUptoRow : OpenClaim := { program := "ytheddimkifhnkaa", sum := "9d0b158882085853354b48826c3cea34b2bac8196f9aff564a9fb5993564ded4", func := "loop.example/paperrolls/laws.FnExactValidWidths", spec := "fnExactValidWidths", apart := false, narrowed := true }
def FnExactValidWidthsUptoSaid : Prop := fnExactValidWidthsUptoRow.holds Try.pinned (OpenSpec.upto fnExactValidWidthsSpec)

/-- 'laws.FnExactEndsOf', WHERE WHAT IT READS IS OF BULK AT MOST 1048576: true; the input reads as it did. -/
def fnExactEndsOfUptoRow : OpenClaim := { program := "ytheddimkifhnkaa", sum := "9d0b158882085853354b48826c3cea34b2bac8196f9aff564a9fb5993564ded4", func := "loop.example/paperrolls/laws.FnExactEndsOf", spec := "fnExactEndsOf", apart := false, narrowed := true }
def FnExactEndsOfUptoSaid : Prop := fnExactEndsOfUptoRow.holds Try.pinned (OpenSpec.upto fnExactEndsOfSpec)

/-- 'laws.FnExactMirrorKnives', WHERE WHAT IT READS IS OF BULK AT MOST 1048576: true; the input reads as it did. -/
def fnExactMirrorKnivesUptoRow : OpenClaim := { program := "ytheddimkifhnkaa", sum := "9d0b158882085853354b48826c3cea34b2bac8196f9aff564a9fb5993564ded4", func := "loop.example/paperrolls/laws.FnExactMirrorKnives", spec := "fnExactMirrorKnives", apart := false, narrowed := true }
def FnExactMirrorKnivesUptoSaid : Prop := fnExactMirrorKnivesUptoRow.holds Try.pinned (OpenSpec.upto fnExactMirrorKnivesSpec)

/-- 'laws.FnExactPlaceOf', WHERE WHAT IT READS IS OF BULK AT MOST 1048576: true; the input reads as it did. -/
def fnExactPlaceOfUptoRow : OpenClaim := { program := "ytheddimkifhnkaa", sum := "9d0b158882085853354b48826c3cea34b2bac8196f9aff564a9fb5993564ded4", func := "loop.example/paperrolls/laws.FnExactPlaceOf", spec := "fnExactPlaceOf", apart := false, narrowed := true }
def FnExactPlaceOfUptoSaid : Prop := fnExactPlaceOfUptoRow.holds Try.pinned (OpenSpec.upto fnExactPlaceOfSpec)

/-- 'laws.FnExactValidPattern', WHERE WHAT IT READS IS OF BULK AT MOST 1048576: true; the input reads as it did. -/
def fnExactValidPatternUptoRow : OpenClaim := { program := "ytheddimkifhnkaa", sum := "9d0b158882085853354b48826c3cea34b2bac8196f9aff564a9fb5993564ded4", func := "loop.example/paperrolls/laws.FnExactValidPattern", spec := "fnExactValidPattern", apart := false, narrowed := true }
def FnExactValidPatternUptoSaid : Prop := fnExactValidPatternUptoRow.holds Try.pinned (OpenSpec.upto fnExactValidPatternSpec)

/-- 'laws.FnExactValidWants', WHERE WHAT IT READS IS OF BULK AT MOST 1048576: true; the input reads as it did. -/
def fnExactValidWantsUptoRow : OpenClaim := { program := "ytheddimkifhnkaa", sum := "9d0b158882085853354b48826c3cea34b2bac8196f9aff564a9fb5993564ded4", func := "loop.example/paperrolls/laws.FnExactValidWants", spec := "fnExactValidWants", apart := false, narrowed := true }
def FnExactValidWantsUptoSaid : Prop := fnExactValidWantsUptoRow.holds Try.pinned (OpenSpec.upto fnExactValidWantsSpec)

/-- 'laws.FnExactTrimOf', WHERE WHAT IT READS IS OF BULK AT MOST 1048576: true; the input reads as it did. -/
def fnExactTrimOfUptoRow : OpenClaim := { program := "ytheddimkifhnkaa", sum := "9d0b158882085853354b48826c3cea34b2bac8196f9aff564a9fb5993564ded4", func := "loop.example/paperrolls/laws.FnExactTrimOf", spec := "fnExactTrimOf", apart := false, narrowed := true }
def FnExactTrimOfUptoSaid : Prop := fnExactTrimOfUptoRow.holds Try.pinned (OpenSpec.upto fnExactTrimOfSpec)

/-- 'laws.FnExactLeftOver', WHERE WHAT IT READS IS OF BULK AT MOST 1048576: true; the input reads as it did. -/
def fnExactLeftOverUptoRow : OpenClaim := { program := "ytheddimkifhnkaa", sum := "9d0b158882085853354b48826c3cea34b2bac8196f9aff564a9fb5993564ded4", func := "loop.example/paperrolls/laws.FnExactLeftOver", spec := "fnExactLeftOver", apart := false, narrowed := true }
def FnExactLeftOverUptoSaid : Prop := fnExactLeftOverUptoRow.holds Try.pinned (OpenSpec.upto fnExactLeftOverSpec)

/-- 'laws.FnExactKnivesFor', WHERE WHAT IT READS IS OF BULK AT MOST 1048576: true; the input reads as it did. -/
def fnExactKnivesForUptoRow : OpenClaim := { program := "ytheddimkifhnkaa", sum := "9d0b158882085853354b48826c3cea34b2bac8196f9aff564a9fb5993564ded4", func := "loop.example/paperrolls/laws.FnExactKnivesFor", spec := "fnExactKnivesFor", apart := false, narrowed := true }
def FnExactKnivesForUptoSaid : Prop := fnExactKnivesForUptoRow.holds Try.pinned (OpenSpec.upto fnExactKnivesForSpec)

/-- 'laws.FnExactBestUse', WHERE WHAT IT READS IS OF BULK AT MOST 1048576: true; the input reads as it did. -/
def fnExactBestUseUptoRow : OpenClaim := { program := "ytheddimkifhnkaa", sum := "9d0b158882085853354b48826c3cea34b2bac8196f9aff564a9fb5993564ded4", func := "loop.example/paperrolls/laws.FnExactBestUse", spec := "fnExactBestUse", apart := false, narrowed := true }
def FnExactBestUseUptoSaid : Prop := fnExactBestUseUptoRow.holds Try.pinned (OpenSpec.upto fnExactBestUseSpec)

end Rows
end Go.Proofs.Ytheddimkifhnkaa
