/-
  No cell of these rows narrows 'for every input' (looked for: loops, veiled, ifaces, maps, wideKeys, modest, calm, conditions, laid).
  DERIVED. THE GIVEN ROWS OF THIS SEAT. 11 by the template 'for every input the law returns true; each argument reads behind the call as it read before'; 0 by the template 'total and deterministic' (their statements: YtddimgghcmplmaaTotals.lean).
  GIVEN WITH THE SEED: the statements are not yours to turn. If you find one false, say at which input.
  Laid BY PROGRAM, IN A SANDBOX (cutbox-rows.mjs): the forced cells as the released guide's own fill.sh prints them over the translation 38e0667289f3ae89… (all of the seat's roots in one cut). By AI agents, Wed Nov 11 2026. No macro, syntax, notation, axiom, sorry.
-/
import Derived.Test.YtddimgghcmplmaaChecked
import GoSem.Claim
import GoSem.ClaimJoined
import GoSem.ClaimMapViews
import Derived.JoinedTies
import Derived.KernelRfl
namespace Go.Proofs.Ytddimgghcmplmaa
/- THE CELL 'sum', in the pinned program and in every row, IS THE sha256 OF THE DUMP (.gsa) THAT YtddimgghcmplmaaProg.lean LOADS. Nothing in Lean hashes anything: it is a label: what it is worth is what the hold of that sum in a sandbox is worth. -/
noncomputable def Try.pinned : Pinned := { name := "ytddimgghcmplmaa", sum := "38e0667289f3ae898e0d64a1b7e343b4fbc07d36f3eb11b2e436555f633f8db0", checked := Try.checked }
namespace Rows
def none {H : Type} : Left H := { results := [], args := [] }

/-- 'laws.FnExactConstants': WHATEVER THE INPUT: true; the input reads as it did. -/
def fnExactConstantsSpec : ChangeSpec := { name := "fnExactConstants", fn := fun _ => fun
  | [] => { results := [.lit (.bool true)], args := [] }
  | _ => none }
def fnExactConstantsRow : OpenClaim := { program := "ytddimgghcmplmaa", sum := "38e0667289f3ae898e0d64a1b7e343b4fbc07d36f3eb11b2e436555f633f8db0", func := "loop.example/paperrolls/laws.FnExactConstants", spec := "fnExactConstants", apart := false }
def FnExactConstantsSaid : Prop := fnExactConstantsRow.holds Try.pinned (OpenSpec.ofChange fnExactConstantsSpec)

/-- ITS FALSE NEIGHBOUR: 'it returns false'. Refute it at one input. -/
def fnExactConstantsWrong : ChangeSpec := { name := "fnExactConstants", fn := fun _ => fun
  | [] => { results := [.lit (.bool false)], args := [] }
  | _ => none }
def FnExactConstantsWrongFalsely : Prop := fnExactConstantsRow.holds Try.pinned (OpenSpec.ofChange fnExactConstantsWrong)

/-- 'laws.FnExactValidRoll': WHATEVER THE INPUT: true; the input reads as it did. -/
def fnExactValidRollSpec : ChangeSpec := { name := "fnExactValidRoll", fn := fun _ => fun
  | [d] => { results := [.lit (.bool true)], args := [d] }
  | _ => none }
def fnExactValidRollRow : OpenClaim := { program := "ytddimgghcmplmaa", sum := "38e0667289f3ae898e0d64a1b7e343b4fbc07d36f3eb11b2e436555f633f8db0", func := "loop.example/paperrolls/laws.FnExactValidRoll", spec := "fnExactValidRoll", apart := false }
def FnExactValidRollSaid : Prop := fnExactValidRollRow.holds Try.pinned (OpenSpec.ofChange fnExactValidRollSpec)

/-- ITS FALSE NEIGHBOUR: 'it returns false'. Refute it at one input. -/
def fnExactValidRollWrong : ChangeSpec := { name := "fnExactValidRoll", fn := fun _ => fun
  | [d] => { results := [.lit (.bool false)], args := [d] }
  | _ => none }
def FnExactValidRollWrongFalsely : Prop := fnExactValidRollRow.holds Try.pinned (OpenSpec.ofChange fnExactValidRollWrong)

/-- 'laws.FnExactDiameterOf': WHATEVER THE INPUT: true; the input reads as it did. -/
def fnExactDiameterOfSpec : ChangeSpec := { name := "fnExactDiameterOf", fn := fun _ => fun
  | [d] => { results := [.lit (.bool true)], args := [d] }
  | _ => none }
def fnExactDiameterOfRow : OpenClaim := { program := "ytddimgghcmplmaa", sum := "38e0667289f3ae898e0d64a1b7e343b4fbc07d36f3eb11b2e436555f633f8db0", func := "loop.example/paperrolls/laws.FnExactDiameterOf", spec := "fnExactDiameterOf", apart := false }
def FnExactDiameterOfSaid : Prop := fnExactDiameterOfRow.holds Try.pinned (OpenSpec.ofChange fnExactDiameterOfSpec)

/-- ITS FALSE NEIGHBOUR: 'it returns false'. Refute it at one input. -/
def fnExactDiameterOfWrong : ChangeSpec := { name := "fnExactDiameterOf", fn := fun _ => fun
  | [d] => { results := [.lit (.bool false)], args := [d] }
  | _ => none }
def FnExactDiameterOfWrongFalsely : Prop := fnExactDiameterOfRow.holds Try.pinned (OpenSpec.ofChange fnExactDiameterOfWrong)

/-- 'laws.FnExactTurnsUnder': WHATEVER THE INPUT: true; the input reads as it did. -/
def fnExactTurnsUnderSpec : ChangeSpec := { name := "fnExactTurnsUnder", fn := fun _ => fun
  | [d1, d2] => { results := [.lit (.bool true)], args := [d1, d2] }
  | _ => none }
def fnExactTurnsUnderRow : OpenClaim := { program := "ytddimgghcmplmaa", sum := "38e0667289f3ae898e0d64a1b7e343b4fbc07d36f3eb11b2e436555f633f8db0", func := "loop.example/paperrolls/laws.FnExactTurnsUnder", spec := "fnExactTurnsUnder", apart := false }
def FnExactTurnsUnderSaid : Prop := fnExactTurnsUnderRow.holds Try.pinned (OpenSpec.ofChange fnExactTurnsUnderSpec)

/-- ITS FALSE NEIGHBOUR: 'it returns false'. Refute it at one input. -/
def fnExactTurnsUnderWrong : ChangeSpec := { name := "fnExactTurnsUnder", fn := fun _ => fun
  | [d1, d2] => { results := [.lit (.bool false)], args := [d1, d2] }
  | _ => none }
def FnExactTurnsUnderWrongFalsely : Prop := fnExactTurnsUnderRow.holds Try.pinned (OpenSpec.ofChange fnExactTurnsUnderWrong)

/-- 'laws.FnExactTurnLength': WHATEVER THE INPUT: true; the input reads as it did. -/
def fnExactTurnLengthSpec : ChangeSpec := { name := "fnExactTurnLength", fn := fun _ => fun
  | [d1, d2] => { results := [.lit (.bool true)], args := [d1, d2] }
  | _ => none }
def fnExactTurnLengthRow : OpenClaim := { program := "ytddimgghcmplmaa", sum := "38e0667289f3ae898e0d64a1b7e343b4fbc07d36f3eb11b2e436555f633f8db0", func := "loop.example/paperrolls/laws.FnExactTurnLength", spec := "fnExactTurnLength", apart := false }
def FnExactTurnLengthSaid : Prop := fnExactTurnLengthRow.holds Try.pinned (OpenSpec.ofChange fnExactTurnLengthSpec)

/-- ITS FALSE NEIGHBOUR: 'it returns false'. Refute it at one input. -/
def fnExactTurnLengthWrong : ChangeSpec := { name := "fnExactTurnLength", fn := fun _ => fun
  | [d1, d2] => { results := [.lit (.bool false)], args := [d1, d2] }
  | _ => none }
def FnExactTurnLengthWrongFalsely : Prop := fnExactTurnLengthRow.holds Try.pinned (OpenSpec.ofChange fnExactTurnLengthWrong)

/-- 'laws.FnExactWindRoll': WHATEVER THE INPUT: true; the input reads as it did. -/
def fnExactWindRollSpec : ChangeSpec := { name := "fnExactWindRoll", fn := fun _ => fun
  | [d1, d2] => { results := [.lit (.bool true)], args := [d1, d2] }
  | _ => none }
def fnExactWindRollRow : OpenClaim := { program := "ytddimgghcmplmaa", sum := "38e0667289f3ae898e0d64a1b7e343b4fbc07d36f3eb11b2e436555f633f8db0", func := "loop.example/paperrolls/laws.FnExactWindRoll", spec := "fnExactWindRoll", apart := false }
def FnExactWindRollSaid : Prop := fnExactWindRollRow.holds Try.pinned (OpenSpec.ofChange fnExactWindRollSpec)

/-- ITS FALSE NEIGHBOUR: 'it returns false'. Refute it at one input. -/
def fnExactWindRollWrong : ChangeSpec := { name := "fnExactWindRoll", fn := fun _ => fun
  | [d1, d2] => { results := [.lit (.bool false)], args := [d1, d2] }
  | _ => none }
def FnExactWindRollWrongFalsely : Prop := fnExactWindRollRow.holds Try.pinned (OpenSpec.ofChange fnExactWindRollWrong)

/-- 'laws.FnExactLengthOf': WHATEVER THE INPUT: true; the input reads as it did. -/
def fnExactLengthOfSpec : ChangeSpec := { name := "fnExactLengthOf", fn := fun _ => fun
  | [d] => { results := [.lit (.bool true)], args := [d] }
  | _ => none }
def fnExactLengthOfRow : OpenClaim := { program := "ytddimgghcmplmaa", sum := "38e0667289f3ae898e0d64a1b7e343b4fbc07d36f3eb11b2e436555f633f8db0", func := "loop.example/paperrolls/laws.FnExactLengthOf", spec := "fnExactLengthOf", apart := false }
def FnExactLengthOfSaid : Prop := fnExactLengthOfRow.holds Try.pinned (OpenSpec.ofChange fnExactLengthOfSpec)

/-- ITS FALSE NEIGHBOUR: 'it returns false'. Refute it at one input. -/
def fnExactLengthOfWrong : ChangeSpec := { name := "fnExactLengthOf", fn := fun _ => fun
  | [d] => { results := [.lit (.bool false)], args := [d] }
  | _ => none }
def FnExactLengthOfWrongFalsely : Prop := fnExactLengthOfRow.holds Try.pinned (OpenSpec.ofChange fnExactLengthOfWrong)

/-- 'laws.FnExactTurnsFor': WHATEVER THE INPUT: true; the input reads as it did. -/
def fnExactTurnsForSpec : ChangeSpec := { name := "fnExactTurnsFor", fn := fun _ => fun
  | [d1, d2] => { results := [.lit (.bool true)], args := [d1, d2] }
  | _ => none }
def fnExactTurnsForRow : OpenClaim := { program := "ytddimgghcmplmaa", sum := "38e0667289f3ae898e0d64a1b7e343b4fbc07d36f3eb11b2e436555f633f8db0", func := "loop.example/paperrolls/laws.FnExactTurnsFor", spec := "fnExactTurnsFor", apart := false }
def FnExactTurnsForSaid : Prop := fnExactTurnsForRow.holds Try.pinned (OpenSpec.ofChange fnExactTurnsForSpec)

/-- ITS FALSE NEIGHBOUR: 'it returns false'. Refute it at one input. -/
def fnExactTurnsForWrong : ChangeSpec := { name := "fnExactTurnsFor", fn := fun _ => fun
  | [d1, d2] => { results := [.lit (.bool false)], args := [d1, d2] }
  | _ => none }
def FnExactTurnsForWrongFalsely : Prop := fnExactTurnsForRow.holds Try.pinned (OpenSpec.ofChange fnExactTurnsForWrong)

/-- 'laws.FnExactUnwindRoll': WHATEVER THE INPUT: true; the input reads as it did. -/
def fnExactUnwindRollSpec : ChangeSpec := { name := "fnExactUnwindRoll", fn := fun _ => fun
  | [d1, d2] => { results := [.lit (.bool true)], args := [d1, d2] }
  | _ => none }
def fnExactUnwindRollRow : OpenClaim := { program := "ytddimgghcmplmaa", sum := "38e0667289f3ae898e0d64a1b7e343b4fbc07d36f3eb11b2e436555f633f8db0", func := "loop.example/paperrolls/laws.FnExactUnwindRoll", spec := "fnExactUnwindRoll", apart := false }
def FnExactUnwindRollSaid : Prop := fnExactUnwindRollRow.holds Try.pinned (OpenSpec.ofChange fnExactUnwindRollSpec)

/-- ITS FALSE NEIGHBOUR: 'it returns false'. Refute it at one input. -/
def fnExactUnwindRollWrong : ChangeSpec := { name := "fnExactUnwindRoll", fn := fun _ => fun
  | [d1, d2] => { results := [.lit (.bool false)], args := [d1, d2] }
  | _ => none }
def FnExactUnwindRollWrongFalsely : Prop := fnExactUnwindRollRow.holds Try.pinned (OpenSpec.ofChange fnExactUnwindRollWrong)

/-- 'laws.FnExactTurnAt': WHATEVER THE INPUT: true; the input reads as it did. -/
def fnExactTurnAtSpec : ChangeSpec := { name := "fnExactTurnAt", fn := fun _ => fun
  | [d1, d2] => { results := [.lit (.bool true)], args := [d1, d2] }
  | _ => none }
def fnExactTurnAtRow : OpenClaim := { program := "ytddimgghcmplmaa", sum := "38e0667289f3ae898e0d64a1b7e343b4fbc07d36f3eb11b2e436555f633f8db0", func := "loop.example/paperrolls/laws.FnExactTurnAt", spec := "fnExactTurnAt", apart := false }
def FnExactTurnAtSaid : Prop := fnExactTurnAtRow.holds Try.pinned (OpenSpec.ofChange fnExactTurnAtSpec)

/-- ITS FALSE NEIGHBOUR: 'it returns false'. Refute it at one input. -/
def fnExactTurnAtWrong : ChangeSpec := { name := "fnExactTurnAt", fn := fun _ => fun
  | [d1, d2] => { results := [.lit (.bool false)], args := [d1, d2] }
  | _ => none }
def FnExactTurnAtWrongFalsely : Prop := fnExactTurnAtRow.holds Try.pinned (OpenSpec.ofChange fnExactTurnAtWrong)

/-- 'laws.FnExactRewind': WHATEVER THE INPUT: true; the input reads as it did. -/
def fnExactRewindSpec : ChangeSpec := { name := "fnExactRewind", fn := fun _ => fun
  | [d1, d2] => { results := [.lit (.bool true)], args := [d1, d2] }
  | _ => none }
def fnExactRewindRow : OpenClaim := { program := "ytddimgghcmplmaa", sum := "38e0667289f3ae898e0d64a1b7e343b4fbc07d36f3eb11b2e436555f633f8db0", func := "loop.example/paperrolls/laws.FnExactRewind", spec := "fnExactRewind", apart := false }
def FnExactRewindSaid : Prop := fnExactRewindRow.holds Try.pinned (OpenSpec.ofChange fnExactRewindSpec)

/-- ITS FALSE NEIGHBOUR: 'it returns false'. Refute it at one input. -/
def fnExactRewindWrong : ChangeSpec := { name := "fnExactRewind", fn := fun _ => fun
  | [d1, d2] => { results := [.lit (.bool false)], args := [d1, d2] }
  | _ => none }
def FnExactRewindWrongFalsely : Prop := fnExactRewindRow.holds Try.pinned (OpenSpec.ofChange fnExactRewindWrong)

/- THE SECOND FORM. 'bulk': how many values and letters a reading holds, each counted each time it is reached (what is shared counts as often as it is met; a slice's spare places count too). A statement '..UptoSaid' is the law's where the arguments, and the package variables that the reading takes, are together of bulk at most 1048576: NARROWER than '..Said'. Prove '..Said' where nothing that the law and all that it calls make is longer than what came in: it says more and counts as full. Else prove '..UptoSaid'. A law counts once. -/
mutual
def uptoBulk {H : Type} : DataW H → Nat
  | .lit (.string bytes) => bytes.length + 1
  | .lit _ => 1
  | .nil => 1
  | .ptr d => uptoBulk d + 1
  | .slice elems spare => uptoBulkAll elems + uptoBulkAll spare + 1
  | .agg parts => uptoBulkAll parts + 1
  | .iface _ d => uptoBulk d + 1
  | .map entries => uptoBulkEntries entries + 1
  | .held _ => 1
def uptoBulkAll {H : Type} : List (DataW H) → Nat
  | [] => 0
  | d :: r => uptoBulk d + uptoBulkAll r
def uptoBulkEntries {H : Type} : List (Lit × DataW H) → Nat
  | [] => 0
  | x :: r => uptoBulkEntry x + uptoBulkEntries r
def uptoBulkEntry {H : Type} : Lit × DataW H → Nat
  | (.string bytes, d) => bytes.length + uptoBulk d + 1
  | (_, d) => uptoBulk d + 1
 end
def uptoSmall : (H : Type) → List (DataW H) → Bool := fun _ ds => decide (uptoBulkAll ds ≤ 1048576)
def OpenSpec.upto (s : _root_.Go.ChangeSpec) : _root_.Go.OpenSpec := { _root_.Go.OpenSpec.ofChange s with cond := some uptoSmall }

/-- 'laws.FnExactConstants', WHERE WHAT IT READS IS OF BULK AT MOST 1048576: true; the input reads as it did. -/
def fnExactConstantsUptoRow : OpenClaim := { program := "ytddimgghcmplmaa", sum := "38e0667289f3ae898e0d64a1b7e343b4fbc07d36f3eb11b2e436555f633f8db0", func := "loop.example/paperrolls/laws.FnExactConstants", spec := "fnExactConstants", apart := false, narrowed := true }
def FnExactConstantsUptoSaid : Prop := fnExactConstantsUptoRow.holds Try.pinned (OpenSpec.upto fnExactConstantsSpec)

/-- 'laws.FnExactValidRoll', WHERE WHAT IT READS IS OF BULK AT MOST 1048576: true; the input reads as it did. -/
def fnExactValidRollUptoRow : OpenClaim := { program := "ytddimgghcmplmaa", sum := "38e0667289f3ae898e0d64a1b7e343b4fbc07d36f3eb11b2e436555f633f8db0", func := "loop.example/paperrolls/laws.FnExactValidRoll", spec := "fnExactValidRoll", apart := false, narrowed := true }
def FnExactValidRollUptoSaid : Prop := fnExactValidRollUptoRow.holds Try.pinned (OpenSpec.upto fnExactValidRollSpec)

/-- 'laws.FnExactDiameterOf', WHERE WHAT IT READS IS OF BULK AT MOST 1048576: true; the input reads as it did. -/
def fnExactDiameterOfUptoRow : OpenClaim := { program := "ytddimgghcmplmaa", sum := "38e0667289f3ae898e0d64a1b7e343b4fbc07d36f3eb11b2e436555f633f8db0", func := "loop.example/paperrolls/laws.FnExactDiameterOf", spec := "fnExactDiameterOf", apart := false, narrowed := true }
def FnExactDiameterOfUptoSaid : Prop := fnExactDiameterOfUptoRow.holds Try.pinned (OpenSpec.upto fnExactDiameterOfSpec)

/-- 'laws.FnExactTurnsUnder', WHERE WHAT IT READS IS OF BULK AT MOST 1048576: true; the input reads as it did. -/
def fnExactTurnsUnderUptoRow : OpenClaim := { program := "ytddimgghcmplmaa", sum := "38e0667289f3ae898e0d64a1b7e343b4fbc07d36f3eb11b2e436555f633f8db0", func := "loop.example/paperrolls/laws.FnExactTurnsUnder", spec := "fnExactTurnsUnder", apart := false, narrowed := true }
def FnExactTurnsUnderUptoSaid : Prop := fnExactTurnsUnderUptoRow.holds Try.pinned (OpenSpec.upto fnExactTurnsUnderSpec)

/-- 'laws.FnExactTurnLength', WHERE WHAT IT READS IS OF BULK AT MOST 1048576: true; the input reads as it did. -/
def fnExactTurnLengthUptoRow : OpenClaim := { program := "ytddimgghcmplmaa", sum := "38e0667289f3ae898e0d64a1b7e343b4fbc07d36f3eb11b2e436555f633f8db0", func := "loop.example/paperrolls/laws.FnExactTurnLength", spec := "fnExactTurnLength", apart := false, narrowed := true }
def FnExactTurnLengthUptoSaid : Prop := fnExactTurnLengthUptoRow.holds Try.pinned (OpenSpec.upto fnExactTurnLengthSpec)

/-- 'laws.FnExactWindRoll', WHERE WHAT IT READS IS OF BULK AT MOST 1048576: true; the input reads as it did. -/
def fnExactWindRollUptoRow : OpenClaim := { program := "ytddimgghcmplmaa", sum := "38e0667289f3ae898e0d64a1b7e343b4fbc07d36f3eb11b2e436555f633f8db0", func := "loop.example/paperrolls/laws.FnExactWindRoll", spec := "fnExactWindRoll", apart := false, narrowed := true }
def FnExactWindRollUptoSaid : Prop := fnExactWindRollUptoRow.holds Try.pinned (OpenSpec.upto fnExactWindRollSpec)

/-- 'laws.FnExactLengthOf', WHERE WHAT IT READS IS OF BULK AT MOST 1048576: true; the input reads as it did. -/
def fnExactLengthOfUptoRow : OpenClaim := { program := "ytddimgghcmplmaa", sum := "38e0667289f3ae898e0d64a1b7e343b4fbc07d36f3eb11b2e436555f633f8db0", func := "loop.example/paperrolls/laws.FnExactLengthOf", spec := "fnExactLengthOf", apart := false, narrowed := true }
def FnExactLengthOfUptoSaid : Prop := fnExactLengthOfUptoRow.holds Try.pinned (OpenSpec.upto fnExactLengthOfSpec)

/-- 'laws.FnExactTurnsFor', WHERE WHAT IT READS IS OF BULK AT MOST 1048576: true; the input reads as it did. -/
def fnExactTurnsForUptoRow : OpenClaim := { program := "ytddimgghcmplmaa", sum := "38e0667289f3ae898e0d64a1b7e343b4fbc07d36f3eb11b2e436555f633f8db0", func := "loop.example/paperrolls/laws.FnExactTurnsFor", spec := "fnExactTurnsFor", apart := false, narrowed := true }
def FnExactTurnsForUptoSaid : Prop := fnExactTurnsForUptoRow.holds Try.pinned (OpenSpec.upto fnExactTurnsForSpec)

/-- 'laws.FnExactUnwindRoll', WHERE WHAT IT READS IS OF BULK AT MOST 1048576: true; the input reads as it did. -/
def fnExactUnwindRollUptoRow : OpenClaim := { program := "ytddimgghcmplmaa", sum := "38e0667289f3ae898e0d64a1b7e343b4fbc07d36f3eb11b2e436555f633f8db0", func := "loop.example/paperrolls/laws.FnExactUnwindRoll", spec := "fnExactUnwindRoll", apart := false, narrowed := true }
def FnExactUnwindRollUptoSaid : Prop := fnExactUnwindRollUptoRow.holds Try.pinned (OpenSpec.upto fnExactUnwindRollSpec)

/-- 'laws.FnExactTurnAt', WHERE WHAT IT READS IS OF BULK AT MOST 1048576: true; the input reads as it did. -/
def fnExactTurnAtUptoRow : OpenClaim := { program := "ytddimgghcmplmaa", sum := "38e0667289f3ae898e0d64a1b7e343b4fbc07d36f3eb11b2e436555f633f8db0", func := "loop.example/paperrolls/laws.FnExactTurnAt", spec := "fnExactTurnAt", apart := false, narrowed := true }
def FnExactTurnAtUptoSaid : Prop := fnExactTurnAtUptoRow.holds Try.pinned (OpenSpec.upto fnExactTurnAtSpec)

/-- 'laws.FnExactRewind', WHERE WHAT IT READS IS OF BULK AT MOST 1048576: true; the input reads as it did. -/
def fnExactRewindUptoRow : OpenClaim := { program := "ytddimgghcmplmaa", sum := "38e0667289f3ae898e0d64a1b7e343b4fbc07d36f3eb11b2e436555f633f8db0", func := "loop.example/paperrolls/laws.FnExactRewind", spec := "fnExactRewind", apart := false, narrowed := true }
def FnExactRewindUptoSaid : Prop := fnExactRewindUptoRow.holds Try.pinned (OpenSpec.upto fnExactRewindSpec)

end Rows
end Go.Proofs.Ytddimgghcmplmaa
