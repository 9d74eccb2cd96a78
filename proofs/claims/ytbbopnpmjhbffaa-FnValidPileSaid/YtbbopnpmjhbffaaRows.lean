/-
  No cell of these rows narrows 'for every input' (looked for: loops, veiled, ifaces, maps, wideKeys, modest, calm, conditions, laid).
  DERIVED. THE GIVEN ROWS OF THIS SEAT. 4 by the template 'for every input the law returns true; each argument reads behind the call as it read before'; 0 by the template 'total and deterministic' (their statements: YtbbopnpmjhbffaaTotals.lean).
  GIVEN WITH THE SEED: the statements are not yours to turn. If you find one false, say at which input.
  Laid BY PROGRAM, IN A SANDBOX (cutbox-rows.mjs): the forced cells as the released guide's own fill.sh prints them over the translation d3c772124b623103… (all of the seat's roots in one cut). By AI agents, Wed Nov 11 2026. No macro, syntax, notation, axiom, sorry.
-/
import Derived.Test.YtbbopnpmjhbffaaChecked
import GoSem.Claim
import GoSem.ClaimJoined
import GoSem.ClaimMapViews
import Derived.JoinedTies
import Derived.KernelRfl
namespace Go.Proofs.Ytbbopnpmjhbffaa
/- THE CELL 'sum', in the pinned program and in every row, IS THE sha256 OF THE DUMP (.gsa) THAT YtbbopnpmjhbffaaProg.lean LOADS. Nothing in Lean hashes anything: it is a label: what it is worth is what the hold of that sum in a sandbox is worth. -/
noncomputable def Try.pinned : Pinned := { name := "ytbbopnpmjhbffaa", sum := "d3c772124b6231032d58f818c331f7ce5b89d84f6bbfafc8a0db73644b45a0d7", checked := Try.checked }
namespace Rows
def none {H : Type} : Left H := { results := [], args := [] }

/-- 'laws.FnValidReel': WHATEVER THE INPUT: true; the input reads as it did. -/
def fnValidReelSpec : ChangeSpec := { name := "fnValidReel", fn := fun _ => fun
  | [d] => { results := [.lit (.bool true)], args := [d] }
  | _ => none }
def fnValidReelRow : OpenClaim := { program := "ytbbopnpmjhbffaa", sum := "d3c772124b6231032d58f818c331f7ce5b89d84f6bbfafc8a0db73644b45a0d7", func := "loop.example/paperrolls/laws.FnValidReel", spec := "fnValidReel", apart := false }
def FnValidReelSaid : Prop := fnValidReelRow.holds Try.pinned (OpenSpec.ofChange fnValidReelSpec)

/-- ITS FALSE NEIGHBOUR: 'it returns false'. Refute it at one input. -/
def fnValidReelWrong : ChangeSpec := { name := "fnValidReel", fn := fun _ => fun
  | [d] => { results := [.lit (.bool false)], args := [d] }
  | _ => none }
def FnValidReelWrongFalsely : Prop := fnValidReelRow.holds Try.pinned (OpenSpec.ofChange fnValidReelWrong)

/-- 'laws.FnValidPart': WHATEVER THE INPUT: true; the input reads as it did. -/
def fnValidPartSpec : ChangeSpec := { name := "fnValidPart", fn := fun _ => fun
  | [d] => { results := [.lit (.bool true)], args := [d] }
  | _ => none }
def fnValidPartRow : OpenClaim := { program := "ytbbopnpmjhbffaa", sum := "d3c772124b6231032d58f818c331f7ce5b89d84f6bbfafc8a0db73644b45a0d7", func := "loop.example/paperrolls/laws.FnValidPart", spec := "fnValidPart", apart := false }
def FnValidPartSaid : Prop := fnValidPartRow.holds Try.pinned (OpenSpec.ofChange fnValidPartSpec)

/-- ITS FALSE NEIGHBOUR: 'it returns false'. Refute it at one input. -/
def fnValidPartWrong : ChangeSpec := { name := "fnValidPart", fn := fun _ => fun
  | [d] => { results := [.lit (.bool false)], args := [d] }
  | _ => none }
def FnValidPartWrongFalsely : Prop := fnValidPartRow.holds Try.pinned (OpenSpec.ofChange fnValidPartWrong)

/-- 'laws.FnWorstOf': WHATEVER THE INPUT: true; the input reads as it did. -/
def fnWorstOfSpec : ChangeSpec := { name := "fnWorstOf", fn := fun _ => fun
  | [d] => { results := [.lit (.bool true)], args := [d] }
  | _ => none }
def fnWorstOfRow : OpenClaim := { program := "ytbbopnpmjhbffaa", sum := "d3c772124b6231032d58f818c331f7ce5b89d84f6bbfafc8a0db73644b45a0d7", func := "loop.example/paperrolls/laws.FnWorstOf", spec := "fnWorstOf", apart := false }
def FnWorstOfSaid : Prop := fnWorstOfRow.holds Try.pinned (OpenSpec.ofChange fnWorstOfSpec)

/-- ITS FALSE NEIGHBOUR: 'it returns false'. Refute it at one input. -/
def fnWorstOfWrong : ChangeSpec := { name := "fnWorstOf", fn := fun _ => fun
  | [d] => { results := [.lit (.bool false)], args := [d] }
  | _ => none }
def FnWorstOfWrongFalsely : Prop := fnWorstOfRow.holds Try.pinned (OpenSpec.ofChange fnWorstOfWrong)

/-- 'laws.FnValidPile': WHATEVER THE INPUT: true; the input reads as it did. -/
def fnValidPileSpec : ChangeSpec := { name := "fnValidPile", fn := fun _ => fun
  | [d] => { results := [.lit (.bool true)], args := [d] }
  | _ => none }
def fnValidPileRow : OpenClaim := { program := "ytbbopnpmjhbffaa", sum := "d3c772124b6231032d58f818c331f7ce5b89d84f6bbfafc8a0db73644b45a0d7", func := "loop.example/paperrolls/laws.FnValidPile", spec := "fnValidPile", apart := false }
def FnValidPileSaid : Prop := fnValidPileRow.holds Try.pinned (OpenSpec.ofChange fnValidPileSpec)

/-- ITS FALSE NEIGHBOUR: 'it returns false'. Refute it at one input. -/
def fnValidPileWrong : ChangeSpec := { name := "fnValidPile", fn := fun _ => fun
  | [d] => { results := [.lit (.bool false)], args := [d] }
  | _ => none }
def FnValidPileWrongFalsely : Prop := fnValidPileRow.holds Try.pinned (OpenSpec.ofChange fnValidPileWrong)

/- THE SECOND FORM. 'bulk': how many values and letters a reading holds, each counted each time it is reached (what is shared counts as often as it is met; a slice's spare places count too). A statement '..UptoSaid' is the law's where the arguments, and the package variables that the reading takes, are together of bulk at most 1048576: NARROWER than '..Said'. Prove '..Said' where nothing that the law and all that it calls make is longer than what came in: it says more and counts as full. Else prove '..UptoSaid'. A law counts once. -/
mutual
def uptoBulk {H : Type} : DataW H → Nat
  | .lit (.string bytes) => bytes.length + 1
  | .lit _ => 1
  | .nil => 1
  | .ptr d => uptoBulk d + 1
  | .slice elems spare => uptoBulkAll elems + uptoBulkAll spare + 1
  | .agg parts => uptoBulkAll parts + 1
  | .iface _ d => uptoBulk d + 1
  | .map entries => uptoBulkEntries entries + 1
  | .held _ => 1
def uptoBulkAll {H : Type} : List (DataW H) → Nat
  | [] => 0
  | d :: r => uptoBulk d + uptoBulkAll r
def uptoBulkEntries {H : Type} : List (Lit × DataW H) → Nat
  | [] => 0
  | x :: r => uptoBulkEntry x + uptoBulkEntries r
def uptoBulkEntry {H : Type} : Lit × DataW H → Nat
  | (.string bytes, d) => bytes.length + uptoBulk d + 1
  | (_, d) => uptoBulk d + 1
 end
def uptoSmall : (H : Type) → List (DataW H) → Bool := fun _ ds => decide (uptoBulkAll ds ≤ 1048576)
def OpenSpec.upto (s : _root_.Go.ChangeSpec) : _root_.Go.OpenSpec := { _root_.Go.OpenSpec.ofChange s with cond := some uptoSmall }

/-- 'laws.FnValidReel', WHERE WHAT IT READS IS OF BULK AT MOST 1048576: true; the input reads as it did. -/
def fnValidReelUptoRow : OpenClaim := { program := "ytbbopnpmjhbffaa", sum := "d3c772124b6231032d58f818c331f7ce5b89d84f6bbfafc8a0db73644b45a0d7", func := "loop.example/paperrolls/laws.FnValidReel", spec := "fnValidReel", apart := false, narrowed := true }
def FnValidReelUptoSaid : Prop := fnValidReelUptoRow.holds Try.pinned (OpenSpec.upto fnValidReelSpec)

/-- 'laws.FnValidPart', WHERE WHAT IT READS IS OF BULK AT MOST 1048576: true; the input reads as it did. -/
def fnValidPartUptoRow : OpenClaim := { program := "ytbbopnpmjhbffaa", sum := "d3c772124b6231032d58f818c331f7ce5b89d84f6bbfafc8a0db73644b45a0d7", func := "loop.example/paperrolls/laws.FnValidPart", spec := "fnValidPart", apart := false, narrowed := true }
def FnValidPartUptoSaid : Prop := fnValidPartUptoRow.holds Try.pinned (OpenSpec.upto fnValidPartSpec)

/-- 'laws.FnWorstOf', WHERE WHAT IT READS IS OF BULK AT MOST 1048576: true; the input reads as it did. -/
def fnWorstOfUptoRow : OpenClaim := { program := "ytbbopnpmjhbffaa", sum := "d3c772124b6231032d58f818c331f7ce5b89d84f6bbfafc8a0db73644b45a0d7", func := "loop.example/paperrolls/laws.FnWorstOf", spec := "fnWorstOf", apart := false, narrowed := true }
def FnWorstOfUptoSaid : Prop := fnWorstOfUptoRow.holds Try.pinned (OpenSpec.upto fnWorstOfSpec)

/-- 'laws.FnValidPile', WHERE WHAT IT READS IS OF BULK AT MOST 1048576: true; the input reads as it did. -/
def fnValidPileUptoRow : OpenClaim := { program := "ytbbopnpmjhbffaa", sum := "d3c772124b6231032d58f818c331f7ce5b89d84f6bbfafc8a0db73644b45a0d7", func := "loop.example/paperrolls/laws.FnValidPile", spec := "fnValidPile", apart := false, narrowed := true }
def FnValidPileUptoSaid : Prop := fnValidPileUptoRow.holds Try.pinned (OpenSpec.upto fnValidPileSpec)

end Rows
end Go.Proofs.Ytbbopnpmjhbffaa
