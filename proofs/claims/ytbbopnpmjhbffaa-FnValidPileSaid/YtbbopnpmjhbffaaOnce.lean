/- Closed facts of this translation that every row of it asks for, proved once. -/
import Derived.Test.YtbbopnpmjhbffaaRows
import Derived.ProofKit
namespace Go.Proofs.Ytbbopnpmjhbffaa
theorem once_heard : Try.checked.prog.stopsHeard = true := by kernel_rfl
theorem once_enter : Try.checked.prog.mayEnter = true := by kernel_rfl
theorem once_lift : Try.checked.prog.liftsFinal = false := by kernel_rfl
theorem once_make : Try.checked.prog.make = some .cut := by kernel_rfl
theorem once_own : ownKnob Try.prog.godebug = none := by kernel_rfl
theorem once_laid : laidOutB Try.prog = true := by kernel_rfl
theorem once_maps : mapsRowed Try.checked.prog = true := by kernel_rfl
end Go.Proofs.Ytbbopnpmjhbffaa
