/- The statement Rows.FnValidPileSaid is proved here: for every input laws.FnValidPile returns true, and each argument reads afterwards as before. No further condition. -/
import Derived.Test.YtbbopnpmjhbffaaOnce
import Derived.Test.YtbbopnpmjhbffaaFrame
import Derived.Test.YtbbopnpmjhbffaaOpen
import Derived.Test.YtbbopnpmjhbffaaPid4
import Derived.ProofKit
import Derived.OpenShut
import Derived.ShutString
import Derived.ChangeOld
import Derived.Below
import Derived.Carry
import Derived.Lib.SmallJoins
namespace Go.Proofs.Ytbbopnpmjhbffaa.fnValidPile
open Go.ChangeShapes Go.WideShapes Go.ChangeAt Go.RowKit Go.Joins
set_option linter.unusedVariables false

theorem own : ownKnob Try.prog.godebug = none := once_own
theorem laidOut : laidOutB Try.prog = true := once_laid

set_option maxRecDepth 100000 in
theorem lifted (os : Os) (started : os.Started) (H : Type) (enc : TypeId × Value → H) :
    ReturnsInHanded {} Try.checked os 6 .any (Rows.fnValidPileSpec.pre6 enc Try.prog Try.f6 Rows.fnValidPileRow.domain false) (Rows.fnValidPileSpec.post enc Try.prog Try.f6 false true false false) := by
  refine returnsInHanded_of_change (C := Try.checked) own started (by kernel_rfl) Try.func6
    (ChangeSpec.witness6 (enc := enc) (C := Try.checked) false ⟨#[], #[.slice none 0 0], []⟩ 8 (by kernel_rfl) (by kernel_rfl) (by kernel_rfl) (by kernel_rfl)) ?_
  intro W base args ds gs before hval0 hW hcnd _
  have hval : ∀ (j : Nat) t v, Try.f6.params[j]? = some t → args[j]? = some v → Value.okWide Try.prog W .any base t v := hval0
  have hW' := hW
  obtain ⟨p, q, hA0, hV, rfl, hfz, hnd⟩ := hW
  have hA : DataW.TrodAll enc Try.prog W 0 (fun _ => true) true Try.f6.params.toList args.toList ds p := hA0
  rw [Try.params6] at hA hval
  obtain ⟨v0, vs0, d0, ds0, p0, q0, hargs, rfl, rfl, h0, r0⟩ := trodAll_cons hA
  obtain ⟨rfl, rfl, rfl⟩ := trodAll_nil r0
  obtain rfl : args = #[v0] := by cases args; simp_all
  obtain ⟨rfl, rfl⟩ := trodVars_none hV
  obtain ⟨A0, len0, cap0, rfl⟩ := okWide_slice Try.underlying22 (hval 0 22 v0 rfl rfl)
  obtain ⟨xs0, I0, w0⟩ := bytes_of_trod Try.underlying22 Try.underlying5 (by kernel_rfl) h0
  clear hA0 hval0
  refine (lawFnValidPile A0 len0 cap0 xs0 W I0 w0).mono fun e W' ⟨he, bel⟩ => ?_
  subst he
  exact ⟨_, rfl, post_true laidOut Try.underlying4 (by kernel_rfl) rfl (by kernel_rfl) hW' rfl bel⟩

theorem closed : joinedFacts Try.checked.prog 6 Try.f6 Rows.fnValidPileSpec Rows.fnValidPileRow = true := by
  unfold joinedFacts
  rw [once_heard, once_enter, once_lift, once_make]
  kernel_rfl

theorem over : Rows.fnValidPileRow.holds Try.pinned (OpenSpec.ofChange Rows.fnValidPileSpec) :=
  OpenClaim.holds_of_wide 6 Try.f6 rfl rfl rfl rfl rfl rfl rfl ⟨rfl, rfl, rfl, rfl, rfl⟩ rfl rfl rfl rfl rfl (by kernel_rfl) Try.func6 closed
    (of_decide_eq_true (by kernel_rfl)) (by unfold Func.isWrapper; first | (rw [if_pos (by decide +kernel)]; kernel_rfl) | (rw [if_neg (by decide +kernel)]; exact ⟨rfl, rfl⟩))
    (fun os started H enc _ => lifted os started H enc)

theorem proved : Rows.FnValidPileSaid := over
end Go.Proofs.Ytbbopnpmjhbffaa.fnValidPile
