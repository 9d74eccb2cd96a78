/- The statement Rows.FnExactValidPartSaid is proved here: for every input laws.FnExactValidPart returns true, and each argument reads afterwards as before. No further condition. -/
import Derived.Test.YthoamjkakfghbaaOnce
import Derived.Test.YthoamjkakfghbaaFrame
import Derived.Test.YthoamjkakfghbaaOpen
import Derived.Test.YthoamjkakfghbaaLaw9
import Derived.ProofKit
import Derived.OpenShut
import Derived.ShutString
import Derived.ChangeOld
import Derived.Below
import Derived.Carry
import Derived.Lib.SmallJoins
namespace Go.Proofs.Ythoamjkakfghbaa.fnExactValidPart
open Go.ChangeShapes Go.WideShapes Go.ChangeAt Go.RowKit Go.Joins
set_option linter.unusedVariables false

theorem own : ownKnob Try.prog.godebug = none := once_own
theorem laidOut : laidOutB Try.prog = true := once_laid

set_option maxRecDepth 100000 in
theorem lifted (os : Os) (started : os.Started) (H : Type) (enc : TypeId × Value → H) :
    ReturnsInHanded {} Try.checked os 7 .any (Rows.fnExactValidPartSpec.pre6 enc Try.prog Try.f7 Rows.fnExactValidPartRow.domain false) (Rows.fnExactValidPartSpec.post enc Try.prog Try.f7 false true false false) := by
  refine returnsInHanded_of_change (C := Try.checked) own started (by kernel_rfl) Try.func7
    (ChangeSpec.witness6 (enc := enc) (C := Try.checked) false ⟨#[], #[.agg #[.int .i64 0, .int .i64 0, .slice none 0 0], .agg #[.int .i64 0, .int .i64 0, .int .i64 0, .int .i64 0]], []⟩ 8 (by kernel_rfl) (by kernel_rfl) (by kernel_rfl) (by kernel_rfl)) ?_
  intro W base args ds gs before hval0 hW hcnd _
  have hval : ∀ (j : Nat) t v, Try.f7.params[j]? = some t → args[j]? = some v → Value.okWide Try.prog W .any base t v := hval0
  have hW' := hW
  obtain ⟨p, q, hA0, hV, rfl, hfz, hnd⟩ := hW
  have hA : DataW.TrodAll enc Try.prog W 0 (fun _ => true) true Try.f7.params.toList args.toList ds p := hA0
  rw [Try.params7] at hA hval
  obtain ⟨v0, vs0, d0, ds0, p0, q0, hargs, rfl, rfl, h0, r0⟩ := trodAll_cons hA
  obtain ⟨v1, vs1, d1, ds1, p1, q1, rfl, rfl, rfl, h1, r1⟩ := trodAll_cons r0
  obtain ⟨rfl, rfl, rfl⟩ := trodAll_nil r1
  obtain rfl : args = #[v0, v1] := by cases args; simp_all
  obtain ⟨rfl, rfl⟩ := trodVars_none hV
  obtain ⟨c00, c01, c02, y00, y01, y02, n0, hv0, hd0, hp0, t00, t01, t02⟩ := open_agg3 Try.underlying30 (by kernel_rfl) (by kernel_rfl) (hval 0 30 v0 rfl rfl) h0
  obtain ⟨a00, e00, z00, w00⟩ := DataW.trod_int Try.underlying3 t00
  simp only [List.cons.injEq, and_true] at e00
  obtain ⟨a01, e01, z01, w01⟩ := DataW.trod_int Try.underlying3 t01
  simp only [List.cons.injEq, and_true] at e01
  subst e00 e01
  obtain ⟨s0, len0, cap0, dl0, e02, w02⟩ := defects_of_trod Try.underlying28 Try.underlying80 ⟨rfl, rfl, rfl, rfl, rfl⟩ ⟨rfl, rfl, rfl, rfl, rfl⟩ Try.underlying3 (by kernel_rfl) (by kernel_rfl) t02
  subst e02
  subst hv0
  obtain ⟨c10, c11, c12, c13, y10, y11, y12, y13, n1, hv1, hd1, hp1, t10, t11, t12, t13⟩ := open_agg4 Try.underlying40 (by kernel_rfl) (by kernel_rfl) (hval 1 40 v1 rfl rfl) h1
  obtain ⟨a10, e10, z10, w10⟩ := DataW.trod_int Try.underlying3 t10
  simp only [List.cons.injEq, and_true] at e10
  obtain ⟨a11, e11, z11, w11⟩ := DataW.trod_int Try.underlying3 t11
  simp only [List.cons.injEq, and_true] at e11
  obtain ⟨a12, e12, z12, w12⟩ := DataW.trod_int Try.underlying3 t12
  simp only [List.cons.injEq, and_true] at e12
  obtain ⟨a13, e13, z13, w13⟩ := DataW.trod_int Try.underlying3 t13
  simp only [List.cons.injEq, and_true] at e13
  subst e10 e11 e12 e13
  subst hv1
  clear hA0 hval0
  refine (lawValidPart a00 a01 s0 len0 cap0 dl0 a10 a11 a12 a13 W w00 w01 w02 w10 w11 w12 w13).mono fun e W' ⟨he, bel⟩ => ?_
  subst he
  exact ⟨_, rfl, post_true laidOut Try.underlying4 (by kernel_rfl) rfl (by kernel_rfl) hW' rfl bel⟩

theorem closed : joinedFacts Try.checked.prog 7 Try.f7 Rows.fnExactValidPartSpec Rows.fnExactValidPartRow = true := by
  unfold joinedFacts
  rw [once_heard, once_enter, once_lift, once_make]
  kernel_rfl

theorem over : Rows.fnExactValidPartRow.holds Try.pinned (OpenSpec.ofChange Rows.fnExactValidPartSpec) :=
  OpenClaim.holds_of_wide 7 Try.f7 rfl rfl rfl rfl rfl rfl rfl ⟨rfl, rfl, rfl, rfl, rfl⟩ rfl rfl rfl rfl rfl (by kernel_rfl) Try.func7 closed
    (of_decide_eq_true (by kernel_rfl)) (by unfold Func.isWrapper; first | (rw [if_pos (by decide +kernel)]; kernel_rfl) | (rw [if_neg (by decide +kernel)]; exact ⟨rfl, rfl⟩))
    (fun os started H enc _ => lifted os started H enc)

theorem proved : Rows.FnExactValidPartSaid := over
end Go.Proofs.Ythoamjkakfghbaa.fnExactValidPart
