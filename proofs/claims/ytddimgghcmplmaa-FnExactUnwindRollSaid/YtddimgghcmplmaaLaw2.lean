/- The law that UnwindRoll answers as the reference. -/
import Derived.Test.YtddimgghcmplmaaLaw1
import Derived.Test.YtddimgghcmplmaaRoll5
namespace Go.Proofs.Ytddimgghcmplmaa
open Go.RowKit Pl
set_option linter.unusedVariables false
set_option maxRecDepth 100000
theorem lawUnwindRoll (c t n a : Int) (w : World) (w0 : (Lit.int .i64 c).wf = true) (w1 : (Lit.int .i64 t).wf = true) (w2 : (Lit.int .i64 n).wf = true) (w3 : (Lit.int .i64 a).wf = true) :
    Calls Try.prog 11 #[roll c t n, .int .i64 a] w fun e w' => e = .returned (.bool true) ∧ Below w.heap.size w w' := by
  clear w0 w1 w2 w3
  by_cases g : vr c t n = true ∧ 0 ≤ a ∧ a ≤ n
  · obtain ⟨hv, g1, g2⟩ := g
    have Hv := hide hv; clear hv
    go_enter Try.func11, Try.ntmps11
    go_wp2_with fail
    refine (toRoll_any c t n _).mono ?_; rintro e w1 ⟨rfl, hb1⟩
    go_wp2_with fail
    refine (specUnwind_yes _ _ _ _ Hv.out g1 g2 _).mono ?_; rintro e w2 ⟨rfl, hb2⟩
    have H2 := below_then hb1 hb2
    have B2 : Below w.heap.size w w2 := below_next (by go_grown) (by go_size) H2
    have s2 := B2.size
    have z2 : w.heap.size < w2.heap.size := by have := H2.size; simp at this; omega
    obtain ⟨c2, f2⟩ := bcell H2
    go_wp2_with fail
    refine (toRoll_any c t n _).mono ?_; rintro e w3 ⟨rfl, hb3⟩
    clear c2 f2
    go_wp2_with fail
    refine (implUnwind_yes _ _ _ _ Hv.out g1 g2 _).mono ?_; rintro e w4 ⟨rfl, hb4⟩
    have H4 := below_then hb3 hb4
    have B4 : Below w.heap.size w w4 := below_next (by go_grown) (by go_size) H4
    have s4 := B4.size
    have z4 : w2.heap.size < w4.heap.size := by have := H4.size; simp at this; omega
    obtain ⟨c4, f4⟩ := bcell H4
    go_wp2_with fail
    refine (eqRoll_same _ _ _ _).mono ?_; rintro e w5 ⟨rfl, hb5⟩
    have B5 : Below w.heap.size w w5 := below_next (by go_grown) (by go_size) hb5
    clear c4 f4
    go_wp2_with fail
    go_ret
    exact ⟨rfl, B5⟩
  · have Hn : Hid (vr c t n = false ∨ ¬ (0 ≤ a ∧ a ≤ n)) := by
      cases hv : vr c t n
      · exact .inl rfl
      · exact .inr fun h => g ⟨hv, h⟩
    clear g
    go_enter Try.func11, Try.ntmps11
    go_wp2_with fail
    refine (toRoll_any c t n _).mono ?_; rintro e w1 ⟨rfl, hb1⟩
    go_wp2_with fail
    refine (specUnwind_no _ _ _ _ Hn.out _).mono ?_; rintro e w2 ⟨rfl, hb2⟩
    have H2 := below_then hb1 hb2
    have B2 : Below w.heap.size w w2 := below_next (by go_grown) (by go_size) H2
    have s2 := B2.size
    have z2 : w.heap.size < w2.heap.size := by have := H2.size; simp at this; omega
    obtain ⟨c2, f2⟩ := bcell H2
    go_wp2_with fail
    refine (toRoll_any c t n _).mono ?_; rintro e w3 ⟨rfl, hb3⟩
    clear c2 f2
    go_wp2_with fail
    refine (implUnwind_no _ _ _ _ Hn.out _).mono ?_; rintro e w4 ⟨rfl, hb4⟩
    have H4 := below_then hb3 hb4
    have B4 : Below w.heap.size w w4 := below_next (by go_grown) (by go_size) H4
    have s4 := B4.size
    have z4 : w2.heap.size < w4.heap.size := by have := H4.size; simp at this; omega
    obtain ⟨c4, f4⟩ := bcell H4
    go_wp2_with fail
    refine (eqRoll_same _ _ _ _).mono ?_; rintro e w5 ⟨rfl, hb5⟩
    have B5 : Below w.heap.size w w5 := below_next (by go_grown) (by go_size) hb5
    clear c4 f4
    go_wp2_with fail
    go_ret
    exact ⟨rfl, B5⟩
end Go.Proofs.Ytddimgghcmplmaa
