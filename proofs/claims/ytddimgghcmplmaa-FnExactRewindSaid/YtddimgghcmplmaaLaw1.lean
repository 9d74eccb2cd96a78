/- The laws of chapter 1 that say: the program answers as the reference. -/
import Derived.Test.YtddimgghcmplmaaRoll4
namespace Go.Proofs.Ytddimgghcmplmaa
open Go.RowKit Pl
set_option linter.unusedVariables false
set_option maxRecDepth 100000

theorem i64_hi {x : Int} (h : (Lit.int .i64 x).wf = true) : x ≤ 9223372036854775807 := by
  simp [Lit.wf, IntKind.min, IntKind.max, IntKind.signed, IntKind.bits] at h; omega
theorem i64_lo {x : Int} (h : (Lit.int .i64 x).wf = true) : -9223372036854775808 ≤ x := by
  simp [Lit.wf, IntKind.min, IntKind.max, IntKind.signed, IntKind.bits] at h; omega

theorem lawConstants (w : World) : Calls Try.prog 3 #[] w fun e w' => e = .returned (.bool true) ∧ Below w.heap.size w w' := by
  go_enter Try.func3, Try.ntmps3
  go_wp2
  go_ret
  exact ⟨rfl, by go_grown⟩
theorem lawValidRoll (c t n : Int) (w : World) (w0 : (Lit.int .i64 c).wf = true) (w1 : (Lit.int .i64 t).wf = true) (w2 : (Lit.int .i64 n).wf = true) :
    Calls Try.prog 4 #[roll c t n] w fun e w' => e = .returned (.bool true) ∧ Below w.heap.size w w' := by
  clear w0 w1 w2
  go_enter Try.func4, Try.ntmps4
  go_wp2_with (first | (go_at_call 15; refine (toRoll_any _ _ _ _).mono ?_; rintro e w' ⟨rfl, hb⟩; have HB : Below (w.alloc (.cells #[.int .i64 c, .int .i64 t, .int .i64 n] 24)).heap.size (w.alloc (.cells #[.int .i64 c, .int .i64 t, .int .i64 n] 24)) w' := (by first | exact hb | exact below_then (by assumption) hb); obtain ⟨hcel, hfro⟩ := bcell HB) | (go_at_call 14; refine (specValidRoll _ _ _ _).mono ?_; rintro e w' ⟨rfl, hb⟩; have HB : Below (w.alloc (.cells #[.int .i64 c, .int .i64 t, .int .i64 n] 24)).heap.size (w.alloc (.cells #[.int .i64 c, .int .i64 t, .int .i64 n] 24)) w' := (by first | exact hb | exact below_then (by assumption) hb); obtain ⟨hcel, hfro⟩ := bcell HB) | (go_at_call 16; refine (implValidRoll _ _ _ _).mono ?_; rintro e w' ⟨rfl, hb⟩; have HB : Below (w.alloc (.cells #[.int .i64 c, .int .i64 t, .int .i64 n] 24)).heap.size (w.alloc (.cells #[.int .i64 c, .int .i64 t, .int .i64 n] 24)) w' := (by first | exact hb | exact below_then (by assumption) hb); obtain ⟨hcel, hfro⟩ := bcell HB))
  go_ret
  exact ⟨rfl, (((Below.refl _ _).alloc (Nat.le_refl _) _).trans (HB.mono (by simp)))⟩
theorem lawDiameterOf (c t n : Int) (w : World) (w0 : (Lit.int .i64 c).wf = true) (w1 : (Lit.int .i64 t).wf = true) (w2 : (Lit.int .i64 n).wf = true) :
    Calls Try.prog 5 #[roll c t n] w fun e w' => e = .returned (.bool true) ∧ Below w.heap.size w w' := by
  clear w0 w1 w2
  go_enter Try.func5, Try.ntmps5
  go_wp2_with (first | (go_at_call 15; refine (toRoll_any _ _ _ _).mono ?_; rintro e w' ⟨rfl, hb⟩; have HB : Below (w.alloc (.cells #[.int .i64 c, .int .i64 t, .int .i64 n] 24)).heap.size (w.alloc (.cells #[.int .i64 c, .int .i64 t, .int .i64 n] 24)) w' := (by first | exact hb | exact below_then (by assumption) hb); obtain ⟨hcel, hfro⟩ := bcell HB) | (go_at_call 17; refine (specDiameterOf _ _ _ _).mono ?_; rintro e w' ⟨rfl, hb⟩; have HB : Below (w.alloc (.cells #[.int .i64 c, .int .i64 t, .int .i64 n] 24)).heap.size (w.alloc (.cells #[.int .i64 c, .int .i64 t, .int .i64 n] 24)) w' := (by first | exact hb | exact below_then (by assumption) hb); obtain ⟨hcel, hfro⟩ := bcell HB) | (go_at_call 18; refine (implDiameterOf _ _ _ _).mono ?_; rintro e w' ⟨rfl, hb⟩; have HB : Below (w.alloc (.cells #[.int .i64 c, .int .i64 t, .int .i64 n] 24)).heap.size (w.alloc (.cells #[.int .i64 c, .int .i64 t, .int .i64 n] 24)) w' := (by first | exact hb | exact below_then (by assumption) hb); obtain ⟨hcel, hfro⟩ := bcell HB))
  go_ret
  exact ⟨rfl, (((Below.refl _ _).alloc (Nat.le_refl _) _).trans (HB.mono (by simp)))⟩
theorem lawLengthOf (c t n : Int) (w : World) (w0 : (Lit.int .i64 c).wf = true) (w1 : (Lit.int .i64 t).wf = true) (w2 : (Lit.int .i64 n).wf = true) :
    Calls Try.prog 9 #[roll c t n] w fun e w' => e = .returned (.bool true) ∧ Below w.heap.size w w' := by
  clear w0 w1 w2
  go_enter Try.func9, Try.ntmps9
  go_wp2_with (first | (go_at_call 15; refine (toRoll_any _ _ _ _).mono ?_; rintro e w' ⟨rfl, hb⟩; have HB : Below (w.alloc (.cells #[.int .i64 c, .int .i64 t, .int .i64 n] 24)).heap.size (w.alloc (.cells #[.int .i64 c, .int .i64 t, .int .i64 n] 24)) w' := (by first | exact hb | exact below_then (by assumption) hb); obtain ⟨hcel, hfro⟩ := bcell HB) | (go_at_call 26; refine (specLengthOf _ _ _ _).mono ?_; rintro e w' ⟨rfl, hb⟩; have HB : Below (w.alloc (.cells #[.int .i64 c, .int .i64 t, .int .i64 n] 24)).heap.size (w.alloc (.cells #[.int .i64 c, .int .i64 t, .int .i64 n] 24)) w' := (by first | exact hb | exact below_then (by assumption) hb); obtain ⟨hcel, hfro⟩ := bcell HB) | (go_at_call 27; refine (implLengthOf _ _ _ _).mono ?_; rintro e w' ⟨rfl, hb⟩; have HB : Below (w.alloc (.cells #[.int .i64 c, .int .i64 t, .int .i64 n] 24)).heap.size (w.alloc (.cells #[.int .i64 c, .int .i64 t, .int .i64 n] 24)) w' := (by first | exact hb | exact below_then (by assumption) hb); obtain ⟨hcel, hfro⟩ := bcell HB))
  go_ret
  exact ⟨rfl, (((Below.refl _ _).alloc (Nat.le_refl _) _).trans (HB.mono (by simp)))⟩
theorem lawTurnLength (c t n a : Int) (w : World) (w0 : (Lit.int .i64 c).wf = true) (w1 : (Lit.int .i64 t).wf = true) (w2 : (Lit.int .i64 n).wf = true) (w3 : (Lit.int .i64 a).wf = true) :
    Calls Try.prog 7 #[roll c t n, .int .i64 a] w fun e w' => e = .returned (.bool true) ∧ Below w.heap.size w w' := by
  clear w0 w1 w2
  have ha := i64_hi w3
  clear w3
  go_enter Try.func7, Try.ntmps7
  go_wp2_with (first | (go_at_call 15; refine (toRoll_any _ _ _ _).mono ?_; rintro e w' ⟨rfl, hb⟩; have HB : Below (w.alloc (.cells #[.int .i64 c, .int .i64 t, .int .i64 n] 24)).heap.size (w.alloc (.cells #[.int .i64 c, .int .i64 t, .int .i64 n] 24)) w' := (by first | exact hb | exact below_then (by assumption) hb); obtain ⟨hcel, hfro⟩ := bcell HB) | (go_at_call 21; refine (specTurnLength _ _ _ _ _).mono ?_; rintro e w' ⟨rfl, hb⟩; have HB : Below (w.alloc (.cells #[.int .i64 c, .int .i64 t, .int .i64 n] 24)).heap.size (w.alloc (.cells #[.int .i64 c, .int .i64 t, .int .i64 n] 24)) w' := (by first | exact hb | exact below_then (by assumption) hb); obtain ⟨hcel, hfro⟩ := bcell HB) | (go_at_call 22; refine (implTurnLength _ _ _ _ _).mono ?_; rintro e w' ⟨rfl, hb⟩; have HB : Below (w.alloc (.cells #[.int .i64 c, .int .i64 t, .int .i64 n] 24)).heap.size (w.alloc (.cells #[.int .i64 c, .int .i64 t, .int .i64 n] 24)) w' := (by first | exact hb | exact below_then (by assumption) hb); obtain ⟨hcel, hfro⟩ := bcell HB))
  go_ret
  exact ⟨rfl, (((Below.refl _ _).alloc (Nat.le_refl _) _).trans (HB.mono (by simp)))⟩
theorem lawTurnsFor (c t n a : Int) (w : World) (w0 : (Lit.int .i64 c).wf = true) (w1 : (Lit.int .i64 t).wf = true) (w2 : (Lit.int .i64 n).wf = true) (w3 : (Lit.int .i64 a).wf = true) :
    Calls Try.prog 10 #[roll c t n, .int .i64 a] w fun e w' => e = .returned (.bool true) ∧ Below w.heap.size w w' := by
  clear w0 w1 w2
  have ha := i64_hi w3
  clear w3
  go_enter Try.func10, Try.ntmps10
  go_wp2_with (first | (go_at_call 15; refine (toRoll_any _ _ _ _).mono ?_; rintro e w' ⟨rfl, hb⟩; have HB : Below (w.alloc (.cells #[.int .i64 c, .int .i64 t, .int .i64 n] 24)).heap.size (w.alloc (.cells #[.int .i64 c, .int .i64 t, .int .i64 n] 24)) w' := (by first | exact hb | exact below_then (by assumption) hb); obtain ⟨hcel, hfro⟩ := bcell HB) | (go_at_call 28; refine (specTurnsFor _ _ _ _ ha _).mono ?_; rintro e w' ⟨rfl, hb⟩; have HB : Below (w.alloc (.cells #[.int .i64 c, .int .i64 t, .int .i64 n] 24)).heap.size (w.alloc (.cells #[.int .i64 c, .int .i64 t, .int .i64 n] 24)) w' := (by first | exact hb | exact below_then (by assumption) hb); obtain ⟨hcel, hfro⟩ := bcell HB) | (go_at_call 29; refine (implTurnsFor _ _ _ _ ha _).mono ?_; rintro e w' ⟨rfl, hb⟩; have HB : Below (w.alloc (.cells #[.int .i64 c, .int .i64 t, .int .i64 n] 24)).heap.size (w.alloc (.cells #[.int .i64 c, .int .i64 t, .int .i64 n] 24)) w' := (by first | exact hb | exact below_then (by assumption) hb); obtain ⟨hcel, hfro⟩ := bcell HB))
  go_ret
  exact ⟨rfl, (((Below.refl _ _).alloc (Nat.le_refl _) _).trans (HB.mono (by simp)))⟩
theorem lawTurnsUnder (c t n a : Int) (w : World) (w0 : (Lit.int .i64 c).wf = true) (w1 : (Lit.int .i64 t).wf = true) (w2 : (Lit.int .i64 n).wf = true) (w3 : (Lit.int .i64 a).wf = true) :
    Calls Try.prog 6 #[roll c t n, .int .i64 a] w fun e w' => e = .returned (.bool true) ∧ Below w.heap.size w w' := by
  clear w0 w1 w2
  have ha := i64_hi w3
  clear w3
  go_enter Try.func6, Try.ntmps6
  go_wp2_with (first | (go_at_call 15; refine (toRoll_any _ _ _ _).mono ?_; rintro e w' ⟨rfl, hb⟩; have HB : Below (w.alloc (.cells #[.int .i64 c, .int .i64 t, .int .i64 n] 24)).heap.size (w.alloc (.cells #[.int .i64 c, .int .i64 t, .int .i64 n] 24)) w' := (by first | exact hb | exact below_then (by assumption) hb); obtain ⟨hcel, hfro⟩ := bcell HB) | (go_at_call 19; refine (specTurnsUnder _ _ _ _ ha _).mono ?_; rintro e w' ⟨rfl, hb⟩; have HB : Below (w.alloc (.cells #[.int .i64 c, .int .i64 t, .int .i64 n] 24)).heap.size (w.alloc (.cells #[.int .i64 c, .int .i64 t, .int .i64 n] 24)) w' := (by first | exact hb | exact below_then (by assumption) hb); obtain ⟨hcel, hfro⟩ := bcell HB) | (go_at_call 20; refine (implTurnsUnder _ _ _ _ ha _).mono ?_; rintro e w' ⟨rfl, hb⟩; have HB : Below (w.alloc (.cells #[.int .i64 c, .int .i64 t, .int .i64 n] 24)).heap.size (w.alloc (.cells #[.int .i64 c, .int .i64 t, .int .i64 n] 24)) w' := (by first | exact hb | exact below_then (by assumption) hb); obtain ⟨hcel, hfro⟩ := bcell HB))
  go_ret
  exact ⟨rfl, (((Below.refl _ _).alloc (Nat.le_refl _) _).trans (HB.mono (by simp)))⟩
theorem lawTurnAt (c t n a : Int) (w : World) (w0 : (Lit.int .i64 c).wf = true) (w1 : (Lit.int .i64 t).wf = true) (w2 : (Lit.int .i64 n).wf = true) (w3 : (Lit.int .i64 a).wf = true) :
    Calls Try.prog 12 #[roll c t n, .int .i64 a] w fun e w' => e = .returned (.bool true) ∧ Below w.heap.size w w' := by
  clear w0 w1 w2
  have ha := i64_hi w3
  clear w3
  go_enter Try.func12, Try.ntmps12
  go_wp2_with (first | (go_at_call 15; refine (toRoll_any _ _ _ _).mono ?_; rintro e w' ⟨rfl, hb⟩; have HB : Below (w.alloc (.cells #[.int .i64 c, .int .i64 t, .int .i64 n] 24)).heap.size (w.alloc (.cells #[.int .i64 c, .int .i64 t, .int .i64 n] 24)) w' := (by first | exact hb | exact below_then (by assumption) hb); obtain ⟨hcel, hfro⟩ := bcell HB) | (go_at_call 32; refine (specTurnAt _ _ _ _ ha _).mono ?_; rintro e w' ⟨rfl, hb⟩; have HB : Below (w.alloc (.cells #[.int .i64 c, .int .i64 t, .int .i64 n] 24)).heap.size (w.alloc (.cells #[.int .i64 c, .int .i64 t, .int .i64 n] 24)) w' := (by first | exact hb | exact below_then (by assumption) hb); obtain ⟨hcel, hfro⟩ := bcell HB) | (go_at_call 33; refine (implTurnAt _ _ _ _ ha _).mono ?_; rintro e w' ⟨rfl, hb⟩; have HB : Below (w.alloc (.cells #[.int .i64 c, .int .i64 t, .int .i64 n] 24)).heap.size (w.alloc (.cells #[.int .i64 c, .int .i64 t, .int .i64 n] 24)) w' := (by first | exact hb | exact below_then (by assumption) hb); obtain ⟨hcel, hfro⟩ := bcell HB))
  go_ret
  exact ⟨rfl, (((Below.refl _ _).alloc (Nat.le_refl _) _).trans (HB.mono (by simp)))⟩
theorem lawWindRoll (c t n a : Int) (w : World) (w0 : (Lit.int .i64 c).wf = true) (w1 : (Lit.int .i64 t).wf = true) (w2 : (Lit.int .i64 n).wf = true) (w3 : (Lit.int .i64 a).wf = true) :
    Calls Try.prog 8 #[roll c t n, .int .i64 a] w fun e w' => e = .returned (.bool true) ∧ Below w.heap.size w w' := by
  clear w0 w1 w2 w3
  by_cases g : vr c t n = true ∧ 0 ≤ a ∧ a ≤ 300 - n
  · obtain ⟨hv, g1, g2⟩ := g
    have Hv := hide hv; clear hv
    go_enter Try.func8, Try.ntmps8
    go_wp2_with fail
    refine (toRoll_any c t n _).mono ?_; rintro e w1 ⟨rfl, hb1⟩
    go_wp2_with fail
    refine (specWind_yes _ _ _ _ Hv.out g1 g2 _).mono ?_; rintro e w2 ⟨rfl, hb2⟩
    have H2 := below_then hb1 hb2
    have B2 : Below w.heap.size w w2 := below_next (by go_grown) (by go_size) H2
    have s2 := B2.size
    have z2 : w.heap.size < w2.heap.size := by have := H2.size; simp at this; omega
    obtain ⟨c2, f2⟩ := bcell H2
    go_wp2_with fail
    refine (toRoll_any c t n _).mono ?_; rintro e w3 ⟨rfl, hb3⟩
    clear c2 f2
    go_wp2_with fail
    refine (implWind_yes _ _ _ _ Hv.out g1 g2 _).mono ?_; rintro e w4 ⟨rfl, hb4⟩
    have H4 := below_then hb3 hb4
    have B4 : Below w.heap.size w w4 := below_next (by go_grown) (by go_size) H4
    have s4 := B4.size
    have z4 : w2.heap.size < w4.heap.size := by have := H4.size; simp at this; omega
    obtain ⟨c4, f4⟩ := bcell H4
    go_wp2_with fail
    refine (eqRoll_same _ _ _ _).mono ?_; rintro e w5 ⟨rfl, hb5⟩
    have B5 : Below w.heap.size w w5 := below_next (by go_grown) (by go_size) hb5
    clear c4 f4
    go_wp2_with fail
    go_ret
    exact ⟨rfl, B5⟩
  · have Hn : Hid (vr c t n = false ∨ ¬ (0 ≤ a ∧ a ≤ 300 - n)) := by
      cases hv : vr c t n
      · exact .inl rfl
      · exact .inr fun h => g ⟨hv, h⟩
    clear g
    go_enter Try.func8, Try.ntmps8
    go_wp2_with fail
    refine (toRoll_any c t n _).mono ?_; rintro e w1 ⟨rfl, hb1⟩
    go_wp2_with fail
    refine (specWind_no _ _ _ _ Hn.out _).mono ?_; rintro e w2 ⟨rfl, hb2⟩
    have H2 := below_then hb1 hb2
    have B2 : Below w.heap.size w w2 := below_next (by go_grown) (by go_size) H2
    have s2 := B2.size
    have z2 : w.heap.size < w2.heap.size := by have := H2.size; simp at this; omega
    obtain ⟨c2, f2⟩ := bcell H2
    go_wp2_with fail
    refine (toRoll_any c t n _).mono ?_; rintro e w3 ⟨rfl, hb3⟩
    clear c2 f2
    go_wp2_with fail
    refine (implWind_no _ _ _ _ Hn.out _).mono ?_; rintro e w4 ⟨rfl, hb4⟩
    have H4 := below_then hb3 hb4
    have B4 : Below w.heap.size w w4 := below_next (by go_grown) (by go_size) H4
    have s4 := B4.size
    have z4 : w2.heap.size < w4.heap.size := by have := H4.size; simp at this; omega
    obtain ⟨c4, f4⟩ := bcell H4
    go_wp2_with fail
    refine (eqRoll_same _ _ _ _).mono ?_; rintro e w5 ⟨rfl, hb5⟩
    have B5 : Below w.heap.size w w5 := below_next (by go_grown) (by go_size) hb5
    clear c4 f4
    go_wp2_with fail
    go_ret
    exact ⟨rfl, B5⟩
end Go.Proofs.Ytddimgghcmplmaa
