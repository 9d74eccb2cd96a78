/- Contracts of chapter 1, fourth part: winding, unwinding, the turn at a place. -/
import Derived.Test.YtbmnmdpgkdaiiaaRoll3
namespace Go.Proofs.Ytbmnmdpgkdaiiaa
open Go.RowKit Pl
set_option linter.unusedVariables false
set_option maxRecDepth 100000

theorem implWind_yes (c t n k : Int) (hv : vr c t n = true) (g : 0 ≤ k) (g' : k ≤ 300 - n) (w : World) : Calls Try.prog 20 #[roll c t n, .int .i64 k] w fun e w' => e = .returned (.tuple #[roll c t (n + k), .bool true]) ∧ Below w.heap.size w w' := by
  obtain ⟨h1, h2, h3, h4, h5, h6⟩ := vr_true hv
  have Hv := hide hv; clear hv
  go_enter Try.func20, Try.ntmps20
  go_wp2_with (go_at_call 25; refine (implValidRoll _ _ _ _).mono ?_; rintro e w' ⟨rfl, hb⟩; rw [Hv.out]; have HB : Below w.heap.size w w' := below_next (by go_grown) (by go_size) hb; have hz := HB.size; obtain ⟨hcel, hfro⟩ := bcell hb; have q2 : (w'.cell? ⟨w.heap.size, 2, none⟩).isSome = true := by (rw [hcel _ _ (by simp; omega)]; simp))
  refine bodyPost_ret (v := .tuple #[roll c t (n + k), .bool true]) (by simp [results, Try.results20, go_sem, *]) rfl ?_
  exact ⟨rfl, by go_grown⟩
theorem implWind_no (c t n k : Int) (h : vr c t n = false ∨ ¬ (0 ≤ k ∧ k ≤ 300 - n)) (w : World) : Calls Try.prog 20 #[roll c t n, .int .i64 k] w fun e w' => e = .returned (.tuple #[roll 0 0 0, .bool false]) ∧ Below w.heap.size w w' := by
  cases hv : vr c t n
  · have Hv := hide hv; clear hv h
    go_enter Try.func20, Try.ntmps20
    go_wp2_with (go_at_call 25; refine (implValidRoll _ _ _ _).mono ?_; rintro e w' ⟨rfl, hb⟩; rw [Hv.out]; have HB : Below w.heap.size w w' := below_next (by go_grown) (by go_size) hb; have hz := HB.size; obtain ⟨hcel, hfro⟩ := bcell hb)
    refine bodyPost_ret (v := .tuple #[roll 0 0 0, .bool false]) (by simp [results, Try.results20, go_sem, *]) rfl ?_
    exact ⟨rfl, by go_grown⟩
  · obtain ⟨h1, h2, h3, h4, h5, h6⟩ := vr_true hv
    have h' : k < 0 ∨ (0 ≤ k ∧ 300 - n < k) := by
      rcases h with h | h
      · rw [hv] at h; cases h
      · omega
    have Hv := hide hv; clear hv h
    rcases h' with g | ⟨g, g'⟩
    all_goals
      go_enter Try.func20, Try.ntmps20
      go_wp2_with (go_at_call 25; refine (implValidRoll _ _ _ _).mono ?_; rintro e w' ⟨rfl, hb⟩; rw [Hv.out]; have HB : Below w.heap.size w w' := below_next (by go_grown) (by go_size) hb; have hz := HB.size; obtain ⟨hcel, hfro⟩ := bcell hb)
      refine bodyPost_ret (v := .tuple #[roll 0 0 0, .bool false]) (by simp [results, Try.results20, go_sem, *]) rfl ?_
      exact ⟨rfl, by go_grown⟩
theorem specWind_yes (c t n k : Int) (hv : vr c t n = true) (g : 0 ≤ k) (g' : k ≤ 300 - n) (w : World) : Calls Try.prog 29 #[roll c t n, .int .i64 k] w fun e w' => e = .returned (.tuple #[roll c t (n + k), .bool true]) ∧ Below w.heap.size w w' := by
  obtain ⟨h1, h2, h3, h4, h5, h6⟩ := vr_true hv
  have Hv := hide hv; clear hv
  have hd : decide (0 ≤ k ∧ k ≤ 300 - n) = true := decide_eq_true ⟨g, g'⟩
  go_enter Try.func29, Try.ntmps29
  go_wp2_with (first | (go_at_call 49; refine (specValidRoll0 _ _ _ _).mono ?_; rintro e w' ⟨rfl, hb⟩; rw [Hv.out]; have HB : Below w.heap.size w w' := below_next (by go_grown) (by go_size) hb; have hz := HB.size; obtain ⟨hcel, hfro⟩ := bcell hb; have q2 : (w'.cell? ⟨w.heap.size, 2, none⟩).isSome = true := by (rw [hcel _ _ (by simp; omega)]; simp)) | (go_at_call 50; refine (inRange_any _ _ _ _).mono ?_; rintro e w' ⟨rfl, rfl⟩))
  refine bodyPost_ret (v := .tuple #[roll c t (n + k), .bool true]) (by simp [results, Try.results29, go_sem, *]) rfl ?_
  exact ⟨rfl, by go_grown⟩
theorem specWind_no (c t n k : Int) (h : vr c t n = false ∨ ¬ (0 ≤ k ∧ k ≤ 300 - n)) (w : World) : Calls Try.prog 29 #[roll c t n, .int .i64 k] w fun e w' => e = .returned (.tuple #[roll 0 0 0, .bool false]) ∧ Below w.heap.size w w' := by
  cases hv : vr c t n
  · have Hv := hide hv; clear hv h
    go_enter Try.func29, Try.ntmps29
    go_wp2_with (go_at_call 49; refine (specValidRoll0 _ _ _ _).mono ?_; rintro e w' ⟨rfl, hb⟩; rw [Hv.out]; have HB : Below w.heap.size w w' := below_next (by go_grown) (by go_size) hb; have hz := HB.size; obtain ⟨hcel, hfro⟩ := bcell hb)
    refine bodyPost_ret (v := .tuple #[roll 0 0 0, .bool false]) (by simp [results, Try.results29, go_sem, *]) rfl ?_
    exact ⟨rfl, by go_grown⟩
  · obtain ⟨h1, h2, h3, h4, h5, h6⟩ := vr_true hv
    have hd : decide (0 ≤ k ∧ k ≤ 300 - n) = false := by
      rcases h with h | h
      · rw [hv] at h; cases h
      · exact decide_eq_false h
    have Hv := hide hv; clear hv h
    go_enter Try.func29, Try.ntmps29
    go_wp2_with (first | (go_at_call 49; refine (specValidRoll0 _ _ _ _).mono ?_; rintro e w' ⟨rfl, hb⟩; rw [Hv.out]; have HB : Below w.heap.size w w' := below_next (by go_grown) (by go_size) hb; have hz := HB.size; obtain ⟨hcel, hfro⟩ := bcell hb) | (go_at_call 50; refine (inRange_any _ _ _ _).mono ?_; rintro e w' ⟨rfl, rfl⟩))
    refine bodyPost_ret (v := .tuple #[roll 0 0 0, .bool false]) (by simp [results, Try.results29, go_sem, *]) rfl ?_
    exact ⟨rfl, by go_grown⟩
theorem implTurnAt (c t n a : Int) (ha : a ≤ 9223372036854775807) (w : World) : Calls Try.prog 40 #[roll c t n, .int .i64 a] w fun e w' => e = .returned (.int .i64 (taOf c t n a)) ∧ Below w.heap.size w w' := by
  cases hv : vr c t n
  · have Hv := hide hv; clear hv
    go_enter Try.func40, Try.ntmps40
    go_wp2_with (go_at_call 25; refine (implValidRoll _ _ _ _).mono ?_; rintro e w' ⟨rfl, hb⟩; rw [Hv.out]; have HB : Below (w.alloc (.cells #[.int .i64 c, .int .i64 t, .int .i64 n] 24)).heap.size (w.alloc (.cells #[.int .i64 c, .int .i64 t, .int .i64 n] 24)) w' := (by first | exact hb | exact below_then (by assumption) hb); obtain ⟨hcel, hfro⟩ := bcell HB)
    go_ret
    exact ⟨ret_int (taOf_no (.inl Hv.out)).symm, (((Below.refl _ _).alloc (Nat.le_refl _) _).trans (HB.mono (by simp)))⟩
  · obtain ⟨h1, h2, h3, h4, h5, h6⟩ := vr_true hv
    have Hv := hide hv; clear hv
    by_cases g : a < 0
    · go_enter Try.func40, Try.ntmps40
      go_wp2_with (go_at_call 25; refine (implValidRoll _ _ _ _).mono ?_; rintro e w' ⟨rfl, hb⟩; rw [Hv.out]; have HB : Below (w.alloc (.cells #[.int .i64 c, .int .i64 t, .int .i64 n] 24)).heap.size (w.alloc (.cells #[.int .i64 c, .int .i64 t, .int .i64 n] 24)) w' := (by first | exact hb | exact below_then (by assumption) hb); obtain ⟨hcel, hfro⟩ := bcell HB)
      go_ret
      exact ⟨ret_int (taOf_no (.inr (.inl g))).symm, (((Below.refl _ _).alloc (Nat.le_refl _) _).trans (HB.mono (by simp)))⟩
    · have g0 : 0 ≤ a := by omega
      by_cases g2 : lnOf c t n ≤ a
      · go_enter Try.func40, Try.ntmps40
        go_wp2_with (first | (go_at_call 25; refine (implValidRoll _ _ _ _).mono ?_; rintro e w' ⟨rfl, hb⟩; rw [Hv.out]; have HB : Below (w.alloc (.cells #[.int .i64 c, .int .i64 t, .int .i64 n] 24)).heap.size (w.alloc (.cells #[.int .i64 c, .int .i64 t, .int .i64 n] 24)) w' := (by first | exact hb | exact below_then (by assumption) hb); obtain ⟨hcel, hfro⟩ := bcell HB) | (go_at_call 27; refine (implLengthOf _ _ _ _).mono ?_; rintro e w' ⟨rfl, hb⟩; have HB : Below (w.alloc (.cells #[.int .i64 c, .int .i64 t, .int .i64 n] 24)).heap.size (w.alloc (.cells #[.int .i64 c, .int .i64 t, .int .i64 n] 24)) w' := (by first | exact hb | exact below_then (by assumption) hb); obtain ⟨hcel, hfro⟩ := bcell HB))
        go_ret
        exact ⟨ret_int (taOf_no (.inr (.inr g2))).symm, (((Below.refl _ _).alloc (Nat.le_refl _) _).trans (HB.mono (by simp)))⟩
      · have g3 : a < lnOf c t n := by omega
        go_enter Try.func40, Try.ntmps40
        go_wp2_with (first | (go_at_call 25; refine (implValidRoll _ _ _ _).mono ?_; rintro e w' ⟨rfl, hb⟩; rw [Hv.out]; have HB : Below (w.alloc (.cells #[.int .i64 c, .int .i64 t, .int .i64 n] 24)).heap.size (w.alloc (.cells #[.int .i64 c, .int .i64 t, .int .i64 n] 24)) w' := (by first | exact hb | exact below_then (by assumption) hb); obtain ⟨hcel, hfro⟩ := bcell HB) | (go_at_call 27; refine (implLengthOf _ _ _ _).mono ?_; rintro e w' ⟨rfl, hb⟩; have HB : Below (w.alloc (.cells #[.int .i64 c, .int .i64 t, .int .i64 n] 24)).heap.size (w.alloc (.cells #[.int .i64 c, .int .i64 t, .int .i64 n] 24)) w' := (by first | exact hb | exact below_then (by assumption) hb); obtain ⟨hcel, hfro⟩ := bcell HB) | (go_at_call 34; refine (implTurnsFor _ _ _ _ ha _).mono ?_; rintro e w' ⟨rfl, hb⟩; have HB : Below (w.alloc (.cells #[.int .i64 c, .int .i64 t, .int .i64 n] 24)).heap.size (w.alloc (.cells #[.int .i64 c, .int .i64 t, .int .i64 n] 24)) w' := (by first | exact hb | exact below_then (by assumption) hb); obtain ⟨hcel, hfro⟩ := bcell HB))
        go_ret
        exact ⟨ret_int (by rw [taOf_yes Hv.out g0 g3, tfOf_yes Hv.out g0]), (((Below.refl _ _).alloc (Nat.le_refl _) _).trans (HB.mono (by simp)))⟩
theorem specTurnAt (c t n a : Int) (ha : a ≤ 9223372036854775807) (w : World) : Calls Try.prog 41 #[roll c t n, .int .i64 a] w fun e w' => e = .returned (.int .i64 (taOf c t n a)) ∧ Below w.heap.size w w' := by
  cases hv : vr c t n
  · have Hv := hide hv; clear hv
    go_enter Try.func41, Try.ntmps41
    go_wp2_with (go_at_call 49; refine (specValidRoll0 _ _ _ _).mono ?_; rintro e w' ⟨rfl, hb⟩; rw [Hv.out]; have HB : Below (w.alloc (.cells #[.int .i64 c, .int .i64 t, .int .i64 n] 24)).heap.size (w.alloc (.cells #[.int .i64 c, .int .i64 t, .int .i64 n] 24)) w' := (by first | exact hb | exact below_then (by assumption) hb); obtain ⟨hcel, hfro⟩ := bcell HB)
    go_ret
    exact ⟨ret_int (taOf_no (.inl Hv.out)).symm, (((Below.refl _ _).alloc (Nat.le_refl _) _).trans (HB.mono (by simp)))⟩
  · obtain ⟨h1, h2, h3, h4, h5, h6⟩ := vr_true hv
    have Hv := hide hv; clear hv
    obtain ⟨m, rfl⟩ := Int.eq_ofNat_of_zero_le h5
    have lb := ln_bd h1 h2 h3 h4 m (by omega)
    by_cases g : 0 ≤ a ∧ a ≤ ln c t m - 1
    · have hd : decide (0 ≤ a ∧ a ≤ ln c t m - 1) = true := decide_eq_true g
      obtain ⟨g0, g3⟩ := g
      go_enter Try.func41, Try.ntmps41
      go_wp2_with (first | (go_at_call 49; refine (specValidRoll0 _ _ _ _).mono ?_; rintro e w' ⟨rfl, hb⟩; rw [Hv.out]; have HB : Below (w.alloc (.cells #[.int .i64 c, .int .i64 t, .int .i64 m] 24)).heap.size (w.alloc (.cells #[.int .i64 c, .int .i64 t, .int .i64 m] 24)) w' := (by first | exact hb | exact below_then (by assumption) hb); obtain ⟨hcel, hfro⟩ := bcell HB) | (go_at_call 50; refine (inRange_any _ _ _ _).mono ?_; rintro e w' ⟨rfl, rfl⟩) | (go_at_call 53; refine (specLengthOf0 _ _ _ _ h1 h2 h3 h4 (by omega) _).mono ?_; rintro e w' ⟨rfl, hb⟩; have HB : Below (w.alloc (.cells #[.int .i64 c, .int .i64 t, .int .i64 m] 24)).heap.size (w.alloc (.cells #[.int .i64 c, .int .i64 t, .int .i64 m] 24)) w' := (by first | exact hb | exact below_then (by assumption) hb); obtain ⟨hcel, hfro⟩ := bcell HB) | (go_at_call 54; refine (specTurnsFor0 _ _ _ _ h1 h2 h3 h4 g0 ha _).mono ?_; rintro e w' ⟨rfl, hb⟩; have HB : Below (w.alloc (.cells #[.int .i64 c, .int .i64 t, .int .i64 m] 24)).heap.size (w.alloc (.cells #[.int .i64 c, .int .i64 t, .int .i64 m] 24)) w' := (by first | exact hb | exact below_then (by assumption) hb); obtain ⟨hcel, hfro⟩ := bcell HB))
      go_ret
      exact ⟨ret_int (by rw [taOf_yes Hv.out g0 (by rw [lnOf_yes Hv.out, Int.toNat_natCast]; omega)]), (((Below.refl _ _).alloc (Nat.le_refl _) _).trans (HB.mono (by simp)))⟩
    · have hd : decide (0 ≤ a ∧ a ≤ ln c t m - 1) = false := decide_eq_false g
      have G := hide g; clear g
      go_enter Try.func41, Try.ntmps41
      go_wp2_with (first | (go_at_call 49; refine (specValidRoll0 _ _ _ _).mono ?_; rintro e w' ⟨rfl, hb⟩; rw [Hv.out]; have HB : Below (w.alloc (.cells #[.int .i64 c, .int .i64 t, .int .i64 m] 24)).heap.size (w.alloc (.cells #[.int .i64 c, .int .i64 t, .int .i64 m] 24)) w' := (by first | exact hb | exact below_then (by assumption) hb); obtain ⟨hcel, hfro⟩ := bcell HB) | (go_at_call 50; refine (inRange_any _ _ _ _).mono ?_; rintro e w' ⟨rfl, rfl⟩) | (go_at_call 53; refine (specLengthOf0 _ _ _ _ h1 h2 h3 h4 (by omega) _).mono ?_; rintro e w' ⟨rfl, hb⟩; have HB : Below (w.alloc (.cells #[.int .i64 c, .int .i64 t, .int .i64 m] 24)).heap.size (w.alloc (.cells #[.int .i64 c, .int .i64 t, .int .i64 m] 24)) w' := (by first | exact hb | exact below_then (by assumption) hb); obtain ⟨hcel, hfro⟩ := bcell HB))
      go_ret
      exact ⟨ret_int (taOf_no (.inr (by have := G.out; rw [lnOf_yes Hv.out, Int.toNat_natCast]; omega))).symm, (((Below.refl _ _).alloc (Nat.le_refl _) _).trans (HB.mono (by simp)))⟩
end Go.Proofs.Ytbmnmdpgkdaiiaa
