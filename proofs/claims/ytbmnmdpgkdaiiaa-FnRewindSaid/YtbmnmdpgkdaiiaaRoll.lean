/- Contracts of chapter 1: each function of the program and of the reference about rolls returns the plain number of Pl, and writes nothing that was there. -/
import Derived.Test.YtbmnmdpgkdaiiaaRows
import Derived.Test.YtbmnmdpgkdaiiaaPl
import Derived.Test.YtbmnmdpgkdaiiaaKit
namespace Go.Proofs.Ytbmnmdpgkdaiiaa
open Go.RowKit Pl
set_option linter.unusedVariables false

abbrev roll (c t n : Int) : Value := .agg #[.int .i64 c, .int .i64 t, .int .i64 n]

theorem inRange_any (x lo hi : Int) (w : World) : Calls Try.prog 50 #[.int .i64 x, .int .i64 lo, .int .i64 hi] w fun e w' => e = .returned (.bool (decide (lo ≤ x ∧ x ≤ hi))) ∧ w = w' := by
  by_cases h1 : lo ≤ x <;> by_cases h2 : x ≤ hi
  all_goals
    go_enter Try.func50, Try.ntmps50
    go_wp2
    go_ret
    exact ⟨by simp [h1, h2], rfl⟩

theorem implValidRoll (c t n : Int) (w : World) : Calls Try.prog 25 #[roll c t n] w fun e w' => e = .returned (.bool (vr c t n)) ∧ Below w.heap.size w w' := by
  rcases vr_cases c t n with ⟨h1, h2, h3, h4, h5, h6⟩ | h | ⟨h1, h⟩ | ⟨h1, h2, h⟩ | ⟨h1, h2, h3, h⟩ | ⟨h1, h2, h3, h4, h⟩ | ⟨h1, h2, h3, h4, h5, h⟩
  all_goals
    go_enter Try.func25, Try.ntmps25
    go_wp2
    go_ret
    exact ⟨ret_bool (by first | (rw [vr_mk (by omega)]; done) | (rw [vr_no (by omega)]; done) | (rw [vr_mk (by omega)]; simp; omega) | (rw [vr_no (by omega)]; simp; omega)), by go_grown⟩

theorem specValidRoll0 (c t n : Int) (w : World) : Calls Try.prog 49 #[roll c t n] w fun e w' => e = .returned (.bool (vr c t n)) ∧ Below w.heap.size w w' := by
  rcases vr_cases2 c t n with ⟨h1, h2, h3⟩ | h | ⟨h1, h⟩ | ⟨h1, h2, h⟩
  all_goals
    go_enter Try.func49, Try.ntmps49
    go_wp2_with (go_at_call 50; refine (inRange_any _ _ _ _).mono ?_; rintro e w' ⟨rfl, rfl⟩)
    go_ret
    exact ⟨ret_bool (by rw [vr_and]; simp only [*]; try rfl), by go_grown⟩

theorem specDiameter (c t n k : Int) (hc : 50 ≤ c) (hc' : c ≤ 400) (h1 : 1 ≤ t) (h2 : t ≤ 9) (h3 : 0 ≤ k) (h4 : k ≤ 301) (w : World) :
    Calls Try.prog 52 #[roll c t n, .int .i64 k] w fun e w' => e = .returned (.int .i64 (c + 2 * t * k)) ∧ Below w.heap.size w w' := by
  have hb := tk_bd h1 h2 h3 h4
  go_enter Try.func52, Try.ntmps52
  go_wp2
  go_ret
  exact ⟨rfl, by go_grown⟩


theorem specValidRoll (c t n : Int) (w : World) : Calls Try.prog 26 #[roll c t n] w fun e w' => e = .returned (.bool (vr c t n)) ∧ Below w.heap.size w w' := by
  go_enter Try.func26, Try.ntmps26
  go_wp2_with (go_at_call 49; refine (specValidRoll0 _ _ _ _).mono ?_; rintro e w' ⟨rfl, hb⟩; have HB : Below w.heap.size w w' := below_next (by go_grown) (by go_size) hb; have hz := HB.size)
  go_ret
  exact ⟨rfl, by go_grown⟩

theorem implDiameterOf (c t n : Int) (w : World) : Calls Try.prog 18 #[roll c t n] w fun e w' => e = .returned (.int .i64 (dOf c t n)) ∧ Below w.heap.size w w' := by
  cases hv : vr c t n
  · have Hv := hide hv; clear hv
    go_enter Try.func18, Try.ntmps18
    go_wp2_with (go_at_call 25; refine (implValidRoll _ _ _ _).mono ?_; rintro e w' ⟨rfl, hb⟩; rw [Hv.out]; have HB : Below w.heap.size w w' := below_next (by go_grown) (by go_size) hb; have hz := HB.size; obtain ⟨hcel, hfro⟩ := bcell hb)
    go_ret
    exact ⟨ret_int (dOf_no Hv.out).symm, by go_grown⟩
  · obtain ⟨h1, h2, h3, h4, h5, h6⟩ := vr_true hv
    have Hv := hide hv; clear hv
    have hk := tk_bd h3 h4 h5 (by omega)
    go_enter Try.func18, Try.ntmps18
    go_wp2_with (first | (go_at_call 25; refine (implValidRoll _ _ _ _).mono ?_; rintro e w' ⟨rfl, hb⟩; rw [Hv.out]; have HB : Below w.heap.size w w' := below_next (by go_grown) (by go_size) hb; have hz := HB.size; obtain ⟨hcel, hfro⟩ := bcell hb))
    go_ret
    exact ⟨ret_int (dOf_yes Hv.out).symm, by go_grown⟩

theorem specDiameterOf (c t n : Int) (w : World) : Calls Try.prog 19 #[roll c t n] w fun e w' => e = .returned (.int .i64 (dOf c t n)) ∧ Below w.heap.size w w' := by
  cases hv : vr c t n
  · have Hv := hide hv; clear hv
    go_enter Try.func19, Try.ntmps19
    go_wp2_with (go_at_call 49; refine (specValidRoll0 _ _ _ _).mono ?_; rintro e w' ⟨rfl, hb⟩; rw [Hv.out]; have HB : Below w.heap.size w w' := below_next (by go_grown) (by go_size) hb; have hz := HB.size; obtain ⟨hcel, hfro⟩ := bcell hb)
    go_ret
    exact ⟨ret_int (dOf_no Hv.out).symm, by go_grown⟩
  · obtain ⟨h1, h2, h3, h4, h5, h6⟩ := vr_true hv
    have Hv := hide hv; clear hv
    have hk := tk_bd h3 h4 h5 (by omega)
    go_enter Try.func19, Try.ntmps19
    go_wp2_with (first | (go_at_call 49; refine (specValidRoll0 _ _ _ _).mono ?_; rintro e w' ⟨rfl, hb⟩; rw [Hv.out]; have HB : Below w.heap.size w w' := below_next (by go_grown) (by go_size) hb; have hz := HB.size; obtain ⟨hcel, hfro⟩ := bcell hb) | (go_at_call 52; refine (specDiameter _ _ _ _ h1 h2 h3 h4 (by omega) (by omega) _).mono ?_; rintro e w' ⟨rfl, hb⟩; have HB : Below w.heap.size w w' := below_next (by go_grown) (by go_size) hb; have hz := HB.size))
    go_ret
    exact ⟨ret_int (dOf_yes Hv.out).symm, by go_grown⟩

theorem tl_wrap {c t k : Int} (h : 0 ≤ c + 2 * t * k + t) (h' : c + 2 * t * k + t ≤ 100000) : IntKind.i64.wrap ((IntKind.i64.wrap (22 * IntKind.i64.wrap (c + 2 * t * k + t))).tdiv 7) = tl c t k := by
  unfold tl
  generalize c + 2 * t * k + t = x at *
  rw [IntWalk.i64_in x ⟨by omega, by omega⟩, IntWalk.i64_in (22 * x) ⟨by omega, by omega⟩, Int.tdiv_eq_ediv_of_nonneg (by omega), IntWalk.i64_in (22 * x / 7) ⟨by omega, by omega⟩]

theorem specTurnLength0 (c t n k : Int) (hc : 50 ≤ c) (hc' : c ≤ 400) (h1 : 1 ≤ t) (h2 : t ≤ 9) (h3 : 0 ≤ k) (h4 : k ≤ 300) (w : World) :
    Calls Try.prog 51 #[roll c t n, .int .i64 k] w fun e w' => e = .returned (.int .i64 (tl c t k)) ∧ Below w.heap.size w w' := by
  have hb := tk_bd h1 h2 h3 (by omega)
  go_enter Try.func51, Try.ntmps51
  go_wp2_with fail
  go_region_held3 (fun w' => w'.cell? ⟨w.heap.size, 0, none⟩ = some (.int .i64 c) ∧ w'.cell? ⟨w.heap.size, 1, none⟩ = some (.int .i64 t) ∧ w'.cell? ⟨w.heap.size, 2, none⟩ = some (.int .i64 n))
    (first | go_keep | (simp [*]; done))
    (first | (go_at_call 52; refine (specDiameter _ _ _ _ hc hc' h1 h2 h3 (by omega) _).mono ?_; rintro e w' ⟨rfl, hb⟩; have HB : Below w.heap.size w w' := below_next (by go_grown) (by go_size) hb; have hz := HB.size; obtain ⟨hcel, hfro⟩ := bcell hb))
  go_wp2
  go_ret
  exact ⟨ret_int (tl_wrap (by omega) (by omega)), by go_grown⟩

theorem implTurnLength (c t n k : Int) (w : World) : Calls Try.prog 15 #[roll c t n, .int .i64 k] w fun e w' => e = .returned (.int .i64 (tlOf c t n k)) ∧ Below w.heap.size w w' := by
  cases hv : vr c t n
  · have Hv := hide hv; clear hv
    go_enter Try.func15, Try.ntmps15
    go_wp2_with (go_at_call 25; refine (implValidRoll _ _ _ _).mono ?_; rintro e w' ⟨rfl, hb⟩; rw [Hv.out]; have HB : Below w.heap.size w w' := below_next (by go_grown) (by go_size) hb; have hz := HB.size; obtain ⟨hcel, hfro⟩ := bcell hb)
    go_ret
    exact ⟨ret_int (tlOf_no (.inl Hv.out)).symm, by go_grown⟩
  · obtain ⟨h1, h2, h3, h4, h5, h6⟩ := vr_true hv
    have Hv := hide hv; clear hv
    rcases (show k < 0 ∨ (0 ≤ k ∧ 300 ≤ k) ∨ (0 ≤ k ∧ k < 300) by omega) with g | ⟨g, g'⟩ | ⟨g, g'⟩
    · go_enter Try.func15, Try.ntmps15
      go_wp2_with (go_at_call 25; refine (implValidRoll _ _ _ _).mono ?_; rintro e w' ⟨rfl, hb⟩; rw [Hv.out]; have HB : Below w.heap.size w w' := below_next (by go_grown) (by go_size) hb; have hz := HB.size; obtain ⟨hcel, hfro⟩ := bcell hb)
      go_ret
      exact ⟨ret_int (tlOf_no (.inr (by omega))).symm, by go_grown⟩
    · go_enter Try.func15, Try.ntmps15
      go_wp2_with (go_at_call 25; refine (implValidRoll _ _ _ _).mono ?_; rintro e w' ⟨rfl, hb⟩; rw [Hv.out]; have HB : Below w.heap.size w w' := below_next (by go_grown) (by go_size) hb; have hz := HB.size; obtain ⟨hcel, hfro⟩ := bcell hb)
      go_ret
      exact ⟨ret_int (tlOf_no (.inr (by omega))).symm, by go_grown⟩
    · have hk := tk_bd h3 h4 g (by omega)
      go_enter Try.func15, Try.ntmps15
      go_wp2_with (go_at_call 25; refine (implValidRoll _ _ _ _).mono ?_; rintro e w' ⟨rfl, hb⟩; rw [Hv.out]; have HB : Below w.heap.size w w' := below_next (by go_grown) (by go_size) hb; have hz := HB.size; obtain ⟨hcel, hfro⟩ := bcell hb)
      go_ret
      exact ⟨ret_int (tlOf_yes Hv.out g g').symm, by go_grown⟩

theorem specTurnLength (c t n k : Int) (w : World) : Calls Try.prog 16 #[roll c t n, .int .i64 k] w fun e w' => e = .returned (.int .i64 (tlOf c t n k)) ∧ Below w.heap.size w w' := by
  cases hv : vr c t n
  · have Hv := hide hv; clear hv
    go_enter Try.func16, Try.ntmps16
    go_wp2_with (go_at_call 49; refine (specValidRoll0 _ _ _ _).mono ?_; rintro e w' ⟨rfl, hb⟩; rw [Hv.out]; have HB : Below w.heap.size w w' := below_next (by go_grown) (by go_size) hb; have hz := HB.size; obtain ⟨hcel, hfro⟩ := bcell hb)
    go_ret
    exact ⟨ret_int (tlOf_no (.inl Hv.out)).symm, by go_grown⟩
  · obtain ⟨h1, h2, h3, h4, h5, h6⟩ := vr_true hv
    have Hv := hide hv; clear hv
    by_cases g : 0 ≤ k ∧ k ≤ 299
    · have hd : decide (0 ≤ k ∧ k ≤ 299) = true := decide_eq_true g
      obtain ⟨g, g'⟩ := g
      have hk := tk_bd h3 h4 g (by omega)
      go_enter Try.func16, Try.ntmps16
      go_wp2_with (first | (go_at_call 49; refine (specValidRoll0 _ _ _ _).mono ?_; rintro e w' ⟨rfl, hb⟩; rw [Hv.out]; have HB : Below w.heap.size w w' := below_next (by go_grown) (by go_size) hb; have hz := HB.size; obtain ⟨hcel, hfro⟩ := bcell hb) | (go_at_call 50; refine (inRange_any _ _ _ _).mono ?_; rintro e w' ⟨rfl, rfl⟩) | (go_at_call 51; refine (specTurnLength0 _ _ _ _ h1 h2 h3 h4 g (by omega) _).mono ?_; rintro e w' ⟨rfl, hb⟩; have HB : Below w.heap.size w w' := below_next (by go_grown) (by go_size) hb; have hz := HB.size))
      go_ret
      exact ⟨ret_int (tlOf_yes Hv.out g (by omega)).symm, by go_grown⟩
    · have hd : decide (0 ≤ k ∧ k ≤ 299) = false := decide_eq_false g
      have G := hide g; clear g
      go_enter Try.func16, Try.ntmps16
      go_wp2_with (first | (go_at_call 49; refine (specValidRoll0 _ _ _ _).mono ?_; rintro e w' ⟨rfl, hb⟩; rw [Hv.out]; have HB : Below w.heap.size w w' := below_next (by go_grown) (by go_size) hb; have hz := HB.size; obtain ⟨hcel, hfro⟩ := bcell hb) | (go_at_call 50; refine (inRange_any _ _ _ _).mono ?_; rintro e w' ⟨rfl, rfl⟩))
      go_ret
      exact ⟨ret_int (tlOf_no (.inr (by have := G.out; omega))).symm, by go_grown⟩

theorem implTurnLength_ok (c t n k : Int) (hv : Hid (vr c t n = true)) (h0 : 0 ≤ k) (h1 : k < 300) (w : World) : Calls Try.prog 15 #[roll c t n, .int .i64 k] w fun e w' => e = .returned (.int .i64 (tl c t k)) ∧ Below w.heap.size w w' :=
  (implTurnLength c t n k w).mono fun _ _ ⟨he, hb⟩ => ⟨by rw [he, tlOf_yes hv.out h0 h1], hb⟩

theorem implLengthOf (c t n : Int) (w : World) : Calls Try.prog 27 #[roll c t n] w fun e w' => e = .returned (.int .i64 (lnOf c t n)) ∧ Below w.heap.size w w' := by
  cases hv : vr c t n
  · have Hv := hide hv; clear hv
    go_enter Try.func27, Try.ntmps27
    go_wp2_with (go_at_call 25; refine (implValidRoll _ _ _ _).mono ?_; rintro e w' ⟨rfl, hb⟩; rw [Hv.out]; have HB : Below w.heap.size w w' := below_next (by go_grown) (by go_size) hb; have hz := HB.size; obtain ⟨hcel, hfro⟩ := bcell hb)
    go_ret
    exact ⟨ret_int (lnOf_no Hv.out).symm, by go_grown⟩
  · obtain ⟨h1, h2, h3, h4, h5, h6⟩ := vr_true hv
    have Hv := hide hv; clear hv
    obtain ⟨m, rfl⟩ := Int.eq_ofNat_of_zero_le h5
    go_enter Try.func27, Try.ntmps27
    go_wp2_with (go_at_call 25; refine (implValidRoll _ _ _ _).mono ?_; rintro e w1 ⟨rfl, hb⟩; rw [Hv.out]; obtain ⟨hcel, hfro⟩ := bcell hb)
    go_loopw [3, 10] (fun s i wr => ∃ k : Nat, k ≤ m ∧ i = .int .i64 k ∧ s = .int .i64 (ln c t k) ∧ Below (w.alloc (.cells #[.int .i64 c, .int .i64 t, .int .i64 m] 24)).heap.size (w.alloc (.cells #[.int .i64 c, .int .i64 t, .int .i64 m] 24)) wr) (fun _ i _ => m - (intOf i).toNat)
    case atStart => exact ⟨0, by omega, rfl, rfl, hb⟩
    case round =>
      obtain ⟨k, hk, rfl, rfl, hB⟩ := hrel
      obtain ⟨hcr, hfr⟩ := bcell hB
      have hz := hB.size
      rw [World.size_alloc] at hz
      have b1 := ln_bd h1 h2 h3 h4 k (by omega)
      have b2 := tl_bd h1 h2 h3 h4 (k := (k : Int)) (by omega) (by omega)
      clear hb hcel hfro
      by_cases hlt : k < m
      · go_wp2_with (go_at_call 15; refine (implTurnLength_ok _ _ _ _ Hv (by omega) (by omega) _).mono ?_; rintro e w' ⟨rfl, hb⟩)
        go_roundw
        case rel => exact ⟨k + 1, by omega, by go_num, rfl, below_next hB hB.size hb⟩
        case measure => simp [intOf]; omega
      · have : k = m := by omega
        subst this
        go_wp2
        go_ret
        exact ⟨ret_int (lnOf_yes Hv.out).symm, (((Below.refl _ _).alloc (Nat.le_refl _) _).trans (hB.mono (by simp)))⟩
end Go.Proofs.Ytbmnmdpgkdaiiaa
