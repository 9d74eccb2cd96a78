/- Contracts of chapter 1, second part: the length of a roll, turns for a length, turns under a diameter. -/
import Derived.Test.YtbmnmdpgkdaiiaaRoll
namespace Go.Proofs.Ytbmnmdpgkdaiiaa
open Go.RowKit Pl
set_option linter.unusedVariables false
set_option maxRecDepth 100000

theorem specLengthOf0 (c t n : Int) (m : Nat) (h1 : 50 ≤ c) (h2 : c ≤ 400) (h3 : 1 ≤ t) (h4 : t ≤ 9) (hm : m ≤ 300) (w : World) :
    Calls Try.prog 53 #[roll c t n, .int .i64 m] w fun e w' => e = .returned (.int .i64 (ln c t m)) ∧ Below w.heap.size w w' := by
  go_enter Try.func53, Try.ntmps53
  go_wp2
  go_loopw [5, 6] (fun s i wr => ∃ k : Nat, k ≤ m ∧ i = .int .i64 k ∧ s = .int .i64 (ln c t k) ∧ Below (w.alloc (.cells #[.int .i64 c, .int .i64 t, .int .i64 n] 24)).heap.size (w.alloc (.cells #[.int .i64 c, .int .i64 t, .int .i64 n] 24)) wr) (fun _ i _ => m - (intOf i).toNat)
  case atStart => exact ⟨0, by omega, rfl, rfl, Below.refl _ _⟩
  case round =>
    obtain ⟨k, hk, rfl, rfl, hB⟩ := hrel
    obtain ⟨hcr, hfr⟩ := bcell hB
    have hz := hB.size
    rw [World.size_alloc] at hz
    have b1 := ln_bd h1 h2 h3 h4 k (by omega)
    have b2 := tl_bd h1 h2 h3 h4 (k := (k : Int)) (by omega) (by omega)
    by_cases hlt : k < m
    · go_wp2_with (go_at_call 51; refine (specTurnLength0 _ _ _ _ h1 h2 h3 h4 (by omega) (by omega) _).mono ?_; rintro e w' ⟨rfl, hb⟩)
      go_roundw
      case rel => exact ⟨k + 1, by omega, by go_num, rfl, below_next hB hB.size hb⟩
      case measure => simp [intOf]; omega
    · have : k = m := by omega
      subst this
      go_wp2
      go_ret
      exact ⟨rfl, (((Below.refl _ _).alloc (Nat.le_refl _) _).trans (hB.mono (by simp)))⟩

theorem specLengthOf (c t n : Int) (w : World) : Calls Try.prog 33 #[roll c t n] w fun e w' => e = .returned (.int .i64 (lnOf c t n)) ∧ Below w.heap.size w w' := by
  cases hv : vr c t n
  · have Hv := hide hv; clear hv
    go_enter Try.func33, Try.ntmps33
    go_wp2_with (go_at_call 49; refine (specValidRoll0 _ _ _ _).mono ?_; rintro e w' ⟨rfl, hb⟩; rw [Hv.out]; have HB : Below w.heap.size w w' := below_next (by go_grown) (by go_size) hb; have hz := HB.size; obtain ⟨hcel, hfro⟩ := bcell hb)
    go_ret
    exact ⟨ret_int (lnOf_no Hv.out).symm, by go_grown⟩
  · obtain ⟨h1, h2, h3, h4, h5, h6⟩ := vr_true hv
    have Hv := hide hv; clear hv
    obtain ⟨m, rfl⟩ := Int.eq_ofNat_of_zero_le h5
    go_enter Try.func33, Try.ntmps33
    go_wp2_with (first | (go_at_call 49; refine (specValidRoll0 _ _ _ _).mono ?_; rintro e w' ⟨rfl, hb⟩; rw [Hv.out]; have HB : Below w.heap.size w w' := below_next (by go_grown) (by go_size) hb; have hz := HB.size; obtain ⟨hcel, hfro⟩ := bcell hb) | (go_at_call 53; refine (specLengthOf0 _ _ _ _ h1 h2 h3 h4 (by omega) _).mono ?_; rintro e w' ⟨rfl, hb⟩; have HB : Below w.heap.size w w' := below_next (by go_grown) (by go_size) hb; have hz := HB.size; obtain ⟨hcel, hfro⟩ := bcell hb))
    go_ret
    exact ⟨ret_int (lnOf_yes Hv.out).symm, by go_grown⟩

theorem implTurnsFor (c t n l : Int) (hl : l ≤ 9223372036854775807) (w : World) : Calls Try.prog 34 #[roll c t n, .int .i64 l] w fun e w' => e = .returned (.int .i64 (tfOf c t n l)) ∧ Below w.heap.size w w' := by
  cases hv : vr c t n
  · have Hv := hide hv; clear hv
    go_enter Try.func34, Try.ntmps34
    go_wp2_with (go_at_call 25; refine (implValidRoll _ _ _ _).mono ?_; rintro e w' ⟨rfl, hb⟩; rw [Hv.out]; have HB : Below w.heap.size w w' := below_next (by go_grown) (by go_size) hb; have hz := HB.size; obtain ⟨hcel, hfro⟩ := bcell hb)
    go_ret
    exact ⟨ret_int (tfOf_no (.inl Hv.out)).symm, by go_grown⟩
  · obtain ⟨h1, h2, h3, h4, h5, h6⟩ := vr_true hv
    have Hv := hide hv; clear hv
    by_cases g : l < 0
    · go_enter Try.func34, Try.ntmps34
      go_wp2_with (go_at_call 25; refine (implValidRoll _ _ _ _).mono ?_; rintro e w' ⟨rfl, hb⟩; rw [Hv.out]; have HB : Below w.heap.size w w' := below_next (by go_grown) (by go_size) hb; have hz := HB.size; obtain ⟨hcel, hfro⟩ := bcell hb)
      go_ret
      exact ⟨ret_int (tfOf_no (.inr g)).symm, by go_grown⟩
    · have g0 : 0 ≤ l := by omega
      go_enter Try.func34, Try.ntmps34
      go_wp2_with (go_at_call 25; refine (implValidRoll _ _ _ _).mono ?_; rintro e w1 ⟨rfl, hb⟩; rw [Hv.out]; obtain ⟨hcel, hfro⟩ := bcell hb)
      go_loopw [5, 16] (fun s i wr => ∃ (k : Nat) (x : Int), (k : Int) ≤ 300 ∧ 0 ≤ x ∧ x ≤ l ∧ TF c t l k x ∧ i = .int .i64 k ∧ s = .int .i64 x ∧ Below (w.alloc (.cells #[.int .i64 c, .int .i64 t, .int .i64 n] 24)).heap.size (w.alloc (.cells #[.int .i64 c, .int .i64 t, .int .i64 n] 24)) wr) (fun _ i _ => (300 - intOf i).toNat)
      case atStart => exact ⟨0, l, by omega, g0, Int.le_refl _, TF_start c t l, rfl, rfl, hb⟩
      case round =>
        obtain ⟨k, x, hk, hx0, hx, HT, rfl, rfl, hB⟩ := hrel
        obtain ⟨hcr, hfr⟩ := bcell hB
        have hz := hB.size
        rw [World.size_alloc] at hz
        clear hb hcel hfro
        by_cases hlt : (k : Int) < 300
        · have b2 := tl_bd h1 h2 h3 h4 (k := (k : Int)) (by omega) (by omega)
          by_cases hge : x < tl c t k
          · have hd : tl c t k ≤ x → False := by omega
            go_wp2_with (go_at_call 15; refine (implTurnLength_ok _ _ _ _ Hv (by omega) (by omega) _).mono ?_; rintro e w' ⟨rfl, hb⟩)
            go_ret
            exact ⟨ret_int (by rw [tfOf_yes Hv.out g0, TF_stop HT (by omega) hge]), (((Below.refl _ _).alloc (Nat.le_refl _) _).trans ((below_next hB hB.size hb).mono (by simp)))⟩
          · have hge' : tl c t k ≤ x := by omega
            go_wp2_with (go_at_call 15; refine (implTurnLength_ok _ _ _ _ Hv (by omega) (by omega) _).mono ?_; rintro e w' ⟨rfl, hb⟩)
            go_roundw
            case rel => exact ⟨k + 1, x - tl c t k, by omega, by omega, by omega, TF_step HT (by omega) (by omega), by go_num, rfl, below_next hB hB.size hb⟩
            case measure => simp [intOf]; omega
        · have hk0 := hide (show k = 300 by omega)
          go_wp2
          go_ret
          exact ⟨ret_int (by rw [tfOf_yes Hv.out g0, TF_end HT hk0.out]; rfl), (((Below.refl _ _).alloc (Nat.le_refl _) _).trans (hB.mono (by simp)))⟩

theorem specTurnsFor0 (c t n l : Int) (h1 : 50 ≤ c) (h2 : c ≤ 400) (h3 : 1 ≤ t) (h4 : t ≤ 9) (g0 : 0 ≤ l) (hl : l ≤ 9223372036854775807) (w : World) : Calls Try.prog 54 #[roll c t n, .int .i64 l] w fun e w' => e = .returned (.int .i64 (tfor c t l)) ∧ Below w.heap.size w w' := by
  go_enter Try.func54, Try.ntmps54
  go_wp2
  go_loopw [1, 5] (fun s i wr => ∃ (k : Nat) (x : Int), (k : Int) ≤ 300 ∧ 0 ≤ x ∧ x ≤ l ∧ TF c t l k x ∧ i = .int .i64 k ∧ s = .int .i64 x ∧ Below (w.alloc (.cells #[.int .i64 c, .int .i64 t, .int .i64 n] 24)).heap.size (w.alloc (.cells #[.int .i64 c, .int .i64 t, .int .i64 n] 24)) wr) (fun _ i _ => (300 - intOf i).toNat)
  case atStart => exact ⟨0, l, by omega, g0, Int.le_refl _, TF_start c t l, rfl, rfl, Below.refl _ _⟩
  case round =>
    obtain ⟨k, x, hk, hx0, hx, HT, rfl, rfl, hB⟩ := hrel
    obtain ⟨hcr, hfr⟩ := bcell hB
    have hz := hB.size
    rw [World.size_alloc] at hz
    by_cases hlt : (k : Int) < 300
    · have b2 := tl_bd h1 h2 h3 h4 (k := (k : Int)) (by omega) (by omega)
      by_cases hge : x < tl c t k
      · go_wp2_with (go_at_call 51; refine (specTurnLength0 _ _ _ _ h1 h2 h3 h4 (by omega) (by omega) _).mono ?_; rintro e w' ⟨rfl, hb⟩; have HB := below_next hB hB.size hb)
        go_ret
        exact ⟨ret_int (by rw [TF_stop HT (by omega) hge]), (((Below.refl _ _).alloc (Nat.le_refl _) _).trans (HB.mono (by simp)))⟩
      · have hge' : tl c t k ≤ x := by omega
        go_wp2_with (go_at_call 51; refine (specTurnLength0 _ _ _ _ h1 h2 h3 h4 (by omega) (by omega) _).mono ?_; rintro e w' ⟨rfl, hb⟩; have HB := below_next (by assumption) (by go_size) hb; have hz' := HB.size; rw [World.size_alloc] at hz'; obtain ⟨hcel, hfro⟩ := bcell HB)
        go_roundw
        case rel => exact ⟨k + 1, x - tl c t k, by omega, by omega, by omega, TF_step HT (by omega) (by omega), by go_num, rfl, by assumption⟩
        case measure => simp [intOf]; omega
    · have hk0 := hide (show k = 300 by omega)
      go_wp2
      go_ret
      exact ⟨ret_int (by rw [TF_end HT hk0.out, hk0.out]), (((Below.refl _ _).alloc (Nat.le_refl _) _).trans (hB.mono (by simp)))⟩

theorem specTurnsFor (c t n l : Int) (hl : l ≤ 9223372036854775807) (w : World) : Calls Try.prog 36 #[roll c t n, .int .i64 l] w fun e w' => e = .returned (.int .i64 (tfOf c t n l)) ∧ Below w.heap.size w w' := by
  cases hv : vr c t n
  · have Hv := hide hv; clear hv
    go_enter Try.func36, Try.ntmps36
    go_wp2_with (go_at_call 49; refine (specValidRoll0 _ _ _ _).mono ?_; rintro e w' ⟨rfl, hb⟩; rw [Hv.out]; have HB : Below w.heap.size w w' := below_next (by go_grown) (by go_size) hb; have hz := HB.size; obtain ⟨hcel, hfro⟩ := bcell hb)
    go_ret
    exact ⟨ret_int (tfOf_no (.inl Hv.out)).symm, by go_grown⟩
  · obtain ⟨h1, h2, h3, h4, h5, h6⟩ := vr_true hv
    have Hv := hide hv; clear hv
    by_cases g : l < 0
    · go_enter Try.func36, Try.ntmps36
      go_wp2_with (go_at_call 49; refine (specValidRoll0 _ _ _ _).mono ?_; rintro e w' ⟨rfl, hb⟩; rw [Hv.out]; have HB : Below w.heap.size w w' := below_next (by go_grown) (by go_size) hb; have hz := HB.size; obtain ⟨hcel, hfro⟩ := bcell hb)
      go_ret
      exact ⟨ret_int (tfOf_no (.inr g)).symm, by go_grown⟩
    · have g0 : 0 ≤ l := by omega
      go_enter Try.func36, Try.ntmps36
      go_wp2_with (first | (go_at_call 49; refine (specValidRoll0 _ _ _ _).mono ?_; rintro e w' ⟨rfl, hb⟩; rw [Hv.out]; have HB : Below w.heap.size w w' := below_next (by go_grown) (by go_size) hb; have hz := HB.size; obtain ⟨hcel, hfro⟩ := bcell hb) | (go_at_call 54; refine (specTurnsFor0 _ _ _ _ h1 h2 h3 h4 g0 hl _).mono ?_; rintro e w' ⟨rfl, hb⟩; have HB : Below w.heap.size w w' := below_next (by go_grown) (by go_size) hb; have hz := HB.size; obtain ⟨hcel, hfro⟩ := bcell hb))
      go_ret
      exact ⟨ret_int (tfOf_yes Hv.out g0).symm, by go_grown⟩
end Go.Proofs.Ytbmnmdpgkdaiiaa
