/- Contracts of chapter 1, third part: turns under a diameter, winding, and the laws' own helpers. -/
import Derived.Test.YtbmnmdpgkdaiiaaRoll2
namespace Go.Proofs.Ytbmnmdpgkdaiiaa
open Go.RowKit Pl
set_option linter.unusedVariables false
set_option maxRecDepth 100000

theorem implTurnsUnder (c t n m : Int) (hm : m ≤ 9223372036854775807) (w : World) : Calls Try.prog 22 #[roll c t n, .int .i64 m] w fun e w' => e = .returned (.int .i64 (duOf c t n m)) ∧ Below w.heap.size w w' := by
  cases hv : vr c t n
  · have Hv := hide hv; clear hv
    go_enter Try.func22, Try.ntmps22
    go_wp2_with (go_at_call 25; refine (implValidRoll _ _ _ _).mono ?_; rintro e w' ⟨rfl, hb⟩; rw [Hv.out]; have HB : Below w.heap.size w w' := below_next (by go_grown) (by go_size) hb; have hz := HB.size; obtain ⟨hcel, hfro⟩ := bcell hb)
    go_ret
    exact ⟨ret_int (duOf_no (.inl Hv.out)).symm, by go_grown⟩
  · obtain ⟨h1, h2, h3, h4, h5, h6⟩ := vr_true hv
    have Hv := hide hv; clear hv
    by_cases g : m < c
    · go_enter Try.func22, Try.ntmps22
      go_wp2_with (go_at_call 25; refine (implValidRoll _ _ _ _).mono ?_; rintro e w' ⟨rfl, hb⟩; rw [Hv.out]; have HB : Below w.heap.size w w' := below_next (by go_grown) (by go_size) hb; have hz := HB.size; obtain ⟨hcel, hfro⟩ := bcell hb)
      go_ret
      exact ⟨ret_int (duOf_no (.inr g)).symm, by go_grown⟩
    · have g0 : c ≤ m := by omega
      have hq : 0 ≤ (m - c) / (2 * t) := Int.ediv_nonneg (by omega) (by omega)
      go_enter Try.func22, Try.ntmps22
      go_wp2_with (go_at_call 25; refine (implValidRoll _ _ _ _).mono ?_; rintro e w' ⟨rfl, hb⟩; rw [Hv.out]; have HB : Below w.heap.size w w' := below_next (by go_grown) (by go_size) hb; have hz := HB.size; obtain ⟨hcel, hfro⟩ := bcell hb)
      all_goals go_ret
      all_goals refine ⟨ret_int ?_, by go_grown⟩
      all_goals rw [duOf_yes Hv.out g0, du]
      all_goals omega

theorem specTurnsUnder (c t n m : Int) (hm : m ≤ 9223372036854775807) (w : World) : Calls Try.prog 23 #[roll c t n, .int .i64 m] w fun e w' => e = .returned (.int .i64 (duOf c t n m)) ∧ Below w.heap.size w w' := by
  cases hv : vr c t n
  · have Hv := hide hv; clear hv
    go_enter Try.func23, Try.ntmps23
    go_wp2_with (go_at_call 49; refine (specValidRoll0 _ _ _ _).mono ?_; rintro e w' ⟨rfl, hb⟩; rw [Hv.out]; have HB : Below w.heap.size w w' := below_next (by go_grown) (by go_size) hb; have hz := HB.size; obtain ⟨hcel, hfro⟩ := bcell hb)
    go_ret
    exact ⟨ret_int (duOf_no (.inl Hv.out)).symm, by go_grown⟩
  · obtain ⟨h1, h2, h3, h4, h5, h6⟩ := vr_true hv
    have Hv := hide hv; clear hv
    by_cases g : m < c
    · go_enter Try.func23, Try.ntmps23
      go_wp2_with (go_at_call 49; refine (specValidRoll0 _ _ _ _).mono ?_; rintro e w' ⟨rfl, hb⟩; rw [Hv.out]; have HB : Below w.heap.size w w' := below_next (by go_grown) (by go_size) hb; have hz := HB.size; obtain ⟨hcel, hfro⟩ := bcell hb)
      go_ret
      exact ⟨ret_int (duOf_no (.inr g)).symm, by go_grown⟩
    · have g0 : c ≤ m := by omega
      go_enter Try.func23, Try.ntmps23
      go_wp2_with (go_at_call 49; refine (specValidRoll0 _ _ _ _).mono ?_; rintro e w1 ⟨rfl, hb⟩; rw [Hv.out]; obtain ⟨hcel, hfro⟩ := bcell hb)
      go_loopw [5] (fun i wr => ∃ k : Nat, (k : Int) ≤ 300 ∧ c + 2 * t * k ≤ m ∧ i = .int .i64 k ∧ Below (w.alloc (.cells #[.int .i64 c, .int .i64 t, .int .i64 n] 24)).heap.size (w.alloc (.cells #[.int .i64 c, .int .i64 t, .int .i64 n] 24)) wr) (fun i _ => (300 - intOf i).toNat)
      case atStart => exact ⟨0, by omega, by simpa using g0, rfl, hb⟩
      case round =>
        obtain ⟨k, hk, hx, rfl, hB⟩ := hrel
        obtain ⟨hcr, hfr⟩ := bcell hB
        have hz := hB.size
        rw [World.size_alloc] at hz
        clear hb hcel hfro
        by_cases hlt : (k : Int) < 300
        · have b2 := tk_bd h3 h4 (k := (k : Int) + 1) (by omega) (by omega)
          by_cases hge : m < c + 2 * t * ((k : Int) + 1)
          · go_wp2_with (go_at_call 52; refine (specDiameter _ _ _ _ h1 h2 h3 h4 (by omega) (by omega) _).mono ?_; rintro e w' ⟨rfl, hb⟩; have HB := below_next hB hB.size hb)
            go_ret
            exact ⟨ret_int (by rw [duOf_yes Hv.out g0, du_of h3 (by omega) hk hx (fun _ => hge)]), (((Below.refl _ _).alloc (Nat.le_refl _) _).trans (HB.mono (by simp)))⟩
          · have hge' : c + 2 * t * ((k : Int) + 1) ≤ m := by omega
            go_wp2_with (go_at_call 52; refine (specDiameter _ _ _ _ h1 h2 h3 h4 (by omega) (by omega) _).mono ?_; rintro e w' ⟨rfl, hb⟩; have HB := below_next hB hB.size hb)
            go_roundw
            case rel => exact ⟨k + 1, by omega, by push_cast; omega, by go_num, HB⟩
            case measure => simp [intOf]; omega
        · have hk0 := hide (show (k : Int) = 300 by omega)
          go_wp2
          go_ret
          exact ⟨ret_int (by rw [duOf_yes Hv.out g0, du_of h3 (by omega) hk hx (fun h => absurd h (by omega))]), (((Below.refl _ _).alloc (Nat.le_refl _) _).trans (hB.mono (by simp)))⟩

end Go.Proofs.Ytbmnmdpgkdaiiaa
