/- Contracts of chapter 5: lengths, sums, ends, places. -/
import Derived.Test.YtagnliolaghehaaInt1
import Derived.Test.YtagnliolaghehaaPl5
namespace Go.Proofs.Ytagnliolaghehaa
open Go.RowKit
set_option linter.unusedVariables false
set_option maxRecDepth 100000

theorem allIn_any (A : Option Addr) (n c : Nat) (xs : List Int) (lo hi : Int) (w : World) (hn : n ≤ 1048576) (h : Ints w A n xs) :
    Calls Try.prog 18 #[.slice A n c, .int .i64 lo, .int .i64 hi] w fun e w' => e = .returned (.bool (allB xs lo hi)) ∧ w = w' := by
  go_enter Try.func18, Try.ntmps18
  go_wp2
  go_loop [7] (fun i => ∃ k : Nat, k ≤ n ∧ i = .int .i64 k ∧ allB (xs.take k) lo hi = true) (fun i => n - (intOf i).toNat)
  case atStart => exact ⟨0, by omega, rfl, rfl⟩
  case round =>
    obtain ⟨k, hk, rfl, hT⟩ := hrel
    have HT := hide hT; clear hT
    by_cases hlt : k < n
    · have hx : k < xs.length := by rw [h.1]; exact hlt
      have HX := hide hx; clear hx
      obtain ⟨ad, rfl, hb, hc⟩ := h.2 k hlt
      by_cases hin : lo ≤ nth xs k ∧ nth xs k ≤ hi
      · have hd : decide (lo ≤ nth xs k ∧ nth xs k ≤ hi) = true := decide_eq_true hin
        have HI := hide hin; clear hin h
        go_wp2_with (go_at_call 19; refine (inRange_any _ _ _ _).mono ?_; rintro e w' ⟨rfl, rfl⟩)
        go_round
        case rel => exact ⟨k + 1, by omega, by go_num, allB_take HX.out HT.out HI.out⟩
        case measure => simp [intOf]; omega
      · have hd : decide (lo ≤ nth xs k ∧ nth xs k ≤ hi) = false := decide_eq_false hin
        have HI := hide hin; clear hin h
        go_wp2_with (go_at_call 19; refine (inRange_any _ _ _ _).mono ?_; rintro e w' ⟨rfl, rfl⟩)
        go_ret
        exact ⟨ret_bool (allB_no HX.out HI.out).symm, rfl⟩
    · have : k = n := by omega
      subst this
      go_wp2
      go_ret
      exact ⟨ret_bool (allB_all h.1 HT.out).symm, rfl⟩

theorem specTotal (A : Option Addr) (n c : Nat) (xs : List Int) (w : World) (hn : n ≤ 1048576) (h : Ints w A n xs) (hx : ∀ x ∈ xs, 0 ≤ x ∧ x ≤ 1000000) :
    Calls Try.prog 9 #[.slice A n c] w fun e w' => e = .returned (.int .i64 (tot xs)) ∧ w = w' := by
  have HX := hide hx; clear hx
  go_enter Try.func9, Try.ntmps9
  go_wp2
  go_loop [3, 4] (fun s i => ∃ k : Nat, k ≤ n ∧ i = .int .i64 k ∧ s = .int .i64 (tot (xs.take k))) (fun _ i => n - (intOf i).toNat)
  case atStart => exact ⟨0, by omega, rfl, rfl⟩
  case round =>
    obtain ⟨k, hk, rfl, rfl⟩ := hrel
    obtain ⟨t1, t2⟩ := tot_pre HX.out (by rw [h.1]; exact hn) k
    by_cases hlt : k < n
    · have hx : k < xs.length := by rw [h.1]; exact hlt
      obtain ⟨ad, rfl, hb, hc⟩ := h.2 k hlt
      have t3 := HX.out _ (nth_mem hx)
      have HK := hide hx; clear hx h
      go_wp2
      go_round
      case rel => exact ⟨k + 1, by omega, by go_num, by rw [tot_take HK.out]⟩
      case measure => simp [intOf]; omega
    · have : k = n := by omega
      subst this
      go_wp2
      go_ret
      exact ⟨ret_int (by rw [List.take_of_length_le (by rw [h.1]; exact Nat.le_refl _)]), rfl⟩

theorem implSumOf (A : Option Addr) (n c : Nat) (xs : List Int) (w : World) (hn : n ≤ 1048576) (h : Ints w A n xs) (hx : ∀ x ∈ xs, 0 ≤ x ∧ x ≤ 1000000) :
    Calls Try.prog 14 #[.slice A n c] w fun e w' => e = .returned (.int .i64 (tot xs)) ∧ w = w' := by
  have HX := hide hx; clear hx
  go_enter Try.func14, Try.ntmps14
  go_wp2
  go_loop [3, 8] (fun s i => ∃ k : Nat, k ≤ n ∧ i = .int .i64 k ∧ s = .int .i64 (tot (xs.take k))) (fun _ i => n - (intOf i).toNat)
  case atStart => exact ⟨0, by omega, rfl, rfl⟩
  case round =>
    obtain ⟨k, hk, rfl, rfl⟩ := hrel
    obtain ⟨t1, t2⟩ := tot_pre HX.out (by rw [h.1]; exact hn) k
    by_cases hlt : k < n
    · have hx : k < xs.length := by rw [h.1]; exact hlt
      obtain ⟨ad, rfl, hb, hc⟩ := h.2 k hlt
      have t3 := HX.out _ (nth_mem hx)
      have HK := hide hx; clear hx h
      go_wp2
      go_round
      case rel => exact ⟨k + 1, by omega, by go_num, by rw [tot_take HK.out]⟩
      case measure => simp [intOf]; omega
    · have : k = n := by omega
      subst this
      go_wp2
      go_ret
      exact ⟨ret_int (by rw [List.take_of_length_le (by rw [h.1]; exact Nat.le_refl _)]), rfl⟩
theorem implValidLengths (A : Option Addr) (n c : Nat) (xs : List Int) (w : World) (hn : n ≤ 1048576) (h : Ints w A n xs) :
    Calls Try.prog 17 #[.slice A n c] w fun e w' => e = .returned (.bool (vLen xs)) ∧ w = w' := by
  by_cases h60 : (60 : Int) < n
  · go_enter Try.func17, Try.ntmps17
    go_wp2
    go_ret
    exact ⟨ret_bool (vLen_no1 (by rw [h.1]; omega)).symm, rfl⟩
  have h60' : (n : Int) ≤ 60 := by omega
  go_enter Try.func17, Try.ntmps17
  go_wp2
  go_loop [10] (fun i => ∃ k : Nat, k ≤ n ∧ i = .int .i64 k ∧ allB (xs.take k) 1 400 = true) (fun i => n - (intOf i).toNat)
  case atStart => exact ⟨0, by omega, rfl, rfl⟩
  case round =>
    obtain ⟨k, hk, rfl, hT⟩ := hrel
    have HT := hide hT; clear hT
    by_cases hlt : k < n
    · have hx : k < xs.length := by rw [h.1]; exact hlt
      have HX := hide hx; clear hx
      obtain ⟨ad, rfl, hb, hc⟩ := h.2 k hlt
      clear h
      rcases (show nth xs k < 1 ∨ (1 ≤ nth xs k ∧ 400 < nth xs k) ∨ (1 ≤ nth xs k ∧ nth xs k ≤ 400) by omega) with g | ⟨g, g'⟩ | ⟨g, g'⟩
      · go_wp2
        go_ret
        exact ⟨ret_bool (vLen_no2 (allB_no HX.out (by omega))).symm, rfl⟩
      · go_wp2
        go_ret
        exact ⟨ret_bool (vLen_no2 (allB_no HX.out (by omega))).symm, rfl⟩
      · go_wp2
        go_round
        case rel => exact ⟨k + 1, by omega, by go_num, allB_take HX.out HT.out (by omega)⟩
        case measure => simp [intOf]; omega
    · have : k = n := by omega
      subst this
      go_wp2
      go_ret
      exact ⟨ret_bool (vLen_mk (by rw [h.1]; omega) (allB_all h.1 HT.out)).symm, rfl⟩
theorem specValidLengths0 (A : Option Addr) (n c : Nat) (xs : List Int) (w : World) (hn : n ≤ 1048576) (h : Ints w A n xs) :
    Calls Try.prog 15 #[.slice A n c] w fun e w' => e = .returned (.bool (vLen xs)) ∧ w = w' := by
  by_cases h60 : (n : Int) ≤ 60
  · go_enter Try.func15, Try.ntmps15
    go_wp2_with (go_at_call 18; refine (allIn_any _ _ _ _ _ _ _ hn h).mono ?_; rintro e w' ⟨rfl, rfl⟩)
    go_ret
    exact ⟨ret_bool (by rw [vLen, decide_eq_true (by rw [h.1]; omega)]; rfl), rfl⟩
  · have h60' : (60 : Int) < n := by omega
    go_enter Try.func15, Try.ntmps15
    go_wp2
    go_ret
    exact ⟨ret_bool (vLen_no1 (by rw [h.1]; omega)).symm, rfl⟩
end Go.Proofs.Ytagnliolaghehaa
