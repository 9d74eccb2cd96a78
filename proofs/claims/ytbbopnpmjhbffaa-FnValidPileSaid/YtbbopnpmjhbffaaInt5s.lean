/- Contracts of places in lists. -/
import Derived.Test.YtbbopnpmjhbffaaInt1
import Derived.Test.YtbbopnpmjhbffaaPl3
namespace Go.Proofs.Ytbbopnpmjhbffaa
open Go.RowKit
set_option linter.unusedVariables false
set_option maxRecDepth 100000

theorem placeIn_any (A : Option Addr) (n c : Nat) (xs : List Int) (y : Int) (w : World) (hn : n ≤ 1048576) (h : Ints w A n xs) :
    Calls Try.prog 42 #[.slice A n c, .int .i64 y] w fun e w' => e = .returned (.int .i64 (pIn xs y)) ∧ w = w' := by
  go_enter Try.func42, Try.ntmps42
  go_wp2
  go_loop [5] (fun i => ∃ k : Nat, k ≤ n ∧ i = .int .i64 k ∧ PI xs y k) (fun i => n - (intOf i).toNat)
  case atStart => exact ⟨0, by omega, rfl, PI_start xs y⟩
  case round =>
    obtain ⟨k, hk, rfl, hP⟩ := hrel
    by_cases hlt : k < n
    · have hx : k < xs.length := by rw [h.1]; exact hlt
      have HX := hide hx; clear hx
      obtain ⟨ad, rfl, hb, hc⟩ := h.2 k hlt
      by_cases he : nth xs k = y
      · have hd : (nth xs k == y) = true := by simpa using he
        have HE := hide he; clear he h
        go_wp2
        go_ret
        exact ⟨ret_int (PI_hit hP HX.out HE.out).symm, rfl⟩
      · have hd : (nth xs k == y) = false := by simpa using he
        have HE := hide he; clear he h
        go_wp2
        go_round
        case rel => exact ⟨k + 1, by omega, by go_num, PI_step hP HX.out HE.out⟩
        case measure => simp [intOf]; omega
    · have : k = n := by omega
      subst this
      go_wp2
      go_ret
      exact ⟨ret_int (PI_end hP (by rw [h.1]; exact Nat.le_refl _)).symm, rfl⟩
theorem index_any (A : Option Addr) (n c : Nat) (xs : List Int) (y : Int) (w : World) (hn : n ≤ 1048576) (h : Ints w A n xs) :
    Calls Try.prog 41 #[.slice A n c, .int .i64 y] w fun e w' => e = .returned (.int .i64 (pIn xs y)) ∧ w = w' := by
  go_enter Try.func41, Try.ntmps41
  go_wp2
  go_loop [8] (fun i => ∃ k : Nat, k ≤ n ∧ i = .int .i64 k ∧ PI xs y k) (fun i => n - (intOf i).toNat)
  case atStart => exact ⟨0, by omega, rfl, PI_start xs y⟩
  case round =>
    obtain ⟨k, hk, rfl, hP⟩ := hrel
    by_cases hlt : k < n
    · have hx : k < xs.length := by rw [h.1]; exact hlt
      have HX := hide hx; clear hx
      obtain ⟨ad, rfl, hb, hc⟩ := h.2 k hlt
      by_cases he : nth xs k = y
      · have hd : (y == nth xs k) = true := by simpa using he.symm
        have HE := hide he; clear he h
        go_wp2
        go_ret
        exact ⟨ret_int (PI_hit hP HX.out HE.out).symm, rfl⟩
      · have hd : (y == nth xs k) = false := by simpa using fun e => he e.symm
        have HE := hide he; clear he h
        go_wp2
        go_round
        case rel => exact ⟨k + 1, by omega, by go_num, PI_step hP HX.out HE.out⟩
        case measure => simp [intOf]; omega
    · have : k = n := by omega
      subst this
      go_wp2
      go_ret
      exact ⟨ret_int (PI_end hP (by rw [h.1]; exact Nat.le_refl _)).symm, rfl⟩
theorem contains_any (A : Option Addr) (n c : Nat) (xs : List Int) (y : Int) (w : World) (hn : n ≤ 1048576) (h : Ints w A n xs) :
    Calls Try.prog 30 #[.slice A n c, .int .i64 y] w fun e w' => e = .returned (.bool (decide (0 ≤ pIn xs y))) ∧ w = w' := by
  go_enter Try.func30, Try.ntmps30
  go_wp2_with (go_at_call 41; refine (index_any _ _ _ _ _ _ hn h).mono ?_; rintro e w' ⟨rfl, rfl⟩)
  go_ret
  exact ⟨rfl, rfl⟩
end Go.Proofs.Ytbbopnpmjhbffaa
