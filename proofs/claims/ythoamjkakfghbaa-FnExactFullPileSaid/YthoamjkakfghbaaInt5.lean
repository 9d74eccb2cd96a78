/- Contracts of chapters 3 and 4: places in lists, knives, widths, patterns, wants. -/
import Derived.Test.YthoamjkakfghbaaInt2
import Derived.Test.YthoamjkakfghbaaPl3
namespace Go.Proofs.Ythoamjkakfghbaa
open Go.RowKit
set_option linter.unusedVariables false
set_option maxRecDepth 100000

theorem placeIn_any (A : Option Addr) (n c : Nat) (xs : List Int) (y : Int) (w : World) (hn : n ≤ 1048576) (h : Ints w A n xs) :
    Calls Try.prog 75 #[.slice A n c, .int .i64 y] w fun e w' => e = .returned (.int .i64 (pIn xs y)) ∧ w = w' := by
  go_enter Try.func75, Try.ntmps75
  go_wp2
  go_loop [5] (fun i => ∃ k : Nat, k ≤ n ∧ i = .int .i64 k ∧ PI xs y k) (fun i => n - (intOf i).toNat)
  case atStart => exact ⟨0, by omega, rfl, PI_start xs y⟩
  case round =>
    obtain ⟨k, hk, rfl, hP⟩ := hrel
    by_cases hlt : k < n
    · have hx : k < xs.length := by rw [h.1]; exact hlt
      have HX := hide hx; clear hx
      obtain ⟨ad, rfl, hb, hc⟩ := h.2 k hlt
      by_cases he : nth xs k = y
      · have hd : (nth xs k == y) = true := by simpa using he
        have HE := hide he; clear he h
        go_wp2
        go_ret
        exact ⟨ret_int (PI_hit hP HX.out HE.out).symm, rfl⟩
      · have hd : (nth xs k == y) = false := by simpa using he
        have HE := hide he; clear he h
        go_wp2
        go_round
        case rel => exact ⟨k + 1, by omega, by go_num, PI_step hP HX.out HE.out⟩
        case measure => simp [intOf]; omega
    · have : k = n := by omega
      subst this
      go_wp2
      go_ret
      exact ⟨ret_int (PI_end hP (by rw [h.1]; exact Nat.le_refl _)).symm, rfl⟩
theorem index_any (A : Option Addr) (n c : Nat) (xs : List Int) (y : Int) (w : World) (hn : n ≤ 1048576) (h : Ints w A n xs) :
    Calls Try.prog 67 #[.slice A n c, .int .i64 y] w fun e w' => e = .returned (.int .i64 (pIn xs y)) ∧ w = w' := by
  go_enter Try.func67, Try.ntmps67
  go_wp2
  go_loop [8] (fun i => ∃ k : Nat, k ≤ n ∧ i = .int .i64 k ∧ PI xs y k) (fun i => n - (intOf i).toNat)
  case atStart => exact ⟨0, by omega, rfl, PI_start xs y⟩
  case round =>
    obtain ⟨k, hk, rfl, hP⟩ := hrel
    by_cases hlt : k < n
    · have hx : k < xs.length := by rw [h.1]; exact hlt
      have HX := hide hx; clear hx
      obtain ⟨ad, rfl, hb, hc⟩ := h.2 k hlt
      by_cases he : nth xs k = y
      · have hd : (y == nth xs k) = true := by simpa using he.symm
        have HE := hide he; clear he h
        go_wp2
        go_ret
        exact ⟨ret_int (PI_hit hP HX.out HE.out).symm, rfl⟩
      · have hd : (y == nth xs k) = false := by simpa using fun e => he e.symm
        have HE := hide he; clear he h
        go_wp2
        go_round
        case rel => exact ⟨k + 1, by omega, by go_num, PI_step hP HX.out HE.out⟩
        case measure => simp [intOf]; omega
    · have : k = n := by omega
      subst this
      go_wp2
      go_ret
      exact ⟨ret_int (PI_end hP (by rw [h.1]; exact Nat.le_refl _)).symm, rfl⟩
theorem contains_any (A : Option Addr) (n c : Nat) (xs : List Int) (y : Int) (w : World) (hn : n ≤ 1048576) (h : Ints w A n xs) :
    Calls Try.prog 63 #[.slice A n c, .int .i64 y] w fun e w' => e = .returned (.bool (decide (0 ≤ pIn xs y))) ∧ w = w' := by
  go_enter Try.func63, Try.ntmps63
  go_wp2_with (go_at_call 67; refine (index_any _ _ _ _ _ _ hn h).mono ?_; rintro e w' ⟨rfl, rfl⟩)
  go_ret
  exact ⟨rfl, rfl⟩
theorem implValidKnives (A : Option Addr) (n c : Nat) (xs : List Int) (w : World) (hn : n ≤ 1048576) (h : Ints w A n xs) :
    Calls Try.prog 42 #[.slice A n c] w fun e w' => e = .returned (.bool (vKn xs)) ∧ w = w' := by
  by_cases h24 : (24 : Int) < n
  · go_enter Try.func42, Try.ntmps42
    go_wp2
    go_ret
    exact ⟨ret_bool (vKn_no1 (by rw [h.1]; omega)).symm, rfl⟩
  have h24' : (n : Int) ≤ 24 := by omega
  go_enter Try.func42, Try.ntmps42
  go_wp2
  go_loop [10] (fun i => ∃ k : Nat, k ≤ n ∧ i = .int .i64 k ∧ allB (xs.take k) 0 60 = true ∧ Asc xs k) (fun i => n - (intOf i).toNat)
  case atStart => exact ⟨0, by omega, rfl, rfl, fun j hj => by omega⟩
  case round =>
    obtain ⟨k, hk, rfl, hT, hA⟩ := hrel
    have HT := hide hT; clear hT
    have HA := hide hA; clear hA
    by_cases hlt : k < n
    · have hx : k < xs.length := by rw [h.1]; exact hlt
      have HX := hide hx; clear hx
      obtain ⟨ad, rfl, hb, hc⟩ := h.2 k hlt
      rcases (show nth xs k < 0 ∨ (0 ≤ nth xs k ∧ 60 < nth xs k) ∨ (0 ≤ nth xs k ∧ nth xs k ≤ 60) by omega) with g | ⟨g, g'⟩ | ⟨g, g'⟩
      · clear h
        go_wp2
        go_ret
        exact ⟨ret_bool (vKn_no2 (allB_no HX.out (by omega))).symm, rfl⟩
      · clear h
        go_wp2
        go_ret
        exact ⟨ret_bool (vKn_no2 (allB_no HX.out (by omega))).symm, rfl⟩
      · by_cases h0 : 0 < k
        · obtain ⟨j, hj⟩ : ∃ j : Nat, (k : Int) - 1 = j := ⟨k - 1, by omega⟩
          have HJ := hide (show k = j + 1 by omega)
          obtain ⟨ad', e', hb', hc'⟩ := h.2 j (by omega)
          have hj0 : j < n := by omega
          injection e' with e'; subst e'
          by_cases hp : nth xs k ≤ nth xs j
          · clear h
            go_wp2
            go_ret
            exact ⟨ret_bool (vKn_no3 (j := j) (by rw [← HJ.out]; exact HX.out) (by rw [← HJ.out]; exact hp)).symm, rfl⟩
          · have hp' : nth xs j < nth xs k := by omega
            clear h
            go_wp2
            go_round
            case rel => exact ⟨k + 1, by omega, by go_num, allB_take HX.out HT.out ⟨g, g'⟩, Asc_step HA.out (fun _ => by rw [show k - 1 = j by have := HJ.out; omega]; exact hp')⟩
            case measure => simp [intOf]; omega
        · have h0' : (k : Int) ≤ 0 := by omega
          clear h
          go_wp2
          go_round
          case rel => exact ⟨k + 1, by omega, by go_num, allB_take HX.out HT.out ⟨g, g'⟩, Asc_step HA.out (fun h => by omega)⟩
          case measure => simp [intOf]; omega
    · have : k = n := by omega
      subst this
      go_wp2
      go_ret
      exact ⟨ret_bool (vKn_mk (by rw [h.1]; omega) (allB_all h.1 HT.out) (by rw [h.1]; exact HA.out)).symm, rfl⟩
theorem specValidKnives0 (A : Option Addr) (n c : Nat) (xs : List Int) (w : World) (hn : n ≤ 1048576) (h : Ints w A n xs) :
    Calls Try.prog 40 #[.slice A n c] w fun e w' => e = .returned (.bool (vKn xs)) ∧ ∃ m, w' = w.drewN m := by
  go_enter Try.func40, Try.ntmps40
  go_wp2
  go_loopw [3] (fun i wr => ∃ k m : Nat, k ≤ n + 1 ∧ 1 ≤ k ∧ (k = 1 ∨ k ≤ n) ∧ i = .int .i64 k ∧ Asc xs k ∧ wr = w.drewN m) (fun i _ => n - (intOf i).toNat)
  case atStart => exact ⟨1, 0, by omega, by omega, .inl rfl, rfl, fun j hj => by omega, rfl⟩
  case round =>
    obtain ⟨k, m, hk, hk1, hk2, rfl, hA, rfl⟩ := hrel
    have HA := hide hA; clear hA
    have HK2 := hide hk2; clear hk2
    by_cases hlt : k < n
    · obtain ⟨j, hj⟩ : ∃ j : Nat, (k : Int) - 1 = j := ⟨k - 1, by omega⟩
      have HJ := hide (show k = j + 1 by omega)
      have hx : k < xs.length := by rw [h.1]; exact hlt
      have HX := hide hx; clear hx
      obtain ⟨ad, rfl, hb, hc⟩ := h.2 k hlt
      obtain ⟨ad', e', hb', hc'⟩ := h.2 j (by omega)
      have hj0 : j < n := by omega
      have hw : IntKind.i64.wrap ((k : Int) - 1) = j := by rw [hj]; exact IntWalk.i64_in _ ⟨by omega, by omega⟩
      injection e' with e'; subst e'
      by_cases hp : nth xs k ≤ nth xs j
      · clear h
        go_wp2
        go_quiet (fail)
        go_wp2
        go_ret
        exact ⟨ret_bool (vKn_no3 (j := j) (by rw [← HJ.out]; exact HX.out) (by rw [← HJ.out]; exact hp)).symm, _, World.drewN_drewN _ _ _⟩
      · have hp' : nth xs j < nth xs k := by omega
        clear h
        go_wp2
        go_quiet (fail)
        clear hw
        go_wp2
        go_roundw
        case rel => exact ⟨k + 1, _, by omega, by omega, .inr (by omega), by go_num, Asc_step HA.out (fun _ => by rw [show k - 1 = j by have := HJ.out; omega]; exact hp'), rfl⟩
        case measure => simp [intOf]; omega
    · have hz : Asc xs xs.length := by
        rw [h.1]
        intro j hj
        exact HA.out j (by omega)
      have HZ := hide hz; clear hz
      by_cases h24 : (n : Int) ≤ 24
      · go_wp2_with (go_at_call 68; refine (allIn_any _ _ _ _ _ _ _ hn (h.drewN _)).mono ?_; rintro e w' ⟨rfl, rfl⟩)
        go_ret
        exact ⟨ret_bool (by rw [vKn, decide_eq_true (by rw [h.1]; omega), ascB_iff.2 HZ.out]; simp), m, rfl⟩
      · have h24' : (24 : Int) < n := by omega
        go_wp2
        go_ret
        exact ⟨ret_bool (vKn_no1 (by rw [h.1]; omega)).symm, m, rfl⟩
end Go.Proofs.Ythoamjkakfghbaa
