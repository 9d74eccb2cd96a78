/- Contracts of chapters 3 and 4: places in lists, knives, widths, patterns, wants. -/
import Derived.Test.YtkmogpeiolkpbaaInt2
import Derived.Test.YtkmogpeiolkpbaaPl3
namespace Go.Proofs.Ytkmogpeiolkpbaa
open Go.RowKit
set_option linter.unusedVariables false
set_option maxRecDepth 100000

theorem placeIn_any (A : Option Addr) (n c : Nat) (xs : List Int) (y : Int) (w : World) (hn : n ≤ 1048576) (h : Ints w A n xs) :
    Calls Try.prog 77 #[.slice A n c, .int .i64 y] w fun e w' => e = .returned (.int .i64 (pIn xs y)) ∧ w = w' := by
  go_enter Try.func77, Try.ntmps77
  go_wp2
  go_loop [5] (fun i => ∃ k : Nat, k ≤ n ∧ i = .int .i64 k ∧ PI xs y k) (fun i => n - (intOf i).toNat)
  case atStart => exact ⟨0, by omega, rfl, PI_start xs y⟩
  case round =>
    obtain ⟨k, hk, rfl, hP⟩ := hrel
    by_cases hlt : k < n
    · have hx : k < xs.length := by rw [h.1]; exact hlt
      have HX := hide hx; clear hx
      obtain ⟨ad, rfl, hb, hc⟩ := h.2 k hlt
      by_cases he : nth xs k = y
      · have hd : (nth xs k == y) = true := by simpa using he
        have HE := hide he; clear he h
        go_wp2
        go_ret
        exact ⟨ret_int (PI_hit hP HX.out HE.out).symm, rfl⟩
      · have hd : (nth xs k == y) = false := by simpa using he
        have HE := hide he; clear he h
        go_wp2
        go_round
        case rel => exact ⟨k + 1, by omega, by go_num, PI_step hP HX.out HE.out⟩
        case measure => simp [intOf]; omega
    · have : k = n := by omega
      subst this
      go_wp2
      go_ret
      exact ⟨ret_int (PI_end hP (by rw [h.1]; exact Nat.le_refl _)).symm, rfl⟩
theorem index_any (A : Option Addr) (n c : Nat) (xs : List Int) (y : Int) (w : World) (hn : n ≤ 1048576) (h : Ints w A n xs) :
    Calls Try.prog 76 #[.slice A n c, .int .i64 y] w fun e w' => e = .returned (.int .i64 (pIn xs y)) ∧ w = w' := by
  go_enter Try.func76, Try.ntmps76
  go_wp2
  go_loop [8] (fun i => ∃ k : Nat, k ≤ n ∧ i = .int .i64 k ∧ PI xs y k) (fun i => n - (intOf i).toNat)
  case atStart => exact ⟨0, by omega, rfl, PI_start xs y⟩
  case round =>
    obtain ⟨k, hk, rfl, hP⟩ := hrel
    by_cases hlt : k < n
    · have hx : k < xs.length := by rw [h.1]; exact hlt
      have HX := hide hx; clear hx
      obtain ⟨ad, rfl, hb, hc⟩ := h.2 k hlt
      by_cases he : nth xs k = y
      · have hd : (y == nth xs k) = true := by simpa using he.symm
        have HE := hide he; clear he h
        go_wp2
        go_ret
        exact ⟨ret_int (PI_hit hP HX.out HE.out).symm, rfl⟩
      · have hd : (y == nth xs k) = false := by simpa using fun e => he e.symm
        have HE := hide he; clear he h
        go_wp2
        go_round
        case rel => exact ⟨k + 1, by omega, by go_num, PI_step hP HX.out HE.out⟩
        case measure => simp [intOf]; omega
    · have : k = n := by omega
      subst this
      go_wp2
      go_ret
      exact ⟨ret_int (PI_end hP (by rw [h.1]; exact Nat.le_refl _)).symm, rfl⟩
theorem contains_any (A : Option Addr) (n c : Nat) (xs : List Int) (y : Int) (w : World) (hn : n ≤ 1048576) (h : Ints w A n xs) :
    Calls Try.prog 66 #[.slice A n c, .int .i64 y] w fun e w' => e = .returned (.bool (decide (0 ≤ pIn xs y))) ∧ w = w' := by
  go_enter Try.func66, Try.ntmps66
  go_wp2_with (go_at_call 76; refine (index_any _ _ _ _ _ _ hn h).mono ?_; rintro e w' ⟨rfl, rfl⟩)
  go_ret
  exact ⟨rfl, rfl⟩
theorem implValidKnives (A : Option Addr) (n c : Nat) (xs : List Int) (w : World) (hn : n ≤ 1048576) (h : Ints w A n xs) :
    Calls Try.prog 25 #[.slice A n c] w fun e w' => e = .returned (.bool (vKn xs)) ∧ w = w' := by
  by_cases h24 : (24 : Int) < n
  · go_enter Try.func25, Try.ntmps25
    go_wp2
    go_ret
    exact ⟨ret_bool (vKn_no1 (by rw [h.1]; omega)).symm, rfl⟩
  have h24' : (n : Int) ≤ 24 := by omega
  go_enter Try.func25, Try.ntmps25
  go_wp2
  go_loop [10] (fun i => ∃ k : Nat, k ≤ n ∧ i = .int .i64 k ∧ allB (xs.take k) 0 60 = true ∧ Asc xs k) (fun i => n - (intOf i).toNat)
  case atStart => exact ⟨0, by omega, rfl, rfl, fun j hj => by omega⟩
  case round =>
    obtain ⟨k, hk, rfl, hT, hA⟩ := hrel
    have HT := hide hT; clear hT
    have HA := hide hA; clear hA
    by_cases hlt : k < n
    · have hx : k < xs.length := by rw [h.1]; exact hlt
      have HX := hide hx; clear hx
      obtain ⟨ad, rfl, hb, hc⟩ := h.2 k hlt
      rcases (show nth xs k < 0 ∨ (0 ≤ nth xs k ∧ 60 < nth xs k) ∨ (0 ≤ nth xs k ∧ nth xs k ≤ 60) by omega) with g | ⟨g, g'⟩ | ⟨g, g'⟩
      · clear h
        go_wp2
        go_ret
        exact ⟨ret_bool (vKn_no2 (allB_no HX.out (by omega))).symm, rfl⟩
      · clear h
        go_wp2
        go_ret
        exact ⟨ret_bool (vKn_no2 (allB_no HX.out (by omega))).symm, rfl⟩
      · by_cases h0 : 0 < k
        · obtain ⟨j, hj⟩ : ∃ j : Nat, (k : Int) - 1 = j := ⟨k - 1, by omega⟩
          have HJ := hide (show k = j + 1 by omega)
          obtain ⟨ad', e', hb', hc'⟩ := h.2 j (by omega)
          have hj0 : j < n := by omega
          injection e' with e'; subst e'
          by_cases hp : nth xs k ≤ nth xs j
          · clear h
            go_wp2
            go_ret
            exact ⟨ret_bool (vKn_no3 (j := j) (by rw [← HJ.out]; exact HX.out) (by rw [← HJ.out]; exact hp)).symm, rfl⟩
          · have hp' : nth xs j < nth xs k := by omega
            clear h
            go_wp2
            go_round
            case rel => exact ⟨k + 1, by omega, by go_num, allB_take HX.out HT.out ⟨g, g'⟩, Asc_step HA.out (fun _ => by rw [show k - 1 = j by have := HJ.out; omega]; exact hp')⟩
            case measure => simp [intOf]; omega
        · have h0' : (k : Int) ≤ 0 := by omega
          clear h
          go_wp2
          go_round
          case rel => exact ⟨k + 1, by omega, by go_num, allB_take HX.out HT.out ⟨g, g'⟩, Asc_step HA.out (fun h => by omega)⟩
          case measure => simp [intOf]; omega
    · have : k = n := by omega
      subst this
      go_wp2
      go_ret
      exact ⟨ret_bool (vKn_mk (by rw [h.1]; omega) (allB_all h.1 HT.out) (by rw [h.1]; exact HA.out)).symm, rfl⟩
theorem specValidKnives0 (A : Option Addr) (n c : Nat) (xs : List Int) (w : World) (hn : n ≤ 1048576) (h : Ints w A n xs) :
    Calls Try.prog 59 #[.slice A n c] w fun e w' => e = .returned (.bool (vKn xs)) ∧ ∃ m, w' = w.drewN m := by
  go_enter Try.func59, Try.ntmps59
  go_wp2
  go_loopw [3] (fun i wr => ∃ k m : Nat, k ≤ n + 1 ∧ 1 ≤ k ∧ (k = 1 ∨ k ≤ n) ∧ i = .int .i64 k ∧ Asc xs k ∧ wr = w.drewN m) (fun i _ => n - (intOf i).toNat)
  case atStart => exact ⟨1, 0, by omega, by omega, .inl rfl, rfl, fun j hj => by omega, rfl⟩
  case round =>
    obtain ⟨k, m, hk, hk1, hk2, rfl, hA, rfl⟩ := hrel
    have HA := hide hA; clear hA
    have HK2 := hide hk2; clear hk2
    by_cases hlt : k < n
    · obtain ⟨j, hj⟩ : ∃ j : Nat, (k : Int) - 1 = j := ⟨k - 1, by omega⟩
      have HJ := hide (show k = j + 1 by omega)
      have hx : k < xs.length := by rw [h.1]; exact hlt
      have HX := hide hx; clear hx
      obtain ⟨ad, rfl, hb, hc⟩ := h.2 k hlt
      obtain ⟨ad', e', hb', hc'⟩ := h.2 j (by omega)
      have hj0 : j < n := by omega
      have hw : IntKind.i64.wrap ((k : Int) - 1) = j := by rw [hj]; exact IntWalk.i64_in _ ⟨by omega, by omega⟩
      injection e' with e'; subst e'
      by_cases hp : nth xs k ≤ nth xs j
      · clear h
        go_wp2
        go_quiet (fail)
        go_wp2
        go_ret
        exact ⟨ret_bool (vKn_no3 (j := j) (by rw [← HJ.out]; exact HX.out) (by rw [← HJ.out]; exact hp)).symm, _, World.drewN_drewN _ _ _⟩
      · have hp' : nth xs j < nth xs k := by omega
        clear h
        go_wp2
        go_quiet (fail)
        clear hw
        go_wp2
        go_roundw
        case rel => exact ⟨k + 1, _, by omega, by omega, .inr (by omega), by go_num, Asc_step HA.out (fun _ => by rw [show k - 1 = j by have := HJ.out; omega]; exact hp'), rfl⟩
        case measure => simp [intOf]; omega
    · have hz : Asc xs xs.length := by
        rw [h.1]
        intro j hj
        exact HA.out j (by omega)
      have HZ := hide hz; clear hz
      by_cases h24 : (n : Int) ≤ 24
      · go_wp2_with (go_at_call 71; refine (allIn_any _ _ _ _ _ _ _ hn (h.drewN _)).mono ?_; rintro e w' ⟨rfl, rfl⟩)
        go_ret
        exact ⟨ret_bool (by rw [vKn, decide_eq_true (by rw [h.1]; omega), ascB_iff.2 HZ.out]; simp), m, rfl⟩
      · have h24' : (24 : Int) < n := by omega
        go_wp2
        go_ret
        exact ⟨ret_bool (vKn_no1 (by rw [h.1]; omega)).symm, m, rfl⟩
theorem specValidKnives (A : Option Addr) (n c : Nat) (xs : List Int) (w : World) (hn : n ≤ 1048576) (h : Ints w A n xs) :
    Calls Try.prog 26 #[.slice A n c] w fun e w' => e = .returned (.bool (vKn xs)) ∧ Below w.heap.size w w' := by
  go_enter Try.func26, Try.ntmps26
  go_wp2_with (go_at_call 59; refine (specValidKnives0 _ _ _ _ _ hn h).mono ?_; rintro e w' ⟨rfl, m, rfl⟩)
  go_ret
  exact ⟨rfl, below_of_drewN _ _⟩
theorem mem_take_dec {xs : List Int} {y : Int} : decide (0 ≤ pIn xs y) = decide (y ∈ xs) := by simp [pIn_nonneg]
theorem implValidWidths (A : Option Addr) (n c : Nat) (width : Int) (xs : List Int) (w : World) (hn : n ≤ 1048576) (hc : n ≤ c) (h : Ints w A n xs) :
    Calls Try.prog 34 #[.int .i64 width, .slice A n c] w fun e w' => e = .returned (.bool (vWd width xs)) ∧ w = w' := by
  rcases (show width < 1 ∨ (1 ≤ width ∧ 60 < width) ∨ (1 ≤ width ∧ width ≤ 60) by omega) with g | ⟨g, g'⟩ | ⟨g, g'⟩
  · go_enter Try.func34, Try.ntmps34
    go_wp2
    go_ret
    exact ⟨ret_bool (vWd_no1 (by omega)).symm, rfl⟩
  · go_enter Try.func34, Try.ntmps34
    go_wp2
    go_ret
    exact ⟨ret_bool (vWd_no1 (by omega)).symm, rfl⟩
  rcases (show (n : Int) < 1 ∨ (1 ≤ (n : Int) ∧ 6 < (n : Int)) ∨ (1 ≤ (n : Int) ∧ (n : Int) ≤ 6) by omega) with f | ⟨f, f'⟩ | ⟨f, f'⟩
  · go_enter Try.func34, Try.ntmps34
    go_wp2
    go_ret
    exact ⟨ret_bool (vWd_no2 (by rw [h.1]; omega)).symm, rfl⟩
  · go_enter Try.func34, Try.ntmps34
    go_wp2
    go_ret
    exact ⟨ret_bool (vWd_no2 (by rw [h.1]; omega)).symm, rfl⟩
  go_enter Try.func34, Try.ntmps34
  go_wp2
  go_loop [25] (fun i => ∃ k : Nat, k ≤ n ∧ i = .int .i64 k ∧ allB (xs.take k) 1 width = true ∧ Nd xs k) (fun i => n - (intOf i).toNat)
  case atStart => exact ⟨0, by omega, rfl, rfl, fun j hj => by omega⟩
  case round =>
    obtain ⟨k, hk, rfl, hT, hN⟩ := hrel
    have HT := hide hT; clear hT
    have HN := hide hN; clear hN
    by_cases hlt : k < n
    · have hx : k < xs.length := by rw [h.1]; exact hlt
      have HX := hide hx; clear hx
      have hI := h.take hk
      obtain ⟨ad, rfl, hb, hcl⟩ := h.2 k hlt
      rcases (show nth xs k < 1 ∨ (1 ≤ nth xs k ∧ width < nth xs k) ∨ (1 ≤ nth xs k ∧ nth xs k ≤ width) by omega) with q | ⟨q, q'⟩ | ⟨q, q'⟩
      · clear h
        go_wp2
        go_ret
        exact ⟨ret_bool (vWd_no3 HX.out (by omega)).symm, rfl⟩
      · clear h
        go_wp2
        go_ret
        exact ⟨ret_bool (vWd_no3 HX.out (by omega)).symm, rfl⟩
      · have hkc : (k : Int) ≤ c := by omega
        by_cases hm : nth xs k ∈ xs.take k
        · have hd : decide (0 ≤ pIn (xs.take k) (nth xs k)) = true := by rw [mem_take_dec]; exact decide_eq_true hm
          have HM := hide hm; clear hm h
          go_wp2_with (go_at_call 66; refine (contains_any _ _ _ _ _ _ (by omega) hI).mono ?_; rintro e w' ⟨rfl, rfl⟩)
          go_ret
          exact ⟨ret_bool (vWd_no4 HX.out HM.out).symm, rfl⟩
        · have hd : decide (0 ≤ pIn (xs.take k) (nth xs k)) = false := by rw [mem_take_dec]; exact decide_eq_false hm
          have HM := hide hm; clear hm h
          go_wp2_with (go_at_call 66; refine (contains_any _ _ _ _ _ _ (by omega) hI).mono ?_; rintro e w' ⟨rfl, rfl⟩)
          go_round
          case rel => exact ⟨k + 1, by omega, by go_num, allB_take HX.out HT.out ⟨q, q'⟩, Nd_step HN.out HM.out⟩
          case measure => simp [intOf]; omega
    · have : k = n := by omega
      subst this
      go_wp2
      go_ret
      exact ⟨ret_bool (by rw [vWd_mk (allB_all h.1 HT.out) (by rw [h.1]; exact HN.out), decide_eq_true (by omega), decide_eq_true (by rw [h.1]; omega)]; rfl), rfl⟩
theorem specValidWidths0 (A : Option Addr) (n c : Nat) (width : Int) (xs : List Int) (w : World) (hn : n ≤ 1048576) (hc : n ≤ c) (h : Ints w A n xs) :
    Calls Try.prog 67 #[.int .i64 width, .slice A n c] w fun e w' => e = .returned (.bool (vWd width xs)) ∧ ∃ m, w' = w.drewN m := by
  go_enter Try.func67, Try.ntmps67
  go_wp2
  go_loopw [5] (fun i wr => ∃ k m : Nat, k ≤ n ∧ i = .int .i64 k ∧ allB (xs.take k) 1 width = true ∧ Nd xs k ∧ wr = w.drewN m) (fun i _ => n - (intOf i).toNat)
  case atStart => exact ⟨0, 0, by omega, rfl, rfl, fun j hj => by omega, rfl⟩
  case round =>
    obtain ⟨k, m, hk, rfl, hT, hN, rfl⟩ := hrel
    have HT := hide hT; clear hT
    have HN := hide hN; clear hN
    by_cases hlt : k < n
    · have hx : k < xs.length := by rw [h.1]; exact hlt
      have HX := hide hx; clear hx
      have hI := h.take hk
      obtain ⟨ad, rfl, hb, hcl⟩ := h.2 k hlt
      have hkc : (k : Int) ≤ c := by omega
      have hk0 : (0 : Int) ≤ k := by omega
      have hkn : (k : Int) < n := by omega
      by_cases q : 1 ≤ nth xs k ∧ nth xs k ≤ width
      · have hq : decide (1 ≤ nth xs k ∧ nth xs k ≤ width) = true := decide_eq_true q
        have HQ := hide q; clear q
        by_cases hm : nth xs k ∈ xs.take k
        · have hd : decide (0 ≤ pIn (xs.take k) (nth xs k)) = true := by rw [mem_take_dec]; exact decide_eq_true hm
          have HM := hide hm; clear hm h
          go_wp2
          go_quiet (first | (go_at_call 64; exact quiet_left (inRange_any _ _ _ _)) | (go_at_call 77; exact quiet_left (placeIn_any _ _ _ _ _ _ (by omega) (hI.drewN _))) | (go_at_call 64; exact quiet_add_left (inRange_any _ _ _ _)) | (go_at_call 77; exact quiet_add_left (placeIn_any _ _ _ _ _ _ (by omega) (hI.drewN _))))
          go_wp2
          go_ret
          exact ⟨ret_bool (vWd_no4 HX.out HM.out).symm, _, World.drewN_drewN _ _ _⟩
        · have hd : decide (0 ≤ pIn (xs.take k) (nth xs k)) = false := by rw [mem_take_dec]; exact decide_eq_false hm
          have HM := hide hm; clear hm h
          go_wp2
          go_quiet (first | (go_at_call 64; exact quiet_left (inRange_any _ _ _ _)) | (go_at_call 77; exact quiet_left (placeIn_any _ _ _ _ _ _ (by omega) (hI.drewN _))) | (go_at_call 64; exact quiet_add_left (inRange_any _ _ _ _)) | (go_at_call 77; exact quiet_add_left (placeIn_any _ _ _ _ _ _ (by omega) (hI.drewN _))))
          go_wp2
          go_roundw
          case rel => exact ⟨k + 1, _, by omega, by go_num, allB_take HX.out HT.out HQ.out, Nd_step HN.out HM.out, by first | rfl | exact World.drewN_drewN _ _ _⟩
          case measure => simp [intOf]; omega
      · have hq : decide (1 ≤ nth xs k ∧ nth xs k ≤ width) = false := decide_eq_false q
        have HQ := hide q; clear q h
        go_wp2
        go_quiet (first | (go_at_call 64; exact quiet_left (inRange_any _ _ _ _)) | (go_at_call 64; exact quiet_add_left (inRange_any _ _ _ _)))
        go_wp2
        go_ret
        exact ⟨ret_bool (vWd_no3 HX.out HQ.out).symm, _, World.drewN_drewN _ _ _⟩
    · have : k = n := by omega
      subst this
      have hv := vWd_mk (allB_all h.1 HT.out) (by rw [h.1]; exact HN.out)
      rw [h.1] at hv
      have HV := hide hv; clear hv
      by_cases q : 1 ≤ width ∧ width ≤ 60
      · have hq : decide (1 ≤ width ∧ width ≤ 60) = true := decide_eq_true q
        have HQ := hide q; clear q
        go_wp2_with (go_at_call 64; refine (inRange_any _ _ _ _).mono ?_; rintro e w' ⟨rfl, rfl⟩)
        go_ret
        exact ⟨ret_bool (by rw [HV.out, decide_eq_true HQ.out, Bool.true_and, Bool.eq_iff_iff]; simp; omega), m, rfl⟩
      · have hq : decide (1 ≤ width ∧ width ≤ 60) = false := decide_eq_false q
        have HQ := hide q; clear q
        go_wp2_with (go_at_call 64; refine (inRange_any _ _ _ _).mono ?_; rintro e w' ⟨rfl, rfl⟩)
        go_ret
        exact ⟨ret_bool (by rw [HV.out, decide_eq_false HQ.out]; rfl), m, rfl⟩
end Go.Proofs.Ytkmogpeiolkpbaa
