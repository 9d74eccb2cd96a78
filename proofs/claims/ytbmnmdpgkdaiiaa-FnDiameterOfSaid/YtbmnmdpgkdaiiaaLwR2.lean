/- The laws over drawn rolls. -/
import Derived.Test.YtbmnmdpgkdaiiaaRdR2
import Derived.Test.YtbmnmdpgkdaiiaaRoll5
import Derived.Test.YtbmnmdpgkdaiiaaPl2
namespace Go.Proofs.Ytbmnmdpgkdaiiaa
open Go.RowKit Pl
attribute [local go_sem ↓] Go.wp_at_zero Go.wp_at_succ
set_option linter.unusedVariables false
set_option maxRecDepth 100000
theorem dOf_cases (c t m : Int) : (dOf c t m = -1) ∨ (vr c t m = true ∧ dOf c t m = c + 2 * t * m) := by
  unfold dOf
  by_cases h : vr c t m = true
  · rw [if_pos h]; exact .inr ⟨h, rfl⟩
  · rw [if_neg h]; exact .inl rfl
theorem mul_succ2 (c t m : Int) : c + 2 * t * (m + 1) = c + 2 * t * m + 2 * t := by rw [Int.mul_add]; omega
set_option maxHeartbeats 1000000 in
theorem lawFnDiameterOf (A : Option Addr) (n c : Nat) (bs : List Int) (w : World) (h : Byts w A n bs) (hnc : n ≤ c) :
    Calls Try.prog 4 #[.slice A n c] w fun e w' => e = .returned (.bool true) ∧ Below w.heap.size w w' := by
  by_cases g : (1048576 : Int) < n
  · go_enter Try.func4, Try.ntmps4
    go_wp2
    go_ret
    exact ⟨rfl, Below.refl _ _⟩
  have g' : (n : Int) ≤ 1048576 := by omega
  clear g
  go_enter Try.func4, Try.ntmps4
  go_wp2_with fail
  refine (drawDiameterOf_any A n c bs _ (by omega) hnc h).mono ?_; rintro e w1 ⟨a, t, m, rfl, hP, hb⟩
  have B1 := hide hb; clear hb h
  clear hP
  rcases dOf_cases a t m with hL | ⟨hv, hL⟩
  · have HL := hide hL; clear hL
    go_wp2_with fail
    refine (implDiameterOf _ _ _ _).mono ?_; rintro e w2 ⟨rfl, hb⟩; rw [HL.out]
    have KX2 := hide (Bk.call (Bk.made w1 24 #[.int .i64 a, .int .i64 t, .int .i64 m]) hb)
    have B2 := hide (below_then (Below.alloc B1.out (Below.size B1.out) _) hb)
    clear hb B1
    have lX := KX2.out.lt
    obtain ⟨qX0, qX1, qX2, -, -, -⟩ := KX2.out.three
    go_wp2_with fail
    refine (specDiameterOf _ _ _ _).mono ?_; rintro e w3 ⟨rfl, hb⟩; rw [HL.out]
    have KX3 := hide ((KX2.out).call hb)
    have B3 := hide (below_then B2.out hb)
    clear hb KX2 qX0 qX1 qX2 lX B2
    have lX := KX3.out.lt
    obtain ⟨qX0, qX1, qX2, -, -, -⟩ := KX3.out.three
    go_wp2_with fail
    refine (specDiameterOf _ _ _ _).mono ?_; rintro e w4 ⟨rfl, hb⟩; rw [HL.out]
    have KX4 := hide ((KX3.out).call hb)
    have B4 := hide (below_then B3.out hb)
    clear hb KX3 qX0 qX1 qX2 lX B3
    have lX := KX4.out.lt
    obtain ⟨qX0, qX1, qX2, -, -, -⟩ := KX4.out.three
    go_wp2_with fail
    go_ret
    exact ⟨rfl, B4.out⟩
  · obtain ⟨h1, h2, h3, h4, h5, h6⟩ := vr_true hv
    have tb := tk_bd h3 h4 h5 (by omega : m ≤ 301)
    have HM := hide (mul_succ2 a t m)
    obtain ⟨L, hX⟩ : ∃ L, L = a + 2 * t * m := ⟨_, rfl⟩
    have lb : 0 ≤ L ∧ L ≤ 10000 := by omega
    obtain ⟨lb1, lb2⟩ := lb
    rw [← hX] at hL HM
    have HL := hide hL; have Hv := hide hv; clear hL hv hX tb
    go_wp2_with fail
    refine (implDiameterOf _ _ _ _).mono ?_; rintro e w2 ⟨rfl, hb⟩; rw [HL.out]
    have KX2 := hide (Bk.call (Bk.made w1 24 #[.int .i64 a, .int .i64 t, .int .i64 m]) hb)
    have B2 := hide (below_then (Below.alloc B1.out (Below.size B1.out) _) hb)
    clear hb B1
    have lX := KX2.out.lt
    obtain ⟨qX0, qX1, qX2, -, -, -⟩ := KX2.out.three
    go_wp2_with fail
    refine (specDiameterOf _ _ _ _).mono ?_; rintro e w3 ⟨rfl, hb⟩; rw [HL.out]
    have KX3 := hide ((KX2.out).call hb)
    have B3 := hide (below_then B2.out hb)
    clear hb KX2 qX0 qX1 qX2 lX B2
    have lX := KX3.out.lt
    obtain ⟨qX0, qX1, qX2, -, -, -⟩ := KX3.out.three
    by_cases hm : m < 300
    · have HV2 := hide (vr_mk (c := a) (t := t) (n := m + 1) (by omega))
      go_wp2_with fail
      refine (implWind_yes _ _ _ _ Hv.out (by omega) (by omega) _).mono ?_; rintro e w4 ⟨rfl, hb⟩
      have KX4 := hide ((KX3.out).call hb)
      have B4 := hide (below_then B3.out hb)
      clear hb KX3 qX0 qX1 qX2 lX B3
      have lX := KX4.out.lt
      obtain ⟨qX0, qX1, qX2, -, -, -⟩ := KX4.out.three
      go_wp2_with fail
      have KX5 := hide (Bk.alloc KX4.out (.cells #[.int .i64 a, .int .i64 t, .int .i64 (m + 1)] 24))
      have KM5 := hide (Bk.made w4 24 #[.int .i64 a, .int .i64 t, .int .i64 (m + 1)])
      have B5 := hide (Below.alloc B4.out (Below.size B4.out) (.cells #[.int .i64 a, .int .i64 t, .int .i64 (m + 1)] 24))
      clear KX4 qX0 qX1 qX2 lX B4
      generalize hw5 : (w4.alloc (.cells #[.int .i64 a, .int .i64 t, .int .i64 (m + 1)] 24)) = w5 at *
      clear hw5
      have lX := KX5.out.lt
      obtain ⟨qX0, qX1, qX2, -, -, -⟩ := KX5.out.three
      have lM := KM5.out.lt
      obtain ⟨qM0, qM1, qM2, -, -, -⟩ := KM5.out.three
      first | (go_region_with (first | (go_at_call 18; refine (implDiameterOf _ _ _ _).mono ?_; rintro e wx ⟨rfl, hbx⟩; (try rw [dOf_yes HV2.out, HM.out]); have Bx : Hid (Below w.heap.size w wx) := (by first | exact below_then Bx.out hbx | exact below_then (below_drewN B5.out 1) hbx | exact below_then B5.out hbx); clear qX0 qX1 qX2 qM0 qM1 qM2; have KXx : Hid (Bk wx w1.heap.size 24 #[.int .i64 a, .int .i64 t, .int .i64 m]) := (by first | exact Bk.call KXx.out hbx | exact Bk.call KX5.out.drew hbx | exact Bk.call KX5.out hbx); obtain ⟨qX0, qX1, qX2, -, -, -⟩ := KXx.out.three; have KMx : Hid (Bk wx w4.heap.size 24 #[.int .i64 a, .int .i64 t, .int .i64 (m + 1)]) := (by first | exact Bk.call KMx.out hbx | exact Bk.call KM5.out.drew hbx | exact Bk.call KM5.out hbx); obtain ⟨qM0, qM1, qM2, -, -, -⟩ := KMx.out.three; clear hbx))) | fail
      go_wp2_with fail
      all_goals go_ret
      all_goals exact ⟨ret_bool (by simp [IntWalk.i64_in (2 * t) ⟨by omega, by omega⟩, IntWalk.i64_in (L + 2 * t) ⟨by omega, by omega⟩]), Bx.out⟩
    · obtain rfl : m = 300 := by omega
      go_wp2_with fail
      refine (implWind_no _ _ _ _ (.inr (by omega)) _).mono ?_; rintro e w4 ⟨rfl, hb⟩
      have KX4 := hide ((KX3.out).call hb)
      have B4 := hide (below_then B3.out hb)
      clear hb KX3 qX0 qX1 qX2 lX B3
      have lX := KX4.out.lt
      obtain ⟨qX0, qX1, qX2, -, -, -⟩ := KX4.out.three
      go_wp2_with fail
      have KX5 := hide (Bk.alloc KX4.out (.cells #[.int .i64 0, .int .i64 0, .int .i64 0] 24))
      have KM5 := hide (Bk.made w4 24 #[.int .i64 0, .int .i64 0, .int .i64 0])
      have B5 := hide (Below.alloc B4.out (Below.size B4.out) (.cells #[.int .i64 0, .int .i64 0, .int .i64 0] 24))
      clear KX4 qX0 qX1 qX2 lX B4
      generalize hw5 : (w4.alloc (.cells #[.int .i64 0, .int .i64 0, .int .i64 0] 24)) = w5 at *
      clear hw5
      have lX := KX5.out.lt
      obtain ⟨qX0, qX1, qX2, -, -, -⟩ := KX5.out.three
      have lM := KM5.out.lt
      obtain ⟨qM0, qM1, qM2, -, -, -⟩ := KM5.out.three
      go_quiet (fail)
      go_wp2_with fail
      go_ret
      exact ⟨rfl, below_drewN B5.out _⟩
end Go.Proofs.Ytbmnmdpgkdaiiaa
