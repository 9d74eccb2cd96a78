/- The laws over drawn rolls: turn lengths. -/
import Derived.Test.YtbmnmdpgkdaiiaaRdR2
import Derived.Test.YtbmnmdpgkdaiiaaRoll4
import Derived.Test.YtbmnmdpgkdaiiaaPl2
namespace Go.Proofs.Ytbmnmdpgkdaiiaa
open Go.RowKit Pl
attribute [local go_sem ↓] Go.wp_at_zero Go.wp_at_succ
set_option linter.unusedVariables false
set_option maxRecDepth 100000
theorem tl_step (c t k : Int) (h : 0 ≤ t) : tl c t (k + 1) - tl c t k - 44 * t / 7 = 0 ∨ tl c t (k + 1) - tl c t k - 44 * t / 7 = 1 := by
  unfold tl
  have : c + 2 * t * (k + 1) + t = (c + 2 * t * k + t) + 2 * t := by rw [Int.mul_add]; omega
  rw [this]
  generalize c + 2 * t * k + t = x
  omega
theorem tlOf_cases (c t m k : Int) : (tlOf c t m k = -1) ∨ (vr c t m = true ∧ 0 ≤ k ∧ k < 300 ∧ tlOf c t m k = tl c t k) := by
  unfold tlOf
  by_cases h : vr c t m = true ∧ 0 ≤ k ∧ k < 300
  · rw [if_pos h]; exact .inr ⟨h.1, h.2.1, h.2.2, rfl⟩
  · rw [if_neg h]; exact .inl rfl
set_option maxHeartbeats 1000000 in
theorem lawFnTurnLength (A : Option Addr) (n c : Nat) (bs : List Int) (w : World) (h : Byts w A n bs) (hnc : n ≤ c) :
    Calls Try.prog 3 #[.slice A n c] w fun e w' => e = .returned (.bool true) ∧ Below w.heap.size w w' := by
  by_cases g : (1048576 : Int) < n
  · go_enter Try.func3, Try.ntmps3
    go_wp2
    go_ret
    exact ⟨rfl, Below.refl _ _⟩
  have g' : (n : Int) ≤ 1048576 := by omega
  clear g
  go_enter Try.func3, Try.ntmps3
  go_wp2_with fail
  refine (drawTurnLength_any A n c bs _ (by omega) hnc h).mono ?_; rintro e w1 ⟨a, t, m, k, rfl, hP, ⟨k0, k1⟩, hb⟩
  have K1 := hide (Bk.made w1 24 #[.int .i64 a, .int .i64 t, .int .i64 m])
  have B1 := hide (hb.alloc hb.size (.cells #[.int .i64 a, .int .i64 t, .int .i64 m] 24))
  clear hP hb h
  rcases tlOf_cases a t m k with hL | ⟨hv, i0, i1, hL⟩
  · have HL := hide hL; clear hL
    go_wp2_with fail
    refine (implTurnLength _ _ _ _ _).mono ?_; rintro e w2 ⟨rfl, hb⟩; rw [HL.out]
    have K2 := hide (K1.out.call hb); have B2 := hide (below_then B1.out hb); clear hb K1 B1
    obtain ⟨q0, q1, q2, -, -, -⟩ := K2.out.three
    go_wp2_with fail
    refine (specTurnLength _ _ _ _ _).mono ?_; rintro e w3 ⟨rfl, hb⟩; rw [HL.out]
    have K3 := hide (K2.out.call hb); have B3 := hide (below_then B2.out hb); clear hb K2 B2 q0 q1 q2
    obtain ⟨q0, q1, q2, -, -, -⟩ := K3.out.three
    go_wp2_with fail
    refine (specTurnLength _ _ _ _ _).mono ?_; rintro e w4 ⟨rfl, hb⟩; rw [HL.out]
    have B4 := hide (below_then B3.out hb); clear hb
    go_wp2_with fail
    go_ret
    exact ⟨rfl, B4.out⟩
  · obtain ⟨h1, h2, h3, h4, h5, h6⟩ := vr_true hv
    have Hv := hide hv; have HL := hide hL; clear hL hv
    have lb := tl_bd h1 h2 h3 h4 i0 (by omega : k ≤ 301)
    obtain ⟨L, hX⟩ : ∃ L, L = tl a t k := ⟨_, rfl⟩
    have HX := hide hX; clear hX
    rw [← HX.out] at HL lb
    obtain ⟨lb1, lb2⟩ := lb
    go_wp2_with fail
    refine (implTurnLength _ _ _ _ _).mono ?_; rintro e w2 ⟨rfl, hb⟩; rw [HL.out]
    have K2 := hide (K1.out.call hb); have B2 := hide (below_then B1.out hb); clear hb K1 B1
    obtain ⟨q0, q1, q2, -, -, -⟩ := K2.out.three
    go_wp2_with fail
    refine (specTurnLength _ _ _ _ _).mono ?_; rintro e w3 ⟨rfl, hb⟩; rw [HL.out]
    have K3 := hide (K2.out.call hb); have B3 := hide (below_then B2.out hb); clear hb K2 B2 q0 q1 q2
    obtain ⟨q0, q1, q2, -, -, -⟩ := K3.out.three
    by_cases h299 : k = 299
    · have hd : (k == 299) = true := by simp [h299]
      clear h299
      go_wp2_with fail
      go_ret
      exact ⟨rfl, B3.out⟩
    · have hd : (k == 299) = false := by simp [h299]
      have hk : k + 1 < 300 := by omega
      clear h299
      have lc := tl_bd h1 h2 h3 h4 (k := k + 1) (by omega) (by omega)
      have HS := hide (tl_step a t k (by omega)); rw [← HX.out] at HS
      have HL2 := hide (tlOf_yes (k := k + 1) Hv.out (by omega) hk)
      obtain ⟨L2, hX⟩ : ∃ L2, L2 = tl a t (k + 1) := ⟨_, rfl⟩
      have HX2 := hide hX; clear hX
      rw [← HX2.out] at HS HL2 lc
      obtain ⟨lc1, lc2⟩ := lc
      go_wp2_with fail
      go_region_held3 (fun w' => w'.cell? ⟨w1.heap.size, 0, none⟩ = some (.int .i64 a) ∧ w'.cell? ⟨w1.heap.size, 1, none⟩ = some (.int .i64 t) ∧ w'.cell? ⟨w1.heap.size, 2, none⟩ = some (.int .i64 m))
        (((try dsimp only); (repeat' apply And.intro) <;> (first | (with_reducible assumption) | (simp [*]; done))))
        (first | (go_at_call 15; (try rw [IntWalk.i64_in (k + 1) ⟨by omega, by omega⟩]); refine (implTurnLength _ _ _ _ _).mono ?_; rintro e wx ⟨rfl, hbx⟩; rw [HL2.out]; have KX := hide (K3.out.drew.call hbx); have BX := hide (below_then (below_drewN B3.out 1) hbx); clear q0 q1 q2 hbx; obtain ⟨q0, q1, q2, -, -, -⟩ := KX.out.three))
      go_wp2_with fail
      all_goals go_ret
      all_goals exact ⟨ret_bool (by have := HS.out; first | (simp only [Bool.or_eq_true, beq_iff_eq]; exact this) | rfl | (simp; done)), BX.out⟩
end Go.Proofs.Ytbmnmdpgkdaiiaa
