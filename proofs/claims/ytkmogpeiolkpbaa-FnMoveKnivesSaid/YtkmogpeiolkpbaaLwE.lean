/- The law FnMoveKnives. -/
import Derived.Test.YtkmogpeiolkpbaaMov3
import Derived.Test.YtkmogpeiolkpbaaRd4
import Derived.Test.YtkmogpeiolkpbaaPl7
import Derived.BigRegion
namespace Go.Proofs.Ytkmogpeiolkpbaa
open Go.RowKit
set_option linter.unusedVariables false
set_option maxRecDepth 100000
set_option maxHeartbeats 4000000 in
theorem lawFnMoveKnives (A : Option Addr) (n c : Nat) (bs : List Int) (w : World) (h : Byts w A n bs) (hnc : n ≤ c) :
    Calls Try.prog 12 #[.slice A n c] w fun e w' => e = .returned (.bool true) ∧ Below w.heap.size w w' := by
  by_cases g : (1048576 : Int) < n
  · go_enter Try.func12, Try.ntmps12
    go_wp2
    go_ret
    exact ⟨rfl, Below.refl _ _⟩
  have g' : (n : Int) ≤ 1048576 := by omega
  clear g
  go_enter Try.func12, Try.ntmps12
  go_wp2_with fail
  refine (drawMoveKnives_any A n c bs _ (by omega) hnc h).mono ?_; rintro e w1 ⟨v, u, ys, zs, rfl, hP, hQ, hO, hU, hb⟩
  obtain ⟨A1, c1, rfl, hO1, hc1⟩ := own_of_row hO
  obtain ⟨A2, c2, rfl, hO2, hc2⟩ := own_of_row hU
  obtain ⟨K, hK⟩ : ∃ K, ys.length = K := ⟨_, rfl⟩
  obtain ⟨M, hM⟩ : ∃ M, zs.length = M := ⟨_, rfl⟩
  rw [hK] at hO1 hc1
  rw [hM] at hO2 hc2
  have hK7 : K ≤ 7 := by have := hP.1; omega
  have hM7 : M ≤ 7 := by have := hQ.1; omega
  have HI := hide hO1.ints; have HJ := hide hO2.ints; have HB := hide hb; have HK := hide hK; have HM := hide hM; have HP := hide hP; have HQ := hide hQ
  rw [hK, hM]
  clear hO hO1 hU hO2 hb hP hQ hK hM h
  go_wp2_with fail
  refine (implMoveKnives A1 A2 K c1 M c2 ys zs _ (by omega) (by omega) HI.out HJ.out).mono ?_; rintro e w2 ⟨rfl, hb2⟩
  have HI2 := hide (HI.out.below hb2); have HJ2 := hide (HJ.out.below hb2); have HB2 := hide (below_then HB.out hb2); clear hb2
  go_wp2_with fail
  refine (specMoveKnives A1 A2 K c1 M c2 ys zs _ (by omega) (by omega) HI2.out HJ2.out).mono ?_; rintro e w3 ⟨rfl, hb3⟩
  have HI3 := hide (HI2.out.below hb3); have HJ3 := hide (HJ2.out.below hb3); have HB3 := hide (below_then HB2.out hb3); clear hb3
  obtain ⟨O, hO⟩ : ∃ O, mkOf ys zs = O := ⟨_, rfl⟩
  have HOE := hide hO
  rw [hO]
  clear hO
  rcases (show O < 0 ∨ 0 ≤ O by omega) with hn | hp
  · go_wp2_with fail
    refine (specMoveKnives A1 A2 K c1 M c2 ys zs _ (by omega) (by omega) HI3.out HJ3.out).mono ?_; rintro e w4 ⟨rfl, hb4⟩; rw [HOE.out]
    go_wp2_with fail
    go_ret
    exact ⟨rfl, below_then HB3.out hb4⟩
  obtain ⟨v1, v2⟩ := mk_pos (show 0 ≤ mkOf ys zs by rw [HOE.out]; exact hp)
  have HV1 := hide v1; have HV2 := hide v2; clear v1 v2
  obtain ⟨m, hm⟩ : ∃ m, min K M = m := ⟨_, rfl⟩
  have hOs : O ≤ sd ys zs m := by have := mk_le HV1.out HV2.out; rwa [HOE.out, HK.out, HM.out, hm] at this
  have hmK : m ≤ K := by omega
  have hmM : m ≤ M := by omega
  have HMM := hide (show ∀ k, k ≤ m → ¬ (k < K ∧ k < M) → k = m by intro k h1 h2; omega)
  have HM3 := hide (show ∀ k, k < K → k < M → k < m by intro k h1 h2; omega)
  clear hm
  go_wp2_with fail
  go_loopw [6, 7] (fun s i wr => ∃ k : Nat, k ≤ m ∧ i = .int .i64 k ∧ s = .int .i64 (sd ys zs k) ∧ Below w3.heap.size w3 wr) (fun _ i _ => K - (intOf i).toNat)
  case atStart => exact ⟨0, by omega, rfl, rfl, Below.refl _ _⟩
  case round =>
    rename_i wr
    obtain ⟨k, hk, rfl, rfl, hB⟩ := hrel
    rcases (show (k < K ∧ k < M) ∨ K ≤ k ∨ (k < K ∧ M ≤ k) by omega) with ⟨hkK, hkM⟩ | hkK | ⟨hkK, hkM⟩
    · obtain ⟨ad, rfl, -, hc⟩ := (HI3.out.below hB).2 k hkK
      obtain ⟨ad', rfl, -, hc'⟩ := (HJ3.out.below hB).2 k hkM
      have hkm : k < m := HM3.out k hkK hkM
      obtain ⟨x0, x1⟩ := HP.out.2 _ (nth_mem (k := k) (by rw [HK.out]; exact hkK))
      obtain ⟨y0, y1⟩ := HQ.out.2 _ (nth_mem (k := k) (by rw [HM.out]; exact hkM))
      have hs : sd ys zs (k + 1) = sd ys zs k + dst (nth ys k) (nth zs k) := rfl
      have hs0 := sd_nn ys zs k
      have hs1 := sd_bd HP.out.2 HQ.out.2 (k := k) (by rw [HK.out]; omega) (by rw [HM.out]; omega)
      have HS := hide hs; clear hs
      have HBB := hide hB; clear hB
      generalize nth ys k = x at *
      generalize nth zs k = y at *
      generalize sd ys zs k = s at *
      rcases (show x - y < y - x ∨ y - x ≤ x - y by omega) with hxy | hxy
      all_goals
        go_wp2
        go_region
        all_goals go_wp2
        all_goals go_roundw
      all_goals first
        | exact ⟨k + 1, by omega, by go_num, by rw [HS.out]; exact congrArg _ (by unfold dst; omega), by first | exact HBB.out | exact HBB.out.trans (below_of_drewN _ _) | exact below_then HBB.out (below_of_drewN _ _)⟩
        | (simp [intOf]; omega)
    all_goals
      obtain rfl := HMM.out k hk (by omega)
      have HI4 := hide (HI3.out.below hB); have HJ4 := hide (HJ3.out.below hB); have HB4 := hide (below_then HB3.out hB)
      have HW := hide (fun h => mk_wo (a := ys) HV1.out (by rw [HK.out]; exact h) : 0 < K → mkOf (wo ys 0) ys = 0)
      have hZ : decide (O ≤ sd ys zs k) = true := decide_eq_true hOs
      clear hB
      go_wp2_with fail
      refine (implMoveKnives A2 A1 M c2 K c1 zs ys _ (by omega) (by omega) HJ4.out HI4.out).mono ?_; rintro e w5 ⟨rfl, hb5⟩; rw [mk_comm HV1.out HV2.out, HOE.out]
      have HI5 := hide (HI4.out.below hb5); have HB5 := hide (below_then HB4.out hb5); clear hb5
      go_wp2_with fail
      refine (implMoveKnives A1 A1 K c1 K c1 ys ys _ (by omega) (by omega) HI5.out HI5.out).mono ?_; rintro e w6 ⟨rfl, hb6⟩; rw [mk_self HV1.out]
      have HI6 := hide (HI5.out.below hb6); have HB6 := hide (below_then HB5.out hb6); clear hb6
      rcases (show K = 0 ∨ 0 < K by omega) with hK0 | hK0
      · first
          | (exfalso; omega)
          | (have hd : ((K : Int) == 0) = true := by simp [hK0]
             clear hK0
             go_wp2_with fail
             go_ret
             exact ⟨rfl, HB6.out⟩)
      · have hd : ((K : Int) == 0) = false := by simp; omega
        go_wp2_with fail
        refine (without_any A1 K c1 0 ys _ (by omega) hK0 hc1 HI6.out).mono ?_; rintro e w7 ⟨B2, k2, d2, rfl, hO2, hb2, -⟩
        have hl2 : k2 ≤ 7 := by have h1 := hO2.1; rw [wo_len (by rw [HK.out]; exact hK0), HK.out] at h1; omega
        have HO2 := hide hO2.ints; have HI7 := hide (HI6.out.below hb2); have HB7 := hide (below_then HB6.out hb2); clear hO2 hb2
        go_wp2_with fail
        refine (implMoveKnives B2 A1 k2 d2 K c1 (wo ys 0) ys _ (by omega) (by omega) HO2.out HI7.out).mono ?_; rintro e w8 ⟨rfl, hb8⟩; rw [HW.out hK0]
        go_wp2_with fail
        go_ret
        exact ⟨rfl, below_then HB7.out hb8⟩
end Go.Proofs.Ytkmogpeiolkpbaa
