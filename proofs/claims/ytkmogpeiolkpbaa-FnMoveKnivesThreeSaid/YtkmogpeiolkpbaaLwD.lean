/- The laws FnMoveKnivesThree and FnMoveKnives. -/
import Derived.Test.YtkmogpeiolkpbaaMov3
import Derived.Test.YtkmogpeiolkpbaaRd4
import Derived.Test.YtkmogpeiolkpbaaPl7
import Derived.BigRegion
namespace Go.Proofs.Ytkmogpeiolkpbaa
open Go.RowKit
set_option linter.unusedVariables false
set_option maxRecDepth 100000
set_option maxHeartbeats 2000000 in
theorem lawFnMoveKnivesThree (A : Option Addr) (n c : Nat) (bs : List Int) (w : World) (h : Byts w A n bs) (hnc : n ≤ c) :
    Calls Try.prog 13 #[.slice A n c] w fun e w' => e = .returned (.bool true) ∧ Below w.heap.size w w' := by
  by_cases g : (1048576 : Int) < n
  · go_enter Try.func13, Try.ntmps13
    go_wp2
    go_ret
    exact ⟨rfl, Below.refl _ _⟩
  have g' : (n : Int) ≤ 1048576 := by omega
  clear g
  go_enter Try.func13, Try.ntmps13
  go_wp2_with fail
  refine (drawMoveKnives_any A n c bs _ (by omega) hnc h).mono ?_; rintro e w1 ⟨v, u, ys, zs, rfl, hP, hQ, hO, hU, hb⟩
  obtain ⟨A1, c1, rfl, hO1, hc1⟩ := own_of_row hO
  obtain ⟨A2, c2, rfl, hO2, hc2⟩ := own_of_row hU
  obtain ⟨K, hK⟩ : ∃ K, ys.length = K := ⟨_, rfl⟩
  obtain ⟨M, hM⟩ : ∃ M, zs.length = M := ⟨_, rfl⟩
  rw [hK] at hO1 hc1
  rw [hM] at hO2 hc2
  have hK7 : K ≤ 7 := by have := hP.1; omega
  have hM7 : M ≤ 7 := by have := hQ.1; omega
  have HI := hide hO1.ints; have HJ := hide hO2.ints; have HB := hide hb; have HK := hide hK; have HM := hide hM; have HP := hide hP
  rw [hK, hM]
  clear hO hO1 hU hO2 hb hP hQ hK hM h
  go_wp2_with fail
  refine (implMoveKnives A1 A2 K c1 M c2 ys zs _ (by omega) (by omega) HI.out HJ.out).mono ?_; rintro e w2 ⟨rfl, hb2⟩
  have HI2 := hide (HI.out.below hb2); have HJ2 := hide (HJ.out.below hb2); have HB2 := hide (below_then HB.out hb2); clear hb2
  go_wp2_with fail
  refine (specMoveKnives A1 A2 K c1 M c2 ys zs _ (by omega) (by omega) HI2.out HJ2.out).mono ?_; rintro e w3 ⟨rfl, hb3⟩
  have HI3 := hide (HI2.out.below hb3); have HJ3 := hide (HJ2.out.below hb3); have HB3 := hide (below_then HB2.out hb3); clear hb3
  obtain ⟨O, hO⟩ : ∃ O, mkOf ys zs = O := ⟨_, rfl⟩
  have HOE := hide hO
  rw [hO]
  clear hO
  rcases (show O < 0 ∨ (0 ≤ O ∧ K ≠ M) ∨ (0 ≤ O ∧ K = M) by omega) with hn | ⟨hp, hne⟩ | ⟨hp, he⟩
  · go_wp2_with fail
    refine (specMoveKnives A1 A2 K c1 M c2 ys zs _ (by omega) (by omega) HI3.out HJ3.out).mono ?_; rintro e w4 ⟨rfl, hb4⟩; rw [HOE.out]
    go_wp2_with fail
    go_ret
    exact ⟨rfl, below_then HB3.out hb4⟩
  · have hd : ((K : Int) != M) = true := by simp; omega
    clear hne
    go_wp2_with fail
    refine (specMoveKnives A1 A2 K c1 M c2 ys zs _ (by omega) (by omega) HI3.out HJ3.out).mono ?_; rintro e w4 ⟨rfl, hb4⟩; rw [HOE.out]
    go_wp2_with fail
    go_ret
    exact ⟨rfl, below_then HB3.out hb4⟩
  subst he
  obtain ⟨v1, v2⟩ := mk_pos (show 0 ≤ mkOf ys zs by rw [HOE.out]; exact hp)
  have HV1 := hide v1; have HV2 := hide v2; clear v1 v2
  go_wp2_with fail
  go_loopw [6, 7] (fun v i wr => ∃ k : Nat, k ≤ K ∧ i = .int .i64 k ∧ wr.ownsRow w3.heap.size 3 1 v k (((inc ys).take k).map (.int .i64)) ∧ Below w3.heap.size w3 wr) (fun _ i _ => K - (intOf i).toNat)
  case atStart => exact ⟨0, by omega, by simp, own_empty_row (Nat.le_refl _), (Below.refl _ _).alloc (Nat.le_refl _) _⟩
  case round =>
    obtain ⟨k, hk, rfl, hown, hB⟩ := hrel
    by_cases hlt : k < K
    · obtain ⟨ad, rfl, hb, hc⟩ := (HI3.out.below hB).2 k hlt
      have HT := hide (inc_take (a := ys) (k := k) (by rw [HK.out]; exact hlt))
      obtain ⟨x0, x1⟩ := HP.out.2 _ (nth_mem (k := k) (by rw [HK.out]; exact hlt))
      go_wp2_with (at_builtin; refine wpList_app1 rfl _ _ _ rfl w3.heap.size _ Try.underlying23 info_int _ _ _ _ _ (by rfl) (by rfl) hown (by omega) hB.size ?_; intro v' w1 hown' hb')
      go_roundw
      case rel => exact ⟨k + 1, by omega, by go_num, by rw [HT.out]; exact hown', hB.trans hb'⟩
      case measure => simp [intOf]; omega
    · have : k = K := by omega
      subst this
      rw [List.take_of_length_le (by rw [inc_len, HK.out]; exact Nat.le_refl _)] at hown
      obtain ⟨A4, c4, rfl, hO4, hc4⟩ := own_of_row hown
      have HI4 := hide (HI3.out.below hB); have HJ4 := hide (HJ3.out.below hB); have HB4 := hide (below_then HB3.out hB); have HC4 := hide hO4.ints
      clear hown hO4 hB
      go_wp2_with fail
      refine (implValidKnives A4 k c4 (inc ys) _ (by omega) HC4.out).mono ?_; rintro e w' ⟨rfl, rfl⟩
      cases hv : vKn (inc ys)
      · go_wp2_with fail
        go_ret
        exact ⟨rfl, HB4.out⟩
      have HV := hide hv; clear hv
      have e1 : mkOf ys (inc ys) = k := by rw [mk_eq HV1.out HV.out (inc_len _).symm, sd_inc _ (Nat.le_refl _), HK.out]
      have e2 := mk_eq HV.out HV2.out (by rw [inc_len, HK.out, HM.out])
      have e3 := mk_eq HV1.out HV2.out (by rw [HK.out, HM.out])
      rw [inc_len, HK.out] at e2
      rw [HK.out, HOE.out] at e3
      have e4 := sd_tri ys zs (inc ys) k
      rw [sd_inc _ (by rw [HK.out]; exact Nat.le_refl _)] at e4
      have e5 := (mk_bd HV.out HV2.out).2
      have e6 := sd_nn (inc ys) zs k
      obtain ⟨S, hS⟩ : ∃ S, mkOf (inc ys) zs = S := ⟨_, rfl⟩
      rw [hS] at e2 e5
      rw [← e2] at e4 e6
      rw [← e3] at e4
      have HE1 := hide e1; have HS := hide hS
      clear e1 hS e2 e3
      go_wp2_with fail
      refine (implMoveKnives A1 A4 k c1 k c4 ys (inc ys) _ (by omega) (by omega) HI4.out HC4.out).mono ?_; rintro e w5 ⟨rfl, hb5⟩; rw [HE1.out]
      have HI5 := hide (HI4.out.below hb5); have HJ5 := hide (HJ4.out.below hb5); have HB5 := hide (below_then HB4.out hb5); have HC5 := hide (HC4.out.below hb5); clear hb5
      go_wp2_with fail
      refine (implMoveKnives A4 A2 k c4 k c2 (inc ys) zs _ (by omega) (by omega) HC5.out HJ5.out).mono ?_; rintro e w6 ⟨rfl, hb6⟩; rw [HS.out]
      have HI6 := hide (HI5.out.below hb6); have HB6 := hide (below_then HB5.out hb6); have HC6 := hide (HC5.out.below hb6); clear hb6
      go_wp2_with fail
      refine (implMoveKnives A1 A4 k c1 k c4 ys (inc ys) _ (by omega) (by omega) HI6.out HC6.out).mono ?_; rintro e w7 ⟨rfl, hb7⟩; rw [HE1.out]
      have HB7 := hide (below_then HB6.out hb7); clear hb7
      go_wp2_with fail
      go_ret
      exact ⟨rfl, HB7.out⟩
end Go.Proofs.Ytkmogpeiolkpbaa
