/- The laws over drawn lengths. -/
import Derived.Test.YtkmogpeiolkpbaaInt4
import Derived.Test.YtkmogpeiolkpbaaRd3
import Derived.Test.YtkmogpeiolkpbaaHl1
namespace Go.Proofs.Ytkmogpeiolkpbaa
open Go.RowKit
set_option linter.unusedVariables false
set_option maxRecDepth 100000
theorem vLen_sub {xs ys : List Int} (h : vLen xs = true) (hl : ys.length ≤ xs.length) (hm : ∀ y ∈ ys, y ∈ xs) : vLen ys = true := by
  obtain ⟨h1, h2⟩ := vLen_true h
  exact vLen_mk (by omega) (allB_iff.2 fun y hy => h2 y (hm y hy))
set_option maxHeartbeats 1000000 in
theorem lawFnValidLengths (A : Option Addr) (n c : Nat) (bs : List Int) (w : World) (h : Byts w A n bs) (hnc : n ≤ c) :
    Calls Try.prog 4 #[.slice A n c] w fun e w' => e = .returned (.bool true) ∧ Below w.heap.size w w' := by
  by_cases g : (1048576 : Int) < n
  · go_enter Try.func4, Try.ntmps4
    go_wp2
    go_ret
    exact ⟨rfl, Below.refl _ _⟩
  have g' : (n : Int) ≤ 1048576 := by omega
  clear g
  go_enter Try.func4, Try.ntmps4
  go_wp2_with fail
  refine (drawValidLengths_any A n c bs _ (by omega) hnc h).mono ?_; rintro e w1 ⟨v, ys, rfl, hP, hO, hb⟩
  obtain ⟨A1, c1, rfl, hO1, hc1⟩ := own_of_row hO
  obtain ⟨K, hK⟩ : ∃ K, ys.length = K := ⟨_, rfl⟩
  rw [hK] at hO1 hc1
  have hK7 : K ≤ 7 := by have := hP.1; omega
  have HI := hide hO1.ints; have HB := hide hb; have HK := hide hK
  rw [hK]
  clear hO hO1 hb hP hK h
  go_wp2_with fail
  refine (implValidLengths A1 K c1 ys _ (by omega) HI.out).mono ?_; rintro e w' ⟨rfl, rfl⟩
  go_wp2_with fail
  refine (specValidLengths A1 K c1 ys _ (by omega) HI.out).mono ?_; rintro e w' ⟨rfl, rfl⟩
  cases hv : vLen ys
  · have HV := hide hv; clear hv
    go_wp2_with fail
    refine (specValidLengths A1 K c1 ys _ (by omega) HI.out).mono ?_; rintro e w' ⟨rfl, rfl⟩; rw [HV.out]
    go_wp2_with fail
    go_ret
    exact ⟨rfl, HB.out⟩
  · have HV := hide hv; clear hv
    go_wp2_with fail
    go_loopw [5] (fun i wr => ∃ k : Nat, k ≤ K ∧ i = .int .i64 k ∧ Below w1.heap.size w1 wr) (fun i _ => K - (intOf i).toNat)
    case atStart => exact ⟨0, by omega, rfl, Below.refl _ _⟩
    case round =>
      obtain ⟨k, hk, rfl, hB⟩ := hrel
      have HI2 := hide (HI.out.below hB)
      have HB2 := hide hB; clear hB
      by_cases hlt : k < K
      · go_wp2_with fail
        refine (without_any A1 K c1 k ys _ (by omega) hlt hc1 HI2.out).mono ?_; rintro e w2 ⟨B2, k2, d2, rfl, hO2, hb2, -⟩
        have hl2 : k2 ≤ 7 := by have h1 := hO2.1; rw [wo_len (by rw [HK.out]; exact hlt), HK.out] at h1; omega
        have hv2 : vLen (wo ys k) = true := vLen_sub HV.out (by rw [wo_len (by rw [HK.out]; exact hlt)]; omega) (fun y hy => wo_mem hy)
        have HO2 := hide hO2.ints; have HV2 := hide hv2; have Hb2 := hide hb2; clear hO2 hv2 hb2
        go_wp2_with fail
        refine (implValidLengths B2 k2 d2 (wo ys k) _ (by omega) HO2.out).mono ?_; rintro e w' ⟨rfl, rfl⟩; rw [HV2.out]
        go_wp2_with fail
        go_roundw
        case rel => exact ⟨k + 1, by omega, by go_num, below_then HB2.out Hb2.out⟩
        case measure => simp [intOf]; omega
      · go_wp2_with fail
        refine (backwards_any A1 K c1 ys _ (by omega) HI2.out).mono ?_; rintro e w2 ⟨B2, k2, d2, rfl, hO2, hb2, -⟩
        have hl2 : k2 ≤ 7 := by have h1 := hO2.1; rw [List.length_reverse, HK.out] at h1; omega
        have hv2 : vLen ys.reverse = true := vLen_sub HV.out (by simp) (fun y hy => by simpa using hy)
        have HO2 := hide hO2.ints; have HV2 := hide hv2; have Hb2 := hide hb2; clear hO2 hv2 hb2
        go_wp2_with fail
        refine (implValidLengths B2 k2 d2 ys.reverse _ (by omega) HO2.out).mono ?_; rintro e w' ⟨rfl, rfl⟩; rw [HV2.out]
        go_wp2_with fail
        go_ret
        exact ⟨rfl, below_then HB.out (below_then HB2.out Hb2.out)⟩
theorem eOf_ne {ys : List Int} (h : 0 < (eOf ys).length) : vLen ys = true ∧ eOf ys = endsL ys := by
  unfold eOf at *
  by_cases hv : vLen ys = true
  · rw [if_pos hv]; exact ⟨hv, rfl⟩
  · rw [if_neg hv] at h; simp at h
theorem cell_zero {w : World} {ad : Addr} {x : Option Value} (h : w.cell? (ad.add 0) = x) : w.cell? ad = x := by simpa [Addr.add] using h
set_option maxHeartbeats 1000000 in
theorem lawFnEndsOf (A : Option Addr) (n c : Nat) (bs : List Int) (w : World) (h : Byts w A n bs) (hnc : n ≤ c) :
    Calls Try.prog 6 #[.slice A n c] w fun e w' => e = .returned (.bool true) ∧ Below w.heap.size w w' := by
  by_cases g : (1048576 : Int) < n
  · go_enter Try.func6, Try.ntmps6
    go_wp2
    go_ret
    exact ⟨rfl, Below.refl _ _⟩
  have g' : (n : Int) ≤ 1048576 := by omega
  clear g
  go_enter Try.func6, Try.ntmps6
  go_wp2_with fail
  refine (drawEndsOf_any A n c bs _ (by omega) hnc h).mono ?_; rintro e w1 ⟨v, ys, rfl, hP, hO, hb⟩
  obtain ⟨A1, c1, rfl, hO1, hc1⟩ := own_of_row hO
  obtain ⟨K, hK⟩ : ∃ K, ys.length = K := ⟨_, rfl⟩
  rw [hK] at hO1 hc1
  have hK7 : K ≤ 7 := by have := hP.1; omega
  have HP := hide hP; have HI := hide hO1.ints; have HB := hide hb; have HK := hide hK
  rw [hK]
  clear hO hO1 hb hP hK h
  go_wp2_with fail
  refine (implEndsOf A1 K c1 ys _ (by omega) HI.out).mono ?_; rintro e w2 ⟨B2, k2, d2, rfl, hO2, hb2, -⟩
  have hk2 : k2 ≤ 7 := by have h1 := hO2.1; have h2 := eOf_len ys; rw [HK.out] at h2; omega
  have HI2 := hide (HI.out.below hb2); have HO2 := hide hO2; have Hb2 := hide (below_then HB.out hb2); clear hO2 hb2
  go_wp2_with fail
  refine (specEndsOf A1 K c1 ys _ (by omega) HI2.out).mono ?_; rintro e w3 ⟨B3, k3, d3, rfl, hO3, hb3, -⟩
  obtain rfl : k2 = k3 := HO2.out.1.symm.trans hO3.1
  have HI3 := hide (HI2.out.below hb3); have HO3 := hide hO3; have HO23 := hide (HO2.out.below hb3); have Hb3 := hide (below_then Hb2.out hb3); clear hO3 hb3
  go_wp2_with fail
  refine (equalInts_same B2 B3 k2 d2 d3 (eOf ys) _ (by omega) HO23.out.ints HO3.out.ints).mono ?_; rintro e w4 ⟨rfl, hb4⟩
  have HI4 := hide (HI3.out.below hb4); have HO4 := hide (HO23.out.below hb4); have Hb4 := hide (below_then Hb3.out hb4); clear hb4
  by_cases hk0 : k2 = 0
  · have hd : ((k2 : Int) == 0) = true := by simp [hk0]
    clear hk0
    go_wp2_with fail
    refine (specEndsOf A1 K c1 ys _ (by omega) HI4.out).mono ?_; rintro e w5 ⟨B5, k5, d5, rfl, hO5, hb5, -⟩
    obtain rfl : k2 = k5 := HO2.out.1.symm.trans hO5.1
    have HO5 := hide hO5; have HO45 := hide (HO4.out.below hb5); have Hb5 := hide (below_then Hb4.out hb5); clear hO5 hb5
    go_wp2_with fail
    refine (equalInts_same B2 B5 k2 d2 d5 (eOf ys) _ (by omega) HO45.out.ints HO5.out.ints).mono ?_; rintro e w6 ⟨rfl, hb6⟩
    go_wp2_with fail
    go_ret
    exact ⟨rfl, below_then Hb5.out hb6⟩
  have hd : ((k2 : Int) == 0) = false := by simpa using hk0
  have hk0' : 0 < k2 := by omega
  clear hk0
  obtain ⟨hv, he⟩ := eOf_ne (by rw [HO2.out.1]; exact hk0')
  have hkK : k2 = K := by rw [← HO2.out.1, he, endsL_len, HK.out]
  subst hkK
  have HV := hide hv; clear hv
  have HE := hide (by rw [he] at HO4; exact HO4.out.ints : Ints w4 B2 k2 (endsL ys)); clear he
  have HTB := hide (fun j => tot_pre HP.out.bd (by rw [HK.out]; omega) j)
  go_wp2_with fail
  clear hd
  go_loopw [5] (fun i wr => ∃ k q : Nat, 1 ≤ k ∧ k ≤ k2 ∧ i = .int .i64 k ∧ wr = w4.drewN q) (fun i _ => k2 - (intOf i).toNat)
  case atStart => exact ⟨1, 0, by omega, by omega, rfl, rfl⟩
  case round =>
    obtain ⟨k, q, hk1, hk, rfl, rfl⟩ := hrel
    by_cases hlt : k < k2
    · obtain ⟨j, hj⟩ : ∃ j : Nat, (k : Int) - 1 = j := ⟨k - 1, by omega⟩
      have HJ := hide (show k = j + 1 by omega)
      have hj2 : j < k2 := by omega
      obtain ⟨ad, rfl, -, c1'⟩ := HE.out.2 k hlt
      obtain ⟨ad', e', -, c2'⟩ := HE.out.2 j hj2
      injection e' with e'; subst e'
      obtain ⟨ad1, rfl, -, c3'⟩ := HI4.out.2 k hlt
      have t1 := HTB.out (k + 1); have t2 := HTB.out (j + 1)
      have n1 := endsL_nth (xs := ys) (k := k) (by rw [HK.out]; exact hlt)
      have n2 := endsL_nth (xs := ys) (k := j) (by rw [HK.out]; exact hj2)
      rw [← n1] at t1; rw [← n2] at t2
      have hdf : nth (endsL ys) k - nth (endsL ys) j = nth ys k := by
        rw [n1, n2, ← HJ.out, tot_take (by rw [HK.out]; exact hlt)]; omega
      obtain ⟨t11, t12⟩ := t1
      obtain ⟨t21, t22⟩ := t2
      have hyb := HP.out.2 _ (nth_mem (k := k) (by rw [HK.out]; exact hlt))
      have e1 : IntKind.i64.wrap ((k : Int) - 1) = j := by rw [hj]; exact IntWalk.i64_in _ ⟨by omega, by omega⟩
      have e2 : IntKind.i64.wrap (nth (endsL ys) k - nth (endsL ys) j) = nth ys k := by rw [hdf]; exact IntWalk.i64_in _ ⟨by omega, by omega⟩
      have k0 : (0 : Int) ≤ k := by omega
      have k1 : (k : Int) < k2 := by omega
      have j0 : (0 : Int) ≤ j := by omega
      have j1 : (j : Int) < k2 := by omega
      clear n1 n2 hyb
      go_wp2
      go_quiet (fail)
      clear e1 e2 hdf
      go_wp2
      go_roundw
      case rel => exact ⟨k + 1, _, by omega, by omega, by go_num, by first | rfl | exact World.drewN_drewN _ _ _⟩
      case measure => simp [intOf]; omega
    · have hkk : (k2 : Int) ≤ k := by omega
      obtain ⟨l, hl⟩ : ∃ l : Nat, (k2 : Int) - 1 = l := ⟨k2 - 1, by omega⟩
      have hl2 : l < k2 := by omega
      have HL := hide (show l + 1 = k2 by omega)
      obtain ⟨ad, rfl, -, c1'⟩ := HE.out.2 0 hk0'
      obtain ⟨ad', e', -, c2'⟩ := HE.out.2 l hl2
      injection e' with e'; subst e'
      have HI4' := hide HI4.out
      obtain ⟨ad1, rfl, -, c3'⟩ := HI4.out.2 0 hk0'
      have c1'' := cell_zero c1'
      have c3'' := cell_zero c3'
      rw [endsL_nth (by rw [HK.out]; exact hk0'), show tot (ys.take (0 + 1)) = nth ys 0 by rw [tot_take (by rw [HK.out]; exact hk0')]; simp [tot]] at c1''
      rw [endsL_nth (by rw [HK.out]; exact hl2), HL.out, List.take_of_length_le (by rw [HK.out]; exact Nat.le_refl _)] at c2'
      have e1 : IntKind.i64.wrap ((k2 : Int) - 1) = l := by rw [hl]; exact IntWalk.i64_in _ ⟨by omega, by omega⟩
      have l0 : (0 : Int) ≤ l := by omega
      have l1 : (l : Int) < k2 := by omega
      have l2 : (0 : Int) < k2 := by omega
      clear c1' c3'
      go_wp2
      go_quiet (first | (go_at_call 18; exact quiet_left (lawsTotal _ _ _ _ _ (by omega) (HI4'.out.drewN _) HP.out.bd)) | (go_at_call 18; exact quiet_add_left (lawsTotal _ _ _ _ _ (by omega) (HI4'.out.drewN _) HP.out.bd)))
      clear e1
      go_wp2
      go_ret
      exact ⟨by simp, by first | exact below_then Hb4.out (below_of_drewN _ _) | exact below_then (below_then Hb4.out (below_of_drewN _ _)) (below_of_drewN _ _)⟩
theorem plOf_yes {ps ws : List Int} {s a : Int} (h : 0 ≤ (plOf ps ws s a).1) : enoughB ps ws s = true ∧ 0 ≤ a ∧ a < tot ws ∧ plOf ps ws s a = ((((pOn ps (s + a)).1 : Nat) : Int), (pOn ps (s + a)).2) := by
  unfold plOf at *
  by_cases hc : enoughB ps ws s = true ∧ 0 ≤ a ∧ a < tot ws
  · rw [if_pos hc]; exact ⟨hc.1, hc.2.1, hc.2.2, rfl⟩
  · rw [if_neg hc] at h; exact absurd h (by decide)
theorem pOn_spec {xs : List Int} (h : ∀ x ∈ xs, 1 ≤ x) {a : Int} (ha : 0 ≤ a) (ht : a < tot xs) : (pOn xs a).1 < xs.length ∧ tot (xs.take (pOn xs a).1) + (pOn xs a).2 = a ∧ 0 ≤ (pOn xs a).2 ∧ (pOn xs a).2 < nth xs (pOn xs a).1 := by
  induction xs generalizing a with
  | nil => simp [tot] at ht; omega
  | cons p ps ih =>
    rw [tot_cons] at ht
    by_cases hc : p ≤ a
    · obtain ⟨i1, i2, i3, i4⟩ := ih (fun x hx => h x (by simp [hx])) (a := a - p) (by omega) (by omega)
      rw [pOn, if_pos hc]
      refine ⟨by simp; omega, ?_, i3, ?_⟩
      · show tot ((p :: ps).take ((pOn ps (a - p)).1 + 1)) + (pOn ps (a - p)).2 = a
        rw [List.take_succ_cons, tot_cons]; omega
      · simpa [nth] using i4
    · rw [pOn, if_neg hc]
      refine ⟨by simp, by simp [tot], ha, ?_⟩
      simp [nth]; omega
set_option maxHeartbeats 1000000 in
theorem lawFnPlaceOf (A : Option Addr) (n c : Nat) (bs : List Int) (w : World) (h : Byts w A n bs) (hnc : n ≤ c) :
    Calls Try.prog 7 #[.slice A n c] w fun e w' => e = .returned (.bool true) ∧ Below w.heap.size w w' := by
  by_cases g : (1048576 : Int) < n
  · go_enter Try.func7, Try.ntmps7
    go_wp2
    go_ret
    exact ⟨rfl, Below.refl _ _⟩
  have g' : (n : Int) ≤ 1048576 := by omega
  clear g
  go_enter Try.func7, Try.ntmps7
  go_wp2_with fail
  refine (drawPlaceOf_any A n c bs _ (by omega) hnc h).mono ?_; rintro e w1 ⟨v, u, ys, zs, s, t, rfl, hP, hQ, hs, ht, hO, hU, hb⟩
  obtain ⟨A1, c1, rfl, hO1, hc1⟩ := own_of_row hO
  obtain ⟨A2, c2, rfl, hO2, -⟩ := own_of_row hU
  obtain ⟨s0, s1⟩ := hs
  obtain ⟨t0, t1⟩ := ht
  obtain ⟨Y, hY⟩ : ∃ Y, ys.length = Y := ⟨_, rfl⟩
  obtain ⟨Z, hZ⟩ : ∃ Z, zs.length = Z := ⟨_, rfl⟩
  rw [hY] at hO1 hc1
  rw [hZ] at hO2
  have hY13 : Y ≤ 13 := by have := hP.1; omega
  have hZ7 : Z ≤ 7 := by have := hQ.1; omega
  have HI1 := hide hO1.ints; have HI2 := hide hO2.ints; have HB := hide hb; have HYY := hide hY
  rw [hY, hZ]
  clear hO hU hO1 hO2 hb hP hQ hY hZ h
  go_wp2_with fail
  refine (implPlaceOf A1 A2 Y Z c1 c2 ys zs s t _ (by omega) (by omega) HI1.out HI2.out).mono ?_; rintro e w' ⟨rfl, rfl⟩
  go_wp2_with fail
  refine (specPlaceOf A1 A2 Y Z c1 c2 ys zs s t _ (by omega) (by omega) HI1.out HI2.out).mono ?_; rintro e w' ⟨rfl, rfl⟩
  by_cases hneg : (plOf ys zs s t).1 < 0
  · go_wp2_with fail
    go_ret
    exact ⟨by simp, HB.out⟩
  · obtain ⟨he, ht0, ht1, hpl⟩ := plOf_yes (show 0 ≤ (plOf ys zs s t).1 by omega)
    rw [hpl]
    clear hneg
    obtain ⟨v1, v2, s2, s3⟩ := enough_true he
    obtain ⟨b1, b2⟩ := vLen_tot v1
    obtain ⟨b3, b4⟩ := vLen_tot v2
    obtain ⟨q1, q2, q3, q4⟩ := pOn_spec (fun x hx => ((vLen_true v1).2 x hx).1) (a := s + t) (by omega) (by omega)
    have hxb := (vLen_true v1).2 _ (nth_mem q1)
    have HPB := hide (fun x (hx : x ∈ ys.take (pOn ys (s + t)).1) => vLen_bd v1 x (List.mem_of_mem_take hx))
    generalize (pOn ys (s + t)).1 = K at *
    generalize (pOn ys (s + t)).2 = X at *
    have hK : K < Y := by rw [HYY.out] at q1; exact q1
    obtain ⟨ad, rfl, -, hc⟩ := HI1.out.2 K hK
    have HT := hide (HI1.out.take (m := K) (by omega))
    have hKc : (K : Int) ≤ c1 := by omega
    have hd : (tot (ys.take K) + X == s + t) = true := by simp [q2]
    have hneg' : ¬ (K : Int) < 0 := by omega
    clear hpl he v1 v2 q1 hxb q2
    have hb5 : tot (ys.take K) + X ≤ 1000000 ∧ 0 ≤ tot (ys.take K) ∧ tot (ys.take K) ≤ 1000000 := by
      have := eq_of_beq hd; have h2 := tot_bd (xs := ys.take K) (M := 1000000) HPB.out; omega
    obtain ⟨b5, b6, b7⟩ := hb5
    go_wp2_with fail
    refine (lawsTotal (some ad) K c1 (ys.take K) _ (by omega) HT.out HPB.out).mono ?_; rintro e w' ⟨rfl, rfl⟩
    go_wp2_with fail
    go_ret
    exact ⟨by simp, HB.out⟩
end Go.Proofs.Ytkmogpeiolkpbaa
