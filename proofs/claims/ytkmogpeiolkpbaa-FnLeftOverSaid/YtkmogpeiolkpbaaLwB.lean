/- The law over what is left of the paper. -/
import Derived.Test.YtkmogpeiolkpbaaLwA
namespace Go.Proofs.Ytkmogpeiolkpbaa
open Go.RowKit
set_option linter.unusedVariables false
set_option maxRecDepth 100000
theorem nth_cons_succ {p : Int} {ps : List Int} {i : Nat} : nth (p :: ps) (i + 1) = nth ps i := by simp [nth]
theorem lOver_spec {ys : List Int} (h : ∀ x ∈ ys, 1 ≤ x) (g : Int) (hg : 0 ≤ g) (hl : 0 < (lOver ys g).length) :
    (lOver ys g).length ≤ ys.length ∧ (∀ i, 1 ≤ i → i < (lOver ys g).length → nth (lOver ys g) i = nth ys (ys.length - (lOver ys g).length + i)) ∧
    tot (lOver ys g) + g = tot ys ∧ nth (lOver ys g) 0 ≤ nth ys (ys.length - (lOver ys g).length) ∧ (∀ x ∈ lOver ys g, 0 ≤ x) := by
  induction ys generalizing g with
  | nil => simp [lOver] at hl
  | cons p ps ih =>
    have h1 := h p (by simp)
    have h2 : ∀ x ∈ ps, 1 ≤ x := fun x hx => h x (by simp [hx])
    by_cases hc : g < p
    · have e : lOver (p :: ps) g = (p - g) :: ps := by
        rw [lOver, if_pos hc, show max 0 (g - p) = 0 by omega, lOver_zero h2]; rfl
      rw [e]
      refine ⟨by simp, fun i hi _ => ?_, by rw [tot_cons, tot_cons]; omega, ?_, ?_⟩
      · obtain ⟨j, rfl⟩ : ∃ j, i = j + 1 := ⟨i - 1, by omega⟩
        simp only [List.length_cons, Nat.sub_self, Nat.zero_add]
        rw [nth_cons_succ, nth_cons_succ]
      · simp [nth]; omega
      · intro x hx
        rcases List.mem_cons.1 hx with e | hx
        · omega
        · have := h2 x hx; omega
    · have e : lOver (p :: ps) g = lOver ps (g - p) := by
        rw [lOver, if_neg hc, show max 0 (g - p) = g - p by omega]; rfl
      rw [e] at hl ⊢
      obtain ⟨i1, i2, i3, i4, i5⟩ := ih h2 (g - p) (by omega) hl
      refine ⟨by simp; omega, fun i hi hi' => ?_, by rw [tot_cons]; omega, ?_, i5⟩
      · rw [i2 i hi hi', show (p :: ps).length - (lOver ps (g - p)).length + i = (ps.length - (lOver ps (g - p)).length + i) + 1 by simp; omega, nth_cons_succ]
      · rw [show (p :: ps).length - (lOver ps (g - p)).length = (ps.length - (lOver ps (g - p)).length) + 1 by simp; omega, nth_cons_succ]; exact i4
theorem lOf_ne {ys zs : List Int} {s : Int} (h : 0 < (lOf ys zs s).length) : enoughB ys zs s = true ∧ lOf ys zs s = lOver ys (s + tot zs) := by
  unfold lOf at *
  by_cases hv : enoughB ys zs s = true
  · rw [if_pos hv]; exact ⟨hv, rfl⟩
  · rw [if_neg hv] at h; simp at h
set_option maxHeartbeats 2000000 in
theorem lawFnLeftOver (A : Option Addr) (n c : Nat) (bs : List Int) (w : World) (h : Byts w A n bs) (hnc : n ≤ c) :
    Calls Try.prog 3 #[.slice A n c] w fun e w' => e = .returned (.bool true) ∧ Below w.heap.size w w' := by
  by_cases g : (1048576 : Int) < n
  · go_enter Try.func3, Try.ntmps3
    go_wp2
    go_ret
    exact ⟨rfl, Below.refl _ _⟩
  have g' : (n : Int) ≤ 1048576 := by omega
  clear g
  go_enter Try.func3, Try.ntmps3
  go_wp2_with fail
  refine (drawLeftOver_any A n c bs _ (by omega) hnc h).mono ?_; rintro e w1 ⟨v, u, ys, zs, s, rfl, hP, hQ, s0, s1, hO, hU, hb⟩
  obtain ⟨A1, c1, rfl, hO1, hc1⟩ := own_of_row hO
  obtain ⟨A2, c2, rfl, hO2, -⟩ := own_of_row hU
  obtain ⟨Y, hY⟩ : ∃ Y, ys.length = Y := ⟨_, rfl⟩
  obtain ⟨Z, hZ⟩ : ∃ Z, zs.length = Z := ⟨_, rfl⟩
  rw [hY] at hO1 hc1
  rw [hZ] at hO2
  have hY13 : Y ≤ 13 := by have := hP.1; omega
  have hZ7 : Z ≤ 7 := by have := hQ.1; omega
  have HP := hide hP; have HQ := hide hQ
  have HI1 := hide hO1.ints; have HI2 := hide hO2.ints; have HB := hide hb; have HYY := hide hY
  rw [hY, hZ]
  clear hO hU hO1 hO2 hb hP hQ hY hZ h
  go_wp2_with fail
  refine (implLeftOver A1 A2 Y Z c1 c2 ys zs s _ (by omega) (by omega) HI1.out HI2.out).mono ?_; rintro e w2 ⟨B2, k2, d2, rfl, hO2, hb2, -⟩
  have hk2 : k2 ≤ 13 := by have h1 := hO2.1; have h2 := lOf_len ys zs s; rw [HYY.out] at h2; omega
  have HI12 := hide (HI1.out.below hb2); have HI22 := hide (HI2.out.below hb2); have HO2 := hide hO2; have Hb2 := hide (below_then HB.out hb2); clear hO2 hb2
  go_wp2_with fail
  refine (specLeftOver A1 A2 Y Z c1 c2 ys zs s _ (by omega) (by omega) HI12.out HI22.out).mono ?_; rintro e w3 ⟨B3, k3, d3, rfl, hO3, hb3, -⟩
  obtain rfl : k2 = k3 := HO2.out.1.symm.trans hO3.1
  have HI13 := hide (HI12.out.below hb3); have HI23 := hide (HI22.out.below hb3); have HO3 := hide hO3; have HO23 := hide (HO2.out.below hb3); have Hb3 := hide (below_then Hb2.out hb3); clear hO3 hb3
  go_wp2_with fail
  refine (equalInts_same B2 B3 k2 d2 d3 (lOf ys zs s) _ (by omega) HO23.out.ints HO3.out.ints).mono ?_; rintro e w4 ⟨rfl, hb4⟩
  have HI14 := hide (HI13.out.below hb4); have HI24 := hide (HI23.out.below hb4); have HO4 := hide (HO23.out.below hb4); have Hb4 := hide (below_then Hb3.out hb4); clear hb4
  by_cases hk0 : k2 = 0
  · have hd : ((k2 : Int) == 0) = true := by simp [hk0]
    clear hk0
    go_wp2_with fail
    refine (specLeftOver A1 A2 Y Z c1 c2 ys zs s _ (by omega) (by omega) HI14.out HI24.out).mono ?_; rintro e w5 ⟨B5, k5, d5, rfl, hO5, hb5, -⟩
    obtain rfl : k2 = k5 := HO2.out.1.symm.trans hO5.1
    have HO5 := hide hO5; have HO45 := hide (HO4.out.below hb5); have Hb5 := hide (below_then Hb4.out hb5); clear hO5 hb5
    go_wp2_with fail
    refine (equalInts_same B2 B5 k2 d2 d5 (lOf ys zs s) _ (by omega) HO45.out.ints HO5.out.ints).mono ?_; rintro e w6 ⟨rfl, hb6⟩
    go_wp2_with fail
    go_ret
    exact ⟨rfl, below_then Hb5.out hb6⟩
  have hd : ((k2 : Int) == 0) = false := by simpa using hk0
  have hk0' : 0 < k2 := by omega
  clear hk0
  obtain ⟨hen, hlo⟩ := lOf_ne (ys := ys) (zs := zs) (s := s) (by rw [HO2.out.1]; exact hk0')
  obtain ⟨v1, v2, s2, s3⟩ := enough_true hen
  obtain ⟨b1, b2⟩ := vLen_tot v1
  obtain ⟨b3, b4⟩ := vLen_tot v2
  have hlen : (lOver ys (s + tot zs)).length = k2 := by rw [← hlo]; exact HO2.out.1
  obtain ⟨x1, x2, x3, x4, x5⟩ := lOver_spec (fun x hx => ((vLen_true v1).2 x hx).1) (s + tot zs) (by omega) (by rw [hlen]; exact hk0')
  rw [hlen, HYY.out] at x1 x2 x4
  obtain ⟨OS, hOS⟩ : ∃ OS, lOver ys (s + tot zs) = OS := ⟨_, rfl⟩
  rw [hOS] at x2 x3 x4 x5
  have HE : Hid (Ints w4 B2 k2 OS) := by rw [← hOS, ← hlo]; exact HO4.out.ints
  have hob : ∀ x ∈ OS, 0 ≤ x ∧ x ≤ 1000000 := fun x hx => by
    have h0 := x5 x hx
    have h1 : x ≤ tot OS := by
      clear x2 x3 x4 HE hOS
      induction OS with
      | nil => simp at hx
      | cons a l ih =>
        rw [tot_cons]
        have ha := x5 a (by simp)
        have hl : 0 ≤ tot l := by
          have : ∀ l : List Int, (∀ x ∈ l, 0 ≤ x) → 0 ≤ tot l := fun l => by
            induction l with
            | nil => intro _; simp [tot]
            | cons b m ihm => intro hm; rw [tot_cons]; have := hm b (by simp); have := ihm fun x hx => hm x (by simp [hx]); omega
          exact this l fun x hx => x5 x (by simp [hx])
        rcases List.mem_cons.1 hx with e | hx
        · omega
        · have := ih (fun x hx => x5 x (by simp [hx])) hx; omega
    omega
  have HOB := hide hob; have HX2 := hide x2; have HX5 := hide x5
  have hsum : tot OS + tot zs + s = tot ys := by omega
  have HSUM := hide hsum
  have o1 : 0 ≤ tot OS ∧ tot OS ≤ 24000 := by
    have : 0 ≤ tot OS := by
      have := tot_bd (xs := OS) (M := 1000000) hob; omega
    omega
  obtain ⟨o1, o2⟩ := o1
  obtain ⟨D, hD⟩ : ∃ D : Nat, (Y : Int) - k2 = D := ⟨Y - k2, by omega⟩
  have hDY : Y - k2 = D := by omega
  rw [hDY] at x4
  have HX2' : Hid (∀ i, 1 ≤ i → i < k2 → nth OS i = nth ys (D + i)) := by rw [← hDY]; exact HX2.out
  have HV1 := hide v1; have HV2 := hide v2
  clear hen hlo v1 v2 hlen x2 x5 hOS hob x3 HX2 hsum hDY
  go_wp2_with fail
  clear hd
  go_loopw [7] (fun i wr => ∃ k q : Nat, 1 ≤ k ∧ k ≤ k2 ∧ i = .int .i64 k ∧ wr = w4.drewN q) (fun i _ => k2 - (intOf i).toNat)
  case atStart => exact ⟨1, 0, by omega, by omega, rfl, rfl⟩
  case round =>
    obtain ⟨k, q, hk1, hk, rfl, rfl⟩ := hrel
    by_cases hlt : k < k2
    · obtain ⟨p, hp⟩ : ∃ p : Nat, (D : Int) + k = p := ⟨D + k, by omega⟩
      have hpY : p < Y := by omega
      obtain ⟨ad, rfl, -, c1'⟩ := HE.out.2 k hlt
      obtain ⟨ad1, rfl, -, c3'⟩ := HI14.out.2 p hpY
      rw [HX2'.out k hk1 hlt, show D + k = p by omega] at c1'
      have e1 : IntKind.i64.wrap ((Y : Int) - k2) = D := by rw [hD]; exact IntWalk.i64_in _ ⟨by omega, by omega⟩
      have e2 : IntKind.i64.wrap ((D : Int) + k) = p := by rw [hp]; exact IntWalk.i64_in _ ⟨by omega, by omega⟩
      have k0 : (0 : Int) ≤ k := by omega
      have k1 : (k : Int) < k2 := by omega
      have p0 : (0 : Int) ≤ p := by omega
      have p1 : (p : Int) < Y := by omega
      go_wp2
      go_quiet (fail)
      clear e1 e2
      go_wp2
      go_roundw
      case rel => exact ⟨k + 1, _, by omega, by omega, by go_num, by first | rfl | exact World.drewN_drewN _ _ _⟩
      case measure => simp [intOf]; omega
    · have hkk : (k2 : Int) ≤ k := by omega
      have hDY : D < Y := by omega
      have HE' := hide HE.out
      have HI14' := hide HI14.out
      obtain ⟨ad, rfl, -, c1'⟩ := HE.out.2 0 hk0'
      obtain ⟨ad1, rfl, -, c3'⟩ := HI14.out.2 D hDY
      have c1'' := cell_zero c1'
      have e1 : IntKind.i64.wrap ((Y : Int) - k2) = D := by rw [hD]; exact IntWalk.i64_in _ ⟨by omega, by omega⟩
      have e2 : IntKind.i64.wrap (tot OS + tot zs) = tot OS + tot zs := IntWalk.i64_in _ ⟨by omega, by omega⟩
      have e3 : IntKind.i64.wrap (tot OS + tot zs + s) = tot ys := by rw [HSUM.out]; exact IntWalk.i64_in _ ⟨by omega, by omega⟩
      have d0 : (0 : Int) ≤ D := by omega
      have d1 : (D : Int) < Y := by omega
      have l2 : (0 : Int) < k2 := by omega
      have hle : decide (nth OS 0 ≤ nth ys D) = true := decide_eq_true x4
      clear c1'
      go_wp2
      go_quiet (first | (go_at_call 18; exact quiet_left (lawsTotal _ _ _ OS _ (by omega) (HE'.out.drewN _) HOB.out)) | (go_at_call 18; exact quiet_left (lawsTotal _ _ _ zs _ (by omega) (HI24.out.drewN _) HQ.out.bd)) | (go_at_call 18; exact quiet_left (lawsTotal _ _ _ ys _ (by omega) (HI14'.out.drewN _) HP.out.bd)) | (go_at_call 18; exact quiet_add_left (lawsTotal _ _ _ OS _ (by omega) (HE'.out.drewN _) HOB.out)) | (go_at_call 18; exact quiet_add_left (lawsTotal _ _ _ zs _ (by omega) (HI24.out.drewN _) HQ.out.bd)) | (go_at_call 18; exact quiet_add_left (lawsTotal _ _ _ ys _ (by omega) (HI14'.out.drewN _) HP.out.bd)))
      clear e1 e2 e3
      go_wp2
      go_ret
      exact ⟨by simp, by first | exact below_then Hb4.out (below_of_drewN _ _) | exact below_then (below_then Hb4.out (below_of_drewN _ _)) (below_of_drewN _ _)⟩
end Go.Proofs.Ytkmogpeiolkpbaa
