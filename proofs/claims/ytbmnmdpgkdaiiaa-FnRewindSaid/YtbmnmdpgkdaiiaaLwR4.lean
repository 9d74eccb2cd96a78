/- The laws over drawn rolls: winding and unwinding. -/
import Derived.Test.YtbmnmdpgkdaiiaaRdR2
import Derived.Test.YtbmnmdpgkdaiiaaRoll5
import Derived.Test.YtbmnmdpgkdaiiaaPl2
namespace Go.Proofs.Ytbmnmdpgkdaiiaa
open Go.RowKit Pl
attribute [local go_sem ↓] Go.wp_at_zero Go.wp_at_succ
set_option linter.unusedVariables false
set_option maxRecDepth 100000
theorem equalRoll_same (c t n : Int) (w : World) : Calls Try.prog 30 #[roll c t n, roll c t n] w fun e w' => e = .returned (.bool true) ∧ Below w.heap.size w w' := by
  go_enter Try.func30, Try.ntmps30
  go_wp2
  go_ret
  exact ⟨rfl, by go_grown⟩
theorem tfOf_cases (c t n l : Int) : (tfOf c t n l = -1) ∨ (vr c t n = true ∧ 0 ≤ l ∧ tfOf c t n l = tfor c t l) := by
  unfold tfOf
  by_cases h : vr c t n = true ∧ 0 ≤ l
  · rw [if_pos h]; exact .inr ⟨h.1, h.2, rfl⟩
  · rw [if_neg h]; exact .inl rfl
set_option maxHeartbeats 2000000 in
theorem lawFnWindRoll (A : Option Addr) (n c : Nat) (bs : List Int) (w : World) (h : Byts w A n bs) (hnc : n ≤ c) :
    Calls Try.prog 7 #[.slice A n c] w fun e w' => e = .returned (.bool true) ∧ Below w.heap.size w w' := by
  by_cases g : (1048576 : Int) < n
  · go_enter Try.func7, Try.ntmps7
    go_wp2
    go_ret
    exact ⟨rfl, Below.refl _ _⟩
  have g' : (n : Int) ≤ 1048576 := by omega
  clear g
  go_enter Try.func7, Try.ntmps7
  go_wp2_with fail
  refine (drawWindRoll_any A n c bs _ (by omega) hnc h).mono ?_; rintro e w1 ⟨a, t, m, k, rfl, hP, ⟨k0, k1⟩, hb⟩
  have B1 := hide hb; clear hb h
  clear hP
  by_cases g : vr a t m = true ∧ 0 ≤ k ∧ k ≤ 300 - m
  · obtain ⟨hv, i0, i1⟩ := g
    obtain ⟨h1, h2, h3, h4, h5, h6⟩ := vr_true hv
    have hv2 : vr a t (m + k) = true := vr_mk (by omega)
    have lb1 := lnOf_bd hv
    have lb2 := lnOf_bd hv2
    have HU := hide (fun W : World => implUnwind_yes a t (m + k) k hv2 i0 (by omega) W)
    rw [show m + k - k = m by omega] at HU
    obtain ⟨L1, hL1⟩ : ∃ L1, lnOf a t m = L1 := ⟨_, rfl⟩
    obtain ⟨L2, hL2⟩ : ∃ L2, lnOf a t (m + k) = L2 := ⟨_, rfl⟩
    rw [hL1] at lb1 HU
    rw [hL2] at lb2 HU
    have HL1 := hide hL1; have HL2 := hide hL2; have Hv := hide hv; have Hv2 := hide hv2; clear hL1 hL2 hv hv2
    obtain ⟨b1, b2⟩ := lb1
    obtain ⟨b3, b4⟩ := lb2
    have ew0 : IntKind.i64.wrap (L2 - L1) = L2 - L1 := IntWalk.i64_in _ ⟨by omega, by omega⟩
    obtain ⟨D, hD⟩ : ∃ D, L2 - L1 = D := ⟨_, rfl⟩
    rw [hD] at HU
    have EW : Hid (IntKind.i64.wrap (L2 - L1) = D) := ew0.trans hD
    clear hD ew0
    go_wp2_with fail
    refine (implWind_yes _ _ _ _ Hv.out i0 i1 _).mono ?_; rintro e w2 ⟨rfl, hb⟩
    have KX2 := hide (Bk.call (Bk.made w1 24 #[.int .i64 a, .int .i64 t, .int .i64 m]) hb)
    have B2 := hide (below_then (Below.alloc B1.out (Below.size B1.out) _) hb)
    clear hb B1
    have lX := KX2.out.lt
    obtain ⟨qX0, qX1, qX2, -, -, -⟩ := KX2.out.three
    go_wp2_with fail
    refine (specWind_yes _ _ _ _ Hv.out i0 i1 _).mono ?_; rintro e w3 ⟨rfl, hb⟩
    have KX3 := hide (Bk.call (Bk.alloc KX2.out _) hb)
    have KM3 := hide (Bk.call (Bk.made w2 24 #[.int .i64 a, .int .i64 t, .int .i64 (m + k)]) hb)
    have B3 := hide (below_then (Below.alloc B2.out (Below.size B2.out) _) hb)
    clear hb KX2 qX0 qX1 qX2 lX B2
    have lX := KX3.out.lt
    obtain ⟨qX0, qX1, qX2, -, -, -⟩ := KX3.out.three
    have lM := KM3.out.lt
    obtain ⟨qM0, qM1, qM2, -, -, -⟩ := KM3.out.three
    go_wp2_with fail
    refine (equalRoll_same _ _ _ _).mono ?_; rintro e w4 ⟨rfl, hb⟩
    have KX4 := hide (Bk.call (Bk.alloc KX3.out _) hb)
    have KM4 := hide (Bk.call (Bk.alloc KM3.out _) hb)
    have KQ4 := hide (Bk.call (Bk.made w3 24 #[.int .i64 a, .int .i64 t, .int .i64 (m + k)]) hb)
    have B4 := hide (below_then (Below.alloc B3.out (Below.size B3.out) _) hb)
    clear hb KX3 qX0 qX1 qX2 lX KM3 qM0 qM1 qM2 lM B3
    have lX := KX4.out.lt
    obtain ⟨qX0, qX1, qX2, -, -, -⟩ := KX4.out.three
    have lM := KM4.out.lt
    obtain ⟨qM0, qM1, qM2, -, -, -⟩ := KM4.out.three
    have lQ := KQ4.out.lt
    obtain ⟨qQ0, qQ1, qQ2, -, -, -⟩ := KQ4.out.three
    go_wp2_with fail
    refine (HU.out _).mono ?_; rintro e w5 ⟨rfl, hb⟩
    have KX5 := hide ((KX4.out).call hb)
    have KM5 := hide ((KM4.out).call hb)
    have KQ5 := hide ((KQ4.out).call hb)
    have B5 := hide (below_then B4.out hb)
    clear hb KX4 qX0 qX1 qX2 lX KM4 qM0 qM1 qM2 lM KQ4 qQ0 qQ1 qQ2 lQ B4
    have lX := KX5.out.lt
    obtain ⟨qX0, qX1, qX2, -, -, -⟩ := KX5.out.three
    have lM := KM5.out.lt
    obtain ⟨qM0, qM1, qM2, -, -, -⟩ := KM5.out.three
    have lQ := KQ5.out.lt
    obtain ⟨qQ0, qQ1, qQ2, -, -, -⟩ := KQ5.out.three
    clear KQ5 qQ0 qQ1 qQ2 lQ
    clear HU
    go_wp2_with fail
    have KX6 := hide (Bk.alloc KX5.out (.cells #[.int .i64 a, .int .i64 t, .int .i64 m] 24))
    have KM6 := hide (Bk.alloc KM5.out (.cells #[.int .i64 a, .int .i64 t, .int .i64 m] 24))
    have KZ6 := hide (Bk.made w5 24 #[.int .i64 a, .int .i64 t, .int .i64 m])
    have B6 := hide (Below.alloc B5.out (Below.size B5.out) (.cells #[.int .i64 a, .int .i64 t, .int .i64 m] 24))
    clear KX5 qX0 qX1 qX2 lX KM5 qM0 qM1 qM2 lM B5
    generalize hw6 : (w5.alloc (.cells #[.int .i64 a, .int .i64 t, .int .i64 m] 24)) = w6 at *
    clear hw6
    have lX := KX6.out.lt
    obtain ⟨qX0, qX1, qX2, -, -, -⟩ := KX6.out.three
    have lM := KM6.out.lt
    obtain ⟨qM0, qM1, qM2, -, -, -⟩ := KM6.out.three
    have lZ := KZ6.out.lt
    obtain ⟨qZ0, qZ1, qZ2, -, -, -⟩ := KZ6.out.three
    have ew := EW.out
    first | (go_region_held3 (fun w' => w'.cell? ⟨w1.heap.size, 0, none⟩ = some (.int .i64 a) ∧ w'.cell? ⟨w1.heap.size, 1, none⟩ = some (.int .i64 t) ∧ w'.cell? ⟨w1.heap.size, 2, none⟩ = some (.int .i64 m) ∧ w'.cell? ⟨w2.heap.size, 0, none⟩ = some (.int .i64 a) ∧ w'.cell? ⟨w2.heap.size, 1, none⟩ = some (.int .i64 t) ∧ w'.cell? ⟨w2.heap.size, 2, none⟩ = some (.int .i64 (m + k)) ∧ w'.cell? ⟨w5.heap.size, 0, none⟩ = some (.int .i64 a) ∧ w'.cell? ⟨w5.heap.size, 1, none⟩ = some (.int .i64 t) ∧ w'.cell? ⟨w5.heap.size, 2, none⟩ = some (.int .i64 m))
      (((try dsimp only); (repeat' apply And.intro) <;> (first | (with_reducible assumption) | (rw [World.cell?_drew]; with_reducible assumption) | (simp [*]; done))))
      (first | (go_at_call 27; refine (implLengthOf _ _ _ _).mono ?_; rintro e wx ⟨rfl, hbx⟩; (try rw [HL1.out]); (try rw [HL2.out]); have Bx : Hid (Below w.heap.size w wx) := (by first | exact below_then Bx.out hbx | exact below_then (below_drewN B6.out 1) hbx | exact below_then B6.out hbx); clear qX0 qX1 qX2 qM0 qM1 qM2 qZ0 qZ1 qZ2; have KXx : Hid (Bk wx w1.heap.size 24 #[.int .i64 a, .int .i64 t, .int .i64 m]) := (by first | exact Bk.call KXx.out hbx | exact Bk.call KX6.out.drew hbx | exact Bk.call KX6.out hbx); obtain ⟨qX0, qX1, qX2, -, -, -⟩ := KXx.out.three; have KMx : Hid (Bk wx w2.heap.size 24 #[.int .i64 a, .int .i64 t, .int .i64 (m + k)]) := (by first | exact Bk.call KMx.out hbx | exact Bk.call KM6.out.drew hbx | exact Bk.call KM6.out hbx); obtain ⟨qM0, qM1, qM2, -, -, -⟩ := KMx.out.three; have KZx : Hid (Bk wx w5.heap.size 24 #[.int .i64 a, .int .i64 t, .int .i64 m]) := (by first | exact Bk.call KZx.out hbx | exact Bk.call KZ6.out.drew hbx | exact Bk.call KZ6.out hbx); obtain ⟨qZ0, qZ1, qZ2, -, -, -⟩ := KZx.out.three; clear hbx) | (go_at_call 25; refine (implValidRoll _ _ _ _).mono ?_; rintro e wx ⟨rfl, hbx⟩; (try rw [Hv2.out]); have Bx : Hid (Below w.heap.size w wx) := (by first | exact below_then Bx.out hbx | exact below_then (below_drewN B6.out 1) hbx | exact below_then B6.out hbx); clear qX0 qX1 qX2 qM0 qM1 qM2 qZ0 qZ1 qZ2; have KXx : Hid (Bk wx w1.heap.size 24 #[.int .i64 a, .int .i64 t, .int .i64 m]) := (by first | exact Bk.call KXx.out hbx | exact Bk.call KX6.out.drew hbx | exact Bk.call KX6.out hbx); obtain ⟨qX0, qX1, qX2, -, -, -⟩ := KXx.out.three; have KMx : Hid (Bk wx w2.heap.size 24 #[.int .i64 a, .int .i64 t, .int .i64 (m + k)]) := (by first | exact Bk.call KMx.out hbx | exact Bk.call KM6.out.drew hbx | exact Bk.call KM6.out hbx); obtain ⟨qM0, qM1, qM2, -, -, -⟩ := KMx.out.three; have KZx : Hid (Bk wx w5.heap.size 24 #[.int .i64 a, .int .i64 t, .int .i64 m]) := (by first | exact Bk.call KZx.out hbx | exact Bk.call KZ6.out.drew hbx | exact Bk.call KZ6.out hbx); obtain ⟨qZ0, qZ1, qZ2, -, -, -⟩ := KZx.out.three; clear hbx))) | fail
    go_wp2_with fail
    all_goals go_ret
    all_goals exact ⟨rfl, Bx.out⟩
  · have Hn : Hid (vr a t m = false ∨ ¬ (0 ≤ k ∧ k ≤ 300 - m)) := by
      cases hv : vr a t m
      · exact .inl rfl
      · exact .inr fun h => g ⟨hv, h⟩
    clear g
    go_wp2_with fail
    refine (implWind_no _ _ _ _ Hn.out _).mono ?_; rintro e w2 ⟨rfl, hb⟩
    have KX2 := hide (Bk.call (Bk.made w1 24 #[.int .i64 a, .int .i64 t, .int .i64 m]) hb)
    have B2 := hide (below_then (Below.alloc B1.out (Below.size B1.out) _) hb)
    clear hb B1
    have lX := KX2.out.lt
    obtain ⟨qX0, qX1, qX2, -, -, -⟩ := KX2.out.three
    go_wp2_with fail
    refine (specWind_no _ _ _ _ Hn.out _).mono ?_; rintro e w3 ⟨rfl, hb⟩
    have KX3 := hide (Bk.call (Bk.alloc KX2.out _) hb)
    have KM3 := hide (Bk.call (Bk.made w2 24 #[.int .i64 0, .int .i64 0, .int .i64 0]) hb)
    have B3 := hide (below_then (Below.alloc B2.out (Below.size B2.out) _) hb)
    clear hb KX2 qX0 qX1 qX2 lX B2
    have lX := KX3.out.lt
    obtain ⟨qX0, qX1, qX2, -, -, -⟩ := KX3.out.three
    have lM := KM3.out.lt
    obtain ⟨qM0, qM1, qM2, -, -, -⟩ := KM3.out.three
    go_wp2_with fail
    refine (equalRoll_same _ _ _ _).mono ?_; rintro e w4 ⟨rfl, hb⟩
    have KX4 := hide (Bk.call (Bk.alloc KX3.out _) hb)
    have KM4 := hide (Bk.call (Bk.alloc KM3.out _) hb)
    have KQ4 := hide (Bk.call (Bk.made w3 24 #[.int .i64 0, .int .i64 0, .int .i64 0]) hb)
    have B4 := hide (below_then (Below.alloc B3.out (Below.size B3.out) _) hb)
    clear hb KX3 qX0 qX1 qX2 lX KM3 qM0 qM1 qM2 lM B3
    have lX := KX4.out.lt
    obtain ⟨qX0, qX1, qX2, -, -, -⟩ := KX4.out.three
    have lM := KM4.out.lt
    obtain ⟨qM0, qM1, qM2, -, -, -⟩ := KM4.out.three
    have lQ := KQ4.out.lt
    obtain ⟨qQ0, qQ1, qQ2, -, -, -⟩ := KQ4.out.three
    go_wp2_with fail
    refine (equalRoll_same _ _ _ _).mono ?_; rintro e w5 ⟨rfl, hb⟩
    have KX5 := hide ((KX4.out).call hb)
    have KM5 := hide ((KM4.out).call hb)
    have KQ5 := hide ((KQ4.out).call hb)
    have B5 := hide (below_then B4.out hb)
    clear hb KX4 qX0 qX1 qX2 lX KM4 qM0 qM1 qM2 lM KQ4 qQ0 qQ1 qQ2 lQ B4
    have lX := KX5.out.lt
    obtain ⟨qX0, qX1, qX2, -, -, -⟩ := KX5.out.three
    have lM := KM5.out.lt
    obtain ⟨qM0, qM1, qM2, -, -, -⟩ := KM5.out.three
    have lQ := KQ5.out.lt
    obtain ⟨qQ0, qQ1, qQ2, -, -, -⟩ := KQ5.out.three
    go_wp2_with fail
    go_ret
    exact ⟨rfl, B5.out⟩
set_option maxHeartbeats 1000000 in
theorem lawFnTurnsFor (A : Option Addr) (n c : Nat) (bs : List Int) (w : World) (h : Byts w A n bs) (hnc : n ≤ c) :
    Calls Try.prog 10 #[.slice A n c] w fun e w' => e = .returned (.bool true) ∧ Below w.heap.size w w' := by
  by_cases g : (1048576 : Int) < n
  · go_enter Try.func10, Try.ntmps10
    go_wp2
    go_ret
    exact ⟨rfl, Below.refl _ _⟩
  have g' : (n : Int) ≤ 1048576 := by omega
  clear g
  go_enter Try.func10, Try.ntmps10
  go_wp2_with fail
  refine (drawTurnsFor_any A n c bs _ (by omega) hnc h).mono ?_; rintro e w1 ⟨a, t, m, k, rfl, hP, ⟨k0, k1⟩, hb⟩
  have B1 := hide hb; clear hb h
  clear hP
  rcases tfOf_cases a t m k with hL | ⟨hv, hk, hL⟩
  · have HL := hide hL; clear hL
    go_wp2_with fail
    refine (implTurnsFor _ _ _ _ (by omega) _).mono ?_; rintro e w2 ⟨rfl, hb⟩; rw [HL.out]
    have KX2 := hide (Bk.call (Bk.made w1 24 #[.int .i64 a, .int .i64 t, .int .i64 m]) hb)
    have B2 := hide (below_then (Below.alloc B1.out (Below.size B1.out) _) hb)
    clear hb B1
    have lX := KX2.out.lt
    obtain ⟨qX0, qX1, qX2, -, -, -⟩ := KX2.out.three
    go_wp2_with fail
    refine (specTurnsFor _ _ _ _ (by omega) _).mono ?_; rintro e w3 ⟨rfl, hb⟩; rw [HL.out]
    have KX3 := hide ((KX2.out).call hb)
    have B3 := hide (below_then B2.out hb)
    clear hb KX2 qX0 qX1 qX2 lX B2
    have lX := KX3.out.lt
    obtain ⟨qX0, qX1, qX2, -, -, -⟩ := KX3.out.three
    go_wp2_with fail
    refine (specTurnsFor _ _ _ _ (by omega) _).mono ?_; rintro e w4 ⟨rfl, hb⟩; rw [HL.out]
    have KX4 := hide ((KX3.out).call hb)
    have B4 := hide (below_then B3.out hb)
    clear hb KX3 qX0 qX1 qX2 lX B3
    have lX := KX4.out.lt
    obtain ⟨qX0, qX1, qX2, -, -, -⟩ := KX4.out.three
    go_wp2_with fail
    go_ret
    exact ⟨rfl, B4.out⟩
  · obtain ⟨h1, h2, h3, h4, h5, h6⟩ := vr_true hv
    obtain ⟨f0, f1⟩ := tfor_fits a t k hk
    have f2 := tfor_le a t k
    obtain ⟨D, hX⟩ : ∃ D, D = tfor a t k := ⟨_, rfl⟩
    rw [← hX] at hL f0 f1 f2
    have HE := hide (lnOf_yes (vr_mk (c := a) (t := t) (n := (D : Int)) (by omega)))
    rw [Int.toNat_natCast] at HE
    have F1 := hide f1
    have HL := hide hL; have Hv := hide hv; clear hL hv hX f1
    by_cases hD : D = 300
    · have HG := hide (lnOf_no (vr_no (c := a) (t := t) (n := (D : Int) + 1) (by omega)))
      have hd : ((D : Int) == 300) = true := by simp [hD]
      clear hD
      go_wp2_with fail
      refine (implTurnsFor _ _ _ _ (by omega) _).mono ?_; rintro e w2 ⟨rfl, hb⟩; rw [HL.out]
      have KX2 := hide (Bk.call (Bk.made w1 24 #[.int .i64 a, .int .i64 t, .int .i64 m]) hb)
      have B2 := hide (below_then (Below.alloc B1.out (Below.size B1.out) _) hb)
      clear hb B1
      have lX := KX2.out.lt
      obtain ⟨qX0, qX1, qX2, -, -, -⟩ := KX2.out.three
      go_wp2_with fail
      refine (specTurnsFor _ _ _ _ (by omega) _).mono ?_; rintro e w3 ⟨rfl, hb⟩; rw [HL.out]
      have KX3 := hide ((KX2.out).call hb)
      have B3 := hide (below_then B2.out hb)
      clear hb KX2 qX0 qX1 qX2 lX B2
      have lX := KX3.out.lt
      obtain ⟨qX0, qX1, qX2, -, -, -⟩ := KX3.out.three
      go_wp2_with fail
      refine (implLengthOf _ _ _ _).mono ?_; rintro e w4 ⟨rfl, hb⟩; rw [HE.out]
      have KX4 := hide ((KX3.out).call hb)
      have B4 := hide (below_then B3.out hb)
      clear hb KX3 qX0 qX1 qX2 lX B3
      have lX := KX4.out.lt
      obtain ⟨qX0, qX1, qX2, -, -, -⟩ := KX4.out.three
      go_wp2_with fail
      refine (implLengthOf _ _ _ _).mono ?_; rintro e w5 ⟨rfl, hb⟩; rw [HG.out]
      have KX5 := hide ((KX4.out).call hb)
      have B5 := hide (below_then B4.out hb)
      clear hb KX4 qX0 qX1 qX2 lX B4
      have lX := KX5.out.lt
      obtain ⟨qX0, qX1, qX2, -, -, -⟩ := KX5.out.three
      go_wp2_with fail
      all_goals go_ret
      all_goals exact ⟨ret_bool (by first | rfl | (simp; done) | (simp; omega)), B5.out⟩
    · have HG := hide (lnOf_yes (vr_mk (c := a) (t := t) (n := (D : Int) + 1) (by omega)))
      have hgt := F1.out (by omega)
      rw [show ((D : Int) + 1).toNat = D + 1 by omega] at HG
      have hd : ((D : Int) == 300) = false := by simp; omega
      clear hD
      go_wp2_with fail
      refine (implTurnsFor _ _ _ _ (by omega) _).mono ?_; rintro e w2 ⟨rfl, hb⟩; rw [HL.out]
      have KX2 := hide (Bk.call (Bk.made w1 24 #[.int .i64 a, .int .i64 t, .int .i64 m]) hb)
      have B2 := hide (below_then (Below.alloc B1.out (Below.size B1.out) _) hb)
      clear hb B1
      have lX := KX2.out.lt
      obtain ⟨qX0, qX1, qX2, -, -, -⟩ := KX2.out.three
      go_wp2_with fail
      refine (specTurnsFor _ _ _ _ (by omega) _).mono ?_; rintro e w3 ⟨rfl, hb⟩; rw [HL.out]
      have KX3 := hide ((KX2.out).call hb)
      have B3 := hide (below_then B2.out hb)
      clear hb KX2 qX0 qX1 qX2 lX B2
      have lX := KX3.out.lt
      obtain ⟨qX0, qX1, qX2, -, -, -⟩ := KX3.out.three
      go_wp2_with fail
      refine (implLengthOf _ _ _ _).mono ?_; rintro e w4 ⟨rfl, hb⟩; rw [HE.out]
      have KX4 := hide ((KX3.out).call hb)
      have B4 := hide (below_then B3.out hb)
      clear hb KX3 qX0 qX1 qX2 lX B3
      have lX := KX4.out.lt
      obtain ⟨qX0, qX1, qX2, -, -, -⟩ := KX4.out.three
      go_wp2_with fail
      refine (implLengthOf _ _ _ _).mono ?_; rintro e w5 ⟨rfl, hb⟩; rw [HG.out]
      have KX5 := hide ((KX4.out).call hb)
      have B5 := hide (below_then B4.out hb)
      clear hb KX4 qX0 qX1 qX2 lX B4
      have lX := KX5.out.lt
      obtain ⟨qX0, qX1, qX2, -, -, -⟩ := KX5.out.three
      go_wp2_with fail
      all_goals go_ret
      all_goals exact ⟨ret_bool (by first | rfl | (simp; done) | (simp; omega)), B5.out⟩
set_option maxHeartbeats 2000000 in
theorem lawFnUnwindRoll (A : Option Addr) (n c : Nat) (bs : List Int) (w : World) (h : Byts w A n bs) (hnc : n ≤ c) :
    Calls Try.prog 11 #[.slice A n c] w fun e w' => e = .returned (.bool true) ∧ Below w.heap.size w w' := by
  by_cases g : (1048576 : Int) < n
  · go_enter Try.func11, Try.ntmps11
    go_wp2
    go_ret
    exact ⟨rfl, Below.refl _ _⟩
  have g' : (n : Int) ≤ 1048576 := by omega
  clear g
  go_enter Try.func11, Try.ntmps11
  go_wp2_with fail
  refine (drawUnwindRoll_any A n c bs _ (by omega) hnc h).mono ?_; rintro e w1 ⟨a, t, m, k, rfl, hP, ⟨k0, k1⟩, hb⟩
  have B1 := hide hb; clear hb h
  clear hP
  by_cases g : vr a t m = true ∧ 0 ≤ k ∧ k ≤ m
  · obtain ⟨hv, i0, i1⟩ := g
    obtain ⟨h1, h2, h3, h4, h5, h6⟩ := vr_true hv
    have hv2 : vr a t (m - k) = true := vr_mk (by omega)
    have hv0 : vr a t 0 = true := vr_mk (by omega)
    have lb1 := lnOf_bd hv
    have lb2 := lnOf_bd hv2
    have HU := hide (fun W : World => implUnwind_yes a t m k hv i0 i1 W)
    have HUs := hide (fun W : World => specUnwind_yes a t m k hv i0 i1 W)
    have HA := hide (fun W : World => implUnwind_yes a t m m hv h5 (Int.le_refl _) W)
    have hz : lnOf a t 0 = 0 := by rw [lnOf_yes hv0]; rfl
    rw [show m - m = 0 by omega, hz, show lnOf a t m - 0 = lnOf a t m by omega] at HA
    have HW := hide (fun W : World => implWind_yes a t (m - k) k hv2 i0 (by omega) W)
    rw [show m - k + k = m by omega] at HW
    obtain ⟨L1, hL1⟩ : ∃ L1, lnOf a t m = L1 := ⟨_, rfl⟩
    obtain ⟨L2, hL2⟩ : ∃ L2, lnOf a t (m - k) = L2 := ⟨_, rfl⟩
    rw [hL1] at lb1 HU HA HUs
    rw [hL2] at lb2 HU HUs
    have HL1 := hide hL1; clear hL1 hL2 hv hv2 hv0 hz
    obtain ⟨b1, b2⟩ := lb1
    obtain ⟨b3, b4⟩ := lb2
    have hle : L1 - L2 ≤ L1 := by omega
    go_wp2_with fail
    refine (HU.out _).mono ?_; rintro e w2 ⟨rfl, hb⟩
    have KX2 := hide (Bk.call (Bk.made w1 24 #[.int .i64 a, .int .i64 t, .int .i64 m]) hb)
    have B2 := hide (below_then (Below.alloc B1.out (Below.size B1.out) _) hb)
    clear hb B1
    have lX := KX2.out.lt
    obtain ⟨qX0, qX1, qX2, -, -, -⟩ := KX2.out.three
    go_wp2_with fail
    refine (HUs.out _).mono ?_; rintro e w3 ⟨rfl, hb⟩
    have KX3 := hide (Bk.call (Bk.alloc KX2.out _) hb)
    have KM3 := hide (Bk.call (Bk.made w2 24 #[.int .i64 a, .int .i64 t, .int .i64 (m - k)]) hb)
    have B3 := hide (below_then (Below.alloc B2.out (Below.size B2.out) _) hb)
    clear hb KX2 qX0 qX1 qX2 lX B2
    have lX := KX3.out.lt
    obtain ⟨qX0, qX1, qX2, -, -, -⟩ := KX3.out.three
    have lM := KM3.out.lt
    obtain ⟨qM0, qM1, qM2, -, -, -⟩ := KM3.out.three
    go_wp2_with fail
    refine (HW.out _).mono ?_; rintro e w4 ⟨rfl, hb⟩
    have KX4 := hide (Bk.call (Bk.alloc KX3.out _) hb)
    have KM4 := hide (Bk.call (Bk.alloc KM3.out _) hb)
    have KQ4 := hide (Bk.call (Bk.made w3 24 #[.int .i64 a, .int .i64 t, .int .i64 (m - k)]) hb)
    have B4 := hide (below_then (Below.alloc B3.out (Below.size B3.out) _) hb)
    clear hb KX3 qX0 qX1 qX2 lX KM3 qM0 qM1 qM2 lM B3
    have lX := KX4.out.lt
    obtain ⟨qX0, qX1, qX2, -, -, -⟩ := KX4.out.three
    have lM := KM4.out.lt
    obtain ⟨qM0, qM1, qM2, -, -, -⟩ := KM4.out.three
    have lQ := KQ4.out.lt
    obtain ⟨qQ0, qQ1, qQ2, -, -, -⟩ := KQ4.out.three
    go_wp2_with fail
    refine (HA.out _).mono ?_; rintro e w5 ⟨rfl, hb⟩
    have KX5 := hide (Bk.call (Bk.alloc KX4.out _) hb)
    have KM5 := hide (Bk.call (Bk.alloc KM4.out _) hb)
    have KQ5 := hide (Bk.call (Bk.alloc KQ4.out _) hb)
    have KZ5 := hide (Bk.call (Bk.made w4 24 #[.int .i64 a, .int .i64 t, .int .i64 m]) hb)
    have B5 := hide (below_then (Below.alloc B4.out (Below.size B4.out) _) hb)
    clear hb KX4 qX0 qX1 qX2 lX KM4 qM0 qM1 qM2 lM KQ4 qQ0 qQ1 qQ2 lQ B4
    have lX := KX5.out.lt
    obtain ⟨qX0, qX1, qX2, -, -, -⟩ := KX5.out.three
    have lM := KM5.out.lt
    obtain ⟨qM0, qM1, qM2, -, -, -⟩ := KM5.out.three
    have lQ := KQ5.out.lt
    obtain ⟨qQ0, qQ1, qQ2, -, -, -⟩ := KQ5.out.three
    have lZ := KZ5.out.lt
    obtain ⟨qZ0, qZ1, qZ2, -, -, -⟩ := KZ5.out.three
    go_wp2_with fail
    refine (implLengthOf _ _ _ _).mono ?_; rintro e w6 ⟨rfl, hb⟩; rw [HL1.out]
    have KX6 := hide (Bk.call (Bk.alloc KX5.out _) hb)
    have KM6 := hide (Bk.call (Bk.alloc KM5.out _) hb)
    have KQ6 := hide (Bk.call (Bk.alloc KQ5.out _) hb)
    have KZ6 := hide (Bk.call (Bk.alloc KZ5.out _) hb)
    have KV6 := hide (Bk.call (Bk.made w5 24 #[.int .i64 a, .int .i64 t, .int .i64 0]) hb)
    have B6 := hide (below_then (Below.alloc B5.out (Below.size B5.out) _) hb)
    clear hb KX5 qX0 qX1 qX2 lX KM5 qM0 qM1 qM2 lM KQ5 qQ0 qQ1 qQ2 lQ KZ5 qZ0 qZ1 qZ2 lZ B5
    have lX := KX6.out.lt
    obtain ⟨qX0, qX1, qX2, -, -, -⟩ := KX6.out.three
    have lM := KM6.out.lt
    obtain ⟨qM0, qM1, qM2, -, -, -⟩ := KM6.out.three
    have lQ := KQ6.out.lt
    obtain ⟨qQ0, qQ1, qQ2, -, -, -⟩ := KQ6.out.three
    have lZ := KZ6.out.lt
    obtain ⟨qZ0, qZ1, qZ2, -, -, -⟩ := KZ6.out.three
    have lV := KV6.out.lt
    obtain ⟨qV0, qV1, qV2, -, -, -⟩ := KV6.out.three
    go_wp2_with fail
    all_goals go_ret
    all_goals exact ⟨ret_bool (by first | rfl | (simp; done) | (simp; omega)), B6.out⟩
  · have Hn : Hid (vr a t m = false ∨ ¬ (0 ≤ k ∧ k ≤ m)) := by
      cases hv : vr a t m
      · exact .inl rfl
      · exact .inr fun h => g ⟨hv, h⟩
    clear g
    go_wp2_with fail
    refine (implUnwind_no _ _ _ _ Hn.out _).mono ?_; rintro e w2 ⟨rfl, hb⟩
    have KX2 := hide (Bk.call (Bk.made w1 24 #[.int .i64 a, .int .i64 t, .int .i64 m]) hb)
    have B2 := hide (below_then (Below.alloc B1.out (Below.size B1.out) _) hb)
    clear hb B1
    have lX := KX2.out.lt
    obtain ⟨qX0, qX1, qX2, -, -, -⟩ := KX2.out.three
    go_wp2_with fail
    refine (specUnwind_no _ _ _ _ Hn.out _).mono ?_; rintro e w3 ⟨rfl, hb⟩
    have KX3 := hide (Bk.call (Bk.alloc KX2.out _) hb)
    have KM3 := hide (Bk.call (Bk.made w2 24 #[.int .i64 0, .int .i64 0, .int .i64 0]) hb)
    have B3 := hide (below_then (Below.alloc B2.out (Below.size B2.out) _) hb)
    clear hb KX2 qX0 qX1 qX2 lX B2
    have lX := KX3.out.lt
    obtain ⟨qX0, qX1, qX2, -, -, -⟩ := KX3.out.three
    have lM := KM3.out.lt
    obtain ⟨qM0, qM1, qM2, -, -, -⟩ := KM3.out.three
    go_wp2_with fail
    go_ret
    exact ⟨rfl, (Below.alloc B3.out (Below.size B3.out) _)⟩
end Go.Proofs.Ytbmnmdpgkdaiiaa
