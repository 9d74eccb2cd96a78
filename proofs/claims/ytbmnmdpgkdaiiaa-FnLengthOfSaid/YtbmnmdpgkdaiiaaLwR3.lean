/- The laws over drawn rolls: turns under a diameter, empty rolls, turns of a length. -/
import Derived.Test.YtbmnmdpgkdaiiaaRdR2
import Derived.Test.YtbmnmdpgkdaiiaaRoll5
import Derived.Test.YtbmnmdpgkdaiiaaPl2
namespace Go.Proofs.Ytbmnmdpgkdaiiaa
open Go.RowKit Pl
attribute [local go_sem ↓] Go.wp_at_zero Go.wp_at_succ
set_option linter.unusedVariables false
set_option maxRecDepth 100000
theorem duOf_cases (c t n k : Int) : (duOf c t n k = -1) ∨ (vr c t n = true ∧ c ≤ k ∧ duOf c t n k = du c t k) := by
  unfold duOf
  by_cases h : vr c t n = true ∧ c ≤ k
  · rw [if_pos h]; exact .inr ⟨h.1, h.2, rfl⟩
  · rw [if_neg h]; exact .inl rfl
theorem du_facts {c t k : Int} (h1 : 1 ≤ t) (h2 : t ≤ 9) (hk : c ≤ k) : (0 ≤ du c t k ∧ du c t k ≤ 300) ∧ c + 2 * t * du c t k ≤ k ∧ (du c t k < 300 → k < c + 2 * t * du c t k + 2 * t) := by
  have hq : 0 < 2 * t := by omega
  have q0 : 0 ≤ (k - c) / (2 * t) := Int.ediv_nonneg (by omega) (by omega)
  have e := Int.mul_ediv_add_emod (k - c) (2 * t)
  have m0 := Int.emod_nonneg (k - c) (by omega : 2 * t ≠ 0)
  have m1 := Int.emod_lt_of_pos (k - c) hq
  unfold du
  by_cases h : (k - c) / (2 * t) < 300
  · rw [Int.min_eq_right (by omega)]
    refine ⟨by omega, by omega, fun _ => by omega⟩
  · rw [Int.min_eq_left (by omega)]
    have : 2 * t * 300 ≤ 2 * t * ((k - c) / (2 * t)) := Int.mul_le_mul_of_nonneg_left (by omega) (by omega)
    exact ⟨by omega, by omega, fun h => by omega⟩
theorem lnOf_cases (c t m : Int) : (vr c t m = false ∧ lnOf c t m = -1) ∨ vr c t m = true := by
  cases hv : vr c t m
  · exact .inl ⟨rfl, lnOf_no hv⟩
  · exact .inr rfl
theorem tfor_lnOf {c t m : Int} (hv : vr c t m = true) : (tfor c t (lnOf c t m) : Int) = m := by
  obtain ⟨h1, h2, h3, h4, h5, h6⟩ := vr_true hv
  rw [lnOf_yes hv, tfor_ln h1 h2 h3 h4 m.toNat (by omega)]
  omega
set_option maxHeartbeats 1000000 in
theorem lawFnTurnsUnder (A : Option Addr) (n c : Nat) (bs : List Int) (w : World) (h : Byts w A n bs) (hnc : n ≤ c) :
    Calls Try.prog 5 #[.slice A n c] w fun e w' => e = .returned (.bool true) ∧ Below w.heap.size w w' := by
  by_cases g : (1048576 : Int) < n
  · go_enter Try.func5, Try.ntmps5
    go_wp2
    go_ret
    exact ⟨rfl, Below.refl _ _⟩
  have g' : (n : Int) ≤ 1048576 := by omega
  clear g
  go_enter Try.func5, Try.ntmps5
  go_wp2_with fail
  refine (drawTurnsUnder_any A n c bs _ (by omega) hnc h).mono ?_; rintro e w1 ⟨a, t, m, k, rfl, hP, ⟨k0, k1⟩, hb⟩
  have B1 := hide hb; clear hb h
  clear hP
  rcases duOf_cases a t m k with hL | ⟨hv, hk, hL⟩
  · have HL := hide hL; clear hL
    go_wp2_with fail
    refine (implTurnsUnder _ _ _ _ (by omega) _).mono ?_; rintro e w2 ⟨rfl, hb⟩; rw [HL.out]
    have KX2 := hide (Bk.call (Bk.made w1 24 #[.int .i64 a, .int .i64 t, .int .i64 m]) hb)
    have B2 := hide (below_then (Below.alloc B1.out (Below.size B1.out) _) hb)
    clear hb B1
    have lX := KX2.out.lt
    obtain ⟨qX0, qX1, qX2, -, -, -⟩ := KX2.out.three
    go_wp2_with fail
    refine (specTurnsUnder _ _ _ _ (by omega) _).mono ?_; rintro e w3 ⟨rfl, hb⟩; rw [HL.out]
    have KX3 := hide ((KX2.out).call hb)
    have B3 := hide (below_then B2.out hb)
    clear hb KX2 qX0 qX1 qX2 lX B2
    have lX := KX3.out.lt
    obtain ⟨qX0, qX1, qX2, -, -, -⟩ := KX3.out.three
    go_wp2_with fail
    refine (specTurnsUnder _ _ _ _ (by omega) _).mono ?_; rintro e w4 ⟨rfl, hb⟩; rw [HL.out]
    have KX4 := hide ((KX3.out).call hb)
    have B4 := hide (below_then B3.out hb)
    clear hb KX3 qX0 qX1 qX2 lX B3
    have lX := KX4.out.lt
    obtain ⟨qX0, qX1, qX2, -, -, -⟩ := KX4.out.three
    go_wp2_with fail
    go_ret
    exact ⟨rfl, B4.out⟩
  · obtain ⟨h1, h2, h3, h4, h5, h6⟩ := vr_true hv
    obtain ⟨⟨f0, f1⟩, f2, f3⟩ := du_facts h3 h4 hk
    obtain ⟨D, hX⟩ : ∃ D, D = du a t k := ⟨_, rfl⟩
    rw [← hX] at hL f0 f1 f2 f3
    have tb := tk_bd h3 h4 f0 (by omega : D ≤ 301)
    have HE := hide (dOf_yes (vr_mk (c := a) (t := t) (n := D) (by omega)))
    obtain ⟨E, hE⟩ : ∃ E, E = a + 2 * t * D := ⟨_, rfl⟩
    rw [← hE] at HE f2 f3
    have e1 : 0 ≤ E := by omega
    have e2 : E ≤ 10000 := by omega
    have F3 := hide f3
    have HL := hide hL; have Hv := hide hv; clear hL hv hX tb hE f3
    go_wp2_with fail
    refine (implTurnsUnder _ _ _ _ (by omega) _).mono ?_; rintro e w2 ⟨rfl, hb⟩; rw [HL.out]
    have KX2 := hide (Bk.call (Bk.made w1 24 #[.int .i64 a, .int .i64 t, .int .i64 m]) hb)
    have B2 := hide (below_then (Below.alloc B1.out (Below.size B1.out) _) hb)
    clear hb B1
    have lX := KX2.out.lt
    obtain ⟨qX0, qX1, qX2, -, -, -⟩ := KX2.out.three
    go_wp2_with fail
    refine (specTurnsUnder _ _ _ _ (by omega) _).mono ?_; rintro e w3 ⟨rfl, hb⟩; rw [HL.out]
    have KX3 := hide ((KX2.out).call hb)
    have B3 := hide (below_then B2.out hb)
    clear hb KX2 qX0 qX1 qX2 lX B2
    have lX := KX3.out.lt
    obtain ⟨qX0, qX1, qX2, -, -, -⟩ := KX3.out.three
    go_wp2_with fail
    refine (implDiameterOf _ _ _ _).mono ?_; rintro e w4 ⟨rfl, hb⟩; rw [HE.out]
    have KX4 := hide ((KX3.out).call hb)
    have B4 := hide (below_then B3.out hb)
    clear hb KX3 qX0 qX1 qX2 lX B3
    have lX := KX4.out.lt
    obtain ⟨qX0, qX1, qX2, -, -, -⟩ := KX4.out.three
    by_cases hD : D = 300
    · have hd : (D == 300) = true := by simp [hD]
      clear hD
      go_wp2_with fail
      all_goals go_ret
      all_goals exact ⟨ret_bool (by first | rfl | (simp; done) | (simp; omega)), B4.out⟩
    · have hd : (D == 300) = false := by simp [hD]
      have hlt : k < E + 2 * t := F3.out (by omega)
      clear hD
      go_wp2_with fail
      all_goals go_ret
      all_goals exact ⟨ret_bool (by first | rfl | (simp; done) | (simp; omega)), B4.out⟩
set_option maxHeartbeats 1000000 in
theorem lawFnValidRoll (A : Option Addr) (n c : Nat) (bs : List Int) (w : World) (h : Byts w A n bs) (hnc : n ≤ c) :
    Calls Try.prog 6 #[.slice A n c] w fun e w' => e = .returned (.bool true) ∧ Below w.heap.size w w' := by
  by_cases g : (1048576 : Int) < n
  · go_enter Try.func6, Try.ntmps6
    go_wp2
    go_ret
    exact ⟨rfl, Below.refl _ _⟩
  have g' : (n : Int) ≤ 1048576 := by omega
  clear g
  go_enter Try.func6, Try.ntmps6
  go_wp2_with fail
  refine (drawValidRoll_any A n c bs _ (by omega) hnc h).mono ?_; rintro e w1 ⟨a, t, m, rfl, hP, hb⟩
  have B1 := hide hb; clear hb h
  clear hP
  cases hv : vr a t m
  · have HL := hide hv; clear hv
    go_wp2_with fail
    refine (implValidRoll _ _ _ _).mono ?_; rintro e w2 ⟨rfl, hb⟩; rw [HL.out]
    have KX2 := hide (Bk.call (Bk.made w1 24 #[.int .i64 a, .int .i64 t, .int .i64 m]) hb)
    have B2 := hide (below_then (Below.alloc B1.out (Below.size B1.out) _) hb)
    clear hb B1
    have lX := KX2.out.lt
    obtain ⟨qX0, qX1, qX2, -, -, -⟩ := KX2.out.three
    go_wp2_with fail
    refine (specValidRoll _ _ _ _).mono ?_; rintro e w3 ⟨rfl, hb⟩; rw [HL.out]
    have KX3 := hide ((KX2.out).call hb)
    have B3 := hide (below_then B2.out hb)
    clear hb KX2 qX0 qX1 qX2 lX B2
    have lX := KX3.out.lt
    obtain ⟨qX0, qX1, qX2, -, -, -⟩ := KX3.out.three
    go_wp2_with fail
    refine (specValidRoll _ _ _ _).mono ?_; rintro e w4 ⟨rfl, hb⟩; rw [HL.out]
    have KX4 := hide ((KX3.out).call hb)
    have B4 := hide (below_then B3.out hb)
    clear hb KX3 qX0 qX1 qX2 lX B3
    have lX := KX4.out.lt
    obtain ⟨qX0, qX1, qX2, -, -, -⟩ := KX4.out.three
    go_wp2_with fail
    go_ret
    exact ⟨rfl, B4.out⟩
  · obtain ⟨h1, h2, h3, h4, h5, h6⟩ := vr_true hv
    have HL := hide hv; clear hv
    have HV := hide (vr_mk (c := a) (t := t) (n := 0) (by omega))
    have HD := hide (show dOf a t 0 = a by rw [dOf_yes HV.out]; omega)
    have HN := hide (show lnOf a t 0 = 0 by rw [lnOf_yes HV.out]; rfl)
    go_wp2_with fail
    refine (implValidRoll _ _ _ _).mono ?_; rintro e w2 ⟨rfl, hb⟩; rw [HL.out]
    have KX2 := hide (Bk.call (Bk.made w1 24 #[.int .i64 a, .int .i64 t, .int .i64 m]) hb)
    have B2 := hide (below_then (Below.alloc B1.out (Below.size B1.out) _) hb)
    clear hb B1
    have lX := KX2.out.lt
    obtain ⟨qX0, qX1, qX2, -, -, -⟩ := KX2.out.three
    go_wp2_with fail
    refine (specValidRoll _ _ _ _).mono ?_; rintro e w3 ⟨rfl, hb⟩; rw [HL.out]
    have KX3 := hide ((KX2.out).call hb)
    have B3 := hide (below_then B2.out hb)
    clear hb KX2 qX0 qX1 qX2 lX B2
    have lX := KX3.out.lt
    obtain ⟨qX0, qX1, qX2, -, -, -⟩ := KX3.out.three
    go_wp2_with fail
    have KX4 := hide (Bk.alloc KX3.out (.cells #[.int .i64 a, .int .i64 t, .int .i64 0] 24))
    have KM4 := hide (Bk.made w3 24 #[.int .i64 a, .int .i64 t, .int .i64 0])
    have B4 := hide (Below.alloc B3.out (Below.size B3.out) (.cells #[.int .i64 a, .int .i64 t, .int .i64 0] 24))
    clear KX3 qX0 qX1 qX2 lX B3
    generalize hw4 : (w3.alloc (.cells #[.int .i64 a, .int .i64 t, .int .i64 0] 24)) = w4 at *
    clear hw4
    have lX := KX4.out.lt
    obtain ⟨qX0, qX1, qX2, -, -, -⟩ := KX4.out.three
    have lM := KM4.out.lt
    obtain ⟨qM0, qM1, qM2, -, -, -⟩ := KM4.out.three
    first | (go_region_held3 (fun w' => w'.cell? ⟨w1.heap.size, 0, none⟩ = some (.int .i64 a) ∧ w'.cell? ⟨w1.heap.size, 1, none⟩ = some (.int .i64 t) ∧ w'.cell? ⟨w1.heap.size, 2, none⟩ = some (.int .i64 m) ∧ w'.cell? ⟨w3.heap.size, 0, none⟩ = some (.int .i64 a) ∧ w'.cell? ⟨w3.heap.size, 1, none⟩ = some (.int .i64 t) ∧ w'.cell? ⟨w3.heap.size, 2, none⟩ = some (.int .i64 0))
      (((try dsimp only); (repeat' apply And.intro) <;> (first | (with_reducible assumption) | (simp [*]; done))))
      (first | (go_at_call 25; refine (implValidRoll _ _ _ _).mono ?_; rintro e wx ⟨rfl, hbx⟩; (try rw [HV.out]); have Bx : Hid (Below w.heap.size w wx) := (by first | exact below_then Bx.out hbx | exact below_then (below_drewN B4.out 1) hbx | exact below_then B4.out hbx); clear qX0 qX1 qX2 qM0 qM1 qM2; have KXx : Hid (Bk wx w1.heap.size 24 #[.int .i64 a, .int .i64 t, .int .i64 m]) := (by first | exact Bk.call KXx.out hbx | exact Bk.call KX4.out.drew hbx | exact Bk.call KX4.out hbx); obtain ⟨qX0, qX1, qX2, -, -, -⟩ := KXx.out.three; have KMx : Hid (Bk wx w3.heap.size 24 #[.int .i64 a, .int .i64 t, .int .i64 0]) := (by first | exact Bk.call KMx.out hbx | exact Bk.call KM4.out.drew hbx | exact Bk.call KM4.out hbx); obtain ⟨qM0, qM1, qM2, -, -, -⟩ := KMx.out.three; clear hbx) | (go_at_call 18; refine (implDiameterOf _ _ _ _).mono ?_; rintro e wx ⟨rfl, hbx⟩; (try rw [HD.out]); have Bx : Hid (Below w.heap.size w wx) := (by first | exact below_then Bx.out hbx | exact below_then (below_drewN B4.out 1) hbx | exact below_then B4.out hbx); clear qX0 qX1 qX2 qM0 qM1 qM2; have KXx : Hid (Bk wx w1.heap.size 24 #[.int .i64 a, .int .i64 t, .int .i64 m]) := (by first | exact Bk.call KXx.out hbx | exact Bk.call KX4.out.drew hbx | exact Bk.call KX4.out hbx); obtain ⟨qX0, qX1, qX2, -, -, -⟩ := KXx.out.three; have KMx : Hid (Bk wx w3.heap.size 24 #[.int .i64 a, .int .i64 t, .int .i64 0]) := (by first | exact Bk.call KMx.out hbx | exact Bk.call KM4.out.drew hbx | exact Bk.call KM4.out hbx); obtain ⟨qM0, qM1, qM2, -, -, -⟩ := KMx.out.three; clear hbx) | (go_at_call 27; refine (implLengthOf _ _ _ _).mono ?_; rintro e wx ⟨rfl, hbx⟩; (try rw [HN.out]); have Bx : Hid (Below w.heap.size w wx) := (by first | exact below_then Bx.out hbx | exact below_then (below_drewN B4.out 1) hbx | exact below_then B4.out hbx); clear qX0 qX1 qX2 qM0 qM1 qM2; have KXx : Hid (Bk wx w1.heap.size 24 #[.int .i64 a, .int .i64 t, .int .i64 m]) := (by first | exact Bk.call KXx.out hbx | exact Bk.call KX4.out.drew hbx | exact Bk.call KX4.out hbx); obtain ⟨qX0, qX1, qX2, -, -, -⟩ := KXx.out.three; have KMx : Hid (Bk wx w3.heap.size 24 #[.int .i64 a, .int .i64 t, .int .i64 0]) := (by first | exact Bk.call KMx.out hbx | exact Bk.call KM4.out.drew hbx | exact Bk.call KM4.out hbx); obtain ⟨qM0, qM1, qM2, -, -, -⟩ := KMx.out.three; clear hbx))) | fail
    go_wp2_with fail
    all_goals go_ret
    all_goals exact ⟨ret_bool (by first | rfl | (simp; done) | (simp; omega)), Bx.out⟩
set_option maxHeartbeats 1000000 in
theorem lawFnTurnsForRoll (A : Option Addr) (n c : Nat) (bs : List Int) (w : World) (h : Byts w A n bs) (hnc : n ≤ c) :
    Calls Try.prog 9 #[.slice A n c] w fun e w' => e = .returned (.bool true) ∧ Below w.heap.size w w' := by
  by_cases g : (1048576 : Int) < n
  · go_enter Try.func9, Try.ntmps9
    go_wp2
    go_ret
    exact ⟨rfl, Below.refl _ _⟩
  have g' : (n : Int) ≤ 1048576 := by omega
  clear g
  go_enter Try.func9, Try.ntmps9
  go_wp2_with fail
  refine (drawLengthOf_any A n c bs _ (by omega) hnc h).mono ?_; rintro e w1 ⟨a, t, m, rfl, hP, hb⟩
  have B1 := hide hb; clear hb h
  clear hP
  rcases lnOf_cases a t m with ⟨hv, hL⟩ | hv
  · have HL := hide hL; clear hL hv
    go_wp2_with fail
    refine (implLengthOf _ _ _ _).mono ?_; rintro e w2 ⟨rfl, hb⟩; rw [HL.out]
    have KX2 := hide (Bk.call (Bk.made w1 24 #[.int .i64 a, .int .i64 t, .int .i64 m]) hb)
    have B2 := hide (below_then (Below.alloc B1.out (Below.size B1.out) _) hb)
    clear hb B1
    have lX := KX2.out.lt
    obtain ⟨qX0, qX1, qX2, -, -, -⟩ := KX2.out.three
    go_wp2_with fail
    refine (specLengthOf _ _ _ _).mono ?_; rintro e w3 ⟨rfl, hb⟩; rw [HL.out]
    have KX3 := hide ((KX2.out).call hb)
    have B3 := hide (below_then B2.out hb)
    clear hb KX2 qX0 qX1 qX2 lX B2
    have lX := KX3.out.lt
    obtain ⟨qX0, qX1, qX2, -, -, -⟩ := KX3.out.three
    go_wp2_with fail
    refine (specLengthOf _ _ _ _).mono ?_; rintro e w4 ⟨rfl, hb⟩; rw [HL.out]
    have KX4 := hide ((KX3.out).call hb)
    have B4 := hide (below_then B3.out hb)
    clear hb KX3 qX0 qX1 qX2 lX B3
    have lX := KX4.out.lt
    obtain ⟨qX0, qX1, qX2, -, -, -⟩ := KX4.out.three
    go_wp2_with fail
    go_ret
    exact ⟨rfl, B4.out⟩
  · obtain ⟨h1, h2, h3, h4, h5, h6⟩ := vr_true hv
    have lb := lnOf_bd hv
    have HT := hide (show tfOf a t m (lnOf a t m) = m by rw [tfOf_yes hv lb.1]; exact tfor_lnOf hv)
    obtain ⟨L, hL⟩ : ∃ L, lnOf a t m = L := ⟨_, rfl⟩
    rw [hL] at lb HT
    have HL := hide hL; clear hL hv
    obtain ⟨lb1, lb2⟩ := lb
    go_wp2_with fail
    refine (implLengthOf _ _ _ _).mono ?_; rintro e w2 ⟨rfl, hb⟩; rw [HL.out]
    have KX2 := hide (Bk.call (Bk.made w1 24 #[.int .i64 a, .int .i64 t, .int .i64 m]) hb)
    have B2 := hide (below_then (Below.alloc B1.out (Below.size B1.out) _) hb)
    clear hb B1
    have lX := KX2.out.lt
    obtain ⟨qX0, qX1, qX2, -, -, -⟩ := KX2.out.three
    go_wp2_with fail
    refine (specLengthOf _ _ _ _).mono ?_; rintro e w3 ⟨rfl, hb⟩; rw [HL.out]
    have KX3 := hide ((KX2.out).call hb)
    have B3 := hide (below_then B2.out hb)
    clear hb KX2 qX0 qX1 qX2 lX B2
    have lX := KX3.out.lt
    obtain ⟨qX0, qX1, qX2, -, -, -⟩ := KX3.out.three
    go_wp2_with fail
    first | (go_region_held3 (fun w' => w'.cell? ⟨w1.heap.size, 0, none⟩ = some (.int .i64 a) ∧ w'.cell? ⟨w1.heap.size, 1, none⟩ = some (.int .i64 t) ∧ w'.cell? ⟨w1.heap.size, 2, none⟩ = some (.int .i64 m))
      (((try dsimp only); (repeat' apply And.intro) <;> (first | (with_reducible assumption) | (simp [*]; done))))
      (first | (go_at_call 34; refine (implTurnsFor _ _ _ _ (by omega) _).mono ?_; rintro e wx ⟨rfl, hbx⟩; (try rw [HT.out]); have Bx : Hid (Below w.heap.size w wx) := (by first | exact below_then Bx.out hbx | exact below_then (below_drewN B3.out 1) hbx | exact below_then B3.out hbx); clear qX0 qX1 qX2; have KXx : Hid (Bk wx w1.heap.size 24 #[.int .i64 a, .int .i64 t, .int .i64 m]) := (by first | exact Bk.call KXx.out hbx | exact Bk.call KX3.out.drew hbx | exact Bk.call KX3.out hbx); obtain ⟨qX0, qX1, qX2, -, -, -⟩ := KXx.out.three; clear hbx))) | fail
    go_wp2_with fail
    all_goals go_ret
    all_goals exact ⟨ret_bool (by first | rfl | (simp; done) | (simp; omega)), Bx.out⟩
set_option maxHeartbeats 1000000 in
theorem lawFnLengthOf (A : Option Addr) (n c : Nat) (bs : List Int) (w : World) (h : Byts w A n bs) (hnc : n ≤ c) :
    Calls Try.prog 8 #[.slice A n c] w fun e w' => e = .returned (.bool true) ∧ Below w.heap.size w w' := by
  by_cases g : (1048576 : Int) < n
  · go_enter Try.func8, Try.ntmps8
    go_wp2
    go_ret
    exact ⟨rfl, Below.refl _ _⟩
  have g' : (n : Int) ≤ 1048576 := by omega
  clear g
  go_enter Try.func8, Try.ntmps8
  go_wp2_with fail
  refine (drawLengthOf_any A n c bs _ (by omega) hnc h).mono ?_; rintro e w1 ⟨a, t, m, rfl, hP, hb⟩
  have B1 := hide hb; clear hb h
  clear hP
  rcases (show (lnOf a t m < 1) ∨ (vr a t m = true ∧ 1 ≤ m) by
    rcases lnOf_cases a t m with ⟨hv, hL⟩ | hv
    · exact .inl (by omega)
    · by_cases hm : 1 ≤ m
      · exact .inr ⟨hv, hm⟩
      · obtain ⟨h1, h2, h3, h4, h5, h6⟩ := vr_true hv
        obtain rfl : m = 0 := by omega
        exact .inl (by rw [lnOf_yes hv]; simp [ln])) with hlt | ⟨hv, hm⟩
  · obtain ⟨L, hL⟩ : ∃ L, lnOf a t m = L := ⟨_, rfl⟩
    rw [hL] at hlt
    have HL := hide hL; clear hL
    go_wp2_with fail
    refine (implLengthOf _ _ _ _).mono ?_; rintro e w2 ⟨rfl, hb⟩; rw [HL.out]
    have KX2 := hide (Bk.call (Bk.made w1 24 #[.int .i64 a, .int .i64 t, .int .i64 m]) hb)
    have B2 := hide (below_then (Below.alloc B1.out (Below.size B1.out) _) hb)
    clear hb B1
    have lX := KX2.out.lt
    obtain ⟨qX0, qX1, qX2, -, -, -⟩ := KX2.out.three
    go_wp2_with fail
    refine (specLengthOf _ _ _ _).mono ?_; rintro e w3 ⟨rfl, hb⟩; rw [HL.out]
    have KX3 := hide ((KX2.out).call hb)
    have B3 := hide (below_then B2.out hb)
    clear hb KX2 qX0 qX1 qX2 lX B2
    have lX := KX3.out.lt
    obtain ⟨qX0, qX1, qX2, -, -, -⟩ := KX3.out.three
    go_wp2_with fail
    refine (specLengthOf _ _ _ _).mono ?_; rintro e w4 ⟨rfl, hb⟩; rw [HL.out]
    have KX4 := hide ((KX3.out).call hb)
    have B4 := hide (below_then B3.out hb)
    clear hb KX3 qX0 qX1 qX2 lX B3
    have lX := KX4.out.lt
    obtain ⟨qX0, qX1, qX2, -, -, -⟩ := KX4.out.three
    go_wp2_with fail
    go_ret
    exact ⟨ret_bool (by first | rfl | simp), B4.out⟩
  · obtain ⟨h1, h2, h3, h4, h5, h6⟩ := vr_true hv
    have hv2 : vr a t (m - 1) = true := vr_mk (by omega)
    have HT := hide (tlOf_yes (k := m - 1) hv (by omega) (by omega))
    have tb := tl_bd h1 h2 h3 h4 (k := m - 1) (by omega) (by omega)
    have lb := lnOf_bd hv2
    have hsum : lnOf a t m = lnOf a t (m - 1) + tl a t (m - 1) := by
      rw [lnOf_yes hv, lnOf_yes hv2]
      obtain ⟨j, hj⟩ : ∃ j, m.toNat = j + 1 := ⟨m.toNat - 1, by omega⟩
      have hj2 : (m - 1).toNat = j := by omega
      rw [hj, hj2]
      simp only [ln]
      rw [show (j : Int) = m - 1 by omega]
    have HU := hide (fun W : World => implUnwind_yes a t m 1 hv (by omega) (by omega) W)
    obtain ⟨L1, hL1⟩ : ∃ L1, lnOf a t (m - 1) = L1 := ⟨_, rfl⟩
    obtain ⟨T, hT⟩ : ∃ T, tl a t (m - 1) = T := ⟨_, rfl⟩
    rw [hL1] at hsum lb HU
    rw [hT] at hsum tb HT
    obtain ⟨L, hL⟩ : ∃ L, lnOf a t m = L := ⟨_, rfl⟩
    rw [hL] at hsum HU
    have hT2 : L - L1 = T := by omega
    rw [hT2] at HU
    have l1 : 1 ≤ L := by omega
    have l2 : L1 + T ≤ 10000000 := by omega
    have HS := hide hsum
    have HL := hide hL; have HL1 := hide hL1; clear hL hv hv2 hL1 hT hT2 hsum
    obtain ⟨lb1, lb2⟩ := lb
    obtain ⟨tb1, tb2⟩ := tb
    go_wp2_with fail
    refine (implLengthOf _ _ _ _).mono ?_; rintro e w2 ⟨rfl, hb⟩; rw [HL.out]
    have KX2 := hide (Bk.call (Bk.made w1 24 #[.int .i64 a, .int .i64 t, .int .i64 m]) hb)
    have B2 := hide (below_then (Below.alloc B1.out (Below.size B1.out) _) hb)
    clear hb B1
    have lX := KX2.out.lt
    obtain ⟨qX0, qX1, qX2, -, -, -⟩ := KX2.out.three
    go_wp2_with fail
    refine (specLengthOf _ _ _ _).mono ?_; rintro e w3 ⟨rfl, hb⟩; rw [HL.out]
    have KX3 := hide ((KX2.out).call hb)
    have B3 := hide (below_then B2.out hb)
    clear hb KX2 qX0 qX1 qX2 lX B2
    have lX := KX3.out.lt
    obtain ⟨qX0, qX1, qX2, -, -, -⟩ := KX3.out.three
    go_wp2_with fail
    refine (HU.out _).mono ?_; rintro e w4 ⟨rfl, hb⟩
    have KX4 := hide ((KX3.out).call hb)
    have B4 := hide (below_then B3.out hb)
    clear hb KX3 qX0 qX1 qX2 lX B3
    have lX := KX4.out.lt
    obtain ⟨qX0, qX1, qX2, -, -, -⟩ := KX4.out.three
    go_wp2_with fail
    refine (implTurnLength _ _ _ _ _).mono ?_; rintro e w5 ⟨rfl, hb⟩; rw [HT.out]
    have KX5 := hide (Bk.call (Bk.alloc KX4.out _) hb)
    have KM5 := hide (Bk.call (Bk.made w4 24 #[.int .i64 a, .int .i64 t, .int .i64 (m - 1)]) hb)
    have B5 := hide (below_then (Below.alloc B4.out (Below.size B4.out) _) hb)
    clear hb KX4 qX0 qX1 qX2 lX B4
    have lX := KX5.out.lt
    obtain ⟨qX0, qX1, qX2, -, -, -⟩ := KX5.out.three
    have lM := KM5.out.lt
    obtain ⟨qM0, qM1, qM2, -, -, -⟩ := KM5.out.three
    go_wp2_with fail
    refine (implLengthOf _ _ _ _).mono ?_; rintro e w6 ⟨rfl, hb⟩; rw [HL1.out]
    have KX6 := hide ((KX5.out).call hb)
    have KM6 := hide ((KM5.out).call hb)
    have B6 := hide (below_then B5.out hb)
    clear hb KX5 qX0 qX1 qX2 lX KM5 qM0 qM1 qM2 lM B5
    have lX := KX6.out.lt
    obtain ⟨qX0, qX1, qX2, -, -, -⟩ := KX6.out.three
    have lM := KM6.out.lt
    obtain ⟨qM0, qM1, qM2, -, -, -⟩ := KM6.out.three
    go_wp2_with fail
    all_goals go_ret
    all_goals exact ⟨ret_bool (by have := HS.out; first | rfl | (simp; done) | (simp; omega)), B6.out⟩
end Go.Proofs.Ytbmnmdpgkdaiiaa
