/- The laws over drawn rolls: places on turns, rewinding. -/
import Derived.Test.YtbmnmdpgkdaiiaaRdR2
import Derived.Test.YtbmnmdpgkdaiiaaRoll5
import Derived.Test.YtbmnmdpgkdaiiaaPl2
import Derived.Test.YtbmnmdpgkdaiiaaRdR3
import Derived.Test.YtbmnmdpgkdaiiaaRoll7
import Derived.Test.YtbmnmdpgkdaiiaaLwR4
namespace Go.Proofs.Ytbmnmdpgkdaiiaa
open Go.RowKit Pl
attribute [local go_sem ↓] Go.wp_at_zero Go.wp_at_succ
set_option linter.unusedVariables false
set_option maxRecDepth 100000
theorem taOf_cases (c t m l : Int) : (taOf c t m l = -1) ∨ (vr c t m = true ∧ 0 ≤ l ∧ l < lnOf c t m ∧ taOf c t m l = tfor c t l) := by
  unfold taOf
  by_cases h : vr c t m = true ∧ 0 ≤ l ∧ l < lnOf c t m
  · rw [if_pos h]; exact .inr ⟨h.1, h.2.1, h.2.2, rfl⟩
  · rw [if_neg h]; exact .inl rfl
theorem tfor_ln2 {c t m : Int} (hv : vr c t m = true) : tfor c t (lnOf c t m) = m.toNat := by
  obtain ⟨h1, h2, h3, h4, h5, h6⟩ := vr_true hv
  rw [lnOf_yes hv, tfor_ln h1 h2 h3 h4 m.toNat (by omega)]
set_option maxHeartbeats 1000000 in
theorem lawFnTurnAt (A : Option Addr) (n c : Nat) (bs : List Int) (w : World) (h : Byts w A n bs) (hnc : n ≤ c) :
    Calls Try.prog 12 #[.slice A n c] w fun e w' => e = .returned (.bool true) ∧ Below w.heap.size w w' := by
  by_cases g : (1048576 : Int) < n
  · go_enter Try.func12, Try.ntmps12
    go_wp2
    go_ret
    exact ⟨rfl, Below.refl _ _⟩
  have g' : (n : Int) ≤ 1048576 := by omega
  clear g
  go_enter Try.func12, Try.ntmps12
  go_wp2_with fail
  refine (drawTurnAt_any A n c bs _ (by omega) hnc h).mono ?_; rintro e w1 ⟨a, t, m, k, rfl, hP, ⟨k0, k1⟩, hb⟩
  have B1 := hide hb; clear hb h
  clear hP
  rcases taOf_cases a t m k with hL | ⟨hv, hk, hkl, hL⟩
  · have HL := hide hL; clear hL
    go_wp2_with fail
    refine (implTurnAt _ _ _ _ (by omega) _).mono ?_; rintro e w2 ⟨rfl, hb⟩; rw [HL.out]
    have KX2 := hide (Bk.call (Bk.made w1 24 #[.int .i64 a, .int .i64 t, .int .i64 m]) hb)
    have B2 := hide (below_then (Below.alloc B1.out (Below.size B1.out) _) hb)
    clear hb B1
    have lX := KX2.out.lt
    obtain ⟨qX0, qX1, qX2, -, -, -⟩ := KX2.out.three
    go_wp2_with fail
    refine (specTurnAt _ _ _ _ (by omega) _).mono ?_; rintro e w3 ⟨rfl, hb⟩; rw [HL.out]
    have KX3 := hide ((KX2.out).call hb)
    have B3 := hide (below_then B2.out hb)
    clear hb KX2 qX0 qX1 qX2 lX B2
    have lX := KX3.out.lt
    obtain ⟨qX0, qX1, qX2, -, -, -⟩ := KX3.out.three
    go_wp2_with fail
    refine (specTurnAt _ _ _ _ (by omega) _).mono ?_; rintro e w4 ⟨rfl, hb⟩; rw [HL.out]
    have KX4 := hide ((KX3.out).call hb)
    have B4 := hide (below_then B3.out hb)
    clear hb KX3 qX0 qX1 qX2 lX B3
    have lX := KX4.out.lt
    obtain ⟨qX0, qX1, qX2, -, -, -⟩ := KX4.out.three
    go_wp2_with fail
    go_ret
    exact ⟨rfl, B4.out⟩
  · obtain ⟨h1, h2, h3, h4, h5, h6⟩ := vr_true hv
    obtain ⟨f0, f1⟩ := tfor_fits a t k hk
    have f2 := tfor_le a t k
    rw [lnOf_yes hv] at hkl
    obtain ⟨D, hX⟩ : ∃ D, D = tfor a t k := ⟨_, rfl⟩
    rw [← hX] at hL f0 f1 f2
    have hDm : (D : Int) < m := by
      rcases Nat.lt_or_ge D m.toNat with h | h
      · omega
      · have := ln_mono h1 h2 h3 h4 h (by omega)
        omega
    have HE := hide (lnOf_yes (vr_mk (c := a) (t := t) (n := (D : Int)) (by omega)))
    rw [Int.toNat_natCast] at HE
    have f3 := f1 (by omega)
    have tb := tl_bd h1 h2 h3 h4 (k := (D : Int)) (by omega) (by omega)
    have HT := hide (tlOf_yes (k := (D : Int)) hv (by omega) (by omega))
    have f4 : k < ln a t D + tl a t D := f3
    obtain ⟨E, hE⟩ : ∃ E, ln a t D = E := ⟨_, rfl⟩
    obtain ⟨T, hT⟩ : ∃ T, tl a t D = T := ⟨_, rfl⟩
    rw [hE] at HE f0 f4
    rw [hT] at HT tb f4
    have HL := hide hL; have Hv := hide hv; clear hL hv hX f1 f3 hE hT hkl
    obtain ⟨tb1, tb2⟩ := tb
    have e0 : (0 : Int) ≤ D := by omega
    go_wp2_with fail
    refine (implTurnAt _ _ _ _ (by omega) _).mono ?_; rintro e w2 ⟨rfl, hb⟩; rw [HL.out]
    have KX2 := hide (Bk.call (Bk.made w1 24 #[.int .i64 a, .int .i64 t, .int .i64 m]) hb)
    have B2 := hide (below_then (Below.alloc B1.out (Below.size B1.out) _) hb)
    clear hb B1
    have lX := KX2.out.lt
    obtain ⟨qX0, qX1, qX2, -, -, -⟩ := KX2.out.three
    go_wp2_with fail
    refine (specTurnAt _ _ _ _ (by omega) _).mono ?_; rintro e w3 ⟨rfl, hb⟩; rw [HL.out]
    have KX3 := hide ((KX2.out).call hb)
    have B3 := hide (below_then B2.out hb)
    clear hb KX2 qX0 qX1 qX2 lX B2
    have lX := KX3.out.lt
    obtain ⟨qX0, qX1, qX2, -, -, -⟩ := KX3.out.three
    go_wp2_with fail
    refine (implLengthOf _ _ _ _).mono ?_; rintro e w4 ⟨rfl, hb⟩; rw [HE.out]
    have KX4 := hide ((KX3.out).call hb)
    have B4 := hide (below_then B3.out hb)
    clear hb KX3 qX0 qX1 qX2 lX B3
    have lX := KX4.out.lt
    obtain ⟨qX0, qX1, qX2, -, -, -⟩ := KX4.out.three
    go_wp2_with fail
    refine (implTurnLength _ _ _ _ _).mono ?_; rintro e w5 ⟨rfl, hb⟩; rw [HT.out]
    have KX5 := hide ((KX4.out).call hb)
    have B5 := hide (below_then B4.out hb)
    clear hb KX4 qX0 qX1 qX2 lX B4
    have lX := KX5.out.lt
    obtain ⟨qX0, qX1, qX2, -, -, -⟩ := KX5.out.three
    go_wp2_with fail
    all_goals go_ret
    all_goals exact ⟨ret_bool (by first | rfl | (simp; done) | (simp; omega)), B5.out⟩
set_option maxHeartbeats 4000000 in
theorem lawFnRewind (A : Option Addr) (n c : Nat) (bs : List Int) (w : World) (h : Byts w A n bs) (hnc : n ≤ c) :
    Calls Try.prog 13 #[.slice A n c] w fun e w' => e = .returned (.bool true) ∧ Below w.heap.size w w' := by
  by_cases g : (1048576 : Int) < n
  · go_enter Try.func13, Try.ntmps13
    go_wp2
    go_ret
    exact ⟨rfl, Below.refl _ _⟩
  have g' : (n : Int) ≤ 1048576 := by omega
  clear g
  go_enter Try.func13, Try.ntmps13
  go_wp2_with fail
  refine (drawRewind_any A n c bs _ (by omega) hnc h).mono ?_; rintro e w1 ⟨a, t, m, d, u, p, rfl, hP, hb⟩
  have B1 := hide hb; clear hb h
  clear hP
  by_cases g : vr a t m = true ∧ vr d u p = true ∧ p = 0 ∧ u = t
  · obtain ⟨hv, hd, rfl, rfl⟩ := g
    obtain ⟨h1, h2, h3, h4, h5, h6⟩ := vr_true hv
    obtain ⟨i1, i2, -, -, -, -⟩ := vr_true hd
    have hv0 : vr a u 0 = true := vr_mk (by omega)
    have lb1 := lnOf_bd hv
    have HI := hide (fun W : World => implRewind_yes a d u m hv hd W)
    have HIs := hide (fun W : World => specRewind_yes a d u m hv hd W)
    have HJ := hide (fun W : World => implRewind_yes a a u m hv hv0 W)
    rw [tfor_ln2 hv, ← lnOf_yes hv, Int.sub_self, Int.toNat_of_nonneg h5] at HJ
    obtain ⟨f0, f1⟩ := tfor_fits d u (lnOf a u m) lb1.1
    have f2 := tfor_le d u (lnOf a u m)
    obtain ⟨D, hX⟩ : ∃ D, D = tfor d u (lnOf a u m) := ⟨_, rfl⟩
    rw [← hX] at HI HIs f0 f1 f2
    have hvD : vr d u D = true := vr_mk (by omega)
    have HE := hide (lnOf_yes hvD)
    have lb2 := lnOf_bd hvD
    rw [HE.out, Int.toNat_natCast] at lb2
    rw [Int.toNat_natCast] at HE
    have f4 : D < 300 → lnOf a u m < ln d u D + tl d u D := fun h => f1 h
    have tb := tl_bd i1 i2 h3 h4 (k := (D : Int)) (by omega) (by omega)
    have HT := hide (fun h : (D : Int) < 300 => tlOf_yes (k := (D : Int)) hvD (by omega) h)
    obtain ⟨E, hE⟩ : ∃ E, ln d u D = E := ⟨_, rfl⟩
    obtain ⟨T, hT⟩ : ∃ T, tl d u D = T := ⟨_, rfl⟩
    obtain ⟨L, hL⟩ : ∃ L, lnOf a u m = L := ⟨_, rfl⟩
    rw [hE] at HE f0 f4 HI HIs lb2
    rw [hT] at HT tb f4
    rw [hL] at f0 f4 HI HIs lb1
    have HL := hide hL; have Hv := hide hv; have HvD := hide hvD; clear hL hv hd hX hE hT f1 hv0 hvD
    obtain ⟨tb1, tb2⟩ := tb
    obtain ⟨lb3, lb4⟩ := lb2
    obtain ⟨lb5, lb6⟩ := lb1
    have e0 : (0 : Int) ≤ D := by omega
    obtain ⟨X, hX⟩ : ∃ X, L - E = X := ⟨_, rfl⟩
    have ew : IntKind.i64.wrap (E + X) = L := by rw [← hX, show E + (L - E) = L by omega]; exact IntWalk.i64_in _ ⟨by omega, by omega⟩
    have f5 : D < 300 → X < T := fun h => by have := f4 h; omega
    rw [hX] at HI HIs
    have x0 : 0 ≤ X := by omega
    have x1 : X ≤ 10000000 := by omega
    have f6 : (D : Int) < 300 → X < T := fun h => f5 (by omega)
    have d3 : (D : Int) ≤ 300 := by omega
    have EW := hide ew; have F5 := hide f6; clear hX ew f4 f5 f6
    generalize (D : Int) = DI at HI HIs HE HT F5 e0 d3
    go_wp2_with fail
    refine (HI.out _).mono ?_; rintro e w2 ⟨rfl, hb⟩
    have KX2 := hide (Bk.call (Bk.alloc (Bk.made w1 24 #[.int .i64 a, .int .i64 u, .int .i64 m]) _) hb)
    have KY2 : Hid (Bk w2 (w1.heap.size + 1) 24 #[.int .i64 d, .int .i64 u, .int .i64 0]) := hide (by have := Bk.call (Bk.made (w1.alloc (.cells #[.int .i64 a, .int .i64 u, .int .i64 m] 24)) 24 #[.int .i64 d, .int .i64 u, .int .i64 0]) hb; simpa using this)
    have B2 := hide (below_then (Below.alloc (Below.alloc B1.out (Below.size B1.out) _) (Below.size (Below.alloc B1.out (Below.size B1.out) _)) _) hb)
    clear hb B1
    have lX := KX2.out.lt
    obtain ⟨qX0, qX1, qX2, -, -, -⟩ := KX2.out.three
    have lY := KY2.out.lt
    obtain ⟨qY0, qY1, qY2, -, -, -⟩ := KY2.out.three
    go_wp2_with fail
    refine (HIs.out _).mono ?_; rintro e w3 ⟨rfl, hb⟩
    have KX3 := hide (Bk.call (Bk.alloc KX2.out _) hb)
    have KY3 := hide (Bk.call (Bk.alloc KY2.out _) hb)
    have KM3 := hide (Bk.call (Bk.made w2 24 #[.int .i64 d, .int .i64 u, .int .i64 DI]) hb)
    have B3 := hide (below_then (Below.alloc B2.out (Below.size B2.out) _) hb)
    clear hb KX2 qX0 qX1 qX2 lX KY2 qY0 qY1 qY2 lY B2
    have lX := KX3.out.lt
    obtain ⟨qX0, qX1, qX2, -, -, -⟩ := KX3.out.three
    have lY := KY3.out.lt
    obtain ⟨qY0, qY1, qY2, -, -, -⟩ := KY3.out.three
    have lM := KM3.out.lt
    obtain ⟨qM0, qM1, qM2, -, -, -⟩ := KM3.out.three
    clear HI HIs
    go_wp2_with fail
    refine (HJ.out _).mono ?_; rintro e w4 ⟨rfl, hb⟩
    have KX4 := hide (Bk.call (Bk.alloc KX3.out _) hb)
    have KY4 := hide (Bk.call (Bk.alloc KY3.out _) hb)
    have KM4 := hide (Bk.call (Bk.alloc KM3.out _) hb)
    have KQ4 := hide (Bk.call (Bk.made w3 24 #[.int .i64 d, .int .i64 u, .int .i64 DI]) hb)
    have B4 := hide (below_then (Below.alloc B3.out (Below.size B3.out) _) hb)
    clear hb KX3 qX0 qX1 qX2 lX KY3 qY0 qY1 qY2 lY KM3 qM0 qM1 qM2 lM B3
    have lX := KX4.out.lt
    obtain ⟨qX0, qX1, qX2, -, -, -⟩ := KX4.out.three
    have lY := KY4.out.lt
    obtain ⟨qY0, qY1, qY2, -, -, -⟩ := KY4.out.three
    have lM := KM4.out.lt
    obtain ⟨qM0, qM1, qM2, -, -, -⟩ := KM4.out.three
    have lQ := KQ4.out.lt
    obtain ⟨qQ0, qQ1, qQ2, -, -, -⟩ := KQ4.out.three
    clear KY4 qY0 qY1 qY2 lY
    clear KQ4 qQ0 qQ1 qQ2 lQ
    clear HJ
    go_wp2_with fail
    have KX5 := hide (Bk.alloc KX4.out (.cells #[.int .i64 a, .int .i64 u, .int .i64 m] 24))
    have KM5 := hide (Bk.alloc KM4.out (.cells #[.int .i64 a, .int .i64 u, .int .i64 m] 24))
    have KS5 := hide (Bk.made w4 24 #[.int .i64 a, .int .i64 u, .int .i64 m])
    have B5 := hide (Below.alloc B4.out (Below.size B4.out) (.cells #[.int .i64 a, .int .i64 u, .int .i64 m] 24))
    clear KX4 qX0 qX1 qX2 lX KM4 qM0 qM1 qM2 lM B4
    generalize hw5 : (w4.alloc (.cells #[.int .i64 a, .int .i64 u, .int .i64 m] 24)) = w5 at *
    clear hw5
    have lX := KX5.out.lt
    obtain ⟨qX0, qX1, qX2, -, -, -⟩ := KX5.out.three
    have lM := KM5.out.lt
    obtain ⟨qM0, qM1, qM2, -, -, -⟩ := KM5.out.three
    have lS := KS5.out.lt
    obtain ⟨qS0, qS1, qS2, -, -, -⟩ := KS5.out.three
    have ew := EW.out
    by_cases hD : DI = 300
    · subst hD
      refine wp_region_held_drew (S := fun w' => w'.cell? ⟨w1.heap.size, 0, none⟩ = some (.int .i64 a) ∧ w'.cell? ⟨w1.heap.size, 1, none⟩ = some (.int .i64 u) ∧ w'.cell? ⟨w1.heap.size, 2, none⟩ = some (.int .i64 m) ∧ w'.cell? ⟨w2.heap.size, 0, none⟩ = some (.int .i64 d) ∧ w'.cell? ⟨w2.heap.size, 1, none⟩ = some (.int .i64 u) ∧ w'.cell? ⟨w2.heap.size, 2, none⟩ = some (.int .i64 300) ∧ w'.cell? ⟨w4.heap.size, 0, none⟩ = some (.int .i64 a) ∧ w'.cell? ⟨w4.heap.size, 1, none⟩ = some (.int .i64 u) ∧ w'.cell? ⟨w4.heap.size, 2, none⟩ = some (.int .i64 m)) (by kernel_rfl) ?hS1 (fun hHeld => ?_)
      case hS1 => ((try dsimp only); (repeat' apply And.intro) <;> (first | (with_reducible assumption) | (rw [World.cell?_drew]; with_reducible assumption) | (simp [*]; done)))
      refine wpAnyH_take (i := 0) (v := ?v2) (by simp only [List.getElem?_toArray, List.getElem?_cons_zero]; rfl) (by kernel_rfl) (by kernel_rfl) (by kernel_rfl) (by exact fun _ _ _ h => h) (Or.inl ⟨by rfl, ?hy2⟩) (by assumption) ?rest2
      case hy2 => (intro w hSw; (try dsimp only at hSw); go_simp; (try with_reducible rfl))
      (try simp only [Act.put, List.setIfInBounds_toArray, List.set_cons_zero, List.set_cons_succ])
      refine wpAnyH_take (i := 2) (v := ?v3) (by simp only [List.getElem?_toArray, List.getElem?_cons_succ, List.getElem?_cons_zero]; rfl) (by kernel_rfl) (by kernel_rfl) (by kernel_rfl) (by exact fun _ _ _ h => h) (Or.inl ⟨by rfl, ?hy3⟩) (by assumption) ?rest3
      case hy3 => (intro w hSw; (try dsimp only at hSw); go_simp; (try with_reducible rfl))
      (try simp only [Act.put, List.setIfInBounds_toArray, List.set_cons_zero, List.set_cons_succ])
      refine wpAnyH_take (i := 4) (v := ?v4) (by simp only [List.getElem?_toArray, List.getElem?_cons_succ, List.getElem?_cons_zero]; rfl) (by kernel_rfl) (by kernel_rfl) (by kernel_rfl) (by exact fun _ _ _ h => h) (Or.inl ⟨by rfl, ?hy4⟩) (by assumption) ?rest4
      case hy4 => (intro w hSw; (try dsimp only at hSw); go_simp; (try with_reducible rfl))
      (try simp only [Act.put, List.setIfInBounds_toArray, List.set_cons_zero, List.set_cons_succ])
      refine wpAnyH_ready (rs := [1]) (by kernel_rfl) (by simp) (AllReadyH.cons (by simp only [List.getElem?_toArray, List.getElem?_cons_succ, List.getElem?_cons_zero]; rfl) (fun K hK => ?_) AllReadyH.nil)
      go_simp
      refine (implLengthOf _ _ _ _).mono ?_; rintro e wx ⟨rfl, hbx⟩; (try rw [HE.out]); (try rw [HL.out]); have Bx : Hid (Below w.heap.size w wx) := (by first | exact below_then Bx.out hbx | exact below_then (below_drewN B5.out 1) hbx | exact below_then B5.out hbx); clear qX0 qX1 qX2 qM0 qM1 qM2 qS0 qS1 qS2; have KXx : Hid (Bk wx w1.heap.size 24 #[.int .i64 a, .int .i64 u, .int .i64 m]) := (by first | exact Bk.call KXx.out hbx | exact Bk.call KX5.out.drew hbx | exact Bk.call KX5.out hbx); obtain ⟨qX0, qX1, qX2, -, -, -⟩ := KXx.out.three; have KMx : Hid (Bk wx w2.heap.size 24 #[.int .i64 d, .int .i64 u, .int .i64 300]) := (by first | exact Bk.call KMx.out hbx | exact Bk.call KM5.out.drew hbx | exact Bk.call KM5.out hbx); obtain ⟨qM0, qM1, qM2, -, -, -⟩ := KMx.out.three; have KSx : Hid (Bk wx w4.heap.size 24 #[.int .i64 a, .int .i64 u, .int .i64 m]) := (by first | exact Bk.call KSx.out hbx | exact Bk.call KS5.out.drew hbx | exact Bk.call KS5.out hbx); obtain ⟨qS0, qS1, qS2, -, -, -⟩ := KSx.out.three; clear hbx
      (try go_wp2_with fail)
      clear hHeld
      refine hK.out _ _ ?hS5 (fun hHeld => ?_)
      case hS5 => ((try dsimp only); (repeat' apply And.intro) <;> (first | (with_reducible assumption) | (rw [World.cell?_drew]; with_reducible assumption) | (simp [*]; done)))
      clear hK K
      (try simp only [Act.put, List.setIfInBounds_toArray, List.set_cons_zero, List.set_cons_succ])
      refine wpAnyH_take (i := 3) (v := ?v6) (by simp only [List.getElem?_toArray, List.getElem?_cons_succ, List.getElem?_cons_zero]; rfl) (by kernel_rfl) (by kernel_rfl) (by kernel_rfl) (by exact fun _ _ _ h => h) (Or.inl ⟨by rfl, ?hy6⟩) (by assumption) ?rest6
      case hy6 => (intro w hSw; (try dsimp only at hSw); go_simp; (try with_reducible rfl))
      (try simp only [Act.put, List.setIfInBounds_toArray, List.set_cons_zero, List.set_cons_succ])
      refine wpAnyH_ready (rs := [5]) (by kernel_rfl) (by simp) (AllReadyH.cons (by simp only [List.getElem?_toArray, List.getElem?_cons_succ, List.getElem?_cons_zero]; rfl) (fun K hK => ?_) AllReadyH.nil)
      go_simp
      refine (implLengthOf _ _ _ _).mono ?_; rintro e wx ⟨rfl, hbx⟩; (try rw [HE.out]); (try rw [HL.out]); have Bx : Hid (Below w.heap.size w wx) := (by first | exact below_then Bx.out hbx | exact below_then (below_drewN B5.out 1) hbx | exact below_then B5.out hbx); clear qX0 qX1 qX2 qM0 qM1 qM2 qS0 qS1 qS2; have KXx : Hid (Bk wx w1.heap.size 24 #[.int .i64 a, .int .i64 u, .int .i64 m]) := (by first | exact Bk.call KXx.out hbx | exact Bk.call KX5.out.drew hbx | exact Bk.call KX5.out hbx); obtain ⟨qX0, qX1, qX2, -, -, -⟩ := KXx.out.three; have KMx : Hid (Bk wx w2.heap.size 24 #[.int .i64 d, .int .i64 u, .int .i64 300]) := (by first | exact Bk.call KMx.out hbx | exact Bk.call KM5.out.drew hbx | exact Bk.call KM5.out hbx); obtain ⟨qM0, qM1, qM2, -, -, -⟩ := KMx.out.three; have KSx : Hid (Bk wx w4.heap.size 24 #[.int .i64 a, .int .i64 u, .int .i64 m]) := (by first | exact Bk.call KSx.out hbx | exact Bk.call KS5.out.drew hbx | exact Bk.call KS5.out hbx); obtain ⟨qS0, qS1, qS2, -, -, -⟩ := KSx.out.three; clear hbx
      (try go_wp2_with fail)
      clear hHeld
      refine hK.out _ _ ?hS7 (fun hHeld => ?_)
      case hS7 => ((try dsimp only); (repeat' apply And.intro) <;> (first | (with_reducible assumption) | (rw [World.cell?_drew]; with_reducible assumption) | (simp [*]; done)))
      clear hK K
      (try simp only [Act.put, List.setIfInBounds_toArray, List.set_cons_zero, List.set_cons_succ])
      refine wpAnyH_take (i := 6) (v := ?v8) (by simp only [List.getElem?_toArray, List.getElem?_cons_succ, List.getElem?_cons_zero]; rfl) (by kernel_rfl) (by kernel_rfl) (by kernel_rfl) (by exact fun _ _ _ h => h) (Or.inl ⟨by rfl, ?hy8⟩) (by assumption) ?rest8
      case hy8 => (intro w hSw; (try dsimp only at hSw); go_simp; (try with_reducible rfl))
      (try simp only [Act.put, List.setIfInBounds_toArray, List.set_cons_zero, List.set_cons_succ])
      refine wpAnyH_take (i := 7) (v := ?v9) (by simp only [List.getElem?_toArray, List.getElem?_cons_succ, List.getElem?_cons_zero]; rfl) (by kernel_rfl) (by kernel_rfl) (by kernel_rfl) (by exact fun _ _ _ h => h) (Or.inl ⟨by rfl, ?hy9⟩) (by assumption) ?rest9
      case hy9 => (intro w hSw; (try dsimp only at hSw); go_simp; (try with_reducible rfl))
      (try simp only [Act.put, List.setIfInBounds_toArray, List.set_cons_zero, List.set_cons_succ])
      refine wpAnyH_take (i := 8) (v := ?v10) (by simp only [List.getElem?_toArray, List.getElem?_cons_succ, List.getElem?_cons_zero]; rfl) (by kernel_rfl) (by kernel_rfl) (by kernel_rfl) (by exact fun _ _ _ h => h) (Or.inl ⟨by rfl, ?hy10⟩) (by assumption) ?rest10
      case hy10 => (intro w hSw; (try dsimp only at hSw); go_simp; (try with_reducible rfl))
      (try simp only [Act.put, List.setIfInBounds_toArray, List.set_cons_zero, List.set_cons_succ])
      refine wpAnyH_take (i := 9) (v := ?v11) (by simp only [List.getElem?_toArray, List.getElem?_cons_succ, List.getElem?_cons_zero]; rfl) (by kernel_rfl) (by kernel_rfl) (by kernel_rfl) (by exact fun _ _ _ h => h) (Or.inl ⟨by rfl, ?hy11⟩) (by assumption) ?rest11
      case hy11 => (intro w hSw; (try dsimp only at hSw); go_simp; (try with_reducible rfl))
      (try simp only [Act.put, List.setIfInBounds_toArray, List.set_cons_zero, List.set_cons_succ])
      refine wpAnyH_take (i := 10) (v := ?v12) (by simp only [List.getElem?_toArray, List.getElem?_cons_succ, List.getElem?_cons_zero]; rfl) (by kernel_rfl) (by kernel_rfl) (by kernel_rfl) (by exact fun _ _ _ h => h) (Or.inl ⟨by rfl, ?hy12⟩) (by assumption) ?rest12
      case hy12 => (intro w hSw; (try dsimp only at hSw); go_simp; (try with_reducible rfl))
      (try simp only [Act.put, List.setIfInBounds_toArray, List.set_cons_zero, List.set_cons_succ])
      refine wpAnyH_take (i := 11) (v := ?v13) (by simp only [List.getElem?_toArray, List.getElem?_cons_succ, List.getElem?_cons_zero]; rfl) (by kernel_rfl) (by kernel_rfl) (by kernel_rfl) (by exact fun _ _ _ h => h) (Or.inl ⟨by rfl, ?hy13⟩) (by assumption) ?rest13
      case hy13 => (intro w hSw; (try dsimp only at hSw); go_simp; (try with_reducible rfl))
      (try simp only [Act.put, List.setIfInBounds_toArray, List.set_cons_zero, List.set_cons_succ])
      refine wpAnyH_take (i := 12) (v := undef) (by simp only [List.getElem?_toArray, List.getElem?_cons_succ, List.getElem?_cons_zero]; rfl) (by kernel_rfl) (by kernel_rfl) (by kernel_rfl) (by exact fun _ _ _ h => h) (Or.inr ⟨by rfl, rfl⟩) (by assumption) ?_
      (try simp only [Act.put, List.setIfInBounds_toArray, List.set_cons_zero, List.set_cons_succ])
      refine wpAnyH_take (i := 13) (v := undef) (by simp only [List.getElem?_toArray, List.getElem?_cons_succ, List.getElem?_cons_zero]; rfl) (by kernel_rfl) (by kernel_rfl) (by kernel_rfl) (by exact fun _ _ _ h => h) (Or.inr ⟨by rfl, rfl⟩) (by assumption) ?_
      (try simp only [Act.put, List.setIfInBounds_toArray, List.set_cons_zero, List.set_cons_succ])
      refine wpAnyH_take (i := 14) (v := undef) (by simp only [List.getElem?_toArray, List.getElem?_cons_succ, List.getElem?_cons_zero]; rfl) (by kernel_rfl) (by kernel_rfl) (by kernel_rfl) (by exact fun _ _ _ h => h) (Or.inr ⟨by rfl, rfl⟩) (by assumption) ?_
      (try simp only [Act.put, List.setIfInBounds_toArray, List.set_cons_zero, List.set_cons_succ])
      refine wpAnyH_take (i := 15) (v := undef) (by simp only [List.getElem?_toArray, List.getElem?_cons_succ, List.getElem?_cons_zero]; rfl) (by kernel_rfl) (by kernel_rfl) (by kernel_rfl) (by exact fun _ _ _ h => h) (Or.inr ⟨by rfl, rfl⟩) (by assumption) ?_
      (try simp only [Act.put, List.setIfInBounds_toArray, List.set_cons_zero, List.set_cons_succ])
      refine wpAnyH_take (i := 16) (v := undef) (by simp only [List.getElem?_toArray, List.getElem?_cons_succ, List.getElem?_cons_zero]; rfl) (by kernel_rfl) (by kernel_rfl) (by kernel_rfl) (by exact fun _ _ _ h => h) (Or.inr ⟨by rfl, rfl⟩) (by assumption) ?_
      (try simp only [Act.put, List.setIfInBounds_toArray, List.set_cons_zero, List.set_cons_succ])
      refine wpAnyH_take (i := 17) (v := undef) (by simp only [List.getElem?_toArray, List.getElem?_cons_succ, List.getElem?_cons_zero]; rfl) (by kernel_rfl) (by kernel_rfl) (by kernel_rfl) (by exact fun _ _ _ h => h) (Or.inr ⟨by rfl, rfl⟩) (by assumption) ?_
      (try simp only [Act.put, List.setIfInBounds_toArray, List.set_cons_zero, List.set_cons_succ])
      refine wpAnyH_take (i := 18) (v := ?v20) (by simp only [List.getElem?_toArray, List.getElem?_cons_succ, List.getElem?_cons_zero]; rfl) (by kernel_rfl) (by kernel_rfl) (by kernel_rfl) (by exact fun _ _ _ h => h) (Or.inl ⟨by rfl, ?hy20⟩) (by assumption) ?rest20
      case hy20 => (intro w hSw; (try dsimp only at hSw); go_simp; (try with_reducible rfl))
      (try simp only [Act.put, List.setIfInBounds_toArray, List.set_cons_zero, List.set_cons_succ])
      refine wpAnyH_take (i := 19) (v := ?v21) (by simp only [List.getElem?_toArray, List.getElem?_cons_succ, List.getElem?_cons_zero]; rfl) (by kernel_rfl) (by kernel_rfl) (by kernel_rfl) (by exact fun _ _ _ h => h) (Or.inl ⟨by rfl, ?hy21⟩) (by assumption) ?rest21
      case hy21 => (intro w hSw; (try dsimp only at hSw); go_simp; (try with_reducible rfl))
      (try simp only [Act.put, List.setIfInBounds_toArray, List.set_cons_zero, List.set_cons_succ])
      refine wpAnyH_take (i := 20) (v := ?v22) (by simp only [List.getElem?_toArray, List.getElem?_cons_succ, List.getElem?_cons_zero]; rfl) (by kernel_rfl) (by kernel_rfl) (by kernel_rfl) (by exact fun _ _ _ h => h) (Or.inl ⟨by rfl, ?hy22⟩) (by assumption) ?rest22
      case hy22 => (intro w hSw; (try dsimp only at hSw); go_simp; (try with_reducible rfl))
      (try simp only [Act.put, List.setIfInBounds_toArray, List.set_cons_zero, List.set_cons_succ])
      refine wpAnyH_take (i := 21) (v := ?v23) (by simp only [List.getElem?_toArray, List.getElem?_cons_succ, List.getElem?_cons_zero]; rfl) (by kernel_rfl) (by kernel_rfl) (by kernel_rfl) (by exact fun _ _ _ h => h) (Or.inl ⟨by rfl, ?hy23⟩) (by assumption) ?rest23
      case hy23 => (intro w hSw; (try dsimp only at hSw); go_simp; (try with_reducible rfl))
      (try simp only [Act.put, List.setIfInBounds_toArray, List.set_cons_zero, List.set_cons_succ])
      refine wpAnyH_take (i := 22) (v := ?v24) (by simp only [List.getElem?_toArray, List.getElem?_cons_succ, List.getElem?_cons_zero]; rfl) (by kernel_rfl) (by kernel_rfl) (by kernel_rfl) (by exact fun _ _ _ h => h) (Or.inl ⟨by rfl, ?hy24⟩) (by assumption) ?rest24
      case hy24 => (intro w hSw; (try dsimp only at hSw); go_simp; (try with_reducible rfl))
      (try simp only [Act.put, List.setIfInBounds_toArray, List.set_cons_zero, List.set_cons_succ])
      refine wpAnyH_take (i := 23) (v := ?v25) (by simp only [List.getElem?_toArray, List.getElem?_cons_succ, List.getElem?_cons_zero]; rfl) (by kernel_rfl) (by kernel_rfl) (by kernel_rfl) (by exact fun _ _ _ h => h) (Or.inl ⟨by rfl, ?hy25⟩) (by assumption) ?rest25
      case hy25 => (intro w hSw; (try dsimp only at hSw); go_simp; (try with_reducible rfl))
      (try simp only [Act.put, List.setIfInBounds_toArray, List.set_cons_zero, List.set_cons_succ])
      refine wpAnyH_take (i := 24) (v := ?v26) (by simp only [List.getElem?_toArray, List.getElem?_cons_succ, List.getElem?_cons_zero]; rfl) (by kernel_rfl) (by kernel_rfl) (by kernel_rfl) (by exact fun _ _ _ h => h) (Or.inl ⟨by rfl, ?hy26⟩) (by assumption) ?rest26
      case hy26 => (intro w hSw; (try dsimp only at hSw); go_simp; (try with_reducible rfl))
      (try simp only [Act.put, List.setIfInBounds_toArray, List.set_cons_zero, List.set_cons_succ])
      refine wpAnyH_take (i := 25) (v := ?v27) (by simp only [List.getElem?_toArray, List.getElem?_cons_succ, List.getElem?_cons_zero]; rfl) (by kernel_rfl) (by kernel_rfl) (by kernel_rfl) (by exact fun _ _ _ h => h) (Or.inl ⟨by rfl, ?hy27⟩) (by assumption) ?rest27
      case hy27 => (intro w hSw; (try dsimp only at hSw); go_simp; (try with_reducible rfl))
      (try simp only [Act.put, List.setIfInBounds_toArray, List.set_cons_zero, List.set_cons_succ])
      refine wpAnyH_take (i := 26) (v := ?v28) (by simp only [List.getElem?_toArray, List.getElem?_cons_succ, List.getElem?_cons_zero]; rfl) (by kernel_rfl) (by kernel_rfl) (by kernel_rfl) (by exact fun _ _ _ h => h) (Or.inl ⟨by rfl, ?hy28⟩) (by assumption) ?rest28
      case hy28 => (intro w hSw; (try dsimp only at hSw); go_simp; (try with_reducible rfl))
      (try simp only [Act.put, List.setIfInBounds_toArray, List.set_cons_zero, List.set_cons_succ])
      refine wpAnyH_take (i := 27) (v := ?v29) (by simp only [List.getElem?_toArray, List.getElem?_cons_succ, List.getElem?_cons_zero]; rfl) (by kernel_rfl) (by kernel_rfl) (by kernel_rfl) (by exact fun _ _ _ h => h) (Or.inl ⟨by rfl, ?hy29⟩) (by assumption) ?rest29
      case hy29 => (intro w hSw; (try dsimp only at hSw); go_simp; (try with_reducible rfl))
      (try simp only [Act.put, List.setIfInBounds_toArray, List.set_cons_zero, List.set_cons_succ])
      refine wpAnyH_take (i := 28) (v := ?v30) (by simp only [List.getElem?_toArray, List.getElem?_cons_succ, List.getElem?_cons_zero]; rfl) (by kernel_rfl) (by kernel_rfl) (by kernel_rfl) (by exact fun _ _ _ h => h) (Or.inl ⟨by rfl, ?hy30⟩) (by assumption) ?rest30
      case hy30 => (intro w hSw; (try dsimp only at hSw); go_simp; (try with_reducible rfl))
      (try simp only [Act.put, List.setIfInBounds_toArray, List.set_cons_zero, List.set_cons_succ])
      refine wpAnyH_take (i := 29) (v := ?v31) (by simp only [List.getElem?_toArray, List.getElem?_cons_succ, List.getElem?_cons_zero]; rfl) (by kernel_rfl) (by kernel_rfl) (by kernel_rfl) (by exact fun _ _ _ h => h) (Or.inl ⟨by rfl, ?hy31⟩) (by assumption) ?rest31
      case hy31 => (intro w hSw; (try dsimp only at hSw); go_simp; (try with_reducible rfl))
      (try simp only [Act.put, List.setIfInBounds_toArray, List.set_cons_zero, List.set_cons_succ])
      refine wpAnyH_take (i := 30) (v := ?v32) (by simp only [List.getElem?_toArray, List.getElem?_cons_succ, List.getElem?_cons_zero]; rfl) (by kernel_rfl) (by kernel_rfl) (by kernel_rfl) (by exact fun _ _ _ h => h) (Or.inl ⟨by rfl, ?hy32⟩) (by assumption) ?rest32
      case hy32 => (intro w hSw; (try dsimp only at hSw); go_simp; (try with_reducible rfl))
      (try simp only [Act.put, List.setIfInBounds_toArray, List.set_cons_zero, List.set_cons_succ])
      refine wpAnyH_take (i := 31) (v := ?v33) (by simp only [List.getElem?_toArray, List.getElem?_cons_succ, List.getElem?_cons_zero]; rfl) (by kernel_rfl) (by kernel_rfl) (by kernel_rfl) (by exact fun _ _ _ h => h) (Or.inl ⟨by rfl, ?hy33⟩) (by assumption) ?rest33
      case hy33 => (intro w hSw; (try dsimp only at hSw); go_simp; (try with_reducible rfl))
      (try simp only [Act.put, List.setIfInBounds_toArray, List.set_cons_zero, List.set_cons_succ])
      refine wpAnyH_take (i := 32) (v := ?v34) (by simp only [List.getElem?_toArray, List.getElem?_cons_succ, List.getElem?_cons_zero]; rfl) (by kernel_rfl) (by kernel_rfl) (by kernel_rfl) (by exact fun _ _ _ h => h) (Or.inl ⟨by rfl, ?hy34⟩) (by assumption) ?rest34
      case hy34 => (intro w hSw; (try dsimp only at hSw); go_simp; (try with_reducible rfl))
      (try simp only [Act.put, List.setIfInBounds_toArray, List.set_cons_zero, List.set_cons_succ])
      refine wpAnyH_done (by kernel_rfl) ?_ _
      go_wp2_with fail
      all_goals go_ret
      all_goals exact ⟨ret_bool (by first | rfl | (simp; done) | (simp; omega)), Bx.out⟩
    · have hd : (DI == 300) = false := by simp [hD]
      have HT2 := hide (HT.out (by omega)); have hlt : X < T := F5.out (by omega)
      clear hD
      have hd3 : decide (X < T) = true := decide_eq_true hlt
      refine wp_region_held_drew (S := fun w' => w'.cell? ⟨w1.heap.size, 0, none⟩ = some (.int .i64 a) ∧ w'.cell? ⟨w1.heap.size, 1, none⟩ = some (.int .i64 u) ∧ w'.cell? ⟨w1.heap.size, 2, none⟩ = some (.int .i64 m) ∧ w'.cell? ⟨w2.heap.size, 0, none⟩ = some (.int .i64 d) ∧ w'.cell? ⟨w2.heap.size, 1, none⟩ = some (.int .i64 u) ∧ w'.cell? ⟨w2.heap.size, 2, none⟩ = some (.int .i64 DI) ∧ w'.cell? ⟨w4.heap.size, 0, none⟩ = some (.int .i64 a) ∧ w'.cell? ⟨w4.heap.size, 1, none⟩ = some (.int .i64 u) ∧ w'.cell? ⟨w4.heap.size, 2, none⟩ = some (.int .i64 m)) (by kernel_rfl) ?hS35 (fun hHeld => ?_)
      case hS35 => ((try dsimp only); (repeat' apply And.intro) <;> (first | (with_reducible assumption) | (rw [World.cell?_drew]; with_reducible assumption) | (simp [*]; done)))
      refine wpAnyH_take (i := 0) (v := ?v36) (by simp only [List.getElem?_toArray, List.getElem?_cons_zero]; rfl) (by kernel_rfl) (by kernel_rfl) (by kernel_rfl) (by exact fun _ _ _ h => h) (Or.inl ⟨by rfl, ?hy36⟩) (by assumption) ?rest36
      case hy36 => (intro w hSw; (try dsimp only at hSw); go_simp; (try with_reducible rfl))
      (try simp only [Act.put, List.setIfInBounds_toArray, List.set_cons_zero, List.set_cons_succ])
      refine wpAnyH_take (i := 2) (v := ?v37) (by simp only [List.getElem?_toArray, List.getElem?_cons_succ, List.getElem?_cons_zero]; rfl) (by kernel_rfl) (by kernel_rfl) (by kernel_rfl) (by exact fun _ _ _ h => h) (Or.inl ⟨by rfl, ?hy37⟩) (by assumption) ?rest37
      case hy37 => (intro w hSw; (try dsimp only at hSw); go_simp; (try with_reducible rfl))
      (try simp only [Act.put, List.setIfInBounds_toArray, List.set_cons_zero, List.set_cons_succ])
      refine wpAnyH_take (i := 4) (v := ?v38) (by simp only [List.getElem?_toArray, List.getElem?_cons_succ, List.getElem?_cons_zero]; rfl) (by kernel_rfl) (by kernel_rfl) (by kernel_rfl) (by exact fun _ _ _ h => h) (Or.inl ⟨by rfl, ?hy38⟩) (by assumption) ?rest38
      case hy38 => (intro w hSw; (try dsimp only at hSw); go_simp; (try with_reducible rfl))
      (try simp only [Act.put, List.setIfInBounds_toArray, List.set_cons_zero, List.set_cons_succ])
      refine wpAnyH_ready (rs := [1]) (by kernel_rfl) (by simp) (AllReadyH.cons (by simp only [List.getElem?_toArray, List.getElem?_cons_succ, List.getElem?_cons_zero]; rfl) (fun K hK => ?_) AllReadyH.nil)
      go_simp
      refine (implLengthOf _ _ _ _).mono ?_; rintro e wx ⟨rfl, hbx⟩; (try rw [HE.out]); (try rw [HL.out]); have Bx : Hid (Below w.heap.size w wx) := (by first | exact below_then Bx.out hbx | exact below_then (below_drewN B5.out 1) hbx | exact below_then B5.out hbx); clear qX0 qX1 qX2 qM0 qM1 qM2 qS0 qS1 qS2; have KXx : Hid (Bk wx w1.heap.size 24 #[.int .i64 a, .int .i64 u, .int .i64 m]) := (by first | exact Bk.call KXx.out hbx | exact Bk.call KX5.out.drew hbx | exact Bk.call KX5.out hbx); obtain ⟨qX0, qX1, qX2, -, -, -⟩ := KXx.out.three; have KMx : Hid (Bk wx w2.heap.size 24 #[.int .i64 d, .int .i64 u, .int .i64 DI]) := (by first | exact Bk.call KMx.out hbx | exact Bk.call KM5.out.drew hbx | exact Bk.call KM5.out hbx); obtain ⟨qM0, qM1, qM2, -, -, -⟩ := KMx.out.three; have KSx : Hid (Bk wx w4.heap.size 24 #[.int .i64 a, .int .i64 u, .int .i64 m]) := (by first | exact Bk.call KSx.out hbx | exact Bk.call KS5.out.drew hbx | exact Bk.call KS5.out hbx); obtain ⟨qS0, qS1, qS2, -, -, -⟩ := KSx.out.three; clear hbx
      (try go_wp2_with fail)
      clear hHeld
      refine hK.out _ _ ?hS39 (fun hHeld => ?_)
      case hS39 => ((try dsimp only); (repeat' apply And.intro) <;> (first | (with_reducible assumption) | (rw [World.cell?_drew]; with_reducible assumption) | (simp [*]; done)))
      clear hK K
      (try simp only [Act.put, List.setIfInBounds_toArray, List.set_cons_zero, List.set_cons_succ])
      refine wpAnyH_take (i := 3) (v := ?v40) (by simp only [List.getElem?_toArray, List.getElem?_cons_succ, List.getElem?_cons_zero]; rfl) (by kernel_rfl) (by kernel_rfl) (by kernel_rfl) (by exact fun _ _ _ h => h) (Or.inl ⟨by rfl, ?hy40⟩) (by assumption) ?rest40
      case hy40 => (intro w hSw; (try dsimp only at hSw); go_simp; (try with_reducible rfl))
      (try simp only [Act.put, List.setIfInBounds_toArray, List.set_cons_zero, List.set_cons_succ])
      refine wpAnyH_ready (rs := [5]) (by kernel_rfl) (by simp) (AllReadyH.cons (by simp only [List.getElem?_toArray, List.getElem?_cons_succ, List.getElem?_cons_zero]; rfl) (fun K hK => ?_) AllReadyH.nil)
      go_simp
      refine (implLengthOf _ _ _ _).mono ?_; rintro e wx ⟨rfl, hbx⟩; (try rw [HE.out]); (try rw [HL.out]); have Bx : Hid (Below w.heap.size w wx) := (by first | exact below_then Bx.out hbx | exact below_then (below_drewN B5.out 1) hbx | exact below_then B5.out hbx); clear qX0 qX1 qX2 qM0 qM1 qM2 qS0 qS1 qS2; have KXx : Hid (Bk wx w1.heap.size 24 #[.int .i64 a, .int .i64 u, .int .i64 m]) := (by first | exact Bk.call KXx.out hbx | exact Bk.call KX5.out.drew hbx | exact Bk.call KX5.out hbx); obtain ⟨qX0, qX1, qX2, -, -, -⟩ := KXx.out.three; have KMx : Hid (Bk wx w2.heap.size 24 #[.int .i64 d, .int .i64 u, .int .i64 DI]) := (by first | exact Bk.call KMx.out hbx | exact Bk.call KM5.out.drew hbx | exact Bk.call KM5.out hbx); obtain ⟨qM0, qM1, qM2, -, -, -⟩ := KMx.out.three; have KSx : Hid (Bk wx w4.heap.size 24 #[.int .i64 a, .int .i64 u, .int .i64 m]) := (by first | exact Bk.call KSx.out hbx | exact Bk.call KS5.out.drew hbx | exact Bk.call KS5.out hbx); obtain ⟨qS0, qS1, qS2, -, -, -⟩ := KSx.out.three; clear hbx
      (try go_wp2_with fail)
      clear hHeld
      refine hK.out _ _ ?hS41 (fun hHeld => ?_)
      case hS41 => ((try dsimp only); (repeat' apply And.intro) <;> (first | (with_reducible assumption) | (rw [World.cell?_drew]; with_reducible assumption) | (simp [*]; done)))
      clear hK K
      (try simp only [Act.put, List.setIfInBounds_toArray, List.set_cons_zero, List.set_cons_succ])
      refine wpAnyH_take (i := 6) (v := ?v42) (by simp only [List.getElem?_toArray, List.getElem?_cons_succ, List.getElem?_cons_zero]; rfl) (by kernel_rfl) (by kernel_rfl) (by kernel_rfl) (by exact fun _ _ _ h => h) (Or.inl ⟨by rfl, ?hy42⟩) (by assumption) ?rest42
      case hy42 => (intro w hSw; (try dsimp only at hSw); go_simp; (try with_reducible rfl))
      (try simp only [Act.put, List.setIfInBounds_toArray, List.set_cons_zero, List.set_cons_succ])
      refine wpAnyH_take (i := 7) (v := ?v43) (by simp only [List.getElem?_toArray, List.getElem?_cons_succ, List.getElem?_cons_zero]; rfl) (by kernel_rfl) (by kernel_rfl) (by kernel_rfl) (by exact fun _ _ _ h => h) (Or.inl ⟨by rfl, ?hy43⟩) (by assumption) ?rest43
      case hy43 => (intro w hSw; (try dsimp only at hSw); go_simp; (try with_reducible rfl))
      (try simp only [Act.put, List.setIfInBounds_toArray, List.set_cons_zero, List.set_cons_succ])
      refine wpAnyH_take (i := 8) (v := ?v44) (by simp only [List.getElem?_toArray, List.getElem?_cons_succ, List.getElem?_cons_zero]; rfl) (by kernel_rfl) (by kernel_rfl) (by kernel_rfl) (by exact fun _ _ _ h => h) (Or.inl ⟨by rfl, ?hy44⟩) (by assumption) ?rest44
      case hy44 => (intro w hSw; (try dsimp only at hSw); go_simp; (try with_reducible rfl))
      (try simp only [Act.put, List.setIfInBounds_toArray, List.set_cons_zero, List.set_cons_succ])
      refine wpAnyH_take (i := 9) (v := ?v45) (by simp only [List.getElem?_toArray, List.getElem?_cons_succ, List.getElem?_cons_zero]; rfl) (by kernel_rfl) (by kernel_rfl) (by kernel_rfl) (by exact fun _ _ _ h => h) (Or.inl ⟨by rfl, ?hy45⟩) (by assumption) ?rest45
      case hy45 => (intro w hSw; (try dsimp only at hSw); go_simp; (try with_reducible rfl))
      (try simp only [Act.put, List.setIfInBounds_toArray, List.set_cons_zero, List.set_cons_succ])
      refine wpAnyH_take (i := 10) (v := ?v46) (by simp only [List.getElem?_toArray, List.getElem?_cons_succ, List.getElem?_cons_zero]; rfl) (by kernel_rfl) (by kernel_rfl) (by kernel_rfl) (by exact fun _ _ _ h => h) (Or.inl ⟨by rfl, ?hy46⟩) (by assumption) ?rest46
      case hy46 => (intro w hSw; (try dsimp only at hSw); go_simp; (try with_reducible rfl))
      (try simp only [Act.put, List.setIfInBounds_toArray, List.set_cons_zero, List.set_cons_succ])
      (try simp only [hd])
      refine wpAnyH_take (i := 11) (v := ?v47) (by simp only [List.getElem?_toArray, List.getElem?_cons_succ, List.getElem?_cons_zero]; rfl) (by kernel_rfl) (by kernel_rfl) (by kernel_rfl) (by exact fun _ _ _ h => h) (Or.inl ⟨by rfl, ?hy47⟩) (by assumption) ?rest47
      case hy47 => (intro w hSw; (try dsimp only at hSw); go_simp; (try with_reducible rfl))
      (try simp only [Act.put, List.setIfInBounds_toArray, List.set_cons_zero, List.set_cons_succ])
      (try simp only [hd])
      refine wpAnyH_take (i := 12) (v := ?v48) (by simp only [List.getElem?_toArray, List.getElem?_cons_succ, List.getElem?_cons_zero]; rfl) (by kernel_rfl) (by kernel_rfl) (by kernel_rfl) (by exact fun _ _ _ h => h) (Or.inl ⟨by rfl, ?hy48⟩) (by assumption) ?rest48
      case hy48 => (intro w hSw; (try dsimp only at hSw); go_simp; (try with_reducible rfl))
      (try simp only [Act.put, List.setIfInBounds_toArray, List.set_cons_zero, List.set_cons_succ])
      refine wpAnyH_take (i := 13) (v := ?v49) (by simp only [List.getElem?_toArray, List.getElem?_cons_succ, List.getElem?_cons_zero]; rfl) (by kernel_rfl) (by kernel_rfl) (by kernel_rfl) (by exact fun _ _ _ h => h) (Or.inl ⟨by rfl, ?hy49⟩) (by assumption) ?rest49
      case hy49 => (intro w hSw; (try dsimp only at hSw); go_simp; (try with_reducible rfl))
      (try simp only [Act.put, List.setIfInBounds_toArray, List.set_cons_zero, List.set_cons_succ])
      refine wpAnyH_take (i := 14) (v := ?v50) (by simp only [List.getElem?_toArray, List.getElem?_cons_succ, List.getElem?_cons_zero]; rfl) (by kernel_rfl) (by kernel_rfl) (by kernel_rfl) (by exact fun _ _ _ h => h) (Or.inl ⟨by rfl, ?hy50⟩) (by assumption) ?rest50
      case hy50 => (intro w hSw; (try dsimp only at hSw); go_simp; (try with_reducible rfl))
      (try simp only [Act.put, List.setIfInBounds_toArray, List.set_cons_zero, List.set_cons_succ])
      refine wpAnyH_take (i := 15) (v := ?v51) (by simp only [List.getElem?_toArray, List.getElem?_cons_succ, List.getElem?_cons_zero]; rfl) (by kernel_rfl) (by kernel_rfl) (by kernel_rfl) (by exact fun _ _ _ h => h) (Or.inl ⟨by rfl, ?hy51⟩) (by assumption) ?rest51
      case hy51 => (intro w hSw; (try dsimp only at hSw); go_simp; (try with_reducible rfl))
      (try simp only [Act.put, List.setIfInBounds_toArray, List.set_cons_zero, List.set_cons_succ])
      refine wpAnyH_ready (rs := [16]) (by kernel_rfl) (by simp) (AllReadyH.cons (by simp only [List.getElem?_toArray, List.getElem?_cons_succ, List.getElem?_cons_zero]; rfl) (fun K hK => ?_) AllReadyH.nil)
      go_simp
      refine (implTurnLength _ _ _ _ _).mono ?_; rintro e wx ⟨rfl, hbx⟩; (try rw [HT2.out]); have Bx : Hid (Below w.heap.size w wx) := (by first | exact below_then Bx.out hbx | exact below_then (below_drewN B5.out 1) hbx | exact below_then B5.out hbx); clear qX0 qX1 qX2 qM0 qM1 qM2 qS0 qS1 qS2; have KXx : Hid (Bk wx w1.heap.size 24 #[.int .i64 a, .int .i64 u, .int .i64 m]) := (by first | exact Bk.call KXx.out hbx | exact Bk.call KX5.out.drew hbx | exact Bk.call KX5.out hbx); obtain ⟨qX0, qX1, qX2, -, -, -⟩ := KXx.out.three; have KMx : Hid (Bk wx w2.heap.size 24 #[.int .i64 d, .int .i64 u, .int .i64 DI]) := (by first | exact Bk.call KMx.out hbx | exact Bk.call KM5.out.drew hbx | exact Bk.call KM5.out hbx); obtain ⟨qM0, qM1, qM2, -, -, -⟩ := KMx.out.three; have KSx : Hid (Bk wx w4.heap.size 24 #[.int .i64 a, .int .i64 u, .int .i64 m]) := (by first | exact Bk.call KSx.out hbx | exact Bk.call KS5.out.drew hbx | exact Bk.call KS5.out hbx); obtain ⟨qS0, qS1, qS2, -, -, -⟩ := KSx.out.three; clear hbx
      (try go_wp2_with fail)
      clear hHeld
      refine hK.out _ _ ?hS52 (fun hHeld => ?_)
      case hS52 => ((try dsimp only); (repeat' apply And.intro) <;> (first | (with_reducible assumption) | (rw [World.cell?_drew]; with_reducible assumption) | (simp [*]; done)))
      clear hK K
      (try simp only [Act.put, List.setIfInBounds_toArray, List.set_cons_zero, List.set_cons_succ])
      refine wpAnyH_take (i := 17) (v := ?v53) (by simp only [List.getElem?_toArray, List.getElem?_cons_succ, List.getElem?_cons_zero]; rfl) (by kernel_rfl) (by kernel_rfl) (by kernel_rfl) (by exact fun _ _ _ h => h) (Or.inl ⟨by rfl, ?hy53⟩) (by assumption) ?rest53
      case hy53 => (intro w hSw; (try dsimp only at hSw); go_simp; (try with_reducible rfl))
      (try simp only [Act.put, List.setIfInBounds_toArray, List.set_cons_zero, List.set_cons_succ])
      (try simp only [hd3])
      refine wpAnyH_take (i := 18) (v := ?v54) (by simp only [List.getElem?_toArray, List.getElem?_cons_succ, List.getElem?_cons_zero]; rfl) (by kernel_rfl) (by kernel_rfl) (by kernel_rfl) (by exact fun _ _ _ h => h) (Or.inl ⟨by rfl, ?hy54⟩) (by assumption) ?rest54
      case hy54 => (intro w hSw; (try dsimp only at hSw); go_simp; (try with_reducible rfl))
      (try simp only [Act.put, List.setIfInBounds_toArray, List.set_cons_zero, List.set_cons_succ])
      (try simp only [hd3])
      refine wpAnyH_take (i := 19) (v := ?v55) (by simp only [List.getElem?_toArray, List.getElem?_cons_succ, List.getElem?_cons_zero]; rfl) (by kernel_rfl) (by kernel_rfl) (by kernel_rfl) (by exact fun _ _ _ h => h) (Or.inl ⟨by rfl, ?hy55⟩) (by assumption) ?rest55
      case hy55 => (intro w hSw; (try dsimp only at hSw); go_simp; (try with_reducible rfl))
      (try simp only [Act.put, List.setIfInBounds_toArray, List.set_cons_zero, List.set_cons_succ])
      refine wpAnyH_take (i := 20) (v := ?v56) (by simp only [List.getElem?_toArray, List.getElem?_cons_succ, List.getElem?_cons_zero]; rfl) (by kernel_rfl) (by kernel_rfl) (by kernel_rfl) (by exact fun _ _ _ h => h) (Or.inl ⟨by rfl, ?hy56⟩) (by assumption) ?rest56
      case hy56 => (intro w hSw; (try dsimp only at hSw); go_simp; (try with_reducible rfl))
      (try simp only [Act.put, List.setIfInBounds_toArray, List.set_cons_zero, List.set_cons_succ])
      refine wpAnyH_take (i := 21) (v := ?v57) (by simp only [List.getElem?_toArray, List.getElem?_cons_succ, List.getElem?_cons_zero]; rfl) (by kernel_rfl) (by kernel_rfl) (by kernel_rfl) (by exact fun _ _ _ h => h) (Or.inl ⟨by rfl, ?hy57⟩) (by assumption) ?rest57
      case hy57 => (intro w hSw; (try dsimp only at hSw); go_simp; (try with_reducible rfl))
      (try simp only [Act.put, List.setIfInBounds_toArray, List.set_cons_zero, List.set_cons_succ])
      refine wpAnyH_take (i := 22) (v := ?v58) (by simp only [List.getElem?_toArray, List.getElem?_cons_succ, List.getElem?_cons_zero]; rfl) (by kernel_rfl) (by kernel_rfl) (by kernel_rfl) (by exact fun _ _ _ h => h) (Or.inl ⟨by rfl, ?hy58⟩) (by assumption) ?rest58
      case hy58 => (intro w hSw; (try dsimp only at hSw); go_simp; (try with_reducible rfl))
      (try simp only [Act.put, List.setIfInBounds_toArray, List.set_cons_zero, List.set_cons_succ])
      refine wpAnyH_take (i := 23) (v := ?v59) (by simp only [List.getElem?_toArray, List.getElem?_cons_succ, List.getElem?_cons_zero]; rfl) (by kernel_rfl) (by kernel_rfl) (by kernel_rfl) (by exact fun _ _ _ h => h) (Or.inl ⟨by rfl, ?hy59⟩) (by assumption) ?rest59
      case hy59 => (intro w hSw; (try dsimp only at hSw); go_simp; (try with_reducible rfl))
      (try simp only [Act.put, List.setIfInBounds_toArray, List.set_cons_zero, List.set_cons_succ])
      refine wpAnyH_take (i := 24) (v := ?v60) (by simp only [List.getElem?_toArray, List.getElem?_cons_succ, List.getElem?_cons_zero]; rfl) (by kernel_rfl) (by kernel_rfl) (by kernel_rfl) (by exact fun _ _ _ h => h) (Or.inl ⟨by rfl, ?hy60⟩) (by assumption) ?rest60
      case hy60 => (intro w hSw; (try dsimp only at hSw); go_simp; (try with_reducible rfl))
      (try simp only [Act.put, List.setIfInBounds_toArray, List.set_cons_zero, List.set_cons_succ])
      refine wpAnyH_take (i := 25) (v := ?v61) (by simp only [List.getElem?_toArray, List.getElem?_cons_succ, List.getElem?_cons_zero]; rfl) (by kernel_rfl) (by kernel_rfl) (by kernel_rfl) (by exact fun _ _ _ h => h) (Or.inl ⟨by rfl, ?hy61⟩) (by assumption) ?rest61
      case hy61 => (intro w hSw; (try dsimp only at hSw); go_simp; (try with_reducible rfl))
      (try simp only [Act.put, List.setIfInBounds_toArray, List.set_cons_zero, List.set_cons_succ])
      refine wpAnyH_take (i := 26) (v := ?v62) (by simp only [List.getElem?_toArray, List.getElem?_cons_succ, List.getElem?_cons_zero]; rfl) (by kernel_rfl) (by kernel_rfl) (by kernel_rfl) (by exact fun _ _ _ h => h) (Or.inl ⟨by rfl, ?hy62⟩) (by assumption) ?rest62
      case hy62 => (intro w hSw; (try dsimp only at hSw); go_simp; (try with_reducible rfl))
      (try simp only [Act.put, List.setIfInBounds_toArray, List.set_cons_zero, List.set_cons_succ])
      refine wpAnyH_take (i := 27) (v := ?v63) (by simp only [List.getElem?_toArray, List.getElem?_cons_succ, List.getElem?_cons_zero]; rfl) (by kernel_rfl) (by kernel_rfl) (by kernel_rfl) (by exact fun _ _ _ h => h) (Or.inl ⟨by rfl, ?hy63⟩) (by assumption) ?rest63
      case hy63 => (intro w hSw; (try dsimp only at hSw); go_simp; (try with_reducible rfl))
      (try simp only [Act.put, List.setIfInBounds_toArray, List.set_cons_zero, List.set_cons_succ])
      refine wpAnyH_take (i := 28) (v := ?v64) (by simp only [List.getElem?_toArray, List.getElem?_cons_succ, List.getElem?_cons_zero]; rfl) (by kernel_rfl) (by kernel_rfl) (by kernel_rfl) (by exact fun _ _ _ h => h) (Or.inl ⟨by rfl, ?hy64⟩) (by assumption) ?rest64
      case hy64 => (intro w hSw; (try dsimp only at hSw); go_simp; (try with_reducible rfl))
      (try simp only [Act.put, List.setIfInBounds_toArray, List.set_cons_zero, List.set_cons_succ])
      refine wpAnyH_take (i := 29) (v := ?v65) (by simp only [List.getElem?_toArray, List.getElem?_cons_succ, List.getElem?_cons_zero]; rfl) (by kernel_rfl) (by kernel_rfl) (by kernel_rfl) (by exact fun _ _ _ h => h) (Or.inl ⟨by rfl, ?hy65⟩) (by assumption) ?rest65
      case hy65 => (intro w hSw; (try dsimp only at hSw); go_simp; (try with_reducible rfl))
      (try simp only [Act.put, List.setIfInBounds_toArray, List.set_cons_zero, List.set_cons_succ])
      refine wpAnyH_take (i := 30) (v := ?v66) (by simp only [List.getElem?_toArray, List.getElem?_cons_succ, List.getElem?_cons_zero]; rfl) (by kernel_rfl) (by kernel_rfl) (by kernel_rfl) (by exact fun _ _ _ h => h) (Or.inl ⟨by rfl, ?hy66⟩) (by assumption) ?rest66
      case hy66 => (intro w hSw; (try dsimp only at hSw); go_simp; (try with_reducible rfl))
      (try simp only [Act.put, List.setIfInBounds_toArray, List.set_cons_zero, List.set_cons_succ])
      refine wpAnyH_take (i := 31) (v := ?v67) (by simp only [List.getElem?_toArray, List.getElem?_cons_succ, List.getElem?_cons_zero]; rfl) (by kernel_rfl) (by kernel_rfl) (by kernel_rfl) (by exact fun _ _ _ h => h) (Or.inl ⟨by rfl, ?hy67⟩) (by assumption) ?rest67
      case hy67 => (intro w hSw; (try dsimp only at hSw); go_simp; (try with_reducible rfl))
      (try simp only [Act.put, List.setIfInBounds_toArray, List.set_cons_zero, List.set_cons_succ])
      refine wpAnyH_take (i := 32) (v := ?v68) (by simp only [List.getElem?_toArray, List.getElem?_cons_succ, List.getElem?_cons_zero]; rfl) (by kernel_rfl) (by kernel_rfl) (by kernel_rfl) (by exact fun _ _ _ h => h) (Or.inl ⟨by rfl, ?hy68⟩) (by assumption) ?rest68
      case hy68 => (intro w hSw; (try dsimp only at hSw); go_simp; (try with_reducible rfl))
      (try simp only [Act.put, List.setIfInBounds_toArray, List.set_cons_zero, List.set_cons_succ])
      refine wpAnyH_done (by kernel_rfl) ?_ _
      go_wp2_with fail
      all_goals go_ret
      all_goals exact ⟨ret_bool (by first | rfl | (simp; done) | (simp; omega)), Bx.out⟩
  · have HI : Hid (∀ W : World, Calls Try.prog 43 #[roll a t m, roll d u p] W fun e W' => e = .returned (.tuple #[roll 0 0 0, .int .i64 0, .bool false]) ∧ Below W.heap.size W W') := by
      cases hv : vr a t m
      · exact fun W => implRewind_no1 a d t u m p hv W
      · cases hd : vr d u p
        · exact fun W => implRewind_no2 a d t u m p hv hd W
        · cases hp : (p != 0)
          · cases hu : (u != t)
            · exact (g ⟨hv, hd, by simpa using hp, by simpa using hu⟩).elim
            · exact fun W => implRewind_no4 a d t u m p hv hd hp hu W
          · exact fun W => implRewind_no3 a d t u m p hv hd hp W
    have HS : Hid (∀ W : World, Calls Try.prog 44 #[roll a t m, roll d u p] W fun e W' => e = .returned (.tuple #[roll 0 0 0, .int .i64 0, .bool false]) ∧ Below W.heap.size W W') := by
      cases hv : vr a t m
      · exact fun W => specRewind_no1 a d t u m p hv W
      · cases hd : vr d u p
        · exact fun W => specRewind_no2 a d t u m p hv hd W
        · cases hp : (p != 0)
          · cases hu : (u != t)
            · exact (g ⟨hv, hd, by simpa using hp, by simpa using hu⟩).elim
            · exact fun W => specRewind_no4 a d t u m p hv hd hp hu W
          · exact fun W => specRewind_no3 a d t u m p hv hd hp W
    clear g
    go_wp2_with fail
    refine (HI.out _).mono ?_; rintro e w2 ⟨rfl, hb⟩
    have KX2 := hide (Bk.call (Bk.alloc (Bk.made w1 24 #[.int .i64 a, .int .i64 t, .int .i64 m]) _) hb)
    have KY2 : Hid (Bk w2 (w1.heap.size + 1) 24 #[.int .i64 d, .int .i64 u, .int .i64 p]) := hide (by have := Bk.call (Bk.made (w1.alloc (.cells #[.int .i64 a, .int .i64 t, .int .i64 m] 24)) 24 #[.int .i64 d, .int .i64 u, .int .i64 p]) hb; simpa using this)
    have B2 := hide (below_then (Below.alloc (Below.alloc B1.out (Below.size B1.out) _) (Below.size (Below.alloc B1.out (Below.size B1.out) _)) _) hb)
    clear hb B1
    have lX := KX2.out.lt
    obtain ⟨qX0, qX1, qX2, -, -, -⟩ := KX2.out.three
    have lY := KY2.out.lt
    obtain ⟨qY0, qY1, qY2, -, -, -⟩ := KY2.out.three
    go_wp2_with fail
    refine (HS.out _).mono ?_; rintro e w3 ⟨rfl, hb⟩
    have KX3 := hide (Bk.call (Bk.alloc KX2.out _) hb)
    have KY3 := hide (Bk.call (Bk.alloc KY2.out _) hb)
    have KM3 := hide (Bk.call (Bk.made w2 24 #[.int .i64 0, .int .i64 0, .int .i64 0]) hb)
    have B3 := hide (below_then (Below.alloc B2.out (Below.size B2.out) _) hb)
    clear hb KX2 qX0 qX1 qX2 lX KY2 qY0 qY1 qY2 lY B2
    have lX := KX3.out.lt
    obtain ⟨qX0, qX1, qX2, -, -, -⟩ := KX3.out.three
    have lY := KY3.out.lt
    obtain ⟨qY0, qY1, qY2, -, -, -⟩ := KY3.out.three
    have lM := KM3.out.lt
    obtain ⟨qM0, qM1, qM2, -, -, -⟩ := KM3.out.three
    go_wp2_with fail
    go_ret
    exact ⟨rfl, (Below.alloc B3.out (Below.size B3.out) _)⟩
end Go.Proofs.Ytbmnmdpgkdaiiaa
