/- Contracts of chapter 6: valid piles, the reference's. -/
import Derived.Test.YtbbopnpmjhbffaaPil1
namespace Go.Proofs.Ytbbopnpmjhbffaa
open Go.RowKit
set_option linter.unusedVariables false
set_option maxRecDepth 100000
theorem Rows2.first {w : World} {ad : Addr} {n : Nat} {xss : List (List Int)} (h : Rows2 w (some ad) n xss) (hn : 0 < n) :
    ∃ B m c, w.cell? ad = some (.slice B m c) ∧ (nthL xss 0).length = m := by
  obtain ⟨a, B, m, c, e, hb, hc, hI, hm⟩ := h.2 0 hn
  injection e with e; subst e
  exact ⟨B, m, c, hc, hI.1⟩
set_option maxHeartbeats 8000000 in
theorem specValidPile0 (A : Option Addr) (n c : Nat) (xss : List (List Int)) (w : World) (hn : n ≤ 1048576) (hfl : xss.flatten.length ≤ 1048576) (h : Rows2 w A n xss) :
    Calls Try.prog 32 #[.slice A n c] w fun e w' => e = .returned (.bool (vp xss)) ∧ Below w.heap.size w w' := by
  have HL := hide h.1
  have HFL := hide hfl
  have HH := hide h; clear h hfl
  go_enter Try.func32, Try.ntmps32
  go_wp2
  go_loopw [3, 4] (fun v i wr => ∃ r : Nat, r ≤ n ∧ i = .int .i64 r ∧ Hid (wr.ownsRow w.heap.size 3 1 v (seen xss r 0).length ((seen xss r 0).map (.int .i64))) ∧ Hid (∀ q, q < r → sLen xss q ∧ ∀ i, i < (nthL xss q).length → cellOk xss q i = true) ∧ Hid (Below w.heap.size w wr)) (fun _ i _ => n - (intOf i).toNat)
  case atStart => exact ⟨0, by omega, rfl, hide (by rw [seen_zero]; exact own_empty_row (Nat.le_refl _)), hide (fun q hq => by omega), hide (by go_grown)⟩
  case round =>
    obtain ⟨r, hr, rfl, hown, hok, hB⟩ := hrel
    by_cases hlt : r < n
    · have HRL := hide (show r < xss.length by rw [HL.out]; exact hlt)
      obtain ⟨ad, B, m, c', rfl, hb, hc0, hI, hmc, hlen⟩ := HH.out.row hlt
      have hc : wr.cell? (ad.add r) = some (.slice B m c') := (hB.out.cell (by rw [block_add]; exact hb)).trans hc0
      obtain ⟨B0, m0, c0', hcf, hlen0⟩ := HH.out.first (by omega)
      have hcz : wr.cell? ad = some (.slice B0 m0 c0') := (hB.out.cell hb).trans hcf
      have HB := hide hb; have HCW := hide hc0
      have HI := hide hI; have HLEN := hide hlen; have HLEN0 := hide hlen0
      have hm0 : m0 ≤ 1048576 := by have h1 := row_le (xss := xss) (r := 0) (by have := HL.out; omega); have h2 := HFL.out; omega
      have hm1 : m ≤ 1048576 := by have h1 := row_le (xss := xss) (r := r) HRL.out; have h2 := HFL.out; omega
      clear hc0 hcf hb hI
      have hr0 : (0 : Int) ≤ r := by omega
      have hrn : (r : Int) < n := by omega
      have h0n : (0 : Int) < n := by omega
      obtain ⟨D, hD⟩ : ∃ D : Int, (m0 : Int) - (r : Int) = D := ⟨_, rfl⟩
      have ew : IntKind.i64.wrap ((m0 : Int) - (r : Int)) = D := by rw [hD]; exact IntWalk.i64_in _ ⟨by omega, by omega⟩
      by_cases hbad : ¬ sLen xss r
      · have HV := hide (vp_sLen HRL.out hbad)
        have hcase : (m : Int) ≠ D ∨ ((m : Int) = D ∧ m = 0) := by
          apply Classical.byContradiction
          intro hno
          refine hbad ⟨?_, ?_⟩
          · rw [hlen, hlen0]; omega
          · rw [hlen]; omega
        clear hbad hlen hlen0 hD
        rcases hcase with g | ⟨g, g'⟩
        · have g2 : ((m : Int) != D) = true := by simpa using g
          clear g
          go_wp2
          go_quiet (fail)
          go_wp2
          go_ret
          exact ⟨ret_bool HV.out.symm, below_then hB.out (below_of_drewN _ _)⟩
        · have g2 : ((m : Int) != D) = false := by simpa using g
          have g3 : ((m : Int) == 0) = true := by simp; omega
          clear g g'
          go_wp2
          go_quiet (fail)
          go_wp2
          go_ret
          exact ⟨ret_bool HV.out.symm, below_then hB.out (below_of_drewN _ _)⟩
      · have hgood : sLen xss r := Classical.byContradiction hbad
        have HG := hide hgood
        clear hbad
        have g2 : ((m : Int) != D) = false := by have := hgood.1; rw [hlen, hlen0] at this; simp; omega
        have g3 : ((m : Int) == 0) = false := by have := hgood.2; rw [hlen] at this; simp; omega
        have HPREV : Hid (0 < r → ∀ i, i < m → i + 1 < (nthL xss (r - 1)).length) := hide (fun h0 i hi => by
          have h1 := (hok.out (r - 1) (by omega)).1.1
          have h2 := hgood.1
          rw [hlen] at h2
          omega)
        clear hgood hlen hlen0 hD
        go_wp2
        go_quiet (fail)
        clear ew g2 g3 hcz
        have hB3 := hide (below_then hB.out (below_of_drewN wr.heap.size nq))
        have hown3 := hide (ownsRow_call hown.out (below_of_drewN wr.heap.size nq))
        have hc3 : (wr.drewN nq).cell? (ad.add r) = some (.slice B m c') := hc
        clear hc
        generalize hwd : wr.drewN nq = wd at *
        clear hwd
        go_wp2
        go_loopw [3, 5, 6] (fun v i _ wq => ∃ k : Nat, k ≤ m ∧ i = .int .i64 k ∧ Hid (wq.ownsRow w.heap.size 3 1 v (seen xss r k).length ((seen xss r k).map (.int .i64))) ∧ Hid (∀ i, i < k → cellOk xss r i = true) ∧ Hid (Below w.heap.size w wq)) (fun _ i _ _ => m - (intOf i).toNat)
        case atStart => exact ⟨0, by omega, rfl, hown3, hide (fun i hi => by omega), hB3⟩
        case round =>
          clear hc3 hB3 hown3
          obtain ⟨k, hk, rfl, hown2, hok2, hB2⟩ := hrel
          have hcr : wr.cell? (ad.add r) = some (.slice B m c') := by
            exact (hB2.out.cell (by rw [block_add]; exact HB.out)).trans HCW.out
          have HI2 := hide (HI.out.below hB2.out)
          by_cases hkm : k < m
          · obtain ⟨ax, rfl, -, cx⟩ := HI2.out.2 k hkm
            have HKL := hide (show k < (nthL xss r).length by rw [HLEN.out]; exact hkm)
            obtain ⟨x, hx⟩ : ∃ x, nth (nthL xss r) k = x := ⟨_, rfl⟩
            rw [hx] at cx
            have HX := hide hx; clear hx
            have hk0 : (0 : Int) ≤ k := by omega
            have hk1 : (k : Int) < m := by omega
            obtain ⟨A7, c7, hv7, hO7, hk7⟩ := own_of_row hown2.out
            subst hv7
            have HO7 := hide hO7; clear hO7 hk7
            have hsl : (seen xss r k).length ≤ 1048576 := (by have h1 := seen_len (xss := xss) (r := r) (k := k) HRL.out (Nat.le_of_lt HKL.out); have h2 := HFL.out; omega)
            have HOW := hown2
            have HSL := hide hsl; clear hsl
            have hbs : w.heap.size ≤ wr.heap.size := hB2.out.size
            by_cases q0 : x = 0
            · have HS : Hid (seen xss r (k + 1) = seen xss r k) := hide (seen_skip HKL.out (by rw [HX.out]; exact q0))
              have HC : Hid (cellOk xss r k = true) := hide (cellOk_zero (by rw [HX.out]; exact q0))
              have q1 : 0 ≤ x := by omega
              have q2 : x ≤ 0 := by omega
              clear q0
              go_wp2_with (go_at_call 36; refine (inRange_any _ _ _ _).mono ?_; rintro e w' ⟨rfl, rfl⟩)
              go_roundw
              case rel => exact ⟨k + 1, by omega, by go_num, hide (by rw [HS.out]; exact hown2.out), hide (fun i hi => by
                by_cases e : i = k
                · subst e; exact HC.out
                · exact hok2.out i (by omega)), hB2⟩
              case measure => simp [intOf]; omega
            have H0 := hide q0
            have HBD : Hid (∀ (q : x < 1 ∨ 9999 < x ∨ x ∈ seen xss r k ∨ lies xss r k = false), vp xss = false) := hide (fun q => vp_cell HRL.out HKL.out (cellOk_no (by rw [HX.out]; exact H0.out) (by rw [HX.out]; exact q)))
            by_cases q1 : x < 0
            · have HV := hide (HBD.out (.inl (by omega)))
              clear q0
              go_wp2_with (go_at_call 36; refine (inRange_any _ _ _ _).mono ?_; rintro e w' ⟨rfl, rfl⟩)
              go_ret
              exact ⟨ret_bool HV.out.symm, hB2.out⟩
            have q1' : 1 ≤ x := by omega
            clear q1 q0
            by_cases q2 : 9999 < x
            · have HV := hide (HBD.out (.inr (.inl q2)))
              go_wp2_with (go_at_call 36; refine (inRange_any _ _ _ _).mono ?_; rintro e w' ⟨rfl, rfl⟩)
              go_ret
              exact ⟨ret_bool HV.out.symm, hB2.out⟩
            have q2' : x ≤ 9999 := by omega
            clear q2
            by_cases q3 : x ∈ seen xss r k
            · have HV := hide (HBD.out (.inr (.inr (.inl q3))))
              have hd := mem_dec q3; clear q3
              go_wp2_with (first | (go_at_call 36; refine (inRange_any _ _ _ _).mono ?_; rintro e w' ⟨rfl, rfl⟩) | (go_at_call 42; refine (placeIn_any _ _ _ _ _ _ HSL.out HO7.out.ints).mono ?_; rintro e w' ⟨rfl, rfl⟩))
              go_ret
              exact ⟨ret_bool HV.out.symm, hB2.out⟩
            have hd := not_mem_dec q3
            have HNM := hide q3; clear q3
            have HPUT : Hid (∀ (hl : lies xss r k = true), seen xss r (k + 1) = seen xss r k ++ [x] ∧ cellOk xss r k = true) := hide (fun hl =>
              ⟨by rw [seen_put HKL.out (by rw [HX.out]; exact H0.out), HX.out], cellOk_yes (by rw [HX.out]; exact q1') (by rw [HX.out]; exact q2') (by rw [HX.out]; exact HNM.out) hl⟩)
            by_cases hz : r = 0
            · obtain ⟨hs, hcc⟩ := HPUT.out (by rw [hz]; exact lies_zero _ _)
              have HS := hide hs; have HC := hide hcc; clear hs hcc
              have g6 : (r : Int) ≤ 0 := by omega
              clear hz
              go_wp2_with (first | (go_at_call 36; refine (inRange_any _ _ _ _).mono ?_; rintro e w' ⟨rfl, rfl⟩) | (go_at_call 42; refine (placeIn_any _ _ _ _ _ _ HSL.out HO7.out.ints).mono ?_; rintro e w' ⟨rfl, rfl⟩) | (at_builtin; refine wpList_app1 rfl _ _ _ rfl w.heap.size _ Try.underlying49 info_int _ _ _ _ _ (by rfl) (by rfl) HOW.out HSL.out hbs ?_; intro v' w1 hown' hb'))
              go_roundw
              case rel => exact ⟨k + 1, by omega, by go_num, hide (by rw [HS.out, List.length_append]; exact hown'), hide (fun i hi => by
                by_cases e : i = k
                · subst e; exact HC.out
                · exact hok2.out i (by omega)), hide (hB2.out.trans hb')⟩
              case measure => simp [intOf]; omega
            · have g6 : (0 : Int) < r := by omega
              have hkp := HPREV.out (by omega) k hkm
              obtain ⟨j, hj⟩ : ∃ j : Nat, (r : Int) - 1 = j := ⟨r - 1, by omega⟩
              have hjr : r - 1 = j := by omega
              have HRJ := hide (show r = j + 1 by omega)
              have hjn' : j < n := by omega
              rw [hjr] at hkp
              obtain ⟨ad2, B2, m2, c2, e2, hb2, hc2, hI2, hmc2, hlen2⟩ := HH.out.row hjn'
              injection e2 with e2; subst e2
              have hcj : wr.cell? (ad.add j) = some (.slice B2 m2 c2) := (hB2.out.cell (by rw [block_add]; exact HB.out)).trans hc2
              rw [hlen2] at hkp
              obtain ⟨a2, rfl, -, y0c⟩ := (hI2.below hB2.out).2 k (by omega)
              obtain ⟨a2', e3, -, y1c⟩ := (hI2.below hB2.out).2 (k + 1) hkp
              injection e3 with e3; subst e3
              have HLU := hide (lies_up xss j k)
              rw [← HRJ.out] at HLU
              obtain ⟨k1, hk1e⟩ : ∃ k1 : Nat, k + 1 = k1 := ⟨_, rfl⟩
              have HK1 := hide hk1e
              rw [hk1e] at y1c hkp HLU
              have hk2 : (k : Int) + 1 = k1 := by omega
              have hk3 : (k1 : Int) < m2 := by omega
              have hk4 : (k : Int) < m2 := by omega
              have hk5 : (0 : Int) ≤ k1 := by omega
              have hj0 : (0 : Int) ≤ j := by omega
              have hjn : (j : Int) < n := by omega
              clear hc2 hI2 hlen2 hjr hz hmc2 hb2 hk1e hkp
              generalize nth (nthL xss j) k = y0 at y0c HLU
              generalize nth (nthL xss j) k1 = y1 at y1c HLU
              cases hy0 : decide (y0 ≠ 0)
              · have hb0 : (y0 == 0) = true := by simpa using hy0
                rw [hy0] at HLU; clear hy0
                have HV := hide (HBD.out (.inr (.inr (.inr HLU.out))))
                go_wp2_with (first | (go_at_call 36; refine (inRange_any _ _ _ _).mono ?_; rintro e w' ⟨rfl, rfl⟩) | (go_at_call 42; refine (placeIn_any _ _ _ _ _ _ HSL.out HO7.out.ints).mono ?_; rintro e w' ⟨rfl, rfl⟩))
                go_ret
                exact ⟨ret_bool HV.out.symm, hB2.out⟩
              have hb0 : (y0 == 0) = false := by simpa using hy0
              rw [hy0] at HLU; clear hy0
              cases hy1 : decide (y1 ≠ 0)
              · have hb1 : (y1 == 0) = true := by simpa using hy1
                rw [hy1] at HLU; clear hy1
                have HV := hide (HBD.out (.inr (.inr (.inr HLU.out))))
                go_wp2_with (first | (go_at_call 36; refine (inRange_any _ _ _ _).mono ?_; rintro e w' ⟨rfl, rfl⟩) | (go_at_call 42; refine (placeIn_any _ _ _ _ _ _ HSL.out HO7.out.ints).mono ?_; rintro e w' ⟨rfl, rfl⟩))
                go_ret
                exact ⟨ret_bool HV.out.symm, hB2.out⟩
              have hb1 : (y1 == 0) = false := by simpa using hy1
              rw [hy1] at HLU; clear hy1
              obtain ⟨hs, hcc⟩ := HPUT.out HLU.out
              have HS := hide hs; have HC := hide hcc; clear hs hcc
              go_wp2_with (first | (go_at_call 36; refine (inRange_any _ _ _ _).mono ?_; rintro e w' ⟨rfl, rfl⟩) | (go_at_call 42; refine (placeIn_any _ _ _ _ _ _ HSL.out HO7.out.ints).mono ?_; rintro e w' ⟨rfl, rfl⟩) | (at_builtin; refine wpList_app1 rfl _ _ _ rfl w.heap.size _ Try.underlying49 info_int _ _ _ _ _ (by rfl) (by rfl) HOW.out HSL.out hbs ?_; intro v' w1 hown' hb'))
              clear hk2 hj
              go_roundw
              case rel => exact ⟨k1, by have := HK1.out; omega, by first | rfl | go_num, hide (by rw [← HK1.out, HS.out, List.length_append]; exact hown'), hide (fun i hi => by
                have := HK1.out
                by_cases e : i = k
                · subst e; exact HC.out
                · exact hok2.out i (by omega)), hide (hB2.out.trans hb')⟩
              case measure => have := HK1.out; simp [intOf]; omega
          · have hkm' : k = m := by omega
            subst hkm'
            have HS : Hid (seen xss (r + 1) 0 = seen xss r k) := hide (by rw [seen_row HRL.out, HLEN.out])
            go_wp2
            go_roundw
            case rel => exact ⟨r + 1, by omega, by go_num, hide (by rw [HS.out]; exact hown2.out), hide (fun q hq => by
              by_cases e : q = r
              · subst e; exact ⟨HG.out, by rw [HLEN.out]; exact hok2.out⟩
              · exact hok.out q (by omega)), hB2⟩
            case measure => simp [intOf]; omega
    · have : r = n := by omega
      subst this
      have hv := vp_ref (xss := xss) (by rw [HL.out]; exact hok.out)
      rw [HL.out] at hv
      have HV := hide hv; clear hv
      by_cases h6 : (r : Int) ≤ 6
      · by_cases h0 : r = 0
        · have hd : ((r : Int) == 0) = true := by simpa using h0
          have HD : Hid (vp xss = true) := hide (by rw [HV.out, decide_eq_true (by omega), decide_eq_true h0]; rfl)
          clear h0
          go_wp2
          go_ret
          exact ⟨ret_bool HD.out.symm, hB.out⟩
        · have hd : ((r : Int) == 0) = false := by simpa using h0
          obtain ⟨ad, B, m, c', rfl, hb, hc0, hI, hmc, hlen⟩ := HH.out.row (r := 0) (by omega)
          have hcz : wr.cell? ad = some (.slice B m c') := (hB.out.cell hb).trans hc0
          have h0n : (0 : Int) < r := by omega
          by_cases hl : (m : Int) ≤ 6
          · have HD : Hid (vp xss = true) := hide (by rw [HV.out, decide_eq_true (by omega), decide_eq_false h0, hlen, decide_eq_true (by omega)]; rfl)
            clear h0 hI hlen hb hc0
            go_wp2
            go_ret
            exact ⟨ret_bool HD.out.symm, hB.out⟩
          · have hl' : (6 : Int) < m := by omega
            have HD : Hid (vp xss = false) := hide (by rw [HV.out, decide_eq_true (by omega), decide_eq_false h0, hlen, decide_eq_false (by omega)]; rfl)
            clear h0 hI hlen hb hc0 hl
            go_wp2
            go_ret
            exact ⟨ret_bool (by rw [HD.out]; simp; omega), hB.out⟩
      · have h6' : (6 : Int) < r := by omega
        have HD : Hid (vp xss = false) := hide (by rw [HV.out, decide_eq_false (by omega), Bool.false_and])
        clear h6
        go_wp2
        go_ret
        exact ⟨ret_bool HD.out.symm, hB.out⟩
theorem specValidPile (A : Option Addr) (n c : Nat) (xss : List (List Int)) (w : World) (hn : n ≤ 1048576) (hfl : xss.flatten.length ≤ 1048576) (h : Rows2 w A n xss) :
    Calls Try.prog 19 #[.slice A n c] w fun e w' => e = .returned (.bool (vp xss)) ∧ Below w.heap.size w w' := by
  have HH := hide h; clear h
  go_enter Try.func19, Try.ntmps19
  go_wp2_with fail
  refine (specValidPile0 _ _ _ xss _ hn hfl HH.out).mono ?_; rintro e w1 ⟨rfl, hb⟩
  go_wp2_with fail
  go_ret
  exact ⟨rfl, hb⟩
end Go.Proofs.Ytbbopnpmjhbffaa
