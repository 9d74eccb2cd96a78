/- Contracts of chapter 6: valid piles, the program's. -/
import Derived.Test.YtbbopnpmjhbffaaInt5s
import Derived.Test.YtbbopnpmjhbffaaPl8
import Derived.BigRegion
namespace Go.Proofs.Ytbbopnpmjhbffaa
open Go.RowKit
set_option linter.unusedVariables false
set_option maxRecDepth 100000
theorem Rows2.row {w : World} {A : Option Addr} {n : Nat} {xss : List (List Int)} (h : Rows2 w A n xss) {r : Nat} (hr : r < n) :
    ∃ ad B m c, A = some ad ∧ ad.block < w.heap.size ∧ w.cell? (ad.add r) = some (.slice B m c) ∧ Ints w B m (nthL xss r) ∧ m ≤ c ∧ (nthL xss r).length = m := by
  obtain ⟨ad, B, m, c, e, hb, hc, hI, hm⟩ := h.2 r hr
  exact ⟨ad, B, m, c, e, hb, hc, hI, hm, hI.1⟩
theorem mem_dec {S : List Int} {x : Int} (h : x ∈ S) : decide (0 ≤ pIn S x) = true := decide_eq_true (pIn_nonneg.2 h)
theorem not_mem_dec {S : List Int} {x : Int} (h : x ∉ S) : decide (0 ≤ pIn S x) = false := decide_eq_false fun g => h (pIn_nonneg.1 g)
theorem implLies (A : Option Addr) (n c : Nat) (xss : List (List Int)) (r i : Nat) (w : World) (hn : n ≤ 1048576) (h : Rows2 w A n xss) (hr : r < n) (hi0 : i ≤ 1048576) (hi : 0 < r → i + 1 < (nthL xss (r - 1)).length) :
    Calls Try.prog 31 #[.slice A n c, .int .i64 r, .int .i64 i] w fun e w' => e = .returned (.bool (lies xss r i)) ∧ w = w' := by
  by_cases h0 : r = 0
  · subst h0
    have HL := hide (lies_zero xss i)
    clear h hi hr
    go_enter Try.func31, Try.ntmps31
    go_wp2
    go_ret
    exact ⟨ret_bool HL.out.symm, rfl⟩
  · obtain ⟨j, hj⟩ : ∃ j : Nat, r = j + 1 := ⟨r - 1, by omega⟩
    subst hj
    clear h0
    have hi1 := hi (by omega)
    rw [Nat.add_sub_cancel] at hi1
    have HL := hide (lies_up xss j i)
    obtain ⟨ad, B, m, c', rfl, hb, hc, hI, hmc, hlen⟩ := h.row (r := j) (by omega)
    rw [hlen] at hi1
    obtain ⟨a1, rfl, -, c0⟩ := hI.2 i (by omega)
    obtain ⟨a1', e1, -, c1⟩ := hI.2 (i + 1) hi1
    obtain rfl : a1 = a1' := by injection e1
    clear h hi hI hlen e1
    obtain ⟨R, hR⟩ : ∃ R : Int, ((j + 1 : Nat) : Int) = R := ⟨_, rfl⟩
    have e3 : R - 1 = (j : Int) := by omega
    obtain ⟨I, hI⟩ : ∃ I : Nat, i + 1 = I := ⟨_, rfl⟩
    have e4 : (i : Int) + 1 = I := by omega
    rw [hI] at c1 hi1 HL
    have hR0 : (R == 0) = false := by simp; omega
    have hR1 : R ≤ 1048577 := by omega
    have hR2 : 1 ≤ R := by omega
    have hi2 : (i : Int) < m := by omega
    have hi3 : (I : Int) < m := by omega
    have hj2 : (j : Int) < n := by omega
    rw [hR]
    generalize nth (nthL xss j) i = x at c0 HL
    generalize nth (nthL xss j) I = y at c1 HL
    clear hR hI hr
    cases hx : decide (x ≠ 0)
    · have hx' : (x != 0) = false := by simpa using hx
      rw [hx] at HL; clear hx
      go_enter Try.func31, Try.ntmps31
      go_wp2
      go_ret
      exact ⟨ret_bool (by rw [HL.out]; rfl), rfl⟩
    · have hx' : (x != 0) = true := by simpa using hx
      rw [hx] at HL; clear hx
      cases hy : decide (y ≠ 0)
      · have hy' : (y != 0) = false := by simpa using hy
        rw [hy] at HL; clear hy
        go_enter Try.func31, Try.ntmps31
        go_wp2
        go_ret
        exact ⟨ret_bool (by rw [HL.out]; rfl), rfl⟩
      · have hy' : (y != 0) = true := by simpa using hy
        rw [hy] at HL; clear hy
        go_enter Try.func31, Try.ntmps31
        go_wp2
        go_ret
        exact ⟨ret_bool (by rw [HL.out]; rfl), rfl⟩
set_option maxHeartbeats 4000000 in
theorem implValidPile (A : Option Addr) (n c : Nat) (xss : List (List Int)) (w : World) (hn : n ≤ 1048576) (hfl : xss.flatten.length ≤ 1048576) (h : Rows2 w A n xss) :
    Calls Try.prog 18 #[.slice A n c] w fun e w' => e = .returned (.bool (vp xss)) ∧ Below w.heap.size w w' := by
  have HL := hide h.1
  by_cases h6 : (6 : Int) < n
  · have HD := hide (vp_len (xss := xss) (by have := HL.out; omega))
    clear h
    go_enter Try.func18, Try.ntmps18
    go_wp2
    go_ret
    exact ⟨ret_bool HD.out.symm, Below.refl _ _⟩
  have h6' : (n : Int) ≤ 6 := by omega
  have HFL := hide hfl
  clear h6 hfl
  have HH := hide h; clear h
  go_enter Try.func18, Try.ntmps18
  go_wp2
  go_loopw [3, 13] (fun v i wr => ∃ r : Nat, r ≤ n ∧ i = .int .i64 r ∧ Hid (wr.ownsRow w.heap.size 3 1 v (seen xss r 0).length ((seen xss r 0).map (.int .i64))) ∧ Hid (∀ q, q < r → rowOk xss q) ∧ Hid (Below w.heap.size w wr)) (fun _ i _ => n - (intOf i).toNat)
  case atStart => exact ⟨0, by omega, rfl, hide (by rw [seen_zero]; exact own_nil_row _ _), hide (fun q hq => by omega), hide (Below.refl _ _)⟩
  case round =>
    obtain ⟨r, hr, rfl, hown, hok, hB⟩ := hrel
    by_cases hlt : r < n
    · have HRL := hide (show r < xss.length by rw [HL.out]; exact hlt)
      obtain ⟨ad, B, m, c', rfl, hb, hc0, hI, hmc, hlen⟩ := HH.out.row hlt
      have hc : wr.cell? (ad.add r) = some (.slice B m c') := (hB.out.cell (by rw [block_add]; exact hb)).trans hc0
      have HI := hide hI; have HLEN := hide hlen; clear hc0 hb
      have hr0 : (0 : Int) ≤ r := by omega
      have hrn : (r : Int) < n := by omega
      -- the lengths
      by_cases hbad : lenOk xss r = false
      · have HD := hide (vp_row HRL.out hbad)
        have hcase : m < 1 ∨ (1 ≤ m ∧ 6 < m) ∨ (1 ≤ m ∧ m ≤ 6 ∧ 0 < r ∧ m + 1 ≠ (nthL xss (r - 1)).length) := by
          apply Classical.byContradiction
          intro hno
          have := lenOk_yes (xss := xss) (r := r) (by rw [hlen]; refine ⟨by omega, by omega, fun h0 => ?_⟩; apply Classical.byContradiction; intro h1; exact hno (.inr (.inr ⟨by omega, by omega, h0, h1⟩)))
          rw [this] at hbad; cases hbad
        clear hbad hlen hI
        rcases hcase with g | ⟨g, g'⟩ | ⟨g, g', g0, g1⟩
        · have g2 : (m : Int) < 1 := by omega
          go_wp2
          go_ret
          exact ⟨ret_bool HD.out.symm, hB.out⟩
        · have g2 : (1 : Int) ≤ m := by omega
          have g3 : (6 : Int) < m := by omega
          go_wp2
          go_ret
          exact ⟨ret_bool HD.out.symm, hB.out⟩
        · have g2 : (1 : Int) ≤ m := by omega
          have g3 : (m : Int) ≤ 6 := by omega
          have g4 : (0 : Int) < r := by omega
          obtain ⟨j, hj⟩ : ∃ j : Nat, (r : Int) - 1 = j := ⟨r - 1, by omega⟩
          have hjr : r - 1 = j := by omega
          obtain ⟨ad2, B2, m2, c2, e2, hb2, hc2, hI2, hmc2, hlen2⟩ := (HH.out.below hB.out).row (r := j) (by omega)
          injection e2 with e2; subst e2
          rw [hjr, hlen2] at g1
          have hprev := hok.out j (by omega)
          have hm2 : 1 ≤ m2 ∧ m2 ≤ 6 := by have := lenOk_out hprev.1; rw [hlen2] at this; exact ⟨this.1, this.2.1⟩
          have hm3 : (1 : Int) ≤ m2 := by omega
          have hm4 : (m2 : Int) ≤ 6 := by omega
          have hj0 : (0 : Int) ≤ j := by omega
          have hjn : (j : Int) < n := by omega
          have hne : ((m : Int) != (m2 : Int) - 1) = true := by simp; omega
          clear hI2 hlen2 hprev hm2 hjr g1 hmc2 hb2
          go_wp2
          go_ret
          exact ⟨ret_bool HD.out.symm, hB.out⟩
      · have hgood : lenOk xss r = true := by simpa using hbad
        have HG := hide hgood
        obtain ⟨g1, g2, g3⟩ := lenOk_out hgood
        rw [hlen] at g1 g2 g3
        clear hbad hgood hlen hI
        have g4 : (1 : Int) ≤ m := by omega
        have g5 : (m : Int) ≤ 6 := by omega
        have HLI : Hid (∀ i, i < m → 0 < r → i + 1 < (nthL xss (r - 1)).length) := hide (fun i hi h0 => by have := g3 h0; omega)
        have HG3 := hide g3; clear g3
        by_cases hz : r = 0
        · have g6 : (r : Int) ≤ 0 := by omega
          clear hz
          go_wp2
          go_loopw [3, 44] (fun v i wq => ∃ k : Nat, k ≤ m ∧ i = .int .i64 k ∧ Hid (wq.ownsRow w.heap.size 3 1 v (seen xss r k).length ((seen xss r k).map (.int .i64))) ∧ Hid (∀ i, i < k → cellOk xss r i = true) ∧ Hid (Below w.heap.size w wq) ) (fun _ i _ => m - (intOf i).toNat)
          case atStart => exact ⟨0, by omega, rfl, hown, hide (fun i hi => by omega), hB⟩
          case round =>
            obtain ⟨k, hk, rfl, hown2, hok2, hB2⟩ := hrel
            have HI2 := hide (HI.out.below hB2.out)
            by_cases hkm : k < m
            · obtain ⟨ax, rfl, -, cx⟩ := HI2.out.2 k hkm
              have HKL := hide (show k < (nthL xss r).length by rw [HLEN.out]; exact hkm)
              obtain ⟨x, hx⟩ : ∃ x, nth (nthL xss r) k = x := ⟨_, rfl⟩
              rw [hx] at cx
              have HX := hide hx; clear hx
              have hk0 : (0 : Int) ≤ k := by omega
              have hk1 : (k : Int) < m := by omega
              by_cases h0 : x = 0
              · have hd : (x == 0) = true := by simpa using h0
                have HS : Hid (seen xss r (k + 1) = seen xss r k) := hide (seen_skip HKL.out (by rw [HX.out]; exact h0))
                have HC : Hid (cellOk xss r k = true) := hide (cellOk_zero (by rw [HX.out]; exact h0))
                clear h0
                go_wp2
                go_roundw
                case rel => exact ⟨k + 1, by omega, by go_num, hide (by rw [HS.out]; exact hown2.out), hide (fun i hi => by
                  by_cases e : i = k
                  · subst e; exact HC.out
                  · exact hok2.out i (by omega)), hB2⟩
                case measure => simp [intOf]; omega
              · have hd : (x == 0) = false := by simpa using h0
                have H0 := hide h0; clear h0
                have HBD : Hid (∀ (q : x < 1 ∨ 9999 < x ∨ x ∈ seen xss r k ∨ lies xss r k = false), vp xss = false) := hide (fun q => vp_cell HRL.out HKL.out (cellOk_no (by rw [HX.out]; exact H0.out) (by rw [HX.out]; exact q)))
                obtain ⟨A7, c7, hv7, hO7, hk7⟩ := own_of_row hown2.out
                subst hv7
                have HO7 := hide hO7; clear hO7 hk7
                have hsl : (seen xss r k).length ≤ 1048576 := (by have h1 := seen_len (xss := xss) (r := r) (k := k) HRL.out (Nat.le_of_lt HKL.out); have h2 := HFL.out; omega)
                have HOW := hown2
                have HSL := hide hsl; clear hsl
                by_cases q1 : x < 1
                · have HD := hide (HBD.out (.inl q1))
                  go_wp2
                  go_ret
                  exact ⟨ret_bool HD.out.symm, hB2.out⟩
                have q1' : 1 ≤ x := by omega
                clear q1
                by_cases q2 : 9999 < x
                · have HD := hide (HBD.out (.inr (.inl q2)))
                  go_wp2
                  go_ret
                  exact ⟨ret_bool HD.out.symm, hB2.out⟩
                have q2' : x ≤ 9999 := by omega
                clear q2
                by_cases q3 : x ∈ seen xss r k
                · have HD := hide (HBD.out (.inr (.inr (.inl q3))))
                  have HM := hide (mem_dec q3); clear q3
                  go_wp2_with (go_at_call 30; refine (contains_any _ _ _ _ _ _ HSL.out HO7.out.ints).mono ?_; rintro e w' ⟨rfl, rfl⟩; rw [HM.out])
                  go_ret
                  exact ⟨ret_bool HD.out.symm, hB2.out⟩
                have HM := hide (not_mem_dec q3)
                have HNM := hide q3; clear q3
                cases hl : lies xss r k
                · have HD := hide (HBD.out (.inr (.inr (.inr hl))))
                  have HLS := hide hl; clear hl
                  go_wp2_with (first
                    | (go_at_call 30; refine (contains_any _ _ _ _ _ _ HSL.out HO7.out.ints).mono ?_; rintro e w' ⟨rfl, rfl⟩; rw [HM.out])
                    | (go_at_call 31; refine (implLies _ _ _ xss r k _ hn (HH.out.below hB2.out) hlt (by omega) (HLI.out k hkm)).mono ?_; rintro e w' ⟨rfl, rfl⟩; rw [HLS.out]))
                  go_ret
                  exact ⟨ret_bool HD.out.symm, hB2.out⟩
                · have HLS := hide hl
                  have HC : Hid (cellOk xss r k = true) := hide (cellOk_yes (by rw [HX.out]; exact q1') (by rw [HX.out]; exact q2') (by rw [HX.out]; exact HNM.out) hl)
                  have HS : Hid (seen xss r (k + 1) = seen xss r k ++ [x]) := hide (by rw [seen_put HKL.out (by rw [HX.out]; exact H0.out), HX.out])
                  clear hl
                  have hbs : w.heap.size ≤ wr.heap.size := hB2.out.size
                  go_wp2_with (first
                    | (go_at_call 30; refine (contains_any _ _ _ _ _ _ HSL.out HO7.out.ints).mono ?_; rintro e w' ⟨rfl, rfl⟩; rw [HM.out])
                    | (go_at_call 31; refine (implLies _ _ _ xss r k _ hn (HH.out.below hB2.out) hlt (by omega) (HLI.out k hkm)).mono ?_; rintro e w' ⟨rfl, rfl⟩; rw [HLS.out])
                    | (at_builtin; refine wpList_app1 rfl _ _ _ rfl w.heap.size _ Try.underlying49 info_int _ _ _ _ _ (by rfl) (by rfl) HOW.out HSL.out hbs ?_; intro v' w1 hown' hb'))
                  go_roundw
                  case rel => exact ⟨k + 1, by omega, by go_num, hide (by rw [HS.out, List.length_append]; exact hown'), hide (fun i hi => by
                    by_cases e : i = k
                    · subst e; exact HC.out
                    · exact hok2.out i (by omega)), hide (hB2.out.trans hb')⟩
                  case measure => simp [intOf]; omega
            · have hkm' : k = m := by omega
              subst hkm'
              have HS : Hid (seen xss (r + 1) 0 = seen xss r k) := hide (by rw [seen_row HRL.out, HLEN.out])
              go_wp2
              go_roundw
              case rel => exact ⟨r + 1, by omega, by go_num, hide (by rw [HS.out]; exact hown2.out), hide (fun q hq => by
                by_cases e : q = r
                · subst e; exact ⟨HG.out, by rw [HLEN.out]; exact hok2.out⟩
                · exact hok.out q (by omega)), hB2⟩
              case measure => simp [intOf]; omega
        · have g6 : (0 : Int) < r := by omega
          obtain ⟨j, hj⟩ : ∃ j : Nat, (r : Int) - 1 = j := ⟨r - 1, by omega⟩
          have hjr : r - 1 = j := by omega
          obtain ⟨ad2, B2, m2, c2, e2, hb2, hc2, hI2, hmc2, hlen2⟩ := (HH.out.below hB.out).row (r := j) (by omega)
          injection e2 with e2; subst e2
          have hm2 : m + 1 = m2 := by have := HG3.out (by omega); rw [hjr, hlen2] at this; exact this
          have hm3 : (1 : Int) ≤ m2 := by omega
          have hm4 : (m2 : Int) ≤ 7 := by omega
          have hj0 : (0 : Int) ≤ j := by omega
          have hjn : (j : Int) < n := by omega
          have hne : ((m : Int) != (m2 : Int) - 1) = false := by simp; omega
          clear hI2 hlen2 hm2 hjr hz hmc2 hb2
          go_wp2
          go_loopw [3, 44] (fun v i wq => ∃ k : Nat, k ≤ m ∧ i = .int .i64 k ∧ Hid (wq.ownsRow w.heap.size 3 1 v (seen xss r k).length ((seen xss r k).map (.int .i64))) ∧ Hid (∀ i, i < k → cellOk xss r i = true) ∧ Hid (Below w.heap.size w wq) ) (fun _ i _ => m - (intOf i).toNat)
          case atStart => exact ⟨0, by omega, rfl, hown, hide (fun i hi => by omega), hB⟩
          case round =>
            obtain ⟨k, hk, rfl, hown2, hok2, hB2⟩ := hrel
            have HI2 := hide (HI.out.below hB2.out)
            by_cases hkm : k < m
            · obtain ⟨ax, rfl, -, cx⟩ := HI2.out.2 k hkm
              have HKL := hide (show k < (nthL xss r).length by rw [HLEN.out]; exact hkm)
              obtain ⟨x, hx⟩ : ∃ x, nth (nthL xss r) k = x := ⟨_, rfl⟩
              rw [hx] at cx
              have HX := hide hx; clear hx
              have hk0 : (0 : Int) ≤ k := by omega
              have hk1 : (k : Int) < m := by omega
              by_cases h0 : x = 0
              · have hd : (x == 0) = true := by simpa using h0
                have HS : Hid (seen xss r (k + 1) = seen xss r k) := hide (seen_skip HKL.out (by rw [HX.out]; exact h0))
                have HC : Hid (cellOk xss r k = true) := hide (cellOk_zero (by rw [HX.out]; exact h0))
                clear h0
                go_wp2
                go_roundw
                case rel => exact ⟨k + 1, by omega, by go_num, hide (by rw [HS.out]; exact hown2.out), hide (fun i hi => by
                  by_cases e : i = k
                  · subst e; exact HC.out
                  · exact hok2.out i (by omega)), hB2⟩
                case measure => simp [intOf]; omega
              · have hd : (x == 0) = false := by simpa using h0
                have H0 := hide h0; clear h0
                have HBD : Hid (∀ (q : x < 1 ∨ 9999 < x ∨ x ∈ seen xss r k ∨ lies xss r k = false), vp xss = false) := hide (fun q => vp_cell HRL.out HKL.out (cellOk_no (by rw [HX.out]; exact H0.out) (by rw [HX.out]; exact q)))
                obtain ⟨A7, c7, hv7, hO7, hk7⟩ := own_of_row hown2.out
                subst hv7
                have HO7 := hide hO7; clear hO7 hk7
                have hsl : (seen xss r k).length ≤ 1048576 := (by have h1 := seen_len (xss := xss) (r := r) (k := k) HRL.out (Nat.le_of_lt HKL.out); have h2 := HFL.out; omega)
                have HOW := hown2
                have HSL := hide hsl; clear hsl
                by_cases q1 : x < 1
                · have HD := hide (HBD.out (.inl q1))
                  go_wp2
                  go_ret
                  exact ⟨ret_bool HD.out.symm, hB2.out⟩
                have q1' : 1 ≤ x := by omega
                clear q1
                by_cases q2 : 9999 < x
                · have HD := hide (HBD.out (.inr (.inl q2)))
                  go_wp2
                  go_ret
                  exact ⟨ret_bool HD.out.symm, hB2.out⟩
                have q2' : x ≤ 9999 := by omega
                clear q2
                by_cases q3 : x ∈ seen xss r k
                · have HD := hide (HBD.out (.inr (.inr (.inl q3))))
                  have HM := hide (mem_dec q3); clear q3
                  go_wp2_with (go_at_call 30; refine (contains_any _ _ _ _ _ _ HSL.out HO7.out.ints).mono ?_; rintro e w' ⟨rfl, rfl⟩; rw [HM.out])
                  go_ret
                  exact ⟨ret_bool HD.out.symm, hB2.out⟩
                have HM := hide (not_mem_dec q3)
                have HNM := hide q3; clear q3
                cases hl : lies xss r k
                · have HD := hide (HBD.out (.inr (.inr (.inr hl))))
                  have HLS := hide hl; clear hl
                  go_wp2_with (first
                    | (go_at_call 30; refine (contains_any _ _ _ _ _ _ HSL.out HO7.out.ints).mono ?_; rintro e w' ⟨rfl, rfl⟩; rw [HM.out])
                    | (go_at_call 31; refine (implLies _ _ _ xss r k _ hn (HH.out.below hB2.out) hlt (by omega) (HLI.out k hkm)).mono ?_; rintro e w' ⟨rfl, rfl⟩; rw [HLS.out]))
                  go_ret
                  exact ⟨ret_bool HD.out.symm, hB2.out⟩
                · have HLS := hide hl
                  have HC : Hid (cellOk xss r k = true) := hide (cellOk_yes (by rw [HX.out]; exact q1') (by rw [HX.out]; exact q2') (by rw [HX.out]; exact HNM.out) hl)
                  have HS : Hid (seen xss r (k + 1) = seen xss r k ++ [x]) := hide (by rw [seen_put HKL.out (by rw [HX.out]; exact H0.out), HX.out])
                  clear hl
                  have hbs : w.heap.size ≤ wr.heap.size := hB2.out.size
                  go_wp2_with (first
                    | (go_at_call 30; refine (contains_any _ _ _ _ _ _ HSL.out HO7.out.ints).mono ?_; rintro e w' ⟨rfl, rfl⟩; rw [HM.out])
                    | (go_at_call 31; refine (implLies _ _ _ xss r k _ hn (HH.out.below hB2.out) hlt (by omega) (HLI.out k hkm)).mono ?_; rintro e w' ⟨rfl, rfl⟩; rw [HLS.out])
                    | (at_builtin; refine wpList_app1 rfl _ _ _ rfl w.heap.size _ Try.underlying49 info_int _ _ _ _ _ (by rfl) (by rfl) HOW.out HSL.out hbs ?_; intro v' w1 hown' hb'))
                  go_roundw
                  case rel => exact ⟨k + 1, by omega, by go_num, hide (by rw [HS.out, List.length_append]; exact hown'), hide (fun i hi => by
                    by_cases e : i = k
                    · subst e; exact HC.out
                    · exact hok2.out i (by omega)), hide (hB2.out.trans hb')⟩
                  case measure => simp [intOf]; omega
            · have hkm' : k = m := by omega
              subst hkm'
              have HS : Hid (seen xss (r + 1) 0 = seen xss r k) := hide (by rw [seen_row HRL.out, HLEN.out])
              go_wp2
              go_roundw
              case rel => exact ⟨r + 1, by omega, by go_num, hide (by rw [HS.out]; exact hown2.out), hide (fun q hq => by
                by_cases e : q = r
                · subst e; exact ⟨HG.out, by rw [HLEN.out]; exact hok2.out⟩
                · exact hok.out q (by omega)), hB2⟩
              case measure => simp [intOf]; omega
    · have : r = n := by omega
      subst this
      have HD := hide (vp_yes (xss := xss) (by have := HL.out; omega) (by rw [HL.out]; exact hok.out))
      go_wp2
      go_ret
      exact ⟨ret_bool HD.out.symm, hB.out⟩
end Go.Proofs.Ytbbopnpmjhbffaa
