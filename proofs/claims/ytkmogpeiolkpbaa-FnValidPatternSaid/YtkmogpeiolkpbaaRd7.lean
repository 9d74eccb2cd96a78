/- The contract of DrawValidPattern. -/
import Derived.Test.YtkmogpeiolkpbaaRd6
namespace Go.Proofs.Ytkmogpeiolkpbaa
open Go.RowKit
set_option linter.unusedVariables false
set_option maxRecDepth 100000
theorem div_room {y x b : Int} (hy : 0 ≤ y) (hx : 0 < x) (h0 : 0 ≤ b) (hb : b < y / x + 1) : 0 ≤ b * x ∧ b * x ≤ y := by
  have h1 : b ≤ y / x := by omega
  have h2 : b * x ≤ y / x * x := Int.mul_le_mul_of_nonneg_right h1 (by omega)
  have h3 := Int.ediv_mul_le y (show x ≠ 0 by omega)
  exact ⟨Int.mul_nonneg h0 (by omega), by omega⟩
theorem div_bd {y x : Int} (hy : 0 ≤ y) (hx : 0 < x) : 0 ≤ y / x ∧ y / x ≤ y := ⟨Int.ediv_nonneg hy (by omega), Int.ediv_le_self _ hy⟩
set_option maxHeartbeats 2000000 in
theorem drawValidPattern_any (A : Option Addr) (n c : Nat) (bs : List Int) (w : World) (hn : n ≤ 1048576) (hnc : n ≤ c) (h : Byts w A n bs) : Calls Try.prog 39 #[.slice A n c] w (GotILL WnP w) := by
  go_enter Try.func39, Try.ntmps39
  go_wp2_with fail
  refine (newReader_b A n c bs _ hn hnc h).mono ?_; rintro e w1 ⟨rfl, hR, hb, hz⟩
  have hz' : w.heap.size < w1.heap.size := by omega
  have HZ := hide hz; clear hz
  go_wp2_with fail
  refine (anyWidths_any _ 0 _ (by omega) hR).mono ?_; rintro e w2 ⟨s, v, ys, rfl, hP, hO, hR2, hS⟩
  obtain ⟨A5, c5, rfl, hO5, -⟩ := own_of_row hO
  obtain ⟨rb, hrbe⟩ : ∃ rb, w.heap.size = rb := ⟨_, rfl⟩
  rw [hrbe] at hR2 hS ⊢
  have hrb : rb < w1.heap.size := by omega
  have hs2 := hS.size
  obtain ⟨K, hK⟩ : ∃ K, ys.length = K := ⟨_, rfl⟩
  rw [hK] at hO hO5 ⊢
  have hK5 : K ≤ 5 := by have := hP.2.2.1; omega
  have hs0 := hP.1; have hs1 := hP.2.1
  have HP := hide hP; have HO := hide hO; have HI := hide hO5.ints; have HR2 := hide hR2; have HS := hide hS; have HB := hide hb; have HK := hide hK; have HRB := hide hrbe; clear hP hO hO5 hR2 hS hb hR h hK hrbe
  have hrb2 : rb < w2.heap.size := by omega
  go_wp2_with fail
  go_loopw [8, 9, 10] (fun v t i wr => ∃ (k : Nat) (y : Int) (zs : List Int), k ≤ K ∧ i = .int .i64 k ∧ t = .int .i64 y ∧ 0 ≤ y ∧ y ≤ 61 ∧ zs.length = k ∧ BdL (-1) 70 zs ∧ BdL 0 61 zs ∧ wr.ownsRow w2.heap.size 3 1 v k (zs.map (.int .i64)) ∧ Rdr wr rb (10 + k) ∧ RS rb w2 wr) (fun _ _ i _ => K - (intOf i).toNat)
  case atStart => exact ⟨0, s, [], by omega, rfl, rfl, by omega, by omega, rfl, BdL.nil, BdL.nil, own_empty_row (Nat.le_refl _), HR2.out.alloc _, (RS.refl rb w2).alloc _⟩
  case round =>
    rename_i wr
    obtain ⟨k, y, zs, hk, rfl, rfl, hy0, hy1, hl, hzs, hzs2, hown, hR, hS⟩ := hrel
    have HY := hide hzs; have HY2 := hide hzs2; have HL := hide hl; have HOWN := hide hown; have HR := hide hR; have HSS := hide hS; clear hzs hzs2 hl hown hR hS
    by_cases hlt : k < K
    · have HIr := hide ((own_of_row (ownsRow_rs HO.out HSS.out hrb)).elim fun A9 t => t.elim fun c9 t => (by obtain ⟨e9, hO9, -⟩ := t; injection e9 with e9; subst e9; exact hO9.ints : Ints wr A5 K ys))
      obtain ⟨ad, rfl, -, hc⟩ := HIr.out.2 k hlt
      obtain ⟨x0, x1⟩ := HP.out.2.2.2 _ (nth_mem (k := k) (by rw [HK.out]; exact hlt))
      obtain ⟨x, hxx⟩ : ∃ x, nth ys k = x := ⟨_, rfl⟩
      rw [hxx] at hc x0 x1
      have HXX := hide hxx; clear hxx
      have hsz := HSS.out.size
      rcases (show (0 < x ∧ x ≤ y) ∨ (0 < x ∧ y < x) ∨ x ≤ 0 by omega) with ⟨p1, p2⟩ | ⟨p1, p2⟩ | p1
      · obtain ⟨d0, d1⟩ := div_bd (y := y) (x := x) hy0 p1
        obtain ⟨D, hD⟩ : ∃ D, y / x = D := ⟨_, rfl⟩
        have HD := hide hD
        rw [hD] at d0 d1
        have hne : (x == 0) = false := by simp; omega
        go_wp2_with fail
        refine (pick_any rb _ (D + 1) _ (by omega) HR.out).mono ?_
        rintro e w3 ⟨b, rfl, hb, hRb, hSb⟩
        obtain ⟨b0, b1⟩ := hb.2 (by omega)
        obtain ⟨m0, m1⟩ := div_room hy0 p1 b0 (by rw [HD.out]; exact b1)
        have e1 : wrap64 (b * x) = b * x := IntWalk.wrap64_in _ ⟨by omega, by omega⟩
        have e2 : wrap64 (y - b * x) = y - b * x := IntWalk.wrap64_in _ ⟨by omega, by omega⟩
        have mx : ¬ x < 0 := by omega
        clear hD
        have HOWN3 := hide (ownsRow_rs HOWN.out hSb hrb2); have HR3 := hide hRb; have HS3 := hide (HSS.out.trans hSb)
        have hI9 : Ints w3 (some ad) K ys := by
          obtain ⟨A9, c9, e9, hO9, -⟩ := own_of_row (ownsRow_rs HO.out HS3.out hrb)
          injection e9 with e9; subst e9
          exact hO9.ints
        obtain ⟨ad', e', -, hc'⟩ := hI9.2 k hlt
        injection e' with e'; subst e'
        rw [HXX.out] at hc'
        have hsz3 := HS3.out.size
        clear hb hRb hSb hI9 hc
        go_wp2_with (at_builtin; refine wpList_app1 rfl _ _ _ rfl w2.heap.size _ Try.underlying23 info_int _ _ _ _ _ (by rfl) (by rfl) HOWN3.out (by omega) hsz3 ?_; intro v' w4 hown' hb')
        have HO4 := hide hown'; have HR4 := hide (HR3.out.below hb' hrb2); have HS4 := hide (HS3.out.from_ hb'); clear hown' hb'
        go_roundw
        case rel => exact ⟨k + 1, y - b * x, zs ++ [b], by omega, by go_num, by first | rfl | simp, by omega, by omega, by rw [List.length_append, HL.out]; rfl, HY.out.snoc ⟨by omega, by omega⟩, HY2.out.snoc ⟨by omega, by omega⟩, HO4.out, HR4.out.mono (by omega), HS4.out⟩
        case measure => simp [intOf]; omega
      · go_wp2_with (at_builtin; refine wpList_app1 rfl _ _ _ rfl w2.heap.size _ Try.underlying23 info_int _ _ _ _ _ (by rfl) (by rfl) HOWN.out (by omega) hsz ?_; intro v' w4 hown' hb')
        have HO4 := hide hown'; have HR4 := hide (HR.out.below hb' hrb2); have HS4 := hide (HSS.out.from_ hb'); clear hown' hb'
        go_roundw
        case rel => exact ⟨k + 1, y, zs ++ [0], by omega, by go_num, by first | rfl | simp, by omega, by omega, by rw [List.length_append, HL.out]; rfl, HY.out.snoc ⟨by omega, by omega⟩, HY2.out.snoc ⟨by omega, by omega⟩, HO4.out, HR4.out.mono (by omega), HS4.out⟩
        case measure => simp [intOf]; omega
      · obtain rfl : x = 0 := by omega
        go_wp2_with (at_builtin; refine wpList_app1 rfl _ _ _ rfl w2.heap.size _ Try.underlying23 info_int _ _ _ _ _ (by rfl) (by rfl) HOWN.out (by omega) hsz ?_; intro v' w4 hown' hb')
        have HO4 := hide hown'; have HR4 := hide (HR.out.below hb' hrb2); have HS4 := hide (HSS.out.from_ hb'); clear hown' hb'
        go_roundw
        case rel => exact ⟨k + 1, y, zs ++ [0], by omega, by go_num, by first | rfl | simp, by omega, by omega, by rw [List.length_append, HL.out]; rfl, HY.out.snoc ⟨by omega, by omega⟩, HY2.out.snoc ⟨by omega, by omega⟩, HO4.out, HR4.out.mono (by omega), HS4.out⟩
        case measure => simp [intOf]; omega
    · have hkn : k = K := by omega
      subst hkn
      have hfin : ∀ (v : Value) (zs : List Int) (W : World), zs.length = k → BdL (-1) 70 zs → W.ownsRow w2.heap.size 3 1 v k (zs.map (.int .i64)) → RS rb w2 W → GotILL WnP w (.returned (.tuple #[.int .i64 s, .slice A5 k c5, v])) W := fun v zs W hz hzs hO hS =>
        ⟨s, _, v, ys, zs, rfl, ⟨HP.out, by rw [hz, HK.out], hzs⟩, by rw [HK.out]; exact ownsRow_le (ownsRow_rs HO.out hS hrb) (by omega), by rw [hz]; exact ownsRow_le hO (by omega), HB.out.trans ((HS.out.trans hS).below (by rw [HRB.out]; exact Nat.le_refl _) hrb)⟩
      have FIN := hide hfin; clear hfin
      by_cases hK0 : 0 < k
      · have hK0' : (0 : Int) < k := by omega
        obtain ⟨A7, c7, rfl, hO7, hkc7⟩ := own_of_row HOWN.out
        obtain ⟨g, rfl, hg1, hg2, hgc⟩ := hO7.2.2 hK0
        clear hgc hO7
        go_wp2_with fail
        refine (pick_any rb _ 10 _ (by omega) HR.out).mono ?_
        rintro e w3 ⟨a, rfl, ha, hRa, hSa⟩
        have Ra := hide hRa; have Sa := hide hSa; clear ha hRa hSa
        have HO2 := hide (ownsRow_rs HOWN.out Sa.out hrb2)
        by_cases hz : a = 0
        · have hd : (a == 0) = true := by simp [hz]
          clear hz
          have cc0 := HO2.out.cellAt 0 (by omega)
          rw [List.getElem?_map, List.getElem?_eq_getElem (show 0 < zs.length by rw [HL.out]; exact hK0)] at cc0
          simp only [Option.map_some] at cc0
          obtain ⟨q0, q1⟩ := HY2.out _ (List.getElem_mem (show 0 < zs.length by rw [HL.out]; exact hK0))
          generalize zs[0]'(by rw [HL.out]; exact hK0) = q at *
          go_wp2_with fail
          refine (one_arr rb _ _ _ _ _ _ (by simp) (by rfl) (by simp) (by simp) (by omega) Ra.out).mono ?_
          rintro e w4 ⟨b, rfl, hb, hRb, hSb⟩
          have hbb : -1 ≤ b ∧ b ≤ 70 := by simp at hb; omega
          have hO3 := ownsRow_rs HO2.out hSb hrb2
          have cc := hO3.cellAt 0 (by omega)
          rw [List.getElem?_map, List.getElem?_eq_getElem (show 0 < zs.length by rw [HL.out]; exact hK0)] at cc
          simp only [Option.map_some] at cc
          have ff := hO3.frozenAt 0
          have HBB := hide hbb; have HO3 := hide (hO3.stored 0 (.int .i64 b)).1; have Rb := hide hRb; have Sb := hide hSb; clear hbb hO3 hRb hSb hb
          go_wp2_with fail
          go_ret3
          exact FIN.out _ (zs.set 0 b) _ (by simp [HL.out]) (HY.out.set HBB.out) (by rw [List.map_set]; exact HO3.out) (((HSS.out.trans Sa.out).trans Sb.out).set (by omega) _)
        · have hd : (a == 0) = false := by simpa using hz
          clear hz
          go_wp2_with fail
          go_ret3
          exact FIN.out _ zs _ HL.out HY.out HO2.out (HSS.out.trans Sa.out)
      · have hK0' : (k : Int) ≤ 0 := by omega
        obtain ⟨A7, c7, rfl, -, -⟩ := own_of_row HOWN.out
        go_wp2_with fail
        go_ret3
        exact FIN.out _ zs _ HL.out HY.out HOWN.out HSS.out
end Go.Proofs.Ytkmogpeiolkpbaa
