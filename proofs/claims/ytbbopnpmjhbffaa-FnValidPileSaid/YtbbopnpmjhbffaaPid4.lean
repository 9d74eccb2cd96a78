/- The law of piles that lose their top. -/
import Derived.Test.YtbbopnpmjhbffaaPid3
namespace Go.Proofs.Ytbbopnpmjhbffaa
open Go.RowKit
attribute [local go_sem ↓] Go.wp_at_zero Go.wp_at_succ
set_option linter.unusedVariables false
set_option maxRecDepth 100000
/-- a drawn pile, as an argument -/
def GotP (w : World) (e : Ending) (w' : World) : Prop := ∃ (A : Option Addr) (n c : Nat) (xss : List (List Int)), e = .returned (.slice A n c) ∧ (n ≤ 7 ∧ n ≤ c ∧ xss.length = n ∧ Six xss) ∧ Rows2 w' A n xss ∧ Below w.heap.size w w'
theorem drawValidPile_any (A : Option Addr) (n c : Nat) (bs : List Int) (w : World) (hn : n ≤ 1048576) (hnc : n ≤ c) (h : Byts w A n bs) : Calls Try.prog 17 #[.slice A n c] w (GotP w) := by
  go_enter Try.func17, Try.ntmps17
  go_wp2_with fail
  refine (newReader_c A n c bs _ hn hnc h).mono ?_; rintro e w1 ⟨rfl, hR, hb, hz⟩
  have R1 := hide hR; have B1 := hide hb
  clear hR hb h
  go_wp2_with fail
  refine (anyPile_any w.heap.size 0 30 _ (by omega) R1.out).mono ?_
  rintro e w2 ⟨v, m, vals, xss, rfl, ⟨hm, hl, h6⟩, ho, hrv, hS⟩
  obtain ⟨Av, cv, hv, hD, hcv⟩ := rowsD_of_own ho hrv (by decide)
  subst hv
  have D2 := hide hD.rows; have B2 := hide (B1.out.trans (hS.below (L := w.heap.size) (Nat.le_refl _) (by omega)))
  have HL := hide hl; have H6 := hide h6
  clear ho hrv hS hD hl h6 R1 B1
  go_wp2_with fail
  go_ret
  exact ⟨Av, m, cv, xss, rfl, ⟨hm, hcv, HL.out, H6.out⟩, D2.out, B2.out⟩
theorem vp_take {xss : List (List Int)} (k : Nat) (h : vp xss = true) : vp (xss.take k) = true := by
  obtain ⟨h1, h2⟩ := vp_out h
  refine vp_yes (by rw [List.length_take]; omega) fun r hr => ?_
  rw [List.length_take] at hr
  obtain ⟨a, b⟩ := h2 r (by omega)
  have e1 : nthL (xss.take k) r = nthL xss r := nthL_take (by omega)
  have e2 : nthL (xss.take k) (r - 1) = nthL xss (r - 1) := nthL_take (by omega)
  have e3 : (xss.take k).take r = xss.take r := by rw [List.take_take]; congr 1; omega
  refine ⟨?_, fun i hi => ?_⟩
  · simp only [lenOk, e1, e2]; exact a
  · rw [e1] at hi
    have hb := b i hi
    simp only [cellOk, seen, lies, e1, e2, e3] at hb ⊢
    exact hb
theorem vp_nil : vp [] = true := vp_yes (by simp) fun r hr => by simp at hr
set_option maxHeartbeats 4000000 in
theorem lawFnValidPile (A : Option Addr) (n c : Nat) (bs : List Int) (w : World) (h : Byts w A n bs) (hnc : n ≤ c) :
    Calls Try.prog 6 #[.slice A n c] w fun e w' => e = .returned (.bool true) ∧ Below w.heap.size w w' := by
  by_cases g : (1048576 : Int) < n
  · go_enter Try.func6, Try.ntmps6
    go_wp2
    go_ret
    exact ⟨rfl, Below.refl _ _⟩
  have g' : (n : Int) ≤ 1048576 := by omega
  clear g
  go_enter Try.func6, Try.ntmps6
  go_wp2_with fail
  refine (drawValidPile_any A n c bs _ (by omega) hnc h).mono ?_; rintro e w1 ⟨P, m, cv, xss, rfl, ⟨hm, hcv, hl, h6⟩, hD, hb⟩
  have hm' : m ≤ 1048576 := by omega
  have hf := h6.flat
  have HF := hide (show xss.flatten.length ≤ 1048576 by omega)
  have HFT := hide (show ∀ k, (xss.take k).flatten.length ≤ 1048576 from fun k => by
    have h1 := (h6.take (k := k)).flat
    rw [List.length_take] at h1
    omega)
  have B1 := hide hb; have D1 := hide hD; have HL := hide hl; clear hb hD h hl h6 hf
  go_wp2_with fail
  refine (implValidPile P m cv xss _ hm' HF.out D1.out).mono ?_; rintro e w2 ⟨rfl, hb⟩
  have D2 := hide (D1.out.below hb); have B2 := hide (below_then B1.out hb)
  clear hb D1 B1
  cases hv : vp xss
  · have HV := hide hv; clear hv
    go_wp2_with fail
    refine (specValidPile P m cv xss _ hm' HF.out D2.out).mono ?_; rintro e w3 ⟨rfl, hb⟩; rw [HV.out]
    have D3 := hide (D2.out.below hb); have B3 := hide (below_then B2.out hb)
    clear hb D2 B2
    go_wp2_with fail
    refine (specValidPile P m cv xss _ hm' HF.out D3.out).mono ?_; rintro e w4 ⟨rfl, hb⟩; rw [HV.out]
    have B4 := hide (below_then B3.out hb)
    clear hb D3 B3
    go_wp2_with fail
    go_ret
    exact ⟨rfl, B4.out⟩
  · have HV := hide hv; clear hv
    go_wp2_with fail
    refine (specValidPile P m cv xss _ hm' HF.out D2.out).mono ?_; rintro e w3 ⟨rfl, hb⟩; rw [HV.out]
    have D3 := hide (D2.out.below hb); have B3 := hide (below_then B2.out hb)
    clear hb D2 B2
    by_cases hm0 : m = 0
    · subst hm0
      go_wp2_with fail
      refine (specValidPile P 0 cv xss _ hm' HF.out D3.out).mono ?_; rintro e w4 ⟨rfl, hb⟩; rw [HV.out]
      have B4 := hide (below_then B3.out hb)
      clear hb D3 B3
      go_wp2_with fail
      go_ret
      exact ⟨rfl, B4.out⟩
    · have dm : ((m : Int) == 0) = false := by simpa using hm0
      obtain ⟨j, hj⟩ : ∃ j : Nat, (m : Int) - 1 = j := ⟨m - 1, by omega⟩
      have HJ := hide (show j ≤ m by omega)
      have hj1 : (j : Int) ≤ cv := by omega
      have hj0 : (0 : Int) ≤ j := by omega
      have hc1 : (1 : Int) ≤ cv := by omega
      have HM1 := hide (show 1 ≤ m by omega)
      have hj' : j ≤ 1048576 := by omega
      clear hm0
      go_wp2_with fail
      refine (implValidPile P j cv (xss.take j) _ hj' (HFT.out j) (D3.out.take HJ.out)).mono ?_; rintro e w4 ⟨rfl, hb⟩; rw [vp_take j HV.out]
      have D4 := hide (D3.out.below hb); have B4 := hide (below_then B3.out hb)
      clear hb D3 B3
      go_wp2_with fail
      refine (implValidPile P 1 cv (xss.take 1) _ (by decide) (HFT.out 1) (D4.out.take HM1.out)).mono ?_; rintro e w5 ⟨rfl, hb⟩; rw [vp_take 1 HV.out]
      have B5 := hide (below_then B4.out hb)
      clear hb D4 B4
      go_wp2_with fail
      refine (implValidPile none 0 0 [] _ (by decide) (by decide) ⟨rfl, fun k hk => by omega⟩).mono ?_; rintro e w6 ⟨rfl, hb⟩; rw [vp_nil]
      have B6 := hide (below_then B5.out hb)
      clear hb B5
      go_wp2_with fail
      go_ret
      exact ⟨rfl, B6.out⟩
end Go.Proofs.Ytbbopnpmjhbffaa
