/- Contracts of the program's BestSkip, second part: the best skip. -/
import Derived.Test.YtagnliolaghehaaSkp1
namespace Go.Proofs.Ytagnliolaghehaa
open Go.RowKit
set_option linter.unusedVariables false
set_option maxRecDepth 100000
/-- what is best of the skips below k, with its splices -/
def Best (C : Nat → Nat) (k b l : Nat) : Prop := (k = 0 ∧ b = 0 ∧ l = 0) ∨ ∃ j, k = j + 1 ∧ b = bst C j ∧ l = C b
theorem Best.first {C : Nat → Nat} : Best C 0 0 0 := .inl ⟨rfl, rfl, rfl⟩
theorem Best.zero {C : Nat → Nat} : Best C (0 + 1) 0 (C 0) := .inr ⟨0, rfl, rfl, rfl⟩
theorem Best.less {C : Nat → Nat} {k b l : Nat} (h : Best C k b l) (hk : 0 < k) (hl : C k < l) : Best C (k + 1) k (C k) := by
  rcases h with ⟨e, _⟩ | ⟨j, rfl, rfl, rfl⟩
  · omega
  · exact .inr ⟨j + 1, rfl, by rw [bst, if_pos hl], rfl⟩
theorem Best.more {C : Nat → Nat} {k b l : Nat} (h : Best C k b l) (hk : 0 < k) (hl : ¬ C k < l) : Best C (k + 1) b l := by
  rcases h with ⟨e, _⟩ | ⟨j, rfl, rfl, rfl⟩
  · omega
  · exact .inr ⟨j + 1, rfl, by rw [bst, if_neg hl], rfl⟩
theorem Best.bd {C : Nat → Nat} {k b l M : Nat} (h : Best C k b l) (hC : ∀ s, C s ≤ M) : b ≤ k ∧ l ≤ M := by
  rcases h with ⟨_, rfl, rfl⟩ | ⟨j, rfl, rfl, rfl⟩
  · exact ⟨by omega, by omega⟩
  · have := bst_le C j; exact ⟨by omega, hC _⟩
set_option maxHeartbeats 4000000 in
theorem implBestSkip (A B : Option Addr) (n m c d : Nat) (ps ws : List Int) (w : World) (hn : n ≤ 1048576) (hm : m ≤ 1048576) (h : Ints w A n ps) (h' : Ints w B m ws) :
    Calls Try.prog 6 #[.slice A n c, .slice B m d] w fun e w' => e = .returned (.int .i64 (bOf ps ws)) ∧ Below w.heap.size w w' := by
  cases h1 : enoughB ps ws 0
  · have H1 := hide h1; clear h1
    go_enter Try.func6, Try.ntmps6
    go_wp2_with (go_at_call 11; refine (implEnough _ _ _ _ _ _ _ _ _ _ hn hm h h').mono ?_; rintro e w' ⟨rfl, rfl⟩; rw [H1.out])
    go_ret
    exact ⟨ret_int (by rw [bOf, if_neg (by rw [H1.out]; simp)]), Below.refl _ _⟩
  obtain ⟨v1, v2, e1, e2⟩ := enough_true h1
  have b1 := vLen_tot v1
  have b2 := vLen_tot v2
  have hln := h.1
  have hlm := h'.1
  have h60 : n ≤ 60 := by have := (vLen_true v1).1; omega
  obtain ⟨P, hP⟩ := Int.eq_ofNat_of_zero_le b1.1
  obtain ⟨T, hT⟩ := Int.eq_ofNat_of_zero_le b2.1
  obtain ⟨D, hD⟩ := Int.eq_ofNat_of_zero_le (show 0 ≤ (P : Int) - T by omega)
  have hP2 : P ≤ 24000 := by omega
  have hT2 : T ≤ 24000 := by omega
  have hD2 : D ≤ 24000 := by omega
  have hp1 : ∀ x ∈ ps, 1 ≤ x := fun x hx => ((vLen_true v1).2 x hx).1
  have HB := hide (show bOf ps ws = (bst (spA ps ws) D : Nat) by rw [bOf, if_pos h1, hP, hT, hD]; rfl)
  have H1 := hide h1
  have V1 := hide v1; have V2 := hide v2; have P1 := hide (vLen_bd v1); have P2 := hide (vLen_bd v2); have LN := hide hln; have LM := hide hlm; have HP := hide hP; have HT := hide hT; have HD := hide hD; have HP1 := hide hp1
  clear h1 v1 v2 e1 e2 b1 b2 hln hlm hP hT hD hp1
  go_enter Try.func6, Try.ntmps6
  go_wp2_with fail
  refine (implEnough _ _ _ _ _ _ _ _ _ _ hn hm h h').mono ?_; rintro e w' ⟨rfl, rfl⟩; rw [H1.out]
  go_wp2_with fail
  refine (implEndsOf _ _ _ _ _ hn h).mono ?_; rintro e w1 ⟨E, kb, dE, rfl, hO, hb, hkd⟩
  rw [eOf, if_pos V1.out] at hO
  obtain rfl : n = kb := by have h1 := hO.1; rw [endsL_len] at h1; have h2 := LN.out; omega
  have hI1 := hide (h.below hb); have hI2 := hide (h'.below hb)
  have HE := hide hO.ints; have HB1 := hide hb
  clear hO hb hkd
  go_wp2_with fail
  refine (insideRolls_any _ _ _ _ _ _ hm hI2.out V2.out HT.out).mono ?_; rintro e w2 ⟨rfl, hrow, hb⟩
  have hJ1 := hide (hI1.out.below hb); have hJ2 := hide (hI2.out.below hb); have HE2 := hide (HE.out.below hb); have HB2 := hide (below_then HB1.out hb)
  generalize w1.heap.size = g at hrow ⊢
  clear hI1 hI2 HE HB1 hb h h'
  go_wp2_with fail
  go_loop [7, 8, 9] (fun b l i => ∃ k b' l' : Nat, k ≤ D + 1 ∧ i = .int .i64 k ∧ b = .int .i64 b' ∧ l = .int .i64 l' ∧ Hid (Best (spA ps ws) k b' l')) (fun _ _ i => D + 1 - (intOf i).toNat)
  case atStart => exact ⟨0, 0, 0, by omega, rfl, rfl, rfl, hide Best.first⟩
  case round =>
    obtain ⟨k, b, l, hk, rfl, rfl, rfl, hS⟩ := hrel
    obtain ⟨hb, hl⟩ := hS.out.bd (M := 60) fun s => Nat.le_trans (sp_le _ _ _ _) (by rw [LN.out]; exact h60)
    have hDI : (P : Int) - T = D := HD.out
    by_cases hlt : k ≤ D
    · have hkD : (k : Int) ≤ D := by omega
      go_wp2_with (first | (go_at_call 14; (with_reducible refine (implSumOf A n c ps _ hn hJ1.out P1.out).mono ?_); rintro e w' ⟨rfl, rfl⟩; rw [HP.out]) | (go_at_call 14; (with_reducible refine (implSumOf B m d ws _ hm hJ2.out P2.out).mono ?_); rintro e w' ⟨rfl, rfl⟩; rw [HT.out]))
      clear hDI
      go_loop [10, 33] (fun s i => ∃ q : Nat, q ≤ n ∧ i = .int .i64 q ∧ s = .int .i64 (sp ps ws k q : Nat)) (fun _ i => n - (intOf i).toNat)
      case atStart => exact ⟨0, by omega, rfl, rfl⟩
      case round =>
        obtain ⟨q, hq, rfl, rfl⟩ := hrel
        have hsq := sp_le ps ws k q
        by_cases hqn : q < n
        · have hln := LN.out
          obtain ⟨ce, g1, g2, g3⟩ := nth_ends HP1.out (k := q) (by omega)
          rw [HP.out] at g3
          have HSP := hide (show sp ps ws k (q + 1) = sp ps ws k q + (if gB ws ((ce : Int) - k) = true then 1 else 0) by rw [sp, g2])
          obtain ⟨ad, rfl, hbl, hc⟩ := HE2.out.2 q hqn
          rw [g1] at hc
          clear g1 g2 hln
          rcases (show ((ce : Int) - k ≤ 0) ∨ ((T : Int) < (ce : Int) - k) ∨ (0 < (ce : Int) - k ∧ (ce : Int) - k ≤ T) by omega) with q1 | q1 | ⟨q1, q2⟩
          · go_wp2_with fail
            go_round
            case rel => exact ⟨q + 1, by omega, by go_num, by rw [HSP.out, if_neg (by rw [gB_iff]; omega)]; rfl⟩
            case measure => simp [intOf]; omega
          · have q3 : 0 < (ce : Int) - k := by omega
            go_wp2_with fail
            go_round
            case rel => exact ⟨q + 1, by omega, by go_num, by rw [HSP.out, if_neg (by rw [gB_iff, HT.out]; omega)]; rfl⟩
            case measure => simp [intOf]; omega
          · obtain ⟨x, hx⟩ : ∃ x : Nat, (ce : Int) - k = x := ⟨((ce : Int) - k).toNat, by omega⟩
            rw [hx] at HSP
            have hx1 : 0 < x := by omega
            have hx2 : x < T + 1 := by omega
            rw [gB_in hx1 (by rw [HT.out]; omega)] at HSP
            have c1 := hrow.cell (i := x) hx2
            rw [LM.out] at c1 HSP
            generalize inV ws m x = bb at c1 HSP
            have hx3 : (0 : Int) < x := by omega
            have hx4 : (x : Int) < (T : Int) + 1 := by omega
            clear q1 q2
            cases bb
            · go_wp2_with fail
              go_round
              case rel => exact ⟨q + 1, by omega, by go_num, by rw [HSP.out]; rfl⟩
              case measure => simp [intOf]; omega
            · go_wp2_with fail
              go_round
              case rel => exact ⟨q + 1, by omega, by go_num, by rw [HSP.out]; rfl⟩
              case measure => simp [intOf]; omega
        · have : q = n := by omega
          subst this
          have HC := hide (show sp ps ws k q = spA ps ws k by rw [spA, LN.out])
          rw [HC.out] at hsq ⊢
          obtain ⟨C, hC⟩ : ∃ C, C = spA ps ws k := ⟨_, rfl⟩
          have HC2 := hide hC
          rw [← hC] at hsq ⊢
          clear hC HC
          by_cases hk0 : k = 0
          · have d0 : ((k : Int) == 0) = true := by simpa using hk0
            have HK := hide hk0
            clear hk0
            go_wp2_with fail
            go_round
            case rel => exact ⟨k + 1, k, C, by omega, by go_num, rfl, rfl, hide (by have := HK.out; subst this; rw [HC2.out]; exact Best.zero)⟩
            case measure => simp [intOf]; omega
          · have d0 : ((k : Int) == 0) = false := by simpa using hk0
            by_cases hcl : C < l
            · have hcl2 : (C : Int) < l := by omega
              go_wp2_with fail
              go_round
              case rel => exact ⟨k + 1, k, C, by omega, by go_num, rfl, rfl, hide (by rw [HC2.out]; exact hS.out.less (by omega) (by rw [← HC2.out]; omega))⟩
              case measure => simp [intOf]; omega
            · have hcl2 : (l : Int) ≤ C := by omega
              go_wp2_with fail
              go_round
              case rel => exact ⟨k + 1, b, l, by omega, by go_num, rfl, rfl, hide (hS.out.more (by omega) (by rw [← HC2.out]; omega))⟩
              case measure => simp [intOf]; omega
    · obtain rfl : k = D + 1 := by omega
      go_wp2_with (first | (go_at_call 14; (with_reducible refine (implSumOf A n c ps _ hn hJ1.out P1.out).mono ?_); rintro e w' ⟨rfl, rfl⟩; rw [HP.out]) | (go_at_call 14; (with_reducible refine (implSumOf B m d ws _ hm hJ2.out P2.out).mono ?_); rintro e w' ⟨rfl, rfl⟩; rw [HT.out]))
      go_ret
      refine ⟨ret_int ?_, HB2.out⟩
      rw [HB.out]
      rcases hS.out with ⟨e, _⟩ | ⟨j, e, rfl, _⟩
      · omega
      · obtain rfl : D = j := by omega
        rfl
end Go.Proofs.Ytagnliolaghehaa
