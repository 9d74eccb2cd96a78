/- The law FnValidWidths. -/
import Derived.Test.YtkmogpeiolkpbaaInt6
import Derived.Test.YtkmogpeiolkpbaaRd6
import Derived.Test.YtkmogpeiolkpbaaHl1
import Derived.Test.YtkmogpeiolkpbaaLwC
namespace Go.Proofs.Ytkmogpeiolkpbaa
open Go.RowKit
set_option linter.unusedVariables false
set_option maxRecDepth 100000
theorem Nd_iff {xs : List Int} : Nd xs xs.length ↔ ∀ i j, i < j → j < xs.length → nth xs i ≠ nth xs j := by
  constructor
  · intro h i j hij hj e
    refine h j hj ?_
    rw [← e, ← nth_take (m := j) hij]
    exact nth_mem (by simp; omega)
  · intro h k hk hm
    obtain ⟨i, hi, e⟩ := List.mem_iff_getElem.1 hm
    have hi' : i < k := by simp at hi; omega
    refine h i k hi' hk ?_
    rw [← e, nth_lt (by omega)]; simp
theorem vWd_wo {s : Int} {xs : List Int} {k : Nat} (h : vWd s xs = true) (hk : k < xs.length) (hl : 1 < xs.length) : vWd s (wo xs k) = true := by
  obtain ⟨h1, h2, h3, h4⟩ := vWd_true h
  have hw := wo_len hk
  rw [vWd_mk (allB_iff.2 fun y hy => h3 y (wo_mem hy)) (Nd_iff.2 fun i j hij hj => ?_)]
  · simp [h1, hw]; omega
  · rw [wo_nth hk, wo_nth hk]
    rw [hw] at hj
    split <;> split <;> first | omega | exact Nd_iff.1 h4 _ _ (by omega) (by omega)
theorem rev_nth {xs : List Int} {k : Nat} (hk : k < xs.length) : nth xs.reverse k = nth xs (xs.length - 1 - k) := by
  rw [nth_lt (by simpa using hk), nth_lt (by omega), List.getElem_reverse]
theorem vWd_rev {s : Int} {xs : List Int} (h : vWd s xs = true) : vWd s xs.reverse = true := by
  obtain ⟨h1, h2, h3, h4⟩ := vWd_true h
  rw [vWd_mk (allB_iff.2 fun y hy => h3 y (by simpa using hy)) (Nd_iff.2 fun i j hij hj => ?_)]
  · simp [h1, h2]
  · rw [List.length_reverse] at hj
    rw [rev_nth (by omega), rev_nth hj]
    exact fun e => Nd_iff.1 h4 (xs.length - 1 - j) (xs.length - 1 - i) (by omega) (by omega) e.symm
set_option maxHeartbeats 1000000 in
theorem lawFnValidWidths (A : Option Addr) (n c : Nat) (bs : List Int) (w : World) (h : Byts w A n bs) (hnc : n ≤ c) :
    Calls Try.prog 8 #[.slice A n c] w fun e w' => e = .returned (.bool true) ∧ Below w.heap.size w w' := by
  by_cases g : (1048576 : Int) < n
  · go_enter Try.func8, Try.ntmps8
    go_wp2
    go_ret
    exact ⟨rfl, Below.refl _ _⟩
  have g' : (n : Int) ≤ 1048576 := by omega
  clear g
  go_enter Try.func8, Try.ntmps8
  go_wp2_with fail
  refine (drawValidWidths_any A n c bs _ (by omega) hnc h).mono ?_; rintro e w1 ⟨s, v, ys, rfl, hP, hO, hb⟩
  obtain ⟨A1, c1, rfl, hO1, hc1⟩ := own_of_row hO
  obtain ⟨K, hK⟩ : ∃ K, ys.length = K := ⟨_, rfl⟩
  rw [hK] at hO1 hc1
  have hK7 : K ≤ 5 := by have := hP.2.2.1; omega
  have HI := hide hO1.ints; have HB := hide hb; have HK := hide hK
  rw [hK]
  clear hO hO1 hb hP hK h
  go_wp2_with fail
  refine (implValidWidths A1 K c1 s ys _ (by omega) hc1 HI.out).mono ?_; rintro e w' ⟨rfl, rfl⟩
  go_wp2_with fail
  refine (specValidWidths A1 K c1 s ys _ (by omega) hc1 HI.out).mono ?_; rintro e w2 ⟨rfl, hb2⟩
  have HI2 := hide (HI.out.below hb2); have HB2 := hide (below_then HB.out hb2); clear hb2
  cases hv : vWd s ys
  · have HV := hide hv; clear hv
    go_wp2_with fail
    refine (specValidWidths A1 K c1 s ys _ (by omega) hc1 HI2.out).mono ?_; rintro e w3 ⟨rfl, hb3⟩; rw [HV.out]
    go_wp2_with fail
    go_ret
    exact ⟨rfl, below_then HB2.out hb3⟩
  · have hK1 : 1 ≤ K := by have := (vWd_true hv).2.1.1; rw [HK.out] at this; exact this
    have HV := hide hv; clear hv
    go_wp2_with fail
    go_loopw [6] (fun i wr => ∃ k : Nat, k ≤ K ∧ i = .int .i64 k ∧ Below w2.heap.size w2 wr) (fun i _ => K - (intOf i).toNat)
    case atStart => exact ⟨0, by omega, rfl, Below.refl _ _⟩
    case round =>
      obtain ⟨k, hk, rfl, hB⟩ := hrel
      have HI3 := hide (HI2.out.below hB)
      have HB3 := hide hB; clear hB
      rcases (show (k < K ∧ 1 < K) ∨ K ≤ k ∨ (k < K ∧ K ≤ 1) by omega) with ⟨hlt, hK2⟩ | hkK | ⟨hlt, hK2⟩
      · go_wp2_with fail
        refine (without_any A1 K c1 k ys _ (by omega) hlt hc1 HI3.out).mono ?_; rintro e w4 ⟨B2, k2, d2, rfl, hO2, hb2, hkd⟩
        have hl2 : k2 ≤ 7 := by have h1 := hO2.1; rw [wo_len (by rw [HK.out]; exact hlt), HK.out] at h1; omega
        have hv2 : vWd s (wo ys k) = true := vWd_wo HV.out (by rw [HK.out]; exact hlt) (by rw [HK.out]; exact hK2)
        have HO2 := hide hO2.ints; have HV2 := hide hv2; have Hb2 := hide hb2; clear hO2 hv2 hb2
        go_wp2_with fail
        refine (implValidWidths B2 k2 d2 s (wo ys k) _ (by omega) hkd HO2.out).mono ?_; rintro e w' ⟨rfl, rfl⟩; rw [HV2.out]
        go_wp2_with fail
        go_roundw
        case rel => exact ⟨k + 1, by omega, by go_num, below_then HB3.out Hb2.out⟩
        case measure => simp [intOf]; omega
      all_goals
        go_wp2_with fail
        refine (backwards_any A1 K c1 ys _ (by omega) HI3.out).mono ?_; rintro e w4 ⟨B2, k2, d2, rfl, hO2, hb2, hkd⟩
        have hl2 : k2 ≤ 7 := by have h1 := hO2.1; rw [List.length_reverse, HK.out] at h1; omega
        have HO2 := hide hO2.ints; have Hb2 := hide hb2; clear hO2 hb2
        go_wp2_with fail
        refine (implValidWidths B2 k2 d2 s ys.reverse _ (by omega) hkd HO2.out).mono ?_; rintro e w' ⟨rfl, rfl⟩; rw [vWd_rev HV.out]
        go_wp2_with fail
        go_ret
        exact ⟨rfl, below_then HB2.out (below_then HB3.out Hb2.out)⟩
end Go.Proofs.Ytkmogpeiolkpbaa
