/- The law FnValidKnives. -/
import Derived.Test.YtkmogpeiolkpbaaInt5
import Derived.Test.YtkmogpeiolkpbaaRd4
import Derived.Test.YtkmogpeiolkpbaaHl1
namespace Go.Proofs.Ytkmogpeiolkpbaa
open Go.RowKit
set_option linter.unusedVariables false
set_option maxRecDepth 100000
theorem Asc.lt {xs : List Int} {n : Nat} (h : Asc xs n) {i j : Nat} (hij : i < j) (hj : j < n) : nth xs i < nth xs j := by
  induction j with
  | zero => omega
  | succ j ih =>
    have h1 := h j hj
    by_cases e : i = j
    · subst e; exact h1
    · have h2 := ih (by omega) (by omega); omega
theorem wo_nth {xs : List Int} {k j : Nat} (hk : k < xs.length) : nth (wo xs k) j = if j < k then nth xs j else nth xs (j + 1) := by
  unfold wo nth
  by_cases e : j < k
  · rw [if_pos e]; simp [List.getD_eq_getElem?_getD, List.getElem?_append, e, Nat.lt_min, Nat.lt_trans e hk]
  · rw [if_neg e]
    have h1 : min k xs.length = k := by omega
    have h2 : k + 1 + (j - k) = j + 1 := by omega
    simp [List.getD_eq_getElem?_getD, List.getElem?_append, h1, e, h2]
theorem vKn_wo {xs : List Int} {k : Nat} (h : vKn xs = true) (hk : k < xs.length) : vKn (wo xs k) = true := by
  obtain ⟨h1, h2, h3⟩ := vKn_true h
  refine vKn_mk (by rw [wo_len hk]; omega) (allB_iff.2 fun y hy => h2 y (wo_mem hy)) ?_
  intro j hj
  rw [wo_len hk] at hj
  rw [wo_nth hk, wo_nth hk]
  split <;> split <;> first | omega | exact h3.lt (by omega) (by omega)
set_option maxHeartbeats 1000000 in
theorem lawFnValidKnives (A : Option Addr) (n c : Nat) (bs : List Int) (w : World) (h : Byts w A n bs) (hnc : n ≤ c) :
    Calls Try.prog 5 #[.slice A n c] w fun e w' => e = .returned (.bool true) ∧ Below w.heap.size w w' := by
  by_cases g : (1048576 : Int) < n
  · go_enter Try.func5, Try.ntmps5
    go_wp2
    go_ret
    exact ⟨rfl, Below.refl _ _⟩
  have g' : (n : Int) ≤ 1048576 := by omega
  clear g
  go_enter Try.func5, Try.ntmps5
  go_wp2_with fail
  refine (drawValidKnives_any A n c bs _ (by omega) hnc h).mono ?_; rintro e w1 ⟨v, ys, rfl, hP, hO, hb⟩
  obtain ⟨A1, c1, rfl, hO1, hc1⟩ := own_of_row hO
  obtain ⟨K, hK⟩ : ∃ K, ys.length = K := ⟨_, rfl⟩
  rw [hK] at hO1 hc1
  have hK7 : K ≤ 7 := by have := hP.1; omega
  have HI := hide hO1.ints; have HB := hide hb; have HK := hide hK
  rw [hK]
  clear hO hO1 hb hP hK h
  go_wp2_with fail
  refine (implValidKnives A1 K c1 ys _ (by omega) HI.out).mono ?_; rintro e w' ⟨rfl, rfl⟩
  go_wp2_with fail
  refine (specValidKnives A1 K c1 ys _ (by omega) HI.out).mono ?_; rintro e w2 ⟨rfl, hb2⟩
  have HI2 := hide (HI.out.below hb2); have HB2 := hide (below_then HB.out hb2); clear hb2
  cases hv : vKn ys
  · have HV := hide hv; clear hv
    go_wp2_with fail
    refine (specValidKnives A1 K c1 ys _ (by omega) HI2.out).mono ?_; rintro e w3 ⟨rfl, hb3⟩; rw [HV.out]
    go_wp2_with fail
    go_ret
    exact ⟨rfl, below_then HB2.out hb3⟩
  · have HV := hide hv; clear hv
    go_wp2_with fail
    go_loopw [5] (fun i wr => ∃ k : Nat, k ≤ K ∧ i = .int .i64 k ∧ Below w2.heap.size w2 wr) (fun i _ => K - (intOf i).toNat)
    case atStart => exact ⟨0, by omega, rfl, Below.refl _ _⟩
    case round =>
      obtain ⟨k, hk, rfl, hB⟩ := hrel
      have HI3 := hide (HI2.out.below hB)
      have HB3 := hide hB; clear hB
      by_cases hlt : k < K
      · go_wp2_with fail
        refine (without_any A1 K c1 k ys _ (by omega) hlt hc1 HI3.out).mono ?_; rintro e w4 ⟨B2, k2, d2, rfl, hO2, hb2, -⟩
        have hl2 : k2 ≤ 7 := by have h1 := hO2.1; rw [wo_len (by rw [HK.out]; exact hlt), HK.out] at h1; omega
        have hv2 : vKn (wo ys k) = true := vKn_wo HV.out (by rw [HK.out]; exact hlt)
        have HO2 := hide hO2.ints; have HV2 := hide hv2; have Hb2 := hide hb2; clear hO2 hv2 hb2
        go_wp2_with fail
        refine (implValidKnives B2 k2 d2 (wo ys k) _ (by omega) HO2.out).mono ?_; rintro e w' ⟨rfl, rfl⟩; rw [HV2.out]
        go_wp2_with fail
        go_roundw
        case rel => exact ⟨k + 1, by omega, by go_num, below_then HB3.out Hb2.out⟩
        case measure => simp [intOf]; omega
      · go_wp2_with fail
        go_ret
        exact ⟨rfl, below_then HB2.out HB3.out⟩
end Go.Proofs.Ytkmogpeiolkpbaa
