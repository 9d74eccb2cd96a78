/- The exact law of full piles. -/
import Derived.Test.YthoamjkakfghbaaFulP
import Derived.Test.YthoamjkakfghbaaPil3
namespace Go.Proofs.Ythoamjkakfghbaa
open Go.RowKit
set_option linter.unusedVariables false
set_option maxRecDepth 100000
/-- the rows with the numbers x, x + 1, .. laid over the first k of them -/
def mkA (x : Int) (xss : List (List Int)) : Nat → List (List Int)
  | 0 => xss
  | k + 1 => (mkA x xss k).set k (mk (x + ((xss.take k).flatten.length : Nat)) (nthL xss k).length (nthL xss k))
theorem mkA_len (x : Int) (xss : List (List Int)) (k : Nat) : (mkA x xss k).length = xss.length := by
  induction k with
  | zero => rfl
  | succ k ih => simp [mkA, ih]
theorem nthL_set_ne {xss : List (List Int)} {k j : Nat} {y : List Int} (h : j ≠ k) : nthL (xss.set k y) j = nthL xss j := by
  simp [nthL, Ne.symm h]
theorem nthL_set_eq {xss : List (List Int)} {k : Nat} {y : List Int} (h : k < xss.length) : nthL (xss.set k y) k = y := by
  simp [nthL, h]
theorem mkA_ge (x : Int) (xss : List (List Int)) {k j : Nat} (h : k ≤ j) : nthL (mkA x xss k) j = nthL xss j := by
  induction k with
  | zero => rfl
  | succ k ih => rw [mkA, nthL_set_ne (by omega)]; exact ih (by omega)
theorem mkA_lt (x : Int) (xss : List (List Int)) {k j : Nat} (h : j < k) (hk : k ≤ xss.length) : nthL (mkA x xss k) j = mk (x + ((xss.take j).flatten.length : Nat)) (nthL xss j).length (nthL xss j) := by
  induction k with
  | zero => omega
  | succ k ih =>
    by_cases e : j = k
    · subst e; rw [mkA, nthL_set_eq (by rw [mkA_len]; omega)]
    · rw [mkA, nthL_set_ne e]; exact ih (by omega) (by omega)
/-- one row is written -/
theorem RowsD.put {w w' : World} {lo : Nat} {A : Option Addr} {n k : Nat} {xss : List (List Int)} {y : List Int} {gs : Nat → Nat} {B : Option Addr} {m c : Nat}
    (hl : xss.length = n) (hm : ∀ i j, i < j → j < n → gs i < gs j)
    (hr : ∀ k, k < n → ∃ ad B m c, A = some ad ∧ lo ≤ ad.block ∧ ad.block < w.heap.size ∧ (∀ j, j < n → ad.block ≠ gs j) ∧ w.cell? (ad.add k) = some (.slice B m c) ∧ Own w (gs k) (gs k + 1) B m (nthL xss k) ∧ lo ≤ gs k ∧ m ≤ c)
    (hk : k < n) (ha : ∀ ad, A = some ad → w.cell? (ad.add k) = some (.slice B m c)) (hO : Own w' (gs k) (gs k + 1) B m y) (hW : Within (gs k) (gs k + 1) w w') : RowsD w' lo A n (xss.set k y) := by
  refine ⟨by simpa using hl, gs, hm, fun j hj => ?_⟩
  obtain ⟨ad, B', m', c', e, h1, h2, h3, h4, h5, h6, h7⟩ := hr j hj
  have hb : w'.heap[ad.block]? = w.heap[ad.block]? := hW.block _ (by have := h3 k hk; omega)
  refine ⟨ad, B', m', c', e, h1, by rw [hW.size]; exact h2, h3, ?_, ?_, h6, h7⟩
  · rw [World.cell?_of_block (w := w) (a := ad.add j) (by rw [block_add]; exact hb)]; exact h4
  · by_cases e' : j = k
    · subst e'
      have h8 := ha ad e
      rw [h4] at h8
      injection h8 with h8
      injection h8 with e1 e2 e3
      subst e1 e2
      rw [nthL_set_eq (by omega)]
      exact hO
    · rw [nthL_set_ne e']
      refine h5.within hW ?_
      rcases Nat.lt_or_gt_of_ne e' with h | h
      · have := hm j k h hk; omega
      · have := hm k j h hj; omega
set_option maxHeartbeats 2000000 in
theorem markIntSS_any (A : Option Addr) (n c lo : Nat) (x : Int) (xss : List (List Int)) (w : World) (hn : n ≤ 1000) (h0 : 0 ≤ x) (h1 : x ≤ 1000) (hfl : xss.flatten.length ≤ 1000) (h : RowsD w lo A n xss) :
    Calls Try.prog 38 #[.slice A n c, .int .i64 x] w fun e w' => e = .returned (.int .i64 (x + (xss.flatten.length : Nat))) ∧ RowsD w' lo A n (mkA x xss n) ∧ Below lo w w' := by
  have HL := hide h.1
  have HFL := hide hfl
  have HH := hide h; clear h hfl
  go_enter Try.func38, Try.ntmps38
  go_wp2
  go_loopw [1, 5] (fun y i wr => ∃ k : Nat, k ≤ n ∧ i = .int .i64 k ∧ y = .int .i64 (x + ((xss.take k).flatten.length : Nat)) ∧ Hid (RowsD wr lo A n (mkA x xss k)) ∧ Hid (Below lo w wr)) (fun _ i _ => n - (intOf i).toNat)
  case atStart => exact ⟨0, by omega, rfl, by simp, HH, hide (Below.refl _ _)⟩
  case round =>
    obtain ⟨k, hk, rfl, rfl, hD, hB⟩ := hrel
    by_cases hlt : k < n
    · have HKL := hide (show k < xss.length by rw [HL.out]; exact hlt)
      obtain ⟨hl, gs, hm, hr⟩ := hD.out
      obtain ⟨ad, B, m, c', rfl, q1, q2, q3, hc, hO, q6, q7⟩ := hr k hlt
      rw [mkA_ge x xss (Nat.le_refl k)] at hO
      have hlen : (nthL xss k).length = m := hO.1
      have HST := hide (flat_step HKL.out); rw [hlen] at HST
      have HMO := hide (flat_mono HKL.out); rw [hlen] at HMO
      have hmb : m ≤ 1000 := by have := HMO.out; have := HFL.out; omega
      obtain ⟨O, hOe⟩ : ∃ O : Nat, (xss.take k).flatten.length = O := ⟨_, rfl⟩
      have HOE := hide hOe
      rw [hOe] at HST HMO ⊢
      have hob : O ≤ 1000 := by have := HMO.out; have := HFL.out; omega
      have HR := hide hr; have HM := hide hm; have HLN := hide hl; have HOW := hide hO; have HLEN := hide hlen; have HC := hide hc
      clear hr hm hl hO hlen hOe
      go_wp2_with fail
      refine (markIntS_any B m c' (gs k) (gs k + 1) (x + (O : Nat)) (nthL xss k) _ (by omega) (by omega) (by omega) HOW.out).mono ?_; rintro e wx ⟨rfl, hO2, hW⟩
      have HO2 := hide hO2; have HW := hide hW; clear hO2 hW hc
      have HB2 := hide (hB.out.trans (HW.out.below q6))
      go_wp2_with fail
      go_roundw
      case rel => exact ⟨k + 1, by omega, by go_num, by rw [HST.out]; congr 1; omega, hide (by
        have := RowsD.put (y := mk (x + (O : Nat)) m (nthL xss k)) HLN.out HM.out HR.out hlt (fun ad' e' => by injection e' with e'; subst e'; exact HC.out) HO2.out HW.out
        rw [mkA, HOE.out, HLEN.out]; exact this), HB2⟩
      case measure => simp [intOf]; omega
    · have : k = n := by omega
      subst this
      have HT : Hid (xss.take k = xss) := hide (List.take_of_length_le (by rw [HL.out]; exact Nat.le_refl _))
      rw [HT.out]
      go_wp2
      go_ret
      exact ⟨rfl, hD.out, hB.out⟩
set_option maxHeartbeats 2000000 in
theorem heldIntSS_any (A : Option Addr) (n c lo : Nat) (x : Int) (xss : List (List Int)) (w : World) (hn : n ≤ 1000) (h0 : 0 ≤ x) (h1 : x ≤ 1000) (hfl : xss.flatten.length ≤ 1000) (h : RowsD w lo A n (mkA x xss n)) :
    Calls Try.prog 39 #[.slice A n c, .int .i64 x] w fun e w' => e = .returned (.int .i64 (x + (xss.flatten.length : Nat))) ∧ w = w' := by
  have HL : Hid (xss.length = n) := hide (by have := h.1; rw [mkA_len] at this; exact this)
  have HFL := hide hfl
  have HH := hide h; clear h hfl
  go_enter Try.func39, Try.ntmps39
  go_wp2
  go_loop [1, 5] (fun y i => ∃ k : Nat, k ≤ n ∧ i = .int .i64 k ∧ y = .int .i64 (x + ((xss.take k).flatten.length : Nat))) (fun _ i => n - (intOf i).toNat)
  case atStart => exact ⟨0, by omega, rfl, by simp⟩
  case round =>
    obtain ⟨k, hk, rfl, rfl⟩ := hrel
    by_cases hlt : k < n
    · have HKL := hide (show k < xss.length by rw [HL.out]; exact hlt)
      obtain ⟨hl, gs, hm, hr⟩ := HH.out
      obtain ⟨ad, B, m, c', rfl, q1, q2, q3, hc, hO, q6, q7⟩ := hr k hlt
      rw [mkA_lt x xss hlt (by rw [HL.out]; exact Nat.le_refl _)] at hO
      have hlen : (nthL xss k).length = m := by have := hO.1; rw [mk_len] at this; exact this
      have HST := hide (flat_step HKL.out); rw [hlen] at HST
      have HMO := hide (flat_mono HKL.out); rw [hlen] at HMO
      have hmb : m ≤ 1000 := by have := HMO.out; have := HFL.out; omega
      rw [hlen] at hO
      obtain ⟨O, hOe⟩ : ∃ O : Nat, (xss.take k).flatten.length = O := ⟨_, rfl⟩
      have HOE := hide hOe
      rw [hOe] at HST HMO hO ⊢
      have hob : O ≤ 1000 := by have := HMO.out; have := HFL.out; omega
      have HOW := hide hO
      clear hr hm hl hO hlen hOe
      go_wp2_with fail
      refine (heldIntS_any B m c' (gs k) (gs k + 1) (x + (O : Nat)) (nthL xss k) _ (by omega) (by omega) (by omega) HOW.out).mono ?_; rintro e w' ⟨rfl, rfl⟩
      go_wp2_with fail
      go_round
      case rel => exact ⟨k + 1, by omega, by go_num, by rw [HST.out]; congr 1; omega⟩
      case measure => simp [intOf]; omega
    · have : k = n := by omega
      subst this
      have HT : Hid (xss.take k = xss) := hide (List.take_of_length_le (by rw [HL.out]; exact Nat.le_refl _))
      rw [HT.out]
      go_wp2
      go_ret
      exact ⟨rfl, rfl⟩
theorem fAll_flat (n r : Nat) : (fAll n r).flatten.length = fOff n r := by
  induction r with
  | zero => rfl
  | succ r ih => rw [fAll_succ, List.flatten_append, List.length_append, ih]; simp [fRow_len, fOff]
theorem fp_facts (x : Int) : (fp x).length ≤ 6 ∧ (fp x).flatten.length ≤ 36 := by
  unfold fp
  by_cases h : 0 ≤ x ∧ x ≤ 6
  · rw [if_pos h, fAll_len, fAll_flat]
    have := fOff_bd (n := x.toNat) (by omega) x.toNat
    omega
  · rw [if_neg h]; simp
set_option maxHeartbeats 2000000 in
theorem lawFullPile (x : Int) (w : World) (zx : (Lit.int .i64 x).wf = true) : Calls Try.prog 10 #[.int .i64 x] w fun e w' => e = .returned (.bool true) ∧ Below w.heap.size w w' := by
  clear zx
  obtain ⟨f1, f2⟩ := fp_facts x
  obtain ⟨F, hF⟩ : ∃ F, fp x = F := ⟨_, rfl⟩
  have HI := hide (fun W => implFullPile x W); have HS := hide (fun W => specFullPile x W)
  rw [hF] at f1 f2 HI HS
  have HF := hide (show F.flatten.length ≤ 1048576 by omega); have HF2 := hide (show F.flatten.length ≤ 1000 by omega)
  obtain ⟨T, hT⟩ : ∃ T : Nat, F.flatten.length = T := ⟨_, rfl⟩
  have hT36 : T ≤ 36 := by omega
  have HT := hide hT
  clear hF hT f2
  go_enter Try.func10, Try.ntmps10
  go_wp2_with fail
  refine (HS.out _).mono ?_; rintro e w1 ⟨B0, k0, d0, rfl, R0, b1, -⟩
  have HK := hide R0.1
  have hk0 : k0 ≤ 6 := by have := R0.1; omega
  have Q0 := hide R0.rows
  have T1 := hide b1; clear R0 b1
  go_wp2_with fail
  refine (HI.out _).mono ?_; rintro e w2 ⟨B1, k1, d1, rfl, R1, b2, -⟩
  obtain rfl : k0 = k1 := HK.out.symm.trans R1.1
  have T2 := hide (below_then T1.out b2); have N2 := hide b2; have D2 := hide R1; clear R1 b2
  go_wp2_with fail
  refine (eqIntSS_b B1 B0 k0 d1 d0 F _ (by omega) HF.out D2.out.rows (Q0.out.below N2.out)).mono ?_; rintro e w3 ⟨rfl, b3⟩
  have T3 := hide (below_then T2.out b3); have N3 := hide (below_then N2.out b3); have D3 := hide (D2.out.below b3); clear b3
  go_wp2_with fail
  refine (markIntSS_any B1 k0 d1 w1.heap.size 1 F _ (by omega) (by omega) (by omega) HF2.out D3.out).mono ?_; rintro e w4 ⟨rfl, R4, b4⟩
  have N4 := hide (N3.out.trans b4); have T4 := hide (T3.out.trans (b4.mono T1.out.size)); have D4 := hide R4; clear b4 R4
  rw [HT.out]
  go_wp2_with fail
  refine (heldIntSS_any B1 k0 d1 w1.heap.size 1 F _ (by omega) (by omega) (by omega) HF2.out D4.out).mono ?_; rintro e w' ⟨rfl, rfl⟩
  rw [HT.out]
  go_wp2_with fail
  refine (HI.out _).mono ?_; rintro e w5 ⟨B5, k5, d5, rfl, R5, b5, -⟩
  obtain rfl : k0 = k5 := HK.out.symm.trans R5.1
  have T5 := hide (below_then T4.out b5); have N5 := hide (below_then N4.out b5); have D5 := hide R5; have D45 := hide (D4.out.below b5); clear R5 b5
  go_wp2_with fail
  refine (eqIntSS_b B5 B0 k0 d5 d0 F _ (by omega) HF.out D5.out.rows (Q0.out.below N5.out)).mono ?_; rintro e w6 ⟨rfl, b6⟩
  have T6 := hide (below_then T5.out b6); have D46 := hide (D45.out.below b6); clear b6
  go_wp2_with fail
  refine (heldIntSS_any B1 k0 d1 w1.heap.size 1 F _ (by omega) (by omega) (by omega) HF2.out D46.out).mono ?_; rintro e w' ⟨rfl, rfl⟩
  rw [HT.out]
  go_wp2_with fail
  go_ret
  exact ⟨rfl, T6.out⟩
end Go.Proofs.Ythoamjkakfghbaa
