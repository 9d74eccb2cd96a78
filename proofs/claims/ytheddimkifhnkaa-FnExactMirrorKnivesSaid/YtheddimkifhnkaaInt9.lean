/- Contracts of chapter 4: the knives of a pattern. -/
import Derived.Test.YtheddimkifhnkaaInt8
namespace Go.Proofs.Ytheddimkifhnkaa
open Go.RowKit
set_option linter.unusedVariables false
set_option maxRecDepth 100000

theorem kn_facts {width : Int} {ws cs : List Int} (hv : vPt width ws cs = true) {k : Nat} (hk : k < cs.length) :
    1 ≤ nth ws k ∧ nth ws k ≤ 60 ∧ 0 ≤ nth cs k ∧ nth cs k ≤ 60 ∧ 0 ≤ usd ws cs k ∧ usd ws cs k + nth cs k * nth ws k ≤ 60 := by
  obtain ⟨v1, v2, v3, v4⟩ := vPt_true hv
  obtain ⟨⟨w1, w2⟩, _, hw, -⟩ := vWd_true v1
  have a1 := hw _ (nth_mem (k := k) (by omega))
  have a2 := v3 _ (nth_mem (k := k) (by omega))
  have hp : ∀ j, j < cs.length → 0 ≤ nth cs j * nth ws j := fun j hj => Int.mul_nonneg (v3 _ (nth_mem hj)).1 (by have := hw _ (nth_mem (k := j) (by omega)); omega)
  have a3 := usd_mono (ws := ws) (cs := cs) (k := 0) (m := k) (by omega) fun j hj => hp j (by omega)
  have a4 := usd_mono (ws := ws) (cs := cs) (k := k + 1) (m := cs.length) hk hp
  simp only [usd] at a3 a4
  omega
theorem mul_step {j : Nat} {N w a : Int} (h : (j : Int) < N) (hw : 1 ≤ w) (hb : a + N * w ≤ 60) : a + (j : Int) * w + w ≤ 60 := by
  have h1 : ((j : Int) + 1) * w ≤ N * w := Int.mul_le_mul_of_nonneg_right (by omega) (by omega)
  rw [Int.add_mul] at h1
  omega
theorem usd_next {ws cs : List Int} {k : Nat} (h : 0 ≤ nth cs k) : usd ws cs k + ((nth cs k).toNat : Int) * nth ws k = usd ws cs (k + 1) := by
  rw [Int.toNat_of_nonneg h, usd]
set_option maxHeartbeats 1000000 in
theorem implKnivesFor (A B : Option Addr) (n c m d : Nat) (width : Int) (ws cs : List Int) (w : World) (hn : n ≤ 1048576) (hm : m ≤ 1048576) (hnc : n ≤ c) (h : Ints w A n ws) (h' : Ints w B m cs) :
    Calls Try.prog 40 #[.int .i64 width, .slice A n c, .slice B m d] w (RetL (kOf width ws cs) w) := by
  cases hv : vPt width ws cs
  · have HV := hide hv; clear hv
    go_enter Try.func40, Try.ntmps40
    go_wp2_with (go_at_call 32; refine (implValidPattern _ _ _ _ _ _ _ _ _ _ hn hm hnc h h').mono ?_; rintro e w' ⟨rfl, rfl⟩; rw [HV.out])
    go_ret
    rw [kOf, if_neg (by rw [HV.out]; simp)]
    exact retL_nil (Below.refl _ _)
  obtain ⟨v1, v2, v3, v4⟩ := vPt_true hv
  obtain ⟨⟨w1, w2⟩, ⟨l1, l2⟩, _, -⟩ := vWd_true v1
  have HV := hide hv; clear hv v1 v4
  rw [h.1, h'.1] at v2
  rw [h.1] at l1 l2
  subst v2
  have hc60 : ∀ x ∈ cs, 0 ≤ x ∧ x ≤ 60 := fun x hx => by have := v3 x hx; omega
  have HC := hide (bd1000000 hc60 (by omega) (by omega))
  obtain ⟨t1, t2⟩ := tot_bd hc60
  rw [h'.1] at t2
  have H60 := hide hc60; clear hc60 v3
  have HE := hide (knAll_tot (ws := ws) H60.out (k := m) (by rw [h'.1]; exact Nat.le_refl _))
  by_cases g0 : tot cs = 0
  · have hd : (tot cs == 0) = true := by simpa using g0
    have G := hide g0; clear g0
    go_enter Try.func40, Try.ntmps40
    go_wp2_with (first | (go_at_call 32; refine (implValidPattern _ _ _ _ _ _ _ _ _ _ hn hm hnc h h').mono ?_; rintro e w' ⟨rfl, rfl⟩; rw [HV.out]) | (go_at_call 53; refine (implSumOf _ _ _ _ _ hm h' HC.out).mono ?_; rintro e w' ⟨rfl, rfl⟩))
    go_ret
    have hz : knAll ws cs m = [] := by
      have := HE.out
      rw [List.take_of_length_le (by rw [h'.1]; exact Nat.le_refl _), G.out] at this
      exact List.eq_nil_of_length_eq_zero (by omega)
    rw [kOf, h'.1, hz, pre0_nil, ite_self]
    exact retL_nil (Below.refl _ _)
  have hd : (tot cs == 0) = false := by simpa using g0
  have G := hide g0; clear g0
  by_cases g1 : 24 < tot cs + 1
  · go_enter Try.func40, Try.ntmps40
    go_wp2_with (first | (go_at_call 32; refine (implValidPattern _ _ _ _ _ _ _ _ _ _ hn hm hnc h h').mono ?_; rintro e w' ⟨rfl, rfl⟩; rw [HV.out]) | (go_at_call 53; refine (implSumOf _ _ _ _ _ hm h' HC.out).mono ?_; rintro e w' ⟨rfl, rfl⟩))
    go_ret
    rw [kOf, if_neg (by omega)]
    exact retL_nil (Below.refl _ _)
  have g1' : tot cs + 1 ≤ 24 := by omega
  go_enter Try.func40, Try.ntmps40
  go_wp2_with (first | (go_at_call 32; refine (implValidPattern _ _ _ _ _ _ _ _ _ _ hn hm hnc h h').mono ?_; rintro e w' ⟨rfl, rfl⟩; rw [HV.out]) | (go_at_call 53; refine (implSumOf _ _ _ _ _ hm h' HC.out).mono ?_; rintro e w' ⟨rfl, rfl⟩))
  clear hd
  go_loopw [8, 9, 29] (fun v s i wr => ∃ (k : Nat) (ys : List Int), k ≤ m ∧ i = .int .i64 k ∧ s = .int .i64 (usd ws cs k) ∧ ys = 0 :: knAll ws cs k ∧ wr.ownsRow w.heap.size 3 1 v ys.length (ys.map (.int .i64)) ∧ Below w.heap.size w wr) (fun _ _ i _ => m - (intOf i).toNat)
  case atStart => exact ⟨0, [0], by omega, rfl, rfl, rfl, own_one_row (Nat.le_refl _) 0, (Below.refl _ _).alloc (Nat.le_refl _) _⟩
  case round =>
    obtain ⟨k, ys, hk, rfl, rfl, hys, hown, hB⟩ := hrel
    have HY := hide hys; clear hys
    by_cases hlt : k < m
    · obtain ⟨a1, a2, a3, a4, a5, a6⟩ := kn_facts HV.out (k := k) (by rw [h'.1]; exact hlt)
      have A6 := hide a6; clear a6
      have hlen : ys.length ≤ 1 + 60 * k := by rw [HY.out, List.length_cons]; have := knAll_len (ws := ws) H60.out (k := k) (by rw [h'.1]; omega); omega
      have hcw := (h.below hB).2 k hlt
      obtain ⟨ad, rfl, hb, hcl⟩ := hcw
      obtain ⟨ad', rfl, hb', hcl'⟩ := (h'.below hB).2 k hlt
      obtain ⟨N, hN⟩ : ∃ N : Nat, nth cs k = N := ⟨(nth cs k).toNat, by omega⟩
      have HN := hide hN
      rw [hN] at hcl' a4
      clear hN
      go_wp2
      obtain ⟨wo, rfl⟩ : ∃ wo : World, wo = wr := ⟨_, rfl⟩
      go_loopw [8, 9, 35] (fun v s i wr => ∃ (j : Nat) (zs : List Int) (e : Int), j ≤ N ∧ i = .int .i64 j ∧ s = .int .i64 e ∧ 0 ≤ e ∧ e ≤ 60 ∧ e = usd ws cs k + j * nth ws k ∧ zs = ys ++ knRow (usd ws cs k) (nth ws k) j ∧ wr.ownsRow w.heap.size 3 1 v zs.length (zs.map (.int .i64)) ∧ Below w.heap.size w wr) (fun _ _ i _ => N - (intOf i).toNat)
      case atStart =>
        have h6 := A6.out
        have h7 : 0 ≤ nth cs k * nth ws k := Int.mul_nonneg a3 (by omega)
        exact ⟨0, ys, usd ws cs k, by omega, rfl, rfl, a5, by omega, by simp, by simp [knRow_zero], hown, hB⟩
      case round =>
        obtain ⟨j, zs, e, hj, rfl, rfl, e0, e1, he, hzs, hown2, hB2⟩ := hrel
        have HEE := hide he; clear he
        have HZ := hide hzs; clear hzs
        by_cases hjl : j < N
        · have e2 : e + nth ws k ≤ 60 := by
            have := mul_step (j := j) (N := nth cs k) (w := nth ws k) (a := usd ws cs k) (by rw [HN.out]; omega) a1 A6.out
            rw [HEE.out]; exact this
          have hzl : zs.length ≤ 1000 := by rw [HZ.out, List.length_append, knRow_len]; omega
          have hcl2 : wr.cell? (ad.add k) = some (.int .i64 (nth ws k)) := by
            obtain ⟨ad2, e2, _, hc2⟩ := (h.below hB2).2 k hlt
            injection e2 with e2; subst e2; exact hc2
          clear hcl hcl' h h'
          go_wp2_with (at_builtin; refine wpList_app1 rfl _ _ _ rfl w.heap.size _ Try.underlying22 info_int _ _ _ _ _ (by rfl) (by rfl) hown2 (by omega) hB2.size ?_; intro v' w1 hown' hb')
          go_roundw
          case rel =>
            refine ⟨j + 1, zs ++ [e + nth ws k], e + nth ws k, by omega, by go_num, rfl, by omega, by omega, ?_, ?_, by simpa using hown', hB2.trans hb'⟩
            · rw [HEE.out]; rw [show ((j + 1 : Nat) : Int) = (j : Int) + 1 by omega, Int.add_mul]; omega
            · rw [HZ.out, knRow_succ, HEE.out, List.append_assoc]; congr 3; rw [Int.add_mul]; omega
          case measure => simp [intOf]; omega
        · obtain rfl : N = j := by omega
          clear hcl hcl' h h'
          go_wp2
          go_roundw
          case rel =>
            refine ⟨k + 1, zs, by omega, by go_num, ?_, ?_, hown2, hB2⟩
            · rw [HEE.out, ← HN.out, usd]
            · rw [HZ.out, HY.out, knAll]
              simp [show (nth cs k).toNat = N by have := HN.out; omega]
          case measure => simp [intOf]; omega
    · have : k = m := by omega
      subst this
      go_wp2
      go_ret
      rw [kOf, if_pos ⟨HV.out, g1'⟩, h'.1, pre0_ne (fun hz => by have := HE.out; rw [hz, List.take_of_length_le (by rw [h'.1]; exact Nat.le_refl _)] at this; exact G.out this.symm), ← HY.out]
      exact retL_row hown hB
theorem snoc_cons (l : List Int) (x : Int) : (0 :: l) ++ [x] = 0 :: (l ++ [x]) := rfl
set_option maxHeartbeats 1000000 in
theorem specKnivesFor (A B : Option Addr) (n c m d : Nat) (width : Int) (ws cs : List Int) (w : World) (hn : n ≤ 1048576) (hm : m ≤ 1048576) (hnc : n ≤ c) (h : Ints w A n ws) (h' : Ints w B m cs) :
    Calls Try.prog 39 #[.int .i64 width, .slice A n c, .slice B m d] w (RetL (kOf width ws cs) w) := by
  cases hv : vPt width ws cs
  · have HV := hide hv; clear hv
    go_enter Try.func39, Try.ntmps39
    go_wp2_with (go_at_call 55; refine (specValidPattern0 _ _ _ _ _ _ _ _ _ _ hn hm hnc h h').mono ?_; rintro e w' ⟨rfl, q, rfl⟩; rw [HV.out])
    go_ret
    rw [kOf, if_neg (by rw [HV.out]; simp)]
    exact retL_nil (below_of_drewN _ _)
  obtain ⟨v1, v2, v3, v4⟩ := vPt_true hv
  obtain ⟨⟨w1, w2⟩, ⟨l1, l2⟩, _, -⟩ := vWd_true v1
  have HV := hide hv; clear hv v1 v4
  rw [h.1, h'.1] at v2
  rw [h.1] at l1 l2
  subst v2
  have hc60 : ∀ x ∈ cs, 0 ≤ x ∧ x ≤ 60 := fun x hx => by have := v3 x hx; omega
  have HC := hide (bd1000000 hc60 (by omega) (by omega))
  obtain ⟨t1, t2⟩ := tot_bd hc60
  rw [h'.1] at t2
  have H60 := hide hc60; clear hc60 v3
  by_cases g1 : 24 < tot cs + 1
  · go_enter Try.func39, Try.ntmps39
    go_wp2_with (first | (go_at_call 55; refine (specValidPattern0 _ _ _ _ _ _ _ _ _ _ hn hm hnc h h').mono ?_; rintro e w' ⟨rfl, q, rfl⟩; rw [HV.out]) | (go_at_call 51; refine (specTotal _ _ _ _ _ hm (h'.drewN _) HC.out).mono ?_; rintro e w' ⟨rfl, rfl⟩))
    go_ret
    rw [kOf, if_neg (by omega)]
    exact retL_nil (below_of_drewN _ _)
  have g1' : tot cs + 1 ≤ 24 := by omega
  go_enter Try.func39, Try.ntmps39
  go_wp2_with (first | (go_at_call 55; refine (specValidPattern0 _ _ _ _ _ _ _ _ _ _ hn hm hnc h h').mono ?_; rintro e w' ⟨rfl, q, rfl⟩; rw [HV.out]) | (go_at_call 51; refine (specTotal _ _ _ _ _ hm (h'.drewN _) HC.out).mono ?_; rintro e w' ⟨rfl, rfl⟩))
  go_loopw [7, 8, 9] (fun v s i wr => ∃ (k : Nat) (ys : List Int), k ≤ m ∧ i = .int .i64 k ∧ s = .int .i64 (usd ws cs k) ∧ ys = knAll ws cs k ∧ wr.ownsRow w.heap.size 3 1 v (pre0 ys).length ((pre0 ys).map (.int .i64)) ∧ Below w.heap.size w wr) (fun _ _ i _ => m - (intOf i).toNat)
  case atStart => exact ⟨0, [], by omega, rfl, rfl, rfl, own_empty_row (w := w.drewN q) (Nat.le_refl _), (below_of_drewN _ _).alloc (Nat.le_refl _) _⟩
  case round =>
    obtain ⟨k, ys, hk, rfl, rfl, hys, hown, hB⟩ := hrel
    have HY := hide hys; clear hys
    by_cases hlt : k < m
    · obtain ⟨a1, a2, a3, a4, a5, a6⟩ := kn_facts HV.out (k := k) (by rw [h'.1]; exact hlt)
      have A6 := hide a6; clear a6
      have hlen : ys.length ≤ 60 * k := by rw [HY.out]; exact knAll_len (ws := ws) H60.out (k := k) (by rw [h'.1]; omega)
      go_wp2
      obtain ⟨wo, rfl⟩ : ∃ wo : World, wo = wr := ⟨_, rfl⟩
      go_loopw [7, 8, 10] (fun v s i wr => ∃ (j : Nat) (zs : List Int) (e : Int), (j : Int) ≤ nth cs k ∧ i = .int .i64 j ∧ s = .int .i64 e ∧ 0 ≤ e ∧ e ≤ 60 ∧ e = usd ws cs k + j * nth ws k ∧ zs = ys ++ knRow (usd ws cs k) (nth ws k) j ∧ wr.ownsRow w.heap.size 3 1 v (pre0 zs).length ((pre0 zs).map (.int .i64)) ∧ Below w.heap.size w wr) (fun _ _ i _ => (nth cs k - intOf i).toNat)
      case atStart =>
        have h6 := A6.out
        have h7 : 0 ≤ nth cs k * nth ws k := Int.mul_nonneg a3 (by omega)
        exact ⟨0, ys, usd ws cs k, by omega, rfl, rfl, a5, by omega, by simp, by simp [knRow_zero], hown, hB⟩
      case round =>
        obtain ⟨j, zs, e, hj, rfl, rfl, e0, e1, he, hzs, hown2, hB2⟩ := hrel
        have HEE := hide he; clear he
        have HZ := hide hzs; clear hzs
        obtain ⟨ad, rfl, hb, hcl⟩ := (h.below hB2).2 k hlt
        obtain ⟨ad', rfl, hb', hcl'⟩ := (h'.below hB2).2 k hlt
        by_cases hjl : (j : Int) < nth cs k
        · have e2 : e + nth ws k ≤ 60 := by
            have := mul_step (j := j) (N := nth cs k) (w := nth ws k) (a := usd ws cs k) hjl a1 A6.out
            rw [HEE.out]; exact this
          have hzl : zs.length ≤ 1000 := by rw [HZ.out, List.length_append, knRow_len]; omega
          have hrel : ∀ (v' : Value) (w1 : World) (zs' : List Int), zs' = zs ++ [e + nth ws k] → w1.ownsRow w.heap.size 3 1 v' (pre0 zs').length ((pre0 zs').map (.int .i64)) → Below w.heap.size wr w1 →
              (((j : Nat) : Int) + 1 ≤ nth cs k ∧ e + nth ws k = usd ws cs k + ((j + 1 : Nat) : Int) * nth ws k ∧ zs' = ys ++ knRow (usd ws cs k) (nth ws k) (j + 1)) := by
            intro v' w1 zs' hz' _ _
            refine ⟨by omega, ?_, ?_⟩
            · rw [HEE.out]; rw [show ((j + 1 : Nat) : Int) = (j : Int) + 1 by omega, Int.add_mul]; omega
            · rw [hz', HZ.out, knRow_succ, HEE.out, List.append_assoc]; congr 3; rw [Int.add_mul]; omega
          have HR := hide hrel; clear hrel
          have HC2 : Hid (∀ w1 : World, Below w.heap.size wr w1 → w1.cell? (ad.add k) = some (.int .i64 (nth ws k))) := fun w1 hb1 => by
            obtain ⟨ad2, e2, _, hc2⟩ := (h.below (hB2.trans hb1)).2 k hlt
            injection e2 with e2; subst e2; exact hc2
          clear h h' hown
          by_cases hz : zs = []
          · subst hz
            rw [pre0_nil] at hown2
            obtain ⟨A1, c1, rfl, -, -⟩ := own_of_row hown2
            go_wp2_with (first | (at_builtin; refine wpList_app1 rfl _ _ _ rfl w.heap.size _ Try.underlying22 info_int _ _ _ _ _ (by rfl) (by rfl) hown2 (by simp) hB2.size ?_; intro v' w1 hown' hb'; have hcc := HC2.out w1 hb'; have hB3 := hB2.trans hb') | (at_builtin; refine wpList_app1 rfl _ _ _ rfl w.heap.size _ Try.underlying22 info_int _ _ _ _ _ (by rfl) (by rfl) hown' (by simp) hB3.size ?_; intro v'' w2 hown'' hb''))
            go_roundw
            case rel =>
              have hoo : w2.ownsRow w.heap.size 3 1 v'' (pre0 ([] ++ [e + nth ws k])).length ((pre0 ([] ++ [e + nth ws k])).map (.int .i64)) := by simpa [pre0] using hown''
              obtain ⟨r1, r2, r3⟩ := HR.out v'' w2 _ rfl hoo (hb'.trans hb'')
              exact ⟨j + 1, _, e + nth ws k, by omega, by go_num, rfl, by omega, by omega, r2, r3, hoo, hB3.trans hb''⟩
            case measure => simp [intOf]; omega
          · rw [pre0_ne hz] at hown2
            have HZN := hide hz; clear hz
            obtain ⟨M, hM⟩ : ∃ M, (0 :: zs).length = M := ⟨_, rfl⟩
            rw [hM] at hown2
            have hM1 : 0 < M := by rw [← hM]; simp
            have hM2 : M ≤ 1001 := by rw [← hM]; simp; omega
            have hM3 : ((M : Int) == 0) = false := by simp; omega
            have HM := hide hM; clear hM
            obtain ⟨A1, c1, rfl, -, -⟩ := own_of_row hown2
            go_wp2_with (at_builtin; refine wpList_app1 rfl _ _ _ rfl w.heap.size _ Try.underlying22 info_int _ _ _ _ _ (by rfl) (by rfl) hown2 (by omega) hB2.size ?_; intro v'' w2 hown'' hb'')
            go_roundw
            case rel =>
              have hoo : w2.ownsRow w.heap.size 3 1 v'' (pre0 (zs ++ [e + nth ws k])).length ((pre0 (zs ++ [e + nth ws k])).map (.int .i64)) := by
                rw [pre0_snoc, ← snoc_cons, List.length_append, HM.out]; exact hown''
              obtain ⟨r1, r2, r3⟩ := HR.out v'' w2 _ rfl hoo hb''
              exact ⟨j + 1, _, e + nth ws k, by omega, by go_num, rfl, by omega, by omega, r2, r3, hoo, hB2.trans hb''⟩
            case measure => simp [intOf]; omega
        · have hjN : (j : Int) = nth cs k := by omega
          have HJ := hide hjN; clear hjN
          clear h h' hown
          go_wp2
          go_roundw
          case rel =>
            refine ⟨k + 1, zs, by omega, by go_num, ?_, ?_, hown2, hB2⟩
            · rw [HEE.out, HJ.out, usd]
            · rw [HZ.out, HY.out, knAll]
              simp [show (nth cs k).toNat = j by have := HJ.out; omega]
          case measure => simp [intOf]; omega
    · have : k = m := by omega
      subst this
      go_wp2
      go_ret
      rw [kOf, if_pos ⟨HV.out, g1'⟩, h'.1, ← HY.out]
      exact retL_row hown hB
end Go.Proofs.Ytheddimkifhnkaa
