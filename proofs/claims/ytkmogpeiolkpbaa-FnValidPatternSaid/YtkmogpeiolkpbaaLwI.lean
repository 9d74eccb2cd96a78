/- The law FnValidPattern. -/
import Derived.Test.YtkmogpeiolkpbaaInt7
import Derived.Test.YtkmogpeiolkpbaaRd6
import Derived.Test.YtkmogpeiolkpbaaHl1
import Derived.Test.YtkmogpeiolkpbaaLwH
import Derived.Test.YtkmogpeiolkpbaaRd7
namespace Go.Proofs.Ytkmogpeiolkpbaa
open Go.RowKit
set_option linter.unusedVariables false
set_option maxRecDepth 100000
theorem usd_le {ws cs ds : List Int} (k : Nat) (h : ∀ j, j < k → nth ds j ≤ nth cs j) (hw : ∀ j, j < k → 0 ≤ nth ws j) : usd ws ds k ≤ usd ws cs k := by
  induction k with
  | zero => exact Int.le_refl _
  | succ k ih =>
    have h1 := ih (fun j hj => h j (by omega)) (fun j hj => hw j (by omega))
    have h2 := Int.mul_le_mul_of_nonneg_right (h k (by omega)) (hw k (by omega))
    simp only [usd]; omega
theorem vPt_set {s : Int} {ws cs : List Int} {k : Nat} {z : Int} (h : vPt s ws cs = true) (hk : k < cs.length) (h0 : 0 ≤ z) (hz : z ≤ nth cs k) : vPt s ws (cs.set k z) = true := by
  obtain ⟨h1, h2, h3, h4⟩ := vPt_true h
  have h5 := h3 _ (nth_mem hk)
  refine vPt_mk h1 (by rw [List.length_set]; exact h2) (allB_iff.2 (BdL.set (lo := 0) (hi := s) h3 ⟨h0, by omega⟩)) ?_
  rw [List.length_set]
  refine Int.le_trans (usd_le cs.length (fun j hj => ?_) (fun j hj => ?_)) h4
  · rw [nth_set hk]; split
    · rename_i e; rw [e]; exact hz
    · exact Int.le_refl _
  · have := (vWd_true h1).2.2.1 _ (nth_mem (show j < ws.length by omega)); omega
set_option maxHeartbeats 2000000 in
theorem lawFnValidPattern (A : Option Addr) (n c : Nat) (bs : List Int) (w : World) (h : Byts w A n bs) (hnc : n ≤ c) :
    Calls Try.prog 10 #[.slice A n c] w fun e w' => e = .returned (.bool true) ∧ Below w.heap.size w w' := by
  by_cases g : (1048576 : Int) < n
  · go_enter Try.func10, Try.ntmps10
    go_wp2
    go_ret
    exact ⟨rfl, Below.refl _ _⟩
  have g' : (n : Int) ≤ 1048576 := by omega
  clear g
  go_enter Try.func10, Try.ntmps10
  go_wp2_with fail
  refine (drawValidPattern_any A n c bs _ (by omega) hnc h).mono ?_; rintro e w1 ⟨s, v, u, ws, cs, rfl, hP, hO, hU, hb⟩
  obtain ⟨A1, c1, rfl, hO1, hc1⟩ := own_of_row hO
  obtain ⟨A2, c2, rfl, hO2, hc2⟩ := own_of_row hU
  obtain ⟨K, hK⟩ : ∃ K, ws.length = K := ⟨_, rfl⟩
  obtain ⟨M, hM⟩ : ∃ M, cs.length = M := ⟨_, rfl⟩
  rw [hK] at hO1 hc1
  rw [hM] at hO2 hc2
  have hK7 : K ≤ 5 := by have := hP.1.2.2.1; omega
  have hM7 : M ≤ 5 := by have := hP.2.1; omega
  have HI := hide hO1.ints; have HJ := hide hO2.ints; have HB := hide hb; have HM := hide hM; have HP := hide hP.2.2
  rw [hK, hM]
  clear hO hO1 hU hO2 hb hP hK hM h
  go_wp2_with fail
  refine (implValidPattern A1 A2 K c1 M c2 s ws cs _ (by omega) (by omega) hc1 HI.out HJ.out).mono ?_; rintro e w' ⟨rfl, rfl⟩
  go_wp2_with fail
  refine (specValidPattern A1 A2 K c1 M c2 s ws cs _ (by omega) (by omega) hc1 HI.out HJ.out).mono ?_; rintro e w2 ⟨rfl, hb2⟩
  have HI2 := hide (HI.out.below hb2); have HJ2 := hide (HJ.out.below hb2); have HB2 := hide (below_then HB.out hb2); clear hb2
  cases hv : vPt s ws cs
  · have HV := hide hv; clear hv
    go_wp2_with fail
    refine (specValidPattern A1 A2 K c1 M c2 s ws cs _ (by omega) (by omega) hc1 HI2.out HJ2.out).mono ?_; rintro e w3 ⟨rfl, hb3⟩; rw [HV.out]
    go_wp2_with fail
    go_ret
    exact ⟨rfl, below_then HB2.out hb3⟩
  have HV := hide hv; clear hv
  go_wp2_with fail
  go_loopw [7] (fun i wr => ∃ k : Nat, k ≤ M ∧ i = .int .i64 k ∧ Below w2.heap.size w2 wr) (fun i _ => M - (intOf i).toNat)
  case atStart => exact ⟨0, by omega, rfl, Below.refl _ _⟩
  case round =>
    rename_i wr
    obtain ⟨k, hk, rfl, hB⟩ := hrel
    have HI3 := hide (HI2.out.below hB); have HJ3 := hide (HJ2.out.below hB)
    have HB3 := hide hB; clear hB
    by_cases hlt : k < M
    · obtain ⟨x0, x1⟩ := HP.out _ (nth_mem (k := k) (by rw [HM.out]; exact hlt))
      have xx := (vPt_true HV.out).2.2.1 _ (nth_mem (k := k) (by rw [HM.out]; exact hlt))
      have x2 := xx.1; clear xx
      have HVS := hide (fun z h0 hz => vPt_set (z := z) HV.out (by rw [HM.out]; exact hlt) h0 hz : ∀ z, 0 ≤ z → z ≤ nth cs k → vPt s ws (cs.set k z) = true)
      have hcc := (HJ3.out.2 k hlt)
      obtain ⟨ad, rfl, hab, hc⟩ := hcc
      generalize hxx : nth cs k = x at *
      clear hxx
      have STEP : ∀ v4 w4, w4.ownsRow wr.heap.size 3 1 v4 (0 + M) ((([] : List Int) ++ cs).map (.int .i64)) → Below wr.heap.size (wr.alloc (.cells #[] 3)) w4 →
          ∃ g8 c8 y, v4 = .slice (some ⟨g8, 0, none⟩) M c8 ∧ w4.cell? (ad.add k) = some (.int .i64 x) ∧ w4.cell? ⟨g8, k, none⟩ = some (.int .i64 y) ∧ w4.frozen? ⟨g8, k, none⟩ = false ∧
            Hid (∀ z, Ints (w4.setCell ⟨g8, k, none⟩ (.int .i64 z)) (some ⟨g8, 0, none⟩) M (cs.set k z) ∧ Below wr.heap.size wr (w4.setCell ⟨g8, k, none⟩ (.int .i64 z))) := by
        intro v4 w4 hown4 hb4
        have hB4 : Below wr.heap.size wr w4 := ((Below.refl _ _).alloc (Nat.le_refl _) _).trans hb4
        rw [Nat.zero_add, List.nil_append] at hown4
        obtain ⟨A8, c8, rfl, hO8, hc8⟩ := own_of_row hown4
        obtain ⟨g8, rfl, hg1, hg2, hgc⟩ := hO8.2.2 (by omega)
        refine ⟨g8, c8, _, rfl, by rw [hB4.cell (by rw [block_add]; exact hab)]; exact hc, (hgc k hlt).1, (hgc k hlt).2, fun z => ⟨?_, hB4.setCell hg1 _⟩⟩
        have := (hown4.stored k (.int .i64 z)).1
        rw [← List.map_set] at this
        obtain ⟨A9, c9, e9, hO9, -⟩ := own_of_row this
        injection e9 with e9; subst e9
        exact hO9.ints
      have HST := hide STEP; clear STEP hc hab
      rcases (show x ≤ 1 ∨ 1 < x by omega) with hx1 | hx1
      · go_wp2_with (at_builtin; refine wpList_appL rfl _ _ _ rfl wr.heap.size _ Try.underlying23 info_int _ 0 [] (some ad) M c2 cs (by rfl) (by rfl) (own_empty_row (Nat.le_refl _)) (HJ3.out.alloc _) (by omega) (by simp) ?_; intro v4 w4 hown4 hb4; obtain ⟨g8, c8, y, rfl, hc4, hc5, hf5, HZ⟩ := HST.out v4 w4 hown4 hb4; clear hown4 hb4)
        obtain ⟨hI5, hB5⟩ := HZ.out 0
        refine (implValidPattern A1 _ K c1 M c8 s ws (cs.set k 0) _ (by omega) (by omega) hc1 (HI3.out.below hB5) hI5).mono ?_; rintro e w' ⟨rfl, rfl⟩; rw [HVS.out 0 (by omega) (by omega)]
        have HB5 := hide hB5; clear hB5 hI5
        go_wp2_with fail
        go_roundw
        case rel => exact ⟨k + 1, by omega, by go_num, below_then HB3.out HB5.out⟩
        case measure => simp [intOf]; omega
      · go_wp2_with (at_builtin; refine wpList_appL rfl _ _ _ rfl wr.heap.size _ Try.underlying23 info_int _ 0 [] (some ad) M c2 cs (by rfl) (by rfl) (own_empty_row (Nat.le_refl _)) (HJ3.out.alloc _) (by omega) (by simp) ?_; intro v4 w4 hown4 hb4; obtain ⟨g8, c8, y, rfl, hc4, hc5, hf5, HZ⟩ := HST.out v4 w4 hown4 hb4; clear hown4 hb4)
        obtain ⟨hI5, hB5⟩ := HZ.out (x - 1)
        refine (implValidPattern A1 _ K c1 M c8 s ws (cs.set k (x - 1)) _ (by omega) (by omega) hc1 (HI3.out.below hB5) hI5).mono ?_; rintro e w' ⟨rfl, rfl⟩; rw [HVS.out (x - 1) (by omega) (by omega)]
        have HB5 := hide hB5; clear hB5 hI5
        go_wp2_with fail
        go_roundw
        case rel => exact ⟨k + 1, by omega, by go_num, below_then HB3.out HB5.out⟩
        case measure => simp [intOf]; omega
    · go_wp2_with fail
      go_ret
      exact ⟨rfl, below_then HB2.out HB3.out⟩
end Go.Proofs.Ytkmogpeiolkpbaa
