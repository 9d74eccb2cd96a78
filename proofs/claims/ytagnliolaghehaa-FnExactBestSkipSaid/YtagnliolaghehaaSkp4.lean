/- Contracts of the reference's BestSkip: the splices, the best skip. -/
import Derived.Test.YtagnliolaghehaaSkp3
import Derived.Test.YtagnliolaghehaaSkp2
import Derived.BigRegion
namespace Go.Proofs.Ytagnliolaghehaa
open Go.RowKit
set_option linter.unusedVariables false
set_option maxRecDepth 100000
theorem tot_set {xs : List Int} {k : Nat} (hk : k < xs.length) (y : Int) : tot (xs.set k y) = tot xs - nth xs k + y := by
  induction xs generalizing k with
  | nil => simp at hk
  | cons x xs ih =>
    cases k with
    | zero => simp [tot, nth]; omega
    | succ k =>
      have := ih (k := k) (by simpa using hk)
      rw [List.set_cons_succ, tot_cons, tot_cons, this]
      simp [nth]; omega
theorem nth_set_same {xs : List Int} {k : Nat} (hk : k < xs.length) (y : Int) : nth (xs.set k y) k = y := by simp [nth, hk]
theorem nth_set_ne {xs : List Int} {k j : Nat} (h : j ≠ k) (y : Int) : nth (xs.set k y) j = nth xs j := by simp [nth, Ne.symm h]
theorem tot_low {xs : List Int} {M : Int} (h : ∀ x ∈ xs, -1 ≤ x ∧ x ≤ M) : -xs.length ≤ tot xs ∧ tot xs ≤ xs.length * M := by
  induction xs with
  | nil => simp [tot]
  | cons x xs ih =>
    have h1 := h x (by simp)
    have h2 := ih fun y hy => h y (by simp [hy])
    rw [tot_cons]
    have e : (((x :: xs).length : Nat) : Int) * M = xs.length * M + M := by
      simp only [List.length_cons, Int.natCast_add, Int.add_mul]; omega
    rw [e, List.length_cons]; omega
theorem tot_lowpre {xs : List Int} (h : ∀ x ∈ xs, -1 ≤ x ∧ x ≤ 1000000) (hn : xs.length ≤ 1048576) (k : Nat) : -1048576 ≤ tot (xs.take k) ∧ tot (xs.take k) ≤ 1048576000000 := by
  have h1 := tot_low (xs := xs.take k) (M := 1000000) fun x hx => h x (List.mem_of_mem_take hx)
  have h2 : (xs.take k).length ≤ xs.length := by rw [List.length_take]; omega
  omega
theorem specTotalL (A : Option Addr) (n c : Nat) (xs : List Int) (w : World) (hn : n ≤ 1048576) (h : Ints w A n xs) (hx : ∀ x ∈ xs, -1 ≤ x ∧ x ≤ 1000000) :
    Calls Try.prog 9 #[.slice A n c] w fun e w' => e = .returned (.int .i64 (tot xs)) ∧ w = w' := by
  have HX := hide hx; clear hx
  go_enter Try.func9, Try.ntmps9
  go_wp2
  go_loop [3, 4] (fun s i => ∃ k : Nat, k ≤ n ∧ i = .int .i64 k ∧ s = .int .i64 (tot (xs.take k))) (fun _ i => n - (intOf i).toNat)
  case atStart => exact ⟨0, by omega, rfl, rfl⟩
  case round =>
    obtain ⟨k, hk, rfl, rfl⟩ := hrel
    obtain ⟨t1, t2⟩ := tot_lowpre HX.out (by rw [h.1]; exact hn) k
    by_cases hlt : k < n
    · have hx : k < xs.length := by rw [h.1]; exact hlt
      obtain ⟨ad, rfl, hb, hc⟩ := h.2 k hlt
      have t3 := HX.out _ (nth_mem hx)
      have HK := hide hx; clear hx h
      go_wp2
      go_round
      case rel => exact ⟨k + 1, by omega, by go_num, by rw [tot_take HK.out]⟩
      case measure => simp [intOf]; omega
    · have : k = n := by omega
      subst this
      go_wp2
      go_ret
      exact ⟨ret_int (by rw [List.take_of_length_le (by rw [h.1]; exact Nat.le_refl _)]), rfl⟩
/-- the call returns a slice of its own whose numbers have a sum -/
def RetS (m : Nat) (t : Int) (w : World) (e : Ending) (w' : World) : Prop := ∃ (B : Option Addr) (d : Nat) (zs : List Int), e = .returned (.slice B m d) ∧ Ints w' B m zs ∧ Below w.heap.size w w' ∧ tot zs = t ∧ ∀ z ∈ zs, -1 ≤ z ∧ z ≤ 1000000
theorem own_made {w : World} {T n : Nat} (hn : n ≤ 1048576) : Own (w.alloc (.cells (madeCells #[.int .i64 0] n) T)) w.heap.size (w.heap.size + 1) (some ⟨w.heap.size, 0, none⟩) n (List.replicate n 0) := by
  have := own_row (n := n) (w := w.alloc (.cells (madeCells #[.int .i64 0] n) T)) (xs := List.replicate n 0) (lo := w.heap.size) (by simp) (World.rowIs_made w (.int .i64 0) n T) (fun i hi => by simp [nth, hi]) (Nat.le_refl _)
  simpa using this
set_option maxHeartbeats 4000000 in
theorem specSplices (A B : Option Addr) (n m c d : Nat) (ps ws : List Int) (s : Nat) (w : World) (hn : n ≤ 1048576) (hm : m ≤ 1048576) (h : Ints w A n ps) (h' : Ints w B m ws) (he : enoughB ps ws s = true) :
    Calls Try.prog 10 #[.slice A n c, .slice B m d, .int .i64 s] w (RetS m (spA ps ws s : Nat) w) := by
  have HE := hide he
  have hmk := fun W => run_make_row' (P := Try.prog) 22 3 (.int .i64 0) 8 Try.underlying22 info_int rfl .i64 .i64 m (by omega) (by omega) W
  clear he
  go_enter Try.func10, Try.ntmps10
  go_wp2_with fail
  have hI1 := h.alloc (.cells (madeCells #[.int .i64 0] m) 3)
  have hI2 := h'.alloc (.cells (madeCells #[.int .i64 0] m) 3)
  have HO := hide (own_made (w := w) (T := 3) hm)
  have HB := hide (show Below w.heap.size w (w.alloc (.cells (madeCells #[.int .i64 0] m) 3)) from (Below.refl _ _).alloc (Nat.le_refl _) _)
  have HL := hide (show pcN ps ws s (tot ws) = m + spA ps ws s ∧ tot ws ≤ 24000 by
    obtain ⟨v1, v2, _, _⟩ := enough_true HE.out
    have h1 := pieces_sp (s := s) (fun x hx => ((vLen_true v1).2 x hx).1) (fun x hx => ((vLen_true v2).2 x hx).1)
    rw [h'.1] at h1
    exact ⟨h1, (vLen_tot v2).2⟩)
  have hz : (w.alloc (.cells (madeCells #[.int .i64 0] m) 3)).heap.size = w.heap.size + 1 := by simp
  generalize w.alloc (.cells (madeCells #[.int .i64 0] m) 3) = w0 at *
  refine (specPieces _ _ _ _ _ _ _ _ s _ hn hm hI1 hI2 HE.out).mono ?_; rintro e w1 ⟨v, qs, rfl, hown, hb, hlen, hrl⟩
  rw [hz] at hown
  obtain ⟨Aq, cq, rfl, hP, hcq⟩ := pcs_of_own hown
  have O1 := hide (HO.out.below hb); have B1 := hide (below_then HB.out hb); have P1 := hide hP; have RL := hide hrl
  obtain ⟨N, hN⟩ : ∃ N, qs.length = N := ⟨_, rfl⟩
  have HN := hide (show N = m + spA ps ws s by rw [← hN, hlen]; exact HL.out.1)
  have hN2 : N ≤ 24000 := by
    have h1 := cnt_le (pB ps ws s) (tot ws).toNat
    have h2 := HL.out.2
    unfold pcN at hlen
    omega
  have HQ := hide hN
  rw [hN] at P1 hcq ⊢
  clear hmk hz hown hb hlen hrl hP HO HB hI1 hI2 h h' hN
  go_wp2_with fail
  go_loopw [9] (fun iv wr => ∃ (k : Nat) (zs : List Int), k ≤ N ∧ iv = .int .i64 k ∧ Hid (Own wr w.heap.size (w.heap.size + 1) (some ⟨w.heap.size, 0, none⟩) m zs) ∧ Hid (tot zs = k) ∧ Hid (∀ j, j < m → 0 ≤ nth zs j ∧ nth zs j ≤ k) ∧ Hid (Pcs wr (w.heap.size + 1) Aq N qs) ∧ Hid (Below w.heap.size w wr)) (fun iv _ => N - (intOf iv).toNat)
  case atStart => exact ⟨0, _, by omega, rfl, O1, hide (by simp [tot]), hide (fun j hj => by simp [nth, hj]), P1, B1⟩
  case round =>
    clear O1 P1 B1
    obtain ⟨k, zs, hk, rfl, hO, hT, hZ, hP, hB⟩ := hrel
    by_cases hlt : k < N
    · obtain ⟨r, hr, hre⟩ := RL.out k (by rw [HQ.out]; exact hlt)
      obtain ⟨g, rfl, hg, hc⟩ := hP.out.2 (by omega)
      have hcq1 := hc k hlt
      rw [hre] at hcq1
      obtain ⟨g', hge, hg1, hg2, hco⟩ := hO.out.2.2 (by omega)
      obtain rfl : w.heap.size = g' := by injection hge with e; injection e
      obtain ⟨c1, f1⟩ := hco r hr
      obtain ⟨z1, z2⟩ := hZ.out r hr
      have hzl := hO.out.1
      have HZL := hide (show r < zs.length by omega)
      obtain ⟨z, hz⟩ : ∃ z, nth zs r = z := ⟨_, rfl⟩
      rw [hz] at c1 z1 z2
      have HZ := hide hz
      clear hre hge hg2 hco hc hz hzl hg1
      go_wp2_with fail
      go_region
      all_goals go_wp2
      all_goals go_roundw
      case rel =>
        refine ⟨k + 1, zs.set r (z + 1), by omega, by go_num, hide (hO.out.set hr _), hide ?_, hide fun j hj => ?_, hide (hP.out.set (by simp) _), hide (by have h1 := hB.out.setCell (p := ⟨w.heap.size, r, none⟩) (Nat.le_refl _) (.int .i64 (z + 1)); exact ⟨h1.os, h1.tape, h1.output, h1.size, h1.block⟩)⟩
        · rw [tot_set HZL.out, hT.out, HZ.out]; omega
        · by_cases e : j = r
          · subst e; rw [nth_set_same HZL.out]; omega
          · rw [nth_set_ne e]; have := hZ.out j hj; omega
      case measure => simp [intOf]; omega
    · obtain rfl : k = N := by omega
      go_wp2_with fail
      go_loopw [10] (fun iv wr => ∃ (q : Nat) (zs : List Int), q ≤ m ∧ iv = .int .i64 q ∧ Hid (Own wr w.heap.size (w.heap.size + 1) (some ⟨w.heap.size, 0, none⟩) m zs) ∧ Hid (tot zs = (k : Int) - q) ∧ Hid (∀ j, j < m → (if j < q then -1 else 0) ≤ nth zs j ∧ nth zs j ≤ k) ∧ Hid (Below w.heap.size w wr)) (fun iv _ => m - (intOf iv).toNat)
      case atStart => exact ⟨0, zs, by omega, rfl, hO, hide (by rw [hT.out]; omega), hide (fun j hj => by have := hZ.out j hj; simpa using this), hB⟩
      case round =>
        clear hO hT hZ hP hB
        obtain ⟨q, zs, hq, rfl, hO, hT, hZ, hB⟩ := hrel
        by_cases hlt : q < m
        · obtain ⟨g', hge, hg1, hg2, hco⟩ := hO.out.2.2 (by omega)
          obtain rfl : w.heap.size = g' := by injection hge with e; injection e
          obtain ⟨c1, f1⟩ := hco q hlt
          have hzz := hZ.out q hlt
          rw [if_neg (by omega)] at hzz
          obtain ⟨z1, z2⟩ := hzz
          have hzl := hO.out.1
          have HZL := hide (show q < zs.length by omega)
          obtain ⟨z, hz⟩ : ∃ z, nth zs q = z := ⟨_, rfl⟩
          rw [hz] at c1 z1 z2
          have HZ := hide hz
          clear hge hg2 hco hz hzl hg1
          go_wp2
          go_roundw
          case rel =>
            refine ⟨q + 1, zs.set q (z - 1), by omega, by go_num, hide (hO.out.set hlt _), hide ?_, hide fun j hj => ?_, hide (hB.out.setCell (Nat.le_refl _) _)⟩
            · rw [tot_set HZL.out, hT.out, HZ.out]; omega
            · by_cases e : j = q
              · subst e; rw [nth_set_same HZL.out, if_pos (by omega)]; omega
              · rw [nth_set_ne e]
                have := hZ.out j hj
                by_cases e2 : j < q
                · rw [if_pos e2] at this; rw [if_pos (by omega)]; exact this
                · rw [if_neg e2] at this; rw [if_neg (by omega)]; exact this
          case measure => simp [intOf]; omega
        · obtain rfl : q = m := by omega
          go_wp2
          go_ret
          refine ⟨_, _, zs, rfl, hO.out.ints, hB.out, by rw [hT.out]; have := HN.out; omega, ?_⟩
          rw [forall_nth]
          intro j hj
          have h1 := hO.out.1
          have h2 := hZ.out j (by omega)
          split at h2 <;> omega
set_option maxHeartbeats 4000000 in
theorem specBestSkip (A B : Option Addr) (n m c d : Nat) (ps ws : List Int) (w : World) (hn : n ≤ 1048576) (hm : m ≤ 1048576) (h : Ints w A n ps) (h' : Ints w B m ws) :
    Calls Try.prog 4 #[.slice A n c, .slice B m d] w fun e w' => e = .returned (.int .i64 (bOf ps ws)) ∧ Below w.heap.size w w' := by
  cases h1 : enoughB ps ws 0
  · have H1 := hide h1; clear h1
    go_enter Try.func4, Try.ntmps4
    go_wp2_with (go_at_call 8; refine (specEnough _ _ _ _ _ _ _ _ _ _ hn hm h h').mono ?_; rintro e w' ⟨rfl, rfl⟩; rw [H1.out])
    go_ret
    exact ⟨ret_int (by rw [bOf, if_neg (by rw [H1.out]; simp)]), Below.refl _ _⟩
  obtain ⟨v1, v2, e1, e2⟩ := enough_true h1
  have b1 := vLen_tot v1
  have b2 := vLen_tot v2
  obtain ⟨P, hP⟩ := Int.eq_ofNat_of_zero_le b1.1
  obtain ⟨T, hT⟩ := Int.eq_ofNat_of_zero_le b2.1
  obtain ⟨D, hD⟩ := Int.eq_ofNat_of_zero_le (show 0 ≤ (P : Int) - T by omega)
  have hP2 : P ≤ 24000 := by omega
  have hT2 : T ≤ 24000 := by omega
  have hD2 : D ≤ 24000 := by omega
  have HB := hide (show bOf ps ws = (bst (spA ps ws) D : Nat) by rw [bOf, if_pos h1, hP, hT, hD]; rfl)
  have HS := hide (show ∀ s : Nat, s ≤ D → enoughB ps ws s = true from fun s hs => by
    rw [enoughB, v1, v2, decide_eq_true (show (0 : Int) ≤ s by omega), decide_eq_true (show (s : Int) ≤ tot ps - tot ws by omega)]; rfl)
  have H1 := hide h1
  have P1 := hide (vLen_bd v1); have P2 := hide (vLen_bd v2); have HP := hide hP; have HT := hide hT; have HD := hide hD
  clear h1 v1 v2 e1 e2 b1 b2 hP hT hD
  go_enter Try.func4, Try.ntmps4
  go_wp2_with fail
  refine (specEnough _ _ _ _ _ _ _ _ _ _ hn hm h h').mono ?_; rintro e w' ⟨rfl, rfl⟩; rw [H1.out]
  go_wp2_with fail
  go_loopw [5, 6] (fun b i wr => ∃ j : Nat, j ≤ D ∧ i = .int .i64 ((j : Int) + 1) ∧ b = .int .i64 (bst (spA ps ws) j : Nat) ∧ Hid (Below w.heap.size w wr)) (fun _ i _ => D + 1 - (intOf i).toNat)
  case atStart => exact ⟨0, by omega, rfl, rfl, hide (Below.refl _ _)⟩
  case round =>
    obtain ⟨j, hj, rfl, rfl, hB⟩ := hrel
    have hI1 := hide (h.below hB.out); have hI2 := hide (h'.below hB.out)
    have hb := bst_le (spA ps ws) j
    have hDI : (P : Int) - T = D := HD.out
    obtain ⟨b, hbe⟩ : ∃ b, bst (spA ps ws) j = b := ⟨_, rfl⟩
    rw [hbe] at hb ⊢
    have HBE := hide hbe
    clear hbe
    by_cases hlt : j < D
    · have hjD : (j : Int) + 1 ≤ D := by omega
      go_wp2_with (first | (go_at_call 9; (with_reducible refine (specTotal A n c ps _ hn hI1.out P1.out).mono ?_); rintro e w' ⟨rfl, rfl⟩; rw [HP.out]) | (go_at_call 9; (with_reducible refine (specTotal B m d ws _ hm hI2.out P2.out).mono ?_); rintro e w' ⟨rfl, rfl⟩; rw [HT.out]) | fail)
      clear hDI
      refine (specSplices A B n m c d ps ws (j + 1) _ hn hm hI1.out hI2.out (HS.out _ (by omega))).mono ?_; rintro e w1 ⟨B1, d1, zs, rfl, hZ1, hb1, hT1, hz1⟩
      have HZ1 := hide hZ1; have HT1 := hide hT1; have HX1 := hide hz1
      have hJ1 := hide (hI1.out.below hb1); have hJ2 := hide (hI2.out.below hb1); have HB1 := hide (below_then hB.out hb1)
      clear hZ1 hT1 hz1 hb1 hI1 hI2 hB
      go_wp2_with fail
      refine (specTotalL B1 m d1 zs _ hm HZ1.out HX1.out).mono ?_; rintro e w' ⟨rfl, rfl⟩; rw [HT1.out]
      go_wp2_with fail
      refine (specSplices A B n m c d ps ws b _ hn hm hJ1.out hJ2.out (HS.out _ (by omega))).mono ?_; rintro e w2 ⟨B2, d2, zs2, rfl, hZ2, hb2, hT2, hz2⟩
      have HZ2 := hide hZ2; have HT2 := hide hT2; have HX2 := hide hz2
      have HB2 := hide (below_then HB1.out hb2)
      clear hZ2 hT2 hz2 hb2 hJ1 hJ2 HB1 HZ1
      go_wp2_with fail
      refine (specTotalL B2 m d2 zs2 _ hm HZ2.out HX2.out).mono ?_; rintro e w' ⟨rfl, rfl⟩; rw [HT2.out]
      by_cases hc : spA ps ws (j + 1) < spA ps ws b
      · have hc2 : (spA ps ws (j + 1) : Int) < spA ps ws b := by omega
        have HC := hide hc
        clear hc
        go_wp2_with fail
        go_roundw
        case rel => exact ⟨j + 1, by omega, by go_num, by rw [bst, HBE.out, if_pos HC.out]; go_num, HB2⟩
        case measure => simp [intOf]; omega
      · have hc2 : (spA ps ws b : Int) ≤ spA ps ws (j + 1) := by omega
        have HC := hide hc
        clear hc
        go_wp2_with fail
        go_roundw
        case rel => exact ⟨j + 1, by omega, by go_num, by rw [bst, HBE.out, if_neg HC.out], HB2⟩
        case measure => simp [intOf]; omega
    · obtain rfl : j = D := by omega
      go_wp2_with (first | (go_at_call 9; (with_reducible refine (specTotal A n c ps _ hn hI1.out P1.out).mono ?_); rintro e w' ⟨rfl, rfl⟩; rw [HP.out]) | (go_at_call 9; (with_reducible refine (specTotal B m d ws _ hm hI2.out P2.out).mono ?_); rintro e w' ⟨rfl, rfl⟩; rw [HT.out]) | fail)
      go_ret
      exact ⟨ret_int (by rw [HB.out, HBE.out]), hB.out⟩
end Go.Proofs.Ytagnliolaghehaa
