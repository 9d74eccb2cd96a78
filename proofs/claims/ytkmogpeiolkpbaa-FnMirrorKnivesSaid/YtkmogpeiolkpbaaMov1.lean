/- Contracts of chapter 4: the table of the reference. -/
import Derived.Test.YtkmogpeiolkpbaaInt5
import Derived.Test.YtkmogpeiolkpbaaKit4
import Derived.Test.YtkmogpeiolkpbaaPl6
import Derived.BigRegion
namespace Go.Proofs.Ytkmogpeiolkpbaa
open Go.RowKit
set_option linter.unusedVariables false
set_option maxRecDepth 100000

theorem info_ints : (Try.prog.info? 23).map (fun i => (i.zero, i.size, i.bytes)) = some (some (.slice none 0 0), 1, 24) := by kernel_rfl
theorem far_any (x y : Int) (w : World) (hx : 0 ≤ x ∧ x ≤ 60) (hy : 0 ≤ y ∧ y ≤ 60) : Calls Try.prog 81 #[.int .i64 x, .int .i64 y] w fun e w' => e = .returned (.int .i64 (dst x y)) ∧ w = w' := by
  obtain ⟨x0, x1⟩ := hx
  obtain ⟨y0, y1⟩ := hy
  rcases (show x - y < y - x ∨ y - x ≤ x - y by omega) with h | h
  all_goals
    go_enter Try.func81, Try.ntmps81
    go_wp2
    go_ret
    exact ⟨ret_int (by unfold dst; omega), rfl⟩
theorem way_any (x y : Int) (w : World) (hx : 0 ≤ x ∧ x ≤ 60) (hy : 0 ≤ y ∧ y ≤ 60) : Calls Try.prog 79 #[.int .i64 x, .int .i64 y] w fun e w' => e = .returned (.int .i64 (dst x y)) ∧ w = w' := by
  obtain ⟨x0, x1⟩ := hx
  obtain ⟨y0, y1⟩ := hy
  rcases (show x - y < y - x ∨ y - x ≤ x - y by omega) with h | h
  all_goals
    go_enter Try.func79, Try.ntmps79
    go_wp2
    go_ret
    exact ⟨ret_int (by unfold dst; omega), rfl⟩
set_option maxHeartbeats 2000000 in
theorem specMoveTable (A B : Option Addr) (n c m d : Nat) (a b : List Int) (w : World) (hn : n ≤ 24) (hm : m ≤ 24) (h : Ints w A n a) (h' : Ints w B m b) (ha : ∀ x ∈ a, 0 ≤ x ∧ x ≤ 60) (hb : ∀ x ∈ b, 0 ≤ x ∧ x ≤ 60) :
    Calls Try.prog 80 #[.slice A n c, .slice B m d] w (RetLL (tAll (mv a b) (n + 1) (m + 1)) w) := by
  have HA := hide ha; have HB := hide hb; clear ha hb
  have HM := hide (fun i j (hi : i ≤ n) (hj : j ≤ m) => mv_bd HA.out HB.out (by rw [h.1]; exact hn) (i := i) (j := j) (by rw [h.1]; exact hi) (by rw [h'.1]; exact hj))
  have hmk := fun W => run_make_row' (P := Try.prog) 23 3 (.int .i64 0) 8 Try.underlying23 info_int rfl .i64 .i64 (m + 1) (by omega) (by omega) W
  rw [show ((m + 1 : Nat) : Int) = (m : Int) + 1 by omega] at hmk
  go_enter Try.func80, Try.ntmps80
  go_wp2
  clear hmk
  go_loopw [5, 6] (fun v i wr => ∃ (k : Nat) (vals : List Value), 1 ≤ k ∧ k ≤ n + 1 ∧ i = .int .i64 k ∧ wr.ownsRow w.heap.size 23 1 v k vals ∧ RowsV wr 3 vals (tAll (mv a b) k (m + 1)) ∧ Below w.heap.size w wr) (fun _ i _ => n + 1 - (intOf i).toNat)
  case atStart =>
    refine ⟨1, [.slice (some ⟨w.heap.size, 0, none⟩) (m + 1) (m + 1)], by omega, by omega, rfl, ?_, ?_, by go_grown⟩
    · refine ⟨rfl, .inr ⟨w.heap.size + 1, 1, #[.slice (some ⟨w.heap.size, 0, none⟩) (m + 1) (m + 1)], by simp, by omega, ?_, Nat.le_refl _, by simp [maxLen], rfl, rfl⟩⟩
      have := heap_alloc_new (w.alloc (.cells (madeCells #[.int .i64 0] (m + 1)) 3)) (.cells #[.slice (some ⟨w.heap.size, 0, none⟩) (m + 1) (m + 1)] 23)
      simpa using this
    · have hr : IntRow (w.alloc (.cells (madeCells #[.int .i64 0] (m + 1)) 3)) 3 (some ⟨w.heap.size, 0, none⟩) (m + 1) (tRow (mv a b) 0 (m + 1)) :=
        IntRow.of_row (tRow_len _ _ _) (World.rowIs_made w (.int .i64 0) (m + 1) 3) (fun i hi => by rw [tRow_nth hi]; rfl)
      have hr2 := hr.below (w' := (w.alloc (.cells (madeCells #[.int .i64 0] (m + 1)) 3)).alloc (.cells #[.slice (some ⟨w.heap.size, 0, none⟩) (m + 1) (m + 1)] 23)) ((Below.refl _ _).alloc (Nat.le_refl _) _)
      exact (RowsV.nil (T := 3)).snoc hr2 (Nat.le_refl _)
  case round =>
    obtain ⟨k, vals, hk1, hk, rfl, hown, hrows, hB⟩ := hrel
    by_cases hlt : (k : Int) ≤ n
    · obtain ⟨j, hj⟩ : ∃ j : Nat, (k : Int) - 1 = j := ⟨k - 1, by omega⟩
      have HJ := hide (show k = j + 1 by omega)
      have hjn : j < n := by omega
      have hjk : j < k := by omega
      obtain ⟨A5, c5, rfl, hR, -⟩ := rows2_of_own hown hrows
      have HR := hide hR; clear hR
      go_wp2
      obtain ⟨wo, rfl⟩ : ∃ wo : World, wo = wr := ⟨_, rfl⟩
      go_loopw [7, 8] (fun v i wr => ∃ q : Nat, 1 ≤ q ∧ q ≤ m + 1 ∧ i = .int .i64 q ∧ wr.ownsRow wo.heap.size 3 1 v q ((tRow (mv a b) k q).map (.int .i64)) ∧ Below wo.heap.size wo wr) (fun _ i _ => m + 1 - (intOf i).toNat)
      case atStart =>
        refine ⟨1, by omega, by omega, rfl, ?_, (Below.refl _ _).alloc (Nat.le_refl _) _⟩
        have h1 : tRow (mv a b) k 1 = [-1] := by rw [HJ.out]; rfl
        rw [h1]
        exact own_one_row (Nat.le_refl _) (-1)
      case round =>
        obtain ⟨q, hq1, hq, rfl, hown2, hB2⟩ := hrel
        by_cases hql : (q : Int) ≤ m
        · obtain ⟨p, hp⟩ : ∃ p : Nat, (q : Int) - 1 = p := ⟨q - 1, by omega⟩
          have HP := hide (show q = p + 1 by omega)
          have hpm : p < m := by omega
          have hpq : p < q := by omega
          obtain ⟨A7, c7, rfl, hO7, -⟩ := own_of_row hown2
          obtain ⟨ad7, rfl, -, hc7⟩ := hO7.ints.2 p hpq
          rw [tRow_nth hpq] at hc7
          obtain ⟨ad5, B5, m5, c5', e5, -, hc5, hI5, -⟩ := (HR.out.below hB2).2 j hjk
          subst e5
          have hl5 : m5 = m + 1 := by
            have := hI5.1
            rw [show nthL (tAll (mv a b) k (m + 1)) j = tRow (mv a b) j (m + 1) by simp [nthL, tAll, hjk], tRow_len] at this
            exact this.symm
          subst hl5
          obtain ⟨ad6, rfl, -, hc6⟩ := hI5.2 p (by omega)
          rw [show nthL (tAll (mv a b) k (m + 1)) j = tRow (mv a b) j (m + 1) by simp [nthL, tAll, hjk], tRow_nth (by omega)] at hc6
          have hBw := below_then hB hB2
          obtain ⟨ad, rfl, -, hca⟩ := (h.below hBw).2 j hjn
          obtain ⟨ad', rfl, -, hcb⟩ := (h'.below hBw).2 p hpm
          have hga := HA.out _ (nth_mem (k := j) (by rw [h.1]; exact hjn))
          have hgb := HB.out _ (nth_mem (k := p) (by rw [h'.1]; exact hpm))
          obtain ⟨d1, d2⟩ := dst_bd hga hgb
          have GA := hide hga; have GB := hide hgb; clear hga hgb
          obtain ⟨m1, m2⟩ := HM.out k p (by omega) (by omega)
          obtain ⟨m3, m4⟩ := HM.out j p (by omega) (by omega)
          have HS : Hid (mv a b k q = mvS (mv a b k p) (mv a b j p) (dst (nth a j) (nth b p))) := by show _ = _; rw [HJ.out, HP.out]; exact mv_succ a b j p
          have HO7 := hide hown2
          clear h h' hI5 hO7
          have p0 : (0 : Int) ≤ p := by omega
          have p1 : (p : Int) < (m : Int) + 1 := by omega
          have p2 : (p : Int) < m := by omega
          have p3 : (p : Int) < q := by omega
          have j0 : (0 : Int) ≤ j := by omega
          have j1 : (j : Int) < n := by omega
          have j2 : (j : Int) < k := by omega
          have fin : ∀ (v' : Value) (w1 : World) (x : Int) (W : World), x = mv a b k q → Below wo.heap.size wo W → w1.ownsRow wo.heap.size 3 1 v' (q + 1) ((tRow (mv a b) k q ++ [x]).map (.int .i64)) → Below wo.heap.size W w1 →
              (w1.ownsRow wo.heap.size 3 1 v' (q + 1) ((tRow (mv a b) k (q + 1)).map (.int .i64)) ∧ Below wo.heap.size wo w1) := fun v' w1 x W hx hbW ho hb1 => by
            rw [tRow_succ, ← hx]; exact ⟨ho, hbW.trans hb1⟩
          have FIN := hide fin; clear fin
          by_cases hp0 : 0 ≤ mv a b j p
          · have e1 : IntKind.i64.wrap ((k : Int) - 1) = j := by rw [hj]; exact IntWalk.i64_in _ ⟨by omega, by omega⟩
            have e2 : IntKind.i64.wrap ((q : Int) - 1) = p := by rw [hp]; exact IntWalk.i64_in _ ⟨by omega, by omega⟩
            have e3 : IntKind.i64.wrap (mv a b j p + dst (nth a j) (nth b p)) = mv a b j p + dst (nth a j) (nth b p) := IntWalk.i64_in _ ⟨by omega, by omega⟩
            rcases (show mv a b k p < 0 ∨ (0 ≤ mv a b k p ∧ mv a b j p + dst (nth a j) (nth b p) < mv a b k p) ∨ (0 ≤ mv a b k p ∧ mv a b k p ≤ mv a b j p + dst (nth a j) (nth b p)) by omega) with g | ⟨g, g'⟩ | ⟨g, g'⟩
            all_goals
              go_wp2
              go_quiet ((go_at_call 81; exact quiet_left (far_any _ _ _ GA.out GB.out)))
              clear e1 e2 e3
              have ho2 := ownsRow_call HO7.out (below_of_drewN wr.heap.size nq)
              have hB3 : Below wo.heap.size wo (wr.drewN nq) := below_then hB2 (below_of_drewN wr.heap.size nq)
              go_wp2_with (at_builtin; refine wpList_app1 rfl _ _ _ rfl wo.heap.size _ Try.underlying23 info_int _ _ _ _ _ (by rfl) (by rfl) ho2 (by omega) hB3.size ?_; intro v' w1 hown' hb')
              go_roundw
              case rel =>
                obtain ⟨r1, r2⟩ := FIN.out v' w1 _ _ (by rw [HS.out, mvS, if_pos hp0]; first | rw [if_pos (by omega)] | rw [if_neg (by omega)]) hB3 hown' hb'
                exact ⟨q + 1, by omega, by omega, by go_num, r1, r2⟩
              case measure => simp [intOf]; omega
          · have hp0' : mv a b j p < 0 := by omega
            go_wp2_with (at_builtin; refine wpList_app1 rfl _ _ _ rfl wo.heap.size _ Try.underlying23 info_int _ _ _ _ _ (by rfl) (by rfl) HO7.out (by omega) hB2.size ?_; intro v' w1 hown' hb')
            go_roundw
            case rel =>
              obtain ⟨r1, r2⟩ := FIN.out v' w1 _ _ (by rw [HS.out, mvS, if_neg (by omega)]) hB2 hown' hb'
              exact ⟨q + 1, by omega, by omega, by go_num, r1, r2⟩
            case measure => simp [intOf]; omega
        · have hqm : (m : Int) < q := by omega
          obtain rfl : q = m + 1 := by omega
          obtain ⟨B7, c7, rfl, hI7, hc7⟩ := IntRow.of_own hown2
          have hown5 := ownsRow_call hown hB2
          have hrows5 := hrows.below hB2
          have hBw := below_then hB hB2
          go_wp2_with (at_builtin; refine wpList_appS rfl _ _ _ rfl w.heap.size _ Try.underlying63 info_ints _ _ _ _ _ _ _ (by rfl) (by rfl) hown5 (by omega) hBw.size ?_; intro v' w1 hown' hb' hkeep')
          go_roundw
          case rel =>
            refine ⟨k + 1, _, by omega, by omega, by go_num, hown', ?_, hBw.trans hb'⟩
            rw [tAll_succ]
            exact ((hrows5.snoc hI7 hc7).keep (hkeep' 3 (by decide)))
          case measure => simp [intOf]; omega
    · have hk' : (n : Int) < k := by omega
      have HK := hide (show k = n + 1 by omega)
      go_wp2
      go_ret
      rw [← HK.out]
      exact retLL_row hown hrows hB
end Go.Proofs.Ytkmogpeiolkpbaa
