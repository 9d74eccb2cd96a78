/- Contracts of chapter 4: the table of the program; the least way. -/
import Derived.Test.YtkmogpeiolkpbaaMov1
namespace Go.Proofs.Ytkmogpeiolkpbaa
open Go.RowKit
set_option linter.unusedVariables false
set_option maxRecDepth 100000
theorem lw_far {a b : List Int} {i j : Nat} (hi : 1 ≤ i) (hj : j < i) : lw a b i j = 1441 := by
  obtain ⟨i', rfl⟩ : ∃ i', i = i' + 1 := ⟨i - 1, by omega⟩
  cases j with
  | zero => rfl
  | succ j => rw [lw_succ, if_neg (by omega)]
theorem getD_snoc {vals : List Value} {u z : Value} {i r : Nat} (hv : vals.length = i) : (if r = i then u else (vals[r]?).getD z) = ((vals ++ [u])[r]?).getD z := by
  by_cases e : r = i
  · subst e; rw [if_pos rfl, ← hv]; simp
  · rw [if_neg e]
    by_cases h : r < i
    · rw [List.getElem?_append_left (by omega)]
    · rw [List.getElem?_eq_none (by omega), List.getElem?_eq_none (by simp; omega)]
set_option maxHeartbeats 2000000 in
theorem implLeastWays (A B : Option Addr) (n c m d : Nat) (a b : List Int) (w : World) (hn : n ≤ 24) (hm : m ≤ 24) (h : Ints w A n a) (h' : Ints w B m b) (ha : ∀ x ∈ a, 0 ≤ x ∧ x ≤ 60) (hb : ∀ x ∈ b, 0 ≤ x ∧ x ≤ 60) :
    Calls Try.prog 72 #[.slice A n c, .slice B m d] w (RetLL (tAll (lw a b) (n + 1) (m + 1)) w) := by
  have HA := hide ha; have HB := hide hb; clear ha hb
  have HM := hide (fun i j (hi : i ≤ n) (hj : j ≤ m) => lw_bd HA.out HB.out (by rw [h.1]; exact hn) (i := i) (j := j) (by rw [h.1]; exact hi) (by rw [h'.1]; exact hj))
  have hmk := fun W => run_make_row' (P := Try.prog) 23 3 (.int .i64 0) 8 Try.underlying23 info_int rfl .i64 .i64 (m + 1) (by omega) (by omega) W
  rw [show ((m + 1 : Nat) : Int) = (m : Int) + 1 by omega] at hmk
  have hmk2 := fun W => run_make_row' (P := Try.prog) 63 23 (.slice none 0 0) 24 Try.underlying63 info_ints rfl .i64 .i64 (n + 1) (by omega) (by omega) W
  rw [show ((n + 1 : Nat) : Int) = (n : Int) + 1 by omega] at hmk2
  go_enter Try.func72, Try.ntmps72
  go_wp2
  clear hmk2
  go_loopw [15] (fun i wr => ∃ (k : Nat) (vals : List Value), k ≤ n + 1 ∧ i = .int .i64 k ∧ vals.length = k ∧ wr.rowIs w.heap.size 23 (n + 1) (fun r => (vals[r]?).getD (.slice none 0 0)) ∧ RowsV wr 3 vals (tAll (lw a b) k (m + 1)) ∧ Below w.heap.size w wr) (fun i _ => n + 1 - (intOf i).toNat)
  case atStart => exact ⟨0, [], by omega, rfl, rfl, (World.rowIs_made w (.slice none 0 0) (n + 1) 23).congr (fun i _ => by simp), RowsV.nil, (Below.refl _ _).alloc (Nat.le_refl _) _⟩
  case round =>
    obtain ⟨k, vals, hk, rfl, hvl, hrow, hrows, hB⟩ := hrel
    have HVL := hide hvl; clear hvl
    by_cases hlt : (k : Int) < (n : Int) + 1
    · have hkn : k < n + 1 := by omega
      have c0 := hrow.cell hkn
      have f0 := hrow.frozen k
      have hg0 := hrow.lt
      have hgs : w.heap.size < wr.heap.size := hg0
      have r1 := ((hrow.set k (.slice (some ⟨wr.heap.size, 0, none⟩) (m + 1) (m + 1))).alloc (.cells (madeCells #[.int .i64 0] (m + 1)) 3))
      have r2 : ((wr.setCell ⟨w.heap.size, k, none⟩ (.slice (some ⟨wr.heap.size, 0, none⟩) (m + 1) (m + 1))).alloc (.cells (madeCells #[.int .i64 0] (m + 1)) 3)).rowIs wr.heap.size 3 (m + 1) (fun _ => .int .i64 0) := by
        have := World.rowIs_made (wr.setCell ⟨w.heap.size, k, none⟩ (.slice (some ⟨wr.heap.size, 0, none⟩) (m + 1) (m + 1))) (.int .i64 0) (m + 1) 3
        simpa [World.setCell] using this
      have hB1 : Below w.heap.size w ((wr.setCell ⟨w.heap.size, k, none⟩ (.slice (some ⟨wr.heap.size, 0, none⟩) (m + 1) (m + 1))).alloc (.cells (madeCells #[.int .i64 0] (m + 1)) 3)) := (hB.setCell (Nat.le_refl _) _).alloc (by simpa [World.setCell] using hB.size) _
      have hrows1 : RowsV ((wr.setCell ⟨w.heap.size, k, none⟩ (.slice (some ⟨wr.heap.size, 0, none⟩) (m + 1) (m + 1))).alloc (.cells (madeCells #[.int .i64 0] (m + 1)) 3)) 3 vals (tAll (lw a b) k (m + 1)) ∧ ∀ (g : Nat) (cs : Array Value), ((wr.setCell ⟨w.heap.size, k, none⟩ (.slice (some ⟨wr.heap.size, 0, none⟩) (m + 1) (m + 1))).alloc (.cells (madeCells #[.int .i64 0] (m + 1)) 3)).heap[g]? = some (.cells cs 3 (0, 0)) → g < wr.heap.size → wr.heap[g]? = some (.cells cs 3 (0, 0)) := by
        have hne : ∀ (g : Nat) (cs : Array Value), wr.heap[g]? = some (.cells cs 3 (0, 0)) → g ≠ w.heap.size := fun g cs hh e => by
          subst e
          obtain ⟨c', hc', _⟩ := hrow
          rw [hh] at hc'
          injection hc' with hc'
          injection hc' with _ hc'
          exact absurd hc' (by decide)
        refine ⟨hrows.keep fun g cs hh => ?_, fun g cs hh hg => ?_⟩
        · rw [Below.heap_alloc _ _ _ (by simpa [World.setCell] using heap_lt hh), Below.heap_setCell _ _ _ _ (hne g cs hh)]
        · rw [Below.heap_alloc _ _ _ (by simpa [World.setCell] using hg)] at hh
          by_cases e : g = w.heap.size
          · subst e
            obtain ⟨c', hc', _⟩ := hrow.set k (.slice (some ⟨wr.heap.size, 0, none⟩) (m + 1) (m + 1))
            rw [hh] at hc'
            injection hc' with hc'
            injection hc' with _ hc'
            exact absurd hc' (by decide)
          · rwa [Below.heap_setCell _ _ _ _ e] at hh
      have hlow : ∀ q, q < vals.length → ∀ B' m' c', vals[q]? = some (.slice B' m' c') → ∀ ad, B' = some ad → 0 < m' → ad.block < wr.heap.size := fun q hq B' m' c' e ad hB' hm' => by
        obtain ⟨B2, m2, c2, e2, hI2, _⟩ := hrows.2 q hq
        rw [e] at e2
        injection e2 with e2
        injection e2 with x1 x2 x3
        subst x1 x2 x3
        obtain ⟨g, cs, e3, hh, _⟩ := hI2.2 hm'
        rw [hB'] at e3
        injection e3 with e3
        subst e3
        exact heap_lt hh
      have HLOW := hide hlow; clear hlow
      have R1 := hide r1; have R2 := hide r2; have HB1 := hide hB1; have HR1 := hide hrows1.1
      have hne : ¬ w.heap.size = wr.heap.size := by omega
      clear r1 r2 hB1
      go_wp2
      clear hmk c0 f0
      generalize (wr.setCell ⟨w.heap.size, k, none⟩ (.slice (some ⟨wr.heap.size, 0, none⟩) (m + 1) (m + 1))).alloc (.cells (madeCells #[.int .i64 0] (m + 1)) 3) = W1 at *
      clear hrow hrows hB hg0 hne hrows1
      generalize wr.heap.size = G at *
      obtain ⟨wo, rfl⟩ : ∃ wo : World, wo = wr := ⟨_, rfl⟩
      go_loopw [30] (fun i wr => ∃ j : Nat, j ≤ m + 1 ∧ i = .int .i64 j ∧ wr.rowIs G 3 (m + 1) (fun q => if q < j then .int .i64 (lw a b k q) else .int .i64 0) ∧ Below G W1 wr) (fun i _ => m + 1 - (intOf i).toNat)
      case atStart => exact ⟨0, by omega, rfl, R2.out.congr (fun q _ => by simp), Below.refl _ _⟩
      case round =>
        obtain ⟨j, hj, rfl, hrow2, hB2⟩ := hrel
        by_cases hjl : (j : Int) < (m : Int) + 1
        · have hjm : j < m + 1 := by omega
          have cj := hrow2.cell hjm
          have fj := hrow2.frozen j
          rw [if_neg (by omega)] at cj
          have r1 := rowIs_below R1.out hB2 hgs
          have ck := r1.cell hkn
          rw [if_pos rfl] at ck
          have hBw : Below w.heap.size w wr := HB1.out.trans (hB2.mono (by omega))
          by_cases hk0 : k = 0
          · have hd : ((k : Int) == 0) = true := by simp [hk0]
            have HK0 := hide hk0; clear hk0
            go_wp2
            go_roundw
            case rel =>
              refine ⟨j + 1, by omega, by go_num, hrow2.congr (fun q _ => ?_), hB2⟩
              by_cases e : q < j
              · rw [if_pos e, if_pos (by omega)]
              · rw [if_neg e]
                by_cases e2 : q < j + 1
                · rw [if_pos e2, HK0.out]; rfl
                · rw [if_neg e2]
            case measure => simp [intOf]; omega
          · have hd : ((k : Int) == 0) = false := by simpa using hk0
            obtain ⟨i1, hi1⟩ : ∃ i1 : Nat, (k : Int) - 1 = i1 := ⟨k - 1, by omega⟩
            have HI := hide (show k = i1 + 1 by omega)
            have hin : i1 < n := by omega
            have hik : i1 < k := by omega
            clear hk0
            have s1 := hrow2.set j (.int .i64 1441)
            have hB3 : Below G W1 (wr.setCell ⟨G, j, none⟩ (.int .i64 1441)) := hB2.setCell (Nat.le_refl _) _
            have S1 := hide s1; have HB3 := hide hB3; clear s1 hB3
            by_cases hjk : (k : Int) ≤ j
            · obtain ⟨p, hp⟩ : ∃ p : Nat, (j : Int) - 1 = p := ⟨j - 1, by omega⟩
              have HP := hide (show j = p + 1 by omega)
              have hpm : p < m := by omega
              have hpj : p < j := by omega
              go_wp2
              generalize wr.setCell ⟨G, j, none⟩ (.int .i64 1441) = W2 at *
              have hBw2 : Below w.heap.size w W2 := HB1.out.trans (HB3.out.mono (by omega))
              have r2 := rowIs_below R1.out HB3.out hgs
              have ck2 := r2.cell hkn
              rw [if_pos rfl] at ck2
              have ci2 := r2.cell (i := i1) (by omega)
              rw [if_neg (by omega)] at ci2
              obtain ⟨B', m', c', e', hI', -⟩ := (HR1.out.low HLOW.out HB3.out).2 i1 (by rw [HVL.out]; exact hik)
              rw [e'] at ci2
              simp only [Option.getD_some] at ci2
              rw [show nthL (tAll (lw a b) k (m + 1)) i1 = tRow (lw a b) i1 (m + 1) by simp [nthL, tAll, hik]] at hI'
              have hm' : m' = m + 1 := by have := hI'.1; rw [tRow_len] at this; exact this.symm
              subst hm'
              obtain ⟨ad6, rfl, -, hc6⟩ := hI'.ints.2 p (by omega)
              rw [tRow_nth (by omega)] at hc6
              obtain ⟨ad, rfl, -, hca⟩ := (h.below hBw2).2 i1 hin
              obtain ⟨ad', rfl, -, hcb⟩ := (h'.below hBw2).2 p hpm
              have hga := HA.out _ (nth_mem (k := i1) (by rw [h.1]; exact hin))
              have hgb := HB.out _ (nth_mem (k := p) (by rw [h'.1]; exact hpm))
              obtain ⟨d1, d2⟩ := dst_bd hga hgb
              have GA := hide hga; have GB := hide hgb; clear hga hgb
              obtain ⟨m1, m2⟩ := HM.out k p (by omega) (by omega)
              obtain ⟨m3, m4⟩ := HM.out i1 p (by omega) (by omega)
              have cp := S1.out.cell (i := p) (by omega)
              rw [if_neg (by omega), if_pos hpj] at cp
              have cj2 := S1.out.cell (i := j) (by omega)
              rw [if_pos rfl] at cj2
              have fj2 := S1.out.frozen j
              have HS : Hid (lw a b k j = min (lw a b k p) (lw a b i1 p + dst (nth a i1) (nth b p))) := by
                show _ = _
                rw [HI.out, HP.out, lw_succ, if_pos (by have := HI.out; have := HP.out; omega)]
              clear h h' hI' cj fj r1 ck hrow2 hB2 hBw e'
              have p0 : (0 : Int) ≤ p := by omega
              have p1 : (p : Int) < (m : Int) + 1 := by omega
              have p2 : (p : Int) < m := by omega
              have j0 : (0 : Int) ≤ j := by omega
              have i0 : (0 : Int) ≤ i1 := by omega
              have i2 : (i1 : Int) < n := by omega
              have i3 : (i1 : Int) < (n : Int) + 1 := by omega
              have k0 : (0 : Int) ≤ k := by omega
              have e1 : IntKind.i64.wrap ((k : Int) - 1) = i1 := by rw [hi1]; exact IntWalk.i64_in _ ⟨by omega, by omega⟩
              have e2 : IntKind.i64.wrap ((j : Int) - 1) = p := by rw [hp]; exact IntWalk.i64_in _ ⟨by omega, by omega⟩
              have e3 : IntKind.i64.wrap (lw a b i1 p + dst (nth a i1) (nth b p)) = lw a b i1 p + dst (nth a i1) (nth b p) := IntWalk.i64_in _ ⟨by omega, by omega⟩
              go_quiet ((go_at_call 79; exact quiet_left (way_any _ _ _ GA.out GB.out)))
              go_wp2
              go_region
              clear e1 e2 e3
              go_wp2
              go_roundw
              case rel =>
                refine ⟨j + 1, by omega, by go_num, (by first | exact (((rowIs_drewN S1.out _).set j _).drew) | exact ((S1.out.set j _)) : World.rowIs _ G 3 (m + 1) _).congr (fun q _ => ?_), by first | exact ((below_drewN HB3.out _).setCell (p := ⟨G, j, none⟩) (Nat.le_refl _) _).drew | exact ((below_drewN HB3.out _).setCell (p := ⟨G, j, none⟩) (Nat.le_refl _) _) | exact (HB3.out.setCell (p := ⟨G, j, none⟩) (Nat.le_refl _) _)⟩
                by_cases e : q = j
                · subst e
                  rw [if_pos rfl, if_pos (show q < q + 1 by omega), HS.out]
                  first | rfl | (congr 1; omega) | (congr 1; split <;> omega)
                · simp only [if_neg e]
                  by_cases e1 : q < j
                  · rw [if_pos e1, if_pos (by omega)]
                  · rw [if_neg e1, if_neg (by omega)]
              case measure => simp [intOf]; omega
            · have hjk' : (j : Int) < k := by omega
              go_wp2
              go_roundw
              case rel =>
                refine ⟨j + 1, by omega, by go_num, S1.out.congr (fun q _ => ?_), HB3.out⟩
                by_cases e : q = j
                · subst e
                  rw [if_pos rfl, if_pos (by omega), lw_far (by omega) (by omega)]
                · simp only [if_neg e]
                  by_cases e1 : q < j
                  · rw [if_pos e1, if_pos (by omega)]
                  · rw [if_neg e1, if_neg (by omega)]
              case measure => simp [intOf]; omega
        · have hjm' : (m : Int) + 1 ≤ j := by omega
          have HJ := hide (show j = m + 1 by omega)
          have r1 := rowIs_below R1.out hB2 hgs
          go_wp2
          go_roundw
          case rel =>
            refine ⟨k + 1, vals ++ [.slice (some ⟨G, 0, none⟩) (m + 1) (m + 1)], by omega, by go_num, by simp [HVL.out], r1.congr (fun r hr => getD_snoc HVL.out), ?_, HB1.out.trans (hB2.mono (by omega))⟩
            rw [tAll_succ]
            refine RowsV.snoc ?_ (IntRow.of_row (tRow_len _ _ _) hrow2 (fun q hq => by rw [if_pos (by have := HJ.out; omega), tRow_nth hq])) (Nat.le_refl _)
            exact HR1.out.low HLOW.out hB2
          case measure => simp [intOf]; omega
    · have hk' : (n : Int) + 1 ≤ k := by omega
      have HK := hide (show k = n + 1 by omega)
      go_wp2
      go_ret
      rw [← HK.out]
      exact retLL_made HVL.out (by rw [HK.out]; exact hrow) hrows hB
end Go.Proofs.Ytkmogpeiolkpbaa
