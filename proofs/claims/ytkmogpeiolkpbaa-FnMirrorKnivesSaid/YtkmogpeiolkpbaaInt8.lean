/- Contracts of chapter 4: mirrors, knives of a pattern. -/
import Derived.Test.YtkmogpeiolkpbaaInt7
import Derived.Test.YtkmogpeiolkpbaaPl4
namespace Go.Proofs.Ytkmogpeiolkpbaa
open Go.RowKit
set_option linter.unusedVariables false
set_option maxRecDepth 100000

theorem implMirrorKnives (A : Option Addr) (n c : Nat) (xs : List Int) (width : Int) (w : World) (hn : n ≤ 1048576) (h : Ints w A n xs) :
    Calls Try.prog 43 #[.slice A n c, .int .i64 width] w (RetL (mOf xs width) w) := by
  cases h1 : vKn xs
  · have H1 := hide h1; clear h1
    go_enter Try.func43, Try.ntmps43
    go_wp2_with (go_at_call 25; refine (implValidKnives _ _ _ _ _ hn h).mono ?_; rintro e w' ⟨rfl, rfl⟩; rw [H1.out])
    go_ret
    rw [mOf, if_neg (by rw [H1.out]; simp)]
    exact retL_nil (Below.refl _ _)
  obtain ⟨l1, hx, _⟩ := vKn_true h1
  have H1 := hide h1; clear h1
  have HX := hide hx; clear hx
  rw [h.1] at l1
  rcases (show width < 0 ∨ (0 ≤ width ∧ 60 < width) ∨ (0 ≤ width ∧ width ≤ 60) by omega) with g | ⟨g, g'⟩ | ⟨g, g'⟩
  · go_enter Try.func43, Try.ntmps43
    go_wp2_with (go_at_call 25; refine (implValidKnives _ _ _ _ _ hn h).mono ?_; rintro e w' ⟨rfl, rfl⟩; rw [H1.out])
    go_ret
    rw [mOf, if_neg (by omega)]
    exact retL_nil (Below.refl _ _)
  · go_enter Try.func43, Try.ntmps43
    go_wp2_with (go_at_call 25; refine (implValidKnives _ _ _ _ _ hn h).mono ?_; rintro e w' ⟨rfl, rfl⟩; rw [H1.out])
    go_ret
    rw [mOf, if_neg (by omega)]
    exact retL_nil (Below.refl _ _)
  have hmk := fun W => run_make_row' (P := Try.prog) 23 3 (.int .i64 0) 8 Try.underlying23 info_int rfl .i64 .i64 n (by omega) (by omega) W
  go_enter Try.func43, Try.ntmps43
  go_wp2_with (go_at_call 25; refine (implValidKnives _ _ _ _ _ hn h).mono ?_; rintro e w' ⟨rfl, rfl⟩; rw [H1.out])
  go_loopw [24] (fun i wr => ∃ k : Nat, k ≤ n ∧ i = .int .i64 k ∧ allB (xs.take k) 0 width = true ∧ wr.rowIs w.heap.size 3 n (fun i => if n - k ≤ i then .int .i64 (nth (mir xs width) i) else .int .i64 0) ∧ Below w.heap.size w wr) (fun i _ => n - (intOf i).toNat)
  case atStart => exact ⟨0, by omega, rfl, rfl, (World.rowIs_made w (.int .i64 0) n 3).congr (fun i hi => by rw [if_neg (by omega)]), (Below.refl _ _).alloc (Nat.le_refl _) _⟩
  case round =>
    obtain ⟨k, hk, rfl, hT, hrow, hB⟩ := hrel
    clear hmk
    have HT := hide hT; clear hT
    by_cases hlt : k < n
    · have hxl : k < xs.length := by rw [h.1]; exact hlt
      obtain ⟨ad, rfl, hb, hc⟩ := (h.below hB).2 k hlt
      obtain ⟨t3, t4⟩ := HX.out _ (nth_mem hxl)
      have HK := hide hxl; clear hxl
      have HN := hide h.1
      clear h
      by_cases hw : width < nth xs k
      · go_wp2
        go_ret
        rw [mOf, if_neg (by rw [allB_no HK.out (by omega)]; simp)]
        exact retL_nil hB
      · have hw' : nth xs k ≤ width := by omega
        obtain ⟨j, hj⟩ : ∃ j : Nat, (n : Int) - 1 - k = j := ⟨n - 1 - k, by omega⟩
        have hjn : j < n := by omega
        have HJ := hide (show j = n - 1 - k by omega)
        have c1 := hrow.cell hjn
        have f1 := hrow.frozen j
        go_wp2
        go_roundw
        case rel =>
          refine ⟨k + 1, by omega, by go_num, allB_take HK.out HT.out ⟨t3, hw'⟩, (hrow.set j _).congr (fun i hi => ?_), hB.setCell (Nat.le_refl _) _⟩
          have hjk := HJ.out
          by_cases e : i = j
          · subst e
            rw [if_pos rfl, if_pos (by omega), mir_nth (by rw [HN.out]; exact hi), HN.out, show n - 1 - i = k by omega]
          · simp only [if_neg e]
            by_cases h1 : n - k ≤ i
            · rw [if_pos h1, if_pos (by omega)]
            · rw [if_neg h1, if_neg (by omega)]
        case measure => simp [intOf]; omega
    · have : k = n := by omega
      subst this
      go_wp2
      go_ret
      rw [mOf, if_pos ⟨H1.out, ⟨g, g'⟩, allB_all h.1 HT.out⟩]
      exact retL_made (by rw [mir_len, h.1]) hrow (fun i hi => if_pos (by omega)) (Nat.le_refl _) hB
theorem specMirrorKnives (A : Option Addr) (n c : Nat) (xs : List Int) (width : Int) (w : World) (hn : n ≤ 1048576) (h : Ints w A n xs) :
    Calls Try.prog 44 #[.slice A n c, .int .i64 width] w (RetL (mOf xs width) w) := by
  cases h1 : vKn xs
  · have H1 := hide h1; clear h1
    go_enter Try.func44, Try.ntmps44
    go_wp2_with (go_at_call 59; refine (specValidKnives0 _ _ _ _ _ hn h).mono ?_; rintro e w' ⟨rfl, q, rfl⟩; rw [H1.out])
    go_ret
    rw [mOf, if_neg (by rw [H1.out]; simp)]
    exact retL_nil (below_of_drewN _ _)
  obtain ⟨l1, hx, _⟩ := vKn_true h1
  have H1 := hide h1; clear h1
  have HX := hide hx; clear hx
  rw [h.1] at l1
  by_cases g : 0 ≤ width ∧ width ≤ 60
  · have hg : decide (0 ≤ width ∧ width ≤ 60) = true := decide_eq_true g
    obtain ⟨g0, g1⟩ := g
    cases ha : allB xs 0 width
    · have HA := hide ha; clear ha
      go_enter Try.func44, Try.ntmps44
      go_wp2_with (first | (go_at_call 59; refine (specValidKnives0 _ _ _ _ _ hn h).mono ?_; rintro e w' ⟨rfl, q, rfl⟩; rw [H1.out]) | (go_at_call 64; refine (inRange_any _ _ _ _).mono ?_; rintro e w' ⟨rfl, rfl⟩) | (go_at_call 71; refine (allIn_any _ _ _ _ _ _ _ hn (h.drewN _)).mono ?_; rintro e w' ⟨rfl, rfl⟩; rw [HA.out]))
      go_ret
      rw [mOf, if_neg (by rw [HA.out]; simp)]
      exact retL_nil (below_of_drewN _ _)
    · have HA := hide ha; clear ha
      go_enter Try.func44, Try.ntmps44
      go_wp2_with (first | (go_at_call 59; refine (specValidKnives0 _ _ _ _ _ hn h).mono ?_; rintro e w' ⟨rfl, q, rfl⟩; rw [H1.out]) | (go_at_call 64; refine (inRange_any _ _ _ _).mono ?_; rintro e w' ⟨rfl, rfl⟩) | (go_at_call 71; refine (allIn_any _ _ _ _ _ _ _ hn (h.drewN _)).mono ?_; rintro e w' ⟨rfl, rfl⟩; rw [HA.out]))
      clear hg
      go_loopw [5, 6] (fun v i wr => ∃ k : Nat, k ≤ n ∧ i = .int .i64 ((n : Int) - 1 - k) ∧ wr.ownsRow w.heap.size 3 1 v k (((mir xs width).take k).map (.int .i64)) ∧ Below w.heap.size w wr) (fun _ i _ => (intOf i + 1).toNat)
      case atStart => exact ⟨0, by omega, by simp, own_empty_row (w := w.drewN q) (Nat.le_refl _), ((below_of_drewN _ _).alloc (Nat.le_refl _) _)⟩
      case round =>
        obtain ⟨k, hk, rfl, hown, hB⟩ := hrel
        by_cases hlt : k < n
        · obtain ⟨j, hj⟩ : ∃ j : Nat, (n : Int) - 1 - k = j := ⟨n - 1 - k, by omega⟩
          have hjn : j < n := by omega
          have HJ := hide (show j = n - 1 - k by omega)
          obtain ⟨ad, rfl, hb, hc⟩ := (h.below hB).2 j hjn
          obtain ⟨t3, t4⟩ := HX.out _ (nth_mem (k := j) (by rw [h.1]; exact hjn))
          have HT := hide (mir_take (xs := xs) (width := width) (k := k) (by rw [h.1]; exact hlt))
          have HN := hide h.1
          clear h
          go_wp2_with (at_builtin; refine wpList_app1 rfl _ _ _ rfl w.heap.size _ Try.underlying23 info_int _ _ _ _ _ (by rfl) (by rfl) hown (by omega) hB.size ?_; intro v' w1 hown' hb')
          go_roundw
          case rel => exact ⟨k + 1, by omega, by simp; omega, by rw [HT.out, HN.out, ← HJ.out]; exact hown', hB.trans hb'⟩
          case measure => simp [intOf]; omega
        · have : k = n := by omega
          subst this
          have hz : (k : Int) - 1 - k = -1 := by omega
          go_wp2
          go_ret
          rw [mOf, if_pos ⟨H1.out, ⟨g0, g1⟩, HA.out⟩]
          rw [List.take_of_length_le (by rw [mir_len, h.1]; exact Nat.le_refl _)] at hown
          exact retL_row hown hB
  · have hg : decide (0 ≤ width ∧ width ≤ 60) = false := decide_eq_false g
    have G := hide g; clear g
    go_enter Try.func44, Try.ntmps44
    go_wp2_with (first | (go_at_call 59; refine (specValidKnives0 _ _ _ _ _ hn h).mono ?_; rintro e w' ⟨rfl, q, rfl⟩; rw [H1.out]) | (go_at_call 64; refine (inRange_any _ _ _ _).mono ?_; rintro e w' ⟨rfl, rfl⟩))
    go_ret
    rw [mOf, if_neg (fun h => G.out h.2.1)]
    exact retL_nil (below_of_drewN _ _)
end Go.Proofs.Ytkmogpeiolkpbaa
