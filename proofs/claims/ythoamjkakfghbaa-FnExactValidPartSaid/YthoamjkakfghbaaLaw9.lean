/- The exact laws of reels and their parts. -/
import Derived.Test.YthoamjkakfghbaaRee5
namespace Go.Proofs.Ythoamjkakfghbaa
open Go.RowKit
attribute [local go_sem ↓] Go.wp_at_zero Go.wp_at_succ
set_option linter.unusedVariables false
set_option maxRecDepth 100000
set_option maxHeartbeats 4000000 in
theorem lawValidReel (W L : Int) (A : Option Addr) (n c : Nat) (ds : List D5) (w : World) (zW : (Lit.int .i64 W).wf = true) (zL : (Lit.int .i64 L).wf = true) (h : DfA w A n ds ∧ (n : Int) ≤ 9223372036854775807) :
    Calls Try.prog 6 #[reel W L A n c] w fun e w' => e = .returned (.bool true) ∧ Below w.heap.size w w' := by
  clear zW zL
  obtain ⟨h, hbig⟩ := h
  by_cases g : ¬ (n : Int) ≤ 1048576
  · have HS := hide (fun w => szReel_any W L A n c w hbig)
    rw [if_neg g] at HS
    clear h g
    go_enter Try.func6, Try.ntmps6
    go_wp2_with fail
    refine (HS.out _).mono ?_; rintro e w1 ⟨rfl, hb⟩
    have HB : Below w.heap.size w w1 := below_next (by go_grown) (by go_size) hb
    go_wp2_with fail
    go_ret
    exact ⟨rfl, HB⟩
  have g' : (n : Int) ≤ 1048576 := Classical.byContradiction g
  clear g
  have hn : n ≤ 1048576 := by omega
  have HS := hide (fun w => szReel_any W L A n c w hbig)
  rw [if_pos g'] at HS
  have HH := hide h; clear h
  go_enter Try.func6, Try.ntmps6
  go_wp2_with fail
  refine (HS.out _).mono ?_
  rintro e w1 ⟨rfl, hb⟩
  have B1 : Hid (Below w.heap.size w w1) := hide (below_next (by go_grown) (by go_size) hb)
  have KA1 : Hid (Bk w1 (w.heap.size) 30 #[.int .i64 W, .int .i64 L, .slice A n c]) := hide (by have := Bk.call (Bk.made w 30 #[.int .i64 W, .int .i64 L, .slice A n c]) hb; simpa using this)
  clear hb
  obtain ⟨qA0, qA1, qA2, -, -, -⟩ := KA1.out.three
  clear HS
  have BX := B1
  go_wp2_with fail
  refine (toReel_ret W L A n c ds _ hn (HH.out.below B1.out)).mono ?_
  rintro e w2 ⟨B1x, d1x, rfl, hD, hb⟩
  have B2 : Hid (Below w.heap.size w w2) := (by first | exact hide (below_then B1.out hb) | exact hide (below_then (below_drewN B1.out 1) hb))
  have KA2 : Hid (Bk w2 (w.heap.size) 30 #[.int .i64 W, .int .i64 L, .slice A n c]) := (by first | exact hide (Bk.call KA1.out hb) | exact hide (Bk.call KA1.out.drew hb))
  have D12 := hide hD
  clear hb KA1 qA0 qA1 qA2 hD B1
  obtain ⟨qA0, qA1, qA2, -, -, -⟩ := KA2.out.three
  go_wp2_with fail
  refine (specValidReel _ _ _ _ _ ds _ hn D12.out).mono ?_
  rintro e w3 ⟨rfl, hb⟩
  have B3 : Hid (Below w.heap.size w w3) := (by first | exact hide (below_then B2.out hb) | exact hide (below_then (below_drewN B2.out 1) hb))
  have KA3 : Hid (Bk w3 (w.heap.size) 30 #[.int .i64 W, .int .i64 L, .slice A n c]) := (by first | exact hide (Bk.call KA2.out hb) | exact hide (Bk.call KA2.out.drew hb))
  have D13 : Hid (Dfs w3 B1x n ds) := (by first | exact hide (Dfs.below D12.out hb) | exact hide (Dfs.below D12.out.drew hb))
  clear hb KA2 qA0 qA1 qA2 D12 B2
  obtain ⟨qA0, qA1, qA2, -, -, -⟩ := KA3.out.three
  go_wp2_with fail
  refine (toReel_ret W L A n c ds _ hn (HH.out.below B3.out)).mono ?_
  rintro e w4 ⟨B2x, d2x, rfl, hD, hb⟩
  have B4 : Hid (Below w.heap.size w w4) := (by first | exact hide (below_then B3.out hb) | exact hide (below_then (below_drewN B3.out 1) hb))
  have KA4 : Hid (Bk w4 (w.heap.size) 30 #[.int .i64 W, .int .i64 L, .slice A n c]) := (by first | exact hide (Bk.call KA3.out hb) | exact hide (Bk.call KA3.out.drew hb))
  have D14 : Hid (Dfs w4 B1x n ds) := (by first | exact hide (Dfs.below D13.out hb) | exact hide (Dfs.below D13.out.drew hb))
  have D24 := hide hD
  clear hb KA3 qA0 qA1 qA2 D13 hD B3
  obtain ⟨qA0, qA1, qA2, -, -, -⟩ := KA4.out.three
  go_wp2_with fail
  refine (implValidReel _ _ _ _ _ ds _ hn (D24.out.alloc _)).mono ?_
  rintro e w5 ⟨rfl, hb⟩
  have B5 : Hid (Below w.heap.size w w5) := (by first | exact hide (below_then (Below.alloc B4.out (Below.size B4.out) _) hb) | exact hide (below_then (below_drewN (Below.alloc B4.out (Below.size B4.out) _) 1) hb))
  have KA5 : Hid (Bk w5 (w.heap.size) 30 #[.int .i64 W, .int .i64 L, .slice A n c]) := (by first | exact hide (Bk.call (Bk.alloc KA4.out _) hb) | exact hide (Bk.call (Bk.alloc KA4.out _).drew hb))
  have KX5 : Hid (Bk w5 (w4.heap.size) 35 #[.int .i64 W, .int .i64 L, .slice B2x n d2x]) := hide (by have := Bk.call (Bk.made w4 35 #[.int .i64 W, .int .i64 L, .slice B2x n d2x]) hb; simpa using this)
  have D15 : Hid (Dfs w5 B1x n ds) := (by first | exact hide (Dfs.below (Dfs.alloc D14.out _) hb) | exact hide (Dfs.below (Dfs.alloc D14.out _).drew hb))
  have D25 : Hid (Dfs w5 B2x n ds) := (by first | exact hide (Dfs.below (Dfs.alloc D24.out _) hb) | exact hide (Dfs.below (Dfs.alloc D24.out _).drew hb))
  clear hb KA4 qA0 qA1 qA2 D14 D24 B4
  obtain ⟨qA0, qA1, qA2, -, -, -⟩ := KA5.out.three
  obtain ⟨qX0, qX1, qX2, -, -, -⟩ := KX5.out.three
  go_wp2_with fail
  refine wp_region_held_drew (S := fun w' => w'.cell? ⟨(w4.heap.size), 0, none⟩ = some (.int .i64 W) ∧ w'.cell? ⟨(w4.heap.size), 1, none⟩ = some (.int .i64 L) ∧ w'.cell? ⟨(w4.heap.size), 2, none⟩ = some (.slice B2x n d2x) ∧ w'.cell? ⟨(w.heap.size), 0, none⟩ = some (.int .i64 W) ∧ w'.cell? ⟨(w.heap.size), 1, none⟩ = some (.int .i64 L) ∧ w'.cell? ⟨(w.heap.size), 2, none⟩ = some (.slice A n c)) (by kernel_rfl) ?hS1 (fun hHeld => ?_)
  case hS1 => ((try dsimp only); (repeat' apply And.intro) <;> (first | (with_reducible assumption) | (rw [World.cell?_drew]; with_reducible assumption) | (simp [*]; done)))
  refine wpAnyH_take (i := 0) (v := ?v2) (by simp only [List.getElem?_toArray, List.getElem?_cons_zero]; rfl) (by kernel_rfl) (by kernel_rfl) (by kernel_rfl) (by exact fun _ _ _ h => h) (Or.inl ⟨by rfl, ?hy2⟩) (by assumption) ?rest2
  case hy2 => (intro w hSw; (try dsimp only at hSw); go_simp; (try with_reducible rfl))
  (try simp only [Act.put, List.setIfInBounds_toArray, List.set_cons_zero, List.set_cons_succ])
  refine wpAnyH_take (i := 1) (v := ?v3) (by simp only [List.getElem?_toArray, List.getElem?_cons_succ, List.getElem?_cons_zero]; rfl) (by kernel_rfl) (by kernel_rfl) (by kernel_rfl) (by exact fun _ _ _ h => h) (Or.inl ⟨by rfl, ?hy3⟩) (by assumption) ?rest3
  case hy3 => (intro w hSw; (try dsimp only at hSw); go_simp; (try with_reducible rfl))
  (try simp only [Act.put, List.setIfInBounds_toArray, List.set_cons_zero, List.set_cons_succ])
  refine wpAnyH_ready (rs := [2]) (by kernel_rfl) (by simp) (AllReadyH.cons (by simp only [List.getElem?_toArray, List.getElem?_cons_succ, List.getElem?_cons_zero]; rfl) (fun K hK => ?_) AllReadyH.nil)
  go_simp
  refine (toReel_ret W L A n c ds _ hn (HH.out.below (by first | exact below_drewN B5.out 1 | exact B5.out))).mono ?_; rintro e w6 ⟨B3x, d3x, rfl, hD, hb⟩; have B6 : Hid (Below w.heap.size w w6) := (by first | exact hide (below_then B5.out hb) | exact hide (below_then (below_drewN B5.out 1) hb)); have KA6 : Hid (Bk w6 (w.heap.size) 30 #[.int .i64 W, .int .i64 L, .slice A n c]) := (by first | exact hide (Bk.call KA5.out hb) | exact hide (Bk.call KA5.out.drew hb)); have KX6 : Hid (Bk w6 (w4.heap.size) 35 #[.int .i64 W, .int .i64 L, .slice B2x n d2x]) := (by first | exact hide (Bk.call KX5.out hb) | exact hide (Bk.call KX5.out.drew hb)); have D16 : Hid (Dfs w6 B1x n ds) := (by first | exact hide (Dfs.below D15.out hb) | exact hide (Dfs.below D15.out.drew hb)); have D26 : Hid (Dfs w6 B2x n ds) := (by first | exact hide (Dfs.below D25.out hb) | exact hide (Dfs.below D25.out.drew hb)); have D36 := hide hD; clear hb qA0 qA1 qA2 qX0 qX1 qX2 hD; obtain ⟨qA0, qA1, qA2, -, -, -⟩ := KA6.out.three; obtain ⟨qX0, qX1, qX2, -, -, -⟩ := KX6.out.three
  (try go_wp2_with fail)
  clear hHeld
  refine hK.out _ _ ?hS4 (fun hHeld => ?_)
  case hS4 => ((try dsimp only); (repeat' apply And.intro) <;> (first | (with_reducible assumption) | (rw [World.cell?_drew]; with_reducible assumption) | (simp [*]; done)))
  clear hK K
  (try simp only [Act.put, List.setIfInBounds_toArray, List.set_cons_zero, List.set_cons_succ])
  refine wpAnyH_ready (rs := [3]) (by kernel_rfl) (by simp) (AllReadyH.cons (by simp only [List.getElem?_toArray, List.getElem?_cons_succ, List.getElem?_cons_zero]; rfl) (fun K hK => ?_) AllReadyH.nil)
  go_simp
  refine (eqReel_same _ _ _ _ n _ _ ds _ hn (by first | exact D26.out | exact Dfs.drew D26.out) (by first | exact D36.out | exact Dfs.drew D36.out)).mono ?_; rintro e w7 ⟨rfl, hb⟩; have B7 : Hid (Below w.heap.size w w7) := (by first | exact hide (below_then B6.out hb) | exact hide (below_then (below_drewN B6.out 1) hb)); have KA7 : Hid (Bk w7 (w.heap.size) 30 #[.int .i64 W, .int .i64 L, .slice A n c]) := (by first | exact hide (Bk.call KA6.out hb) | exact hide (Bk.call KA6.out.drew hb)); have KX7 : Hid (Bk w7 (w4.heap.size) 35 #[.int .i64 W, .int .i64 L, .slice B2x n d2x]) := (by first | exact hide (Bk.call KX6.out hb) | exact hide (Bk.call KX6.out.drew hb)); have D17 : Hid (Dfs w7 B1x n ds) := (by first | exact hide (Dfs.below D16.out hb) | exact hide (Dfs.below D16.out.drew hb)); have D27 : Hid (Dfs w7 B2x n ds) := (by first | exact hide (Dfs.below D26.out hb) | exact hide (Dfs.below D26.out.drew hb)); have D37 : Hid (Dfs w7 B3x n ds) := (by first | exact hide (Dfs.below D36.out hb) | exact hide (Dfs.below D36.out.drew hb)); clear hb qA0 qA1 qA2 qX0 qX1 qX2; obtain ⟨qA0, qA1, qA2, -, -, -⟩ := KA7.out.three; obtain ⟨qX0, qX1, qX2, -, -, -⟩ := KX7.out.three
  (try go_wp2_with fail)
  clear hHeld
  refine hK.out _ _ ?hS5 (fun hHeld => ?_)
  case hS5 => ((try dsimp only); (repeat' apply And.intro) <;> (first | (with_reducible assumption) | (rw [World.cell?_drew]; with_reducible assumption) | (simp [*]; done)))
  clear hK K
  (try simp only [Act.put, List.setIfInBounds_toArray, List.set_cons_zero, List.set_cons_succ])
  refine wpAnyH_take (i := 4) (v := ?v6) (by simp only [List.getElem?_toArray, List.getElem?_cons_succ, List.getElem?_cons_zero]; rfl) (by kernel_rfl) (by kernel_rfl) (by kernel_rfl) (by exact fun _ _ _ h => h) (Or.inl ⟨by rfl, ?hy6⟩) (by assumption) ?rest6
  case hy6 => (intro w hSw; (try dsimp only at hSw); go_simp; (try with_reducible rfl))
  (try simp only [Act.put, List.setIfInBounds_toArray, List.set_cons_zero, List.set_cons_succ])
  refine wpAnyH_done (by kernel_rfl) ?_ _
  go_wp2_with fail
  go_ret
  exact ⟨rfl, B7.out⟩
set_option maxHeartbeats 4000000 in
theorem lawValidPart (W L : Int) (A : Option Addr) (n c : Nat) (ds : List D5) (l r f t : Int) (w : World) (zW : (Lit.int .i64 W).wf = true) (zL : (Lit.int .i64 L).wf = true) (h : DfA w A n ds ∧ (n : Int) ≤ 9223372036854775807) (zl : (Lit.int .i64 l).wf = true) (zr : (Lit.int .i64 r).wf = true) (zf : (Lit.int .i64 f).wf = true) (zt : (Lit.int .i64 t).wf = true) :
    Calls Try.prog 7 #[reel W L A n c, part l r f t] w fun e w' => e = .returned (.bool true) ∧ Below w.heap.size w w' := by
  clear zW zL zl zr zf zt
  obtain ⟨h, hbig⟩ := h
  by_cases g : ¬ (n : Int) ≤ 1048576
  · have HS := hide (fun w => szReel_any W L A n c w hbig)
    rw [if_neg g] at HS
    clear h g
    go_enter Try.func7, Try.ntmps7
    go_wp2_with fail
    refine (HS.out _).mono ?_; rintro e w1 ⟨rfl, hb⟩
    have HB : Below w.heap.size w w1 := below_next (by go_grown) (by go_size) hb
    go_wp2_with fail
    go_ret
    exact ⟨rfl, HB⟩
  have g' : (n : Int) ≤ 1048576 := Classical.byContradiction g
  clear g
  have hn : n ≤ 1048576 := by omega
  have HS := hide (fun w => szReel_any W L A n c w hbig)
  rw [if_pos g'] at HS
  have HH := hide h; clear h
  go_enter Try.func7, Try.ntmps7
  go_wp2_with fail
  refine (HS.out _).mono ?_
  rintro e w1 ⟨rfl, hb⟩
  have B1 : Hid (Below w.heap.size w w1) := hide (below_next (by go_grown) (by go_size) hb)
  have KA1 : Hid (Bk w1 (w.heap.size) 30 #[.int .i64 W, .int .i64 L, .slice A n c]) := hide (by have := Bk.call (Bk.alloc (Bk.made w 30 #[.int .i64 W, .int .i64 L, .slice A n c]) _) hb; simpa using this)
  have KP1 : Hid (Bk w1 (w.heap.size + 1) 40 #[.int .i64 l, .int .i64 r, .int .i64 f, .int .i64 t]) := hide (by have := Bk.call (Bk.made (w.alloc (.cells #[.int .i64 W, .int .i64 L, .slice A n c] 30)) 40 #[.int .i64 l, .int .i64 r, .int .i64 f, .int .i64 t]) hb; simpa using this)
  clear hb
  obtain ⟨qA0, qA1, qA2, -, -, -⟩ := KA1.out.three
  obtain ⟨qP0, qP1, qP2, qP3⟩ := KP1.out.four
  clear HS
  go_wp2_with fail
  refine wp_region_held_drew (S := fun w' => w'.cell? ⟨(w.heap.size), 0, none⟩ = some (.int .i64 W) ∧ w'.cell? ⟨(w.heap.size), 1, none⟩ = some (.int .i64 L) ∧ w'.cell? ⟨(w.heap.size), 2, none⟩ = some (.slice A n c) ∧ w'.cell? ⟨(w.heap.size + 1), 0, none⟩ = some (.int .i64 l) ∧ w'.cell? ⟨(w.heap.size + 1), 1, none⟩ = some (.int .i64 r) ∧ w'.cell? ⟨(w.heap.size + 1), 2, none⟩ = some (.int .i64 f) ∧ w'.cell? ⟨(w.heap.size + 1), 3, none⟩ = some (.int .i64 t)) (by kernel_rfl) ?hS7 (fun hHeld => ?_)
  case hS7 => ((try dsimp only); (repeat' apply And.intro) <;> (first | (with_reducible assumption) | (rw [World.cell?_drew]; with_reducible assumption) | (simp [*]; done)))
  refine wpAnyH_take (i := 0) (v := ?v8) (by simp only [List.getElem?_toArray, List.getElem?_cons_zero]; rfl) (by kernel_rfl) (by kernel_rfl) (by kernel_rfl) (by exact fun _ _ _ h => h) (Or.inl ⟨by rfl, ?hy8⟩) (by assumption) ?rest8
  case hy8 => (intro w hSw; (try dsimp only at hSw); go_simp; (try with_reducible rfl))
  (try simp only [Act.put, List.setIfInBounds_toArray, List.set_cons_zero, List.set_cons_succ])
  refine wpAnyH_take (i := 2) (v := ?v9) (by simp only [List.getElem?_toArray, List.getElem?_cons_succ, List.getElem?_cons_zero]; rfl) (by kernel_rfl) (by kernel_rfl) (by kernel_rfl) (by exact fun _ _ _ h => h) (Or.inl ⟨by rfl, ?hy9⟩) (by assumption) ?rest9
  case hy9 => (intro w hSw; (try dsimp only at hSw); go_simp; (try with_reducible rfl))
  (try simp only [Act.put, List.setIfInBounds_toArray, List.set_cons_zero, List.set_cons_succ])
  refine wpAnyH_ready (rs := [1]) (by kernel_rfl) (by simp) (AllReadyH.cons (by simp only [List.getElem?_toArray, List.getElem?_cons_succ, List.getElem?_cons_zero]; rfl) (fun K hK => ?_) AllReadyH.nil)
  go_simp
  refine (toReel_ret W L A n c ds _ hn (HH.out.below (by first | exact below_drewN B1.out 1 | exact B1.out))).mono ?_; rintro e w2 ⟨B1x, d1x, rfl, hD, hb⟩; have B2 : Hid (Below w.heap.size w w2) := (by first | exact hide (below_then B1.out hb) | exact hide (below_then (below_drewN B1.out 1) hb)); have KA2 : Hid (Bk w2 (w.heap.size) 30 #[.int .i64 W, .int .i64 L, .slice A n c]) := (by first | exact hide (Bk.call KA1.out hb) | exact hide (Bk.call KA1.out.drew hb)); have KP2 : Hid (Bk w2 (w.heap.size + 1) 40 #[.int .i64 l, .int .i64 r, .int .i64 f, .int .i64 t]) := (by first | exact hide (Bk.call KP1.out hb) | exact hide (Bk.call KP1.out.drew hb)); have D12 := hide hD; clear hb qA0 qA1 qA2 qP0 qP1 qP2 qP3 hD; obtain ⟨qA0, qA1, qA2, -, -, -⟩ := KA2.out.three; obtain ⟨qP0, qP1, qP2, qP3⟩ := KP2.out.four
  (try go_wp2_with fail)
  clear hHeld
  refine hK.out _ _ ?hS10 (fun hHeld => ?_)
  case hS10 => ((try dsimp only); (repeat' apply And.intro) <;> (first | (with_reducible assumption) | (rw [World.cell?_drew]; with_reducible assumption) | (simp [*]; done)))
  clear hK K
  (try simp only [Act.put, List.setIfInBounds_toArray, List.set_cons_zero, List.set_cons_succ])
  refine wpAnyH_ready (rs := [3]) (by kernel_rfl) (by simp) (AllReadyH.cons (by simp only [List.getElem?_toArray, List.getElem?_cons_succ, List.getElem?_cons_zero]; rfl) (fun K hK => ?_) AllReadyH.nil)
  go_simp
  refine (toPart_any _ _ _ _ _).mono ?_; rintro e w3 ⟨rfl, hb⟩; have B3 : Hid (Below w.heap.size w w3) := (by first | exact hide (below_then B2.out hb) | exact hide (below_then (below_drewN B2.out 1) hb)); have KA3 : Hid (Bk w3 (w.heap.size) 30 #[.int .i64 W, .int .i64 L, .slice A n c]) := (by first | exact hide (Bk.call KA2.out hb) | exact hide (Bk.call KA2.out.drew hb)); have KP3 : Hid (Bk w3 (w.heap.size + 1) 40 #[.int .i64 l, .int .i64 r, .int .i64 f, .int .i64 t]) := (by first | exact hide (Bk.call KP2.out hb) | exact hide (Bk.call KP2.out.drew hb)); have D13 : Hid (Dfs w3 B1x n ds) := (by first | exact hide (Dfs.below D12.out hb) | exact hide (Dfs.below D12.out.drew hb)); clear hb qA0 qA1 qA2 qP0 qP1 qP2 qP3; obtain ⟨qA0, qA1, qA2, -, -, -⟩ := KA3.out.three; obtain ⟨qP0, qP1, qP2, qP3⟩ := KP3.out.four
  (try go_wp2_with fail)
  clear hHeld
  refine hK.out _ _ ?hS11 (fun hHeld => ?_)
  case hS11 => ((try dsimp only); (repeat' apply And.intro) <;> (first | (with_reducible assumption) | (rw [World.cell?_drew]; with_reducible assumption) | (simp [*]; done)))
  clear hK K
  (try simp only [Act.put, List.setIfInBounds_toArray, List.set_cons_zero, List.set_cons_succ])
  refine wpAnyH_ready (rs := [4]) (by kernel_rfl) (by simp) (AllReadyH.cons (by simp only [List.getElem?_toArray, List.getElem?_cons_succ, List.getElem?_cons_zero]; rfl) (fun K hK => ?_) AllReadyH.nil)
  go_simp
  refine (specValidPart _ _ _ _ _ ds _ _ _ _ _ hn (by first | exact D13.out | exact Dfs.drew D13.out)).mono ?_; rintro e w4 ⟨rfl, hb⟩; have B4 : Hid (Below w.heap.size w w4) := (by first | exact hide (below_then B3.out hb) | exact hide (below_then (below_drewN B3.out 1) hb)); have KA4 : Hid (Bk w4 (w.heap.size) 30 #[.int .i64 W, .int .i64 L, .slice A n c]) := (by first | exact hide (Bk.call KA3.out hb) | exact hide (Bk.call KA3.out.drew hb)); have KP4 : Hid (Bk w4 (w.heap.size + 1) 40 #[.int .i64 l, .int .i64 r, .int .i64 f, .int .i64 t]) := (by first | exact hide (Bk.call KP3.out hb) | exact hide (Bk.call KP3.out.drew hb)); have D14 : Hid (Dfs w4 B1x n ds) := (by first | exact hide (Dfs.below D13.out hb) | exact hide (Dfs.below D13.out.drew hb)); clear hb qA0 qA1 qA2 qP0 qP1 qP2 qP3; obtain ⟨qA0, qA1, qA2, -, -, -⟩ := KA4.out.three; obtain ⟨qP0, qP1, qP2, qP3⟩ := KP4.out.four
  (try go_wp2_with fail)
  clear hHeld
  refine hK.out _ _ ?hS12 (fun hHeld => ?_)
  case hS12 => ((try dsimp only); (repeat' apply And.intro) <;> (first | (with_reducible assumption) | (rw [World.cell?_drew]; with_reducible assumption) | (simp [*]; done)))
  clear hK K
  (try simp only [Act.put, List.setIfInBounds_toArray, List.set_cons_zero, List.set_cons_succ])
  refine wpAnyH_take (i := 5) (v := ?v13) (by simp only [List.getElem?_toArray, List.getElem?_cons_succ, List.getElem?_cons_zero]; rfl) (by kernel_rfl) (by kernel_rfl) (by kernel_rfl) (by exact fun _ _ _ h => h) (Or.inl ⟨by rfl, ?hy13⟩) (by assumption) ?rest13
  case hy13 => (intro w hSw; (try dsimp only at hSw); go_simp; (try with_reducible rfl))
  (try simp only [Act.put, List.setIfInBounds_toArray, List.set_cons_zero, List.set_cons_succ])
  refine wpAnyH_done (by kernel_rfl) ?_ _
  go_wp2_with fail
  refine (toReel_ret W L A n c ds _ hn (HH.out.below B4.out)).mono ?_
  rintro e w5 ⟨B2x, d2x, rfl, hD, hb⟩
  have B5 : Hid (Below w.heap.size w w5) := (by first | exact hide (below_then B4.out hb) | exact hide (below_then (below_drewN B4.out 1) hb))
  have KA5 : Hid (Bk w5 (w.heap.size) 30 #[.int .i64 W, .int .i64 L, .slice A n c]) := (by first | exact hide (Bk.call KA4.out hb) | exact hide (Bk.call KA4.out.drew hb))
  have KP5 : Hid (Bk w5 (w.heap.size + 1) 40 #[.int .i64 l, .int .i64 r, .int .i64 f, .int .i64 t]) := (by first | exact hide (Bk.call KP4.out hb) | exact hide (Bk.call KP4.out.drew hb))
  have D15 : Hid (Dfs w5 B1x n ds) := (by first | exact hide (Dfs.below D14.out hb) | exact hide (Dfs.below D14.out.drew hb))
  have D25 := hide hD
  clear hb KA4 qA0 qA1 qA2 KP4 qP0 qP1 qP2 qP3 D14 hD B4
  obtain ⟨qA0, qA1, qA2, -, -, -⟩ := KA5.out.three
  obtain ⟨qP0, qP1, qP2, qP3⟩ := KP5.out.four
  go_wp2_with fail
  have KA6 := hide (Bk.alloc KA5.out (.cells #[.int .i64 W, .int .i64 L, .slice B2x n d2x] 35))
  have KP6 := hide (Bk.alloc KP5.out (.cells #[.int .i64 W, .int .i64 L, .slice B2x n d2x] 35))
  have KX6 := hide (Bk.made w5 35 #[.int .i64 W, .int .i64 L, .slice B2x n d2x])
  have D16 := hide (Dfs.alloc D15.out (.cells #[.int .i64 W, .int .i64 L, .slice B2x n d2x] 35))
  have D26 := hide (Dfs.alloc D25.out (.cells #[.int .i64 W, .int .i64 L, .slice B2x n d2x] 35))
  have B6 := hide (Below.alloc B5.out (Below.size B5.out) (.cells #[.int .i64 W, .int .i64 L, .slice B2x n d2x] 35))
  clear KA5 KP5 D15 D25 B5 qA0 qA1 qA2 qP0 qP1 qP2 qP3
  generalize hw6 : w5.alloc (.cells #[.int .i64 W, .int .i64 L, .slice B2x n d2x] 35) = w6 at *
  clear hw6
  obtain ⟨qA0, qA1, qA2, -, -, -⟩ := KA6.out.three
  obtain ⟨qP0, qP1, qP2, qP3⟩ := KP6.out.four
  obtain ⟨qX0, qX1, qX2, -, -, -⟩ := KX6.out.three
  refine wp_region_held_drew (S := fun w' => w'.cell? ⟨(w5.heap.size), 0, none⟩ = some (.int .i64 W) ∧ w'.cell? ⟨(w5.heap.size), 1, none⟩ = some (.int .i64 L) ∧ w'.cell? ⟨(w5.heap.size), 2, none⟩ = some (.slice B2x n d2x) ∧ w'.cell? ⟨(w.heap.size + 1), 0, none⟩ = some (.int .i64 l) ∧ w'.cell? ⟨(w.heap.size + 1), 1, none⟩ = some (.int .i64 r) ∧ w'.cell? ⟨(w.heap.size + 1), 2, none⟩ = some (.int .i64 f) ∧ w'.cell? ⟨(w.heap.size + 1), 3, none⟩ = some (.int .i64 t)) (by kernel_rfl) ?hS14 (fun hHeld => ?_)
  case hS14 => ((try dsimp only); (repeat' apply And.intro) <;> (first | (with_reducible assumption) | (rw [World.cell?_drew]; with_reducible assumption) | (simp [*]; done)))
  refine wpAnyH_take (i := 0) (v := ?v15) (by simp only [List.getElem?_toArray, List.getElem?_cons_zero]; rfl) (by kernel_rfl) (by kernel_rfl) (by kernel_rfl) (by exact fun _ _ _ h => h) (Or.inl ⟨by rfl, ?hy15⟩) (by assumption) ?rest15
  case hy15 => (intro w hSw; (try dsimp only at hSw); go_simp; (try with_reducible rfl))
  (try simp only [Act.put, List.setIfInBounds_toArray, List.set_cons_zero, List.set_cons_succ])
  refine wpAnyH_take (i := 1) (v := ?v16) (by simp only [List.getElem?_toArray, List.getElem?_cons_succ, List.getElem?_cons_zero]; rfl) (by kernel_rfl) (by kernel_rfl) (by kernel_rfl) (by exact fun _ _ _ h => h) (Or.inl ⟨by rfl, ?hy16⟩) (by assumption) ?rest16
  case hy16 => (intro w hSw; (try dsimp only at hSw); go_simp; (try with_reducible rfl))
  (try simp only [Act.put, List.setIfInBounds_toArray, List.set_cons_zero, List.set_cons_succ])
  refine wpAnyH_ready (rs := [2]) (by kernel_rfl) (by simp) (AllReadyH.cons (by simp only [List.getElem?_toArray, List.getElem?_cons_succ, List.getElem?_cons_zero]; rfl) (fun K hK => ?_) AllReadyH.nil)
  go_simp
  refine (toPart_any _ _ _ _ _).mono ?_; rintro e w7 ⟨rfl, hb⟩; have B7 : Hid (Below w.heap.size w w7) := (by first | exact hide (below_then B6.out hb) | exact hide (below_then (below_drewN B6.out 1) hb)); have KA7 : Hid (Bk w7 (w.heap.size) 30 #[.int .i64 W, .int .i64 L, .slice A n c]) := (by first | exact hide (Bk.call KA6.out hb) | exact hide (Bk.call KA6.out.drew hb)); have KP7 : Hid (Bk w7 (w.heap.size + 1) 40 #[.int .i64 l, .int .i64 r, .int .i64 f, .int .i64 t]) := (by first | exact hide (Bk.call KP6.out hb) | exact hide (Bk.call KP6.out.drew hb)); have KX7 : Hid (Bk w7 (w5.heap.size) 35 #[.int .i64 W, .int .i64 L, .slice B2x n d2x]) := (by first | exact hide (Bk.call KX6.out hb) | exact hide (Bk.call KX6.out.drew hb)); have D17 : Hid (Dfs w7 B1x n ds) := (by first | exact hide (Dfs.below D16.out hb) | exact hide (Dfs.below D16.out.drew hb)); have D27 : Hid (Dfs w7 B2x n ds) := (by first | exact hide (Dfs.below D26.out hb) | exact hide (Dfs.below D26.out.drew hb)); clear hb qA0 qA1 qA2 qP0 qP1 qP2 qP3 qX0 qX1 qX2; obtain ⟨qA0, qA1, qA2, -, -, -⟩ := KA7.out.three; obtain ⟨qP0, qP1, qP2, qP3⟩ := KP7.out.four; obtain ⟨qX0, qX1, qX2, -, -, -⟩ := KX7.out.three
  (try go_wp2_with fail)
  clear hHeld
  refine hK.out _ _ ?hS17 (fun hHeld => ?_)
  case hS17 => ((try dsimp only); (repeat' apply And.intro) <;> (first | (with_reducible assumption) | (rw [World.cell?_drew]; with_reducible assumption) | (simp [*]; done)))
  clear hK K
  (try simp only [Act.put, List.setIfInBounds_toArray, List.set_cons_zero, List.set_cons_succ])
  refine wpAnyH_ready (rs := [3]) (by kernel_rfl) (by simp) (AllReadyH.cons (by simp only [List.getElem?_toArray, List.getElem?_cons_succ, List.getElem?_cons_zero]; rfl) (fun K hK => ?_) AllReadyH.nil)
  go_simp
  refine (implValidPart _ _ _ _ _ ds _ _ _ _ _ hn (by first | exact D27.out | exact Dfs.drew D27.out)).mono ?_; rintro e w8 ⟨rfl, hb⟩; have B8 : Hid (Below w.heap.size w w8) := (by first | exact hide (below_then B7.out hb) | exact hide (below_then (below_drewN B7.out 1) hb)); have KA8 : Hid (Bk w8 (w.heap.size) 30 #[.int .i64 W, .int .i64 L, .slice A n c]) := (by first | exact hide (Bk.call KA7.out hb) | exact hide (Bk.call KA7.out.drew hb)); have KP8 : Hid (Bk w8 (w.heap.size + 1) 40 #[.int .i64 l, .int .i64 r, .int .i64 f, .int .i64 t]) := (by first | exact hide (Bk.call KP7.out hb) | exact hide (Bk.call KP7.out.drew hb)); have KX8 : Hid (Bk w8 (w5.heap.size) 35 #[.int .i64 W, .int .i64 L, .slice B2x n d2x]) := (by first | exact hide (Bk.call KX7.out hb) | exact hide (Bk.call KX7.out.drew hb)); have D18 : Hid (Dfs w8 B1x n ds) := (by first | exact hide (Dfs.below D17.out hb) | exact hide (Dfs.below D17.out.drew hb)); have D28 : Hid (Dfs w8 B2x n ds) := (by first | exact hide (Dfs.below D27.out hb) | exact hide (Dfs.below D27.out.drew hb)); clear hb qA0 qA1 qA2 qP0 qP1 qP2 qP3 qX0 qX1 qX2; obtain ⟨qA0, qA1, qA2, -, -, -⟩ := KA8.out.three; obtain ⟨qP0, qP1, qP2, qP3⟩ := KP8.out.four; obtain ⟨qX0, qX1, qX2, -, -, -⟩ := KX8.out.three
  (try go_wp2_with fail)
  clear hHeld
  refine hK.out _ _ ?hS18 (fun hHeld => ?_)
  case hS18 => ((try dsimp only); (repeat' apply And.intro) <;> (first | (with_reducible assumption) | (rw [World.cell?_drew]; with_reducible assumption) | (simp [*]; done)))
  clear hK K
  (try simp only [Act.put, List.setIfInBounds_toArray, List.set_cons_zero, List.set_cons_succ])
  refine wpAnyH_take (i := 4) (v := ?v19) (by simp only [List.getElem?_toArray, List.getElem?_cons_succ, List.getElem?_cons_zero]; rfl) (by kernel_rfl) (by kernel_rfl) (by kernel_rfl) (by exact fun _ _ _ h => h) (Or.inl ⟨by rfl, ?hy19⟩) (by assumption) ?rest19
  case hy19 => (intro w hSw; (try dsimp only at hSw); go_simp; (try with_reducible rfl))
  (try simp only [Act.put, List.setIfInBounds_toArray, List.set_cons_zero, List.set_cons_succ])
  refine wpAnyH_done (by kernel_rfl) ?_ _
  go_wp2_with fail
  refine wp_region_held_drew (S := fun w' => w'.cell? ⟨(w5.heap.size), 0, none⟩ = some (.int .i64 W) ∧ w'.cell? ⟨(w5.heap.size), 1, none⟩ = some (.int .i64 L) ∧ w'.cell? ⟨(w5.heap.size), 2, none⟩ = some (.slice B2x n d2x) ∧ w'.cell? ⟨(w.heap.size), 0, none⟩ = some (.int .i64 W) ∧ w'.cell? ⟨(w.heap.size), 1, none⟩ = some (.int .i64 L) ∧ w'.cell? ⟨(w.heap.size), 2, none⟩ = some (.slice A n c)) (by kernel_rfl) ?hS20 (fun hHeld => ?_)
  case hS20 => ((try dsimp only); (repeat' apply And.intro) <;> (first | (with_reducible assumption) | (rw [World.cell?_drew]; with_reducible assumption) | (simp [*]; done)))
  refine wpAnyH_take (i := 0) (v := ?v21) (by simp only [List.getElem?_toArray, List.getElem?_cons_zero]; rfl) (by kernel_rfl) (by kernel_rfl) (by kernel_rfl) (by exact fun _ _ _ h => h) (Or.inl ⟨by rfl, ?hy21⟩) (by assumption) ?rest21
  case hy21 => (intro w hSw; (try dsimp only at hSw); go_simp; (try with_reducible rfl))
  (try simp only [Act.put, List.setIfInBounds_toArray, List.set_cons_zero, List.set_cons_succ])
  refine wpAnyH_take (i := 1) (v := ?v22) (by simp only [List.getElem?_toArray, List.getElem?_cons_succ, List.getElem?_cons_zero]; rfl) (by kernel_rfl) (by kernel_rfl) (by kernel_rfl) (by exact fun _ _ _ h => h) (Or.inl ⟨by rfl, ?hy22⟩) (by assumption) ?rest22
  case hy22 => (intro w hSw; (try dsimp only at hSw); go_simp; (try with_reducible rfl))
  (try simp only [Act.put, List.setIfInBounds_toArray, List.set_cons_zero, List.set_cons_succ])
  refine wpAnyH_ready (rs := [2]) (by kernel_rfl) (by simp) (AllReadyH.cons (by simp only [List.getElem?_toArray, List.getElem?_cons_succ, List.getElem?_cons_zero]; rfl) (fun K hK => ?_) AllReadyH.nil)
  go_simp
  refine (toReel_ret W L A n c ds _ hn (HH.out.below (by first | exact below_drewN B8.out 1 | exact B8.out))).mono ?_; rintro e w9 ⟨B3x, d3x, rfl, hD, hb⟩; have B9 : Hid (Below w.heap.size w w9) := (by first | exact hide (below_then B8.out hb) | exact hide (below_then (below_drewN B8.out 1) hb)); have KA9 : Hid (Bk w9 (w.heap.size) 30 #[.int .i64 W, .int .i64 L, .slice A n c]) := (by first | exact hide (Bk.call KA8.out hb) | exact hide (Bk.call KA8.out.drew hb)); have KP9 : Hid (Bk w9 (w.heap.size + 1) 40 #[.int .i64 l, .int .i64 r, .int .i64 f, .int .i64 t]) := (by first | exact hide (Bk.call KP8.out hb) | exact hide (Bk.call KP8.out.drew hb)); have KX9 : Hid (Bk w9 (w5.heap.size) 35 #[.int .i64 W, .int .i64 L, .slice B2x n d2x]) := (by first | exact hide (Bk.call KX8.out hb) | exact hide (Bk.call KX8.out.drew hb)); have D19 : Hid (Dfs w9 B1x n ds) := (by first | exact hide (Dfs.below D18.out hb) | exact hide (Dfs.below D18.out.drew hb)); have D29 : Hid (Dfs w9 B2x n ds) := (by first | exact hide (Dfs.below D28.out hb) | exact hide (Dfs.below D28.out.drew hb)); have D39 := hide hD; clear hb qA0 qA1 qA2 qP0 qP1 qP2 qP3 qX0 qX1 qX2 hD; obtain ⟨qA0, qA1, qA2, -, -, -⟩ := KA9.out.three; obtain ⟨qP0, qP1, qP2, qP3⟩ := KP9.out.four; obtain ⟨qX0, qX1, qX2, -, -, -⟩ := KX9.out.three
  (try go_wp2_with fail)
  clear hHeld
  refine hK.out _ _ ?hS23 (fun hHeld => ?_)
  case hS23 => ((try dsimp only); (repeat' apply And.intro) <;> (first | (with_reducible assumption) | (rw [World.cell?_drew]; with_reducible assumption) | (simp [*]; done)))
  clear hK K
  (try simp only [Act.put, List.setIfInBounds_toArray, List.set_cons_zero, List.set_cons_succ])
  refine wpAnyH_ready (rs := [3]) (by kernel_rfl) (by simp) (AllReadyH.cons (by simp only [List.getElem?_toArray, List.getElem?_cons_succ, List.getElem?_cons_zero]; rfl) (fun K hK => ?_) AllReadyH.nil)
  go_simp
  refine (eqReel_same _ _ _ _ n _ _ ds _ hn (by first | exact D29.out | exact Dfs.drew D29.out) (by first | exact D39.out | exact Dfs.drew D39.out)).mono ?_; rintro e w10 ⟨rfl, hb⟩; have B10 : Hid (Below w.heap.size w w10) := (by first | exact hide (below_then B9.out hb) | exact hide (below_then (below_drewN B9.out 1) hb)); have KA10 : Hid (Bk w10 (w.heap.size) 30 #[.int .i64 W, .int .i64 L, .slice A n c]) := (by first | exact hide (Bk.call KA9.out hb) | exact hide (Bk.call KA9.out.drew hb)); have KP10 : Hid (Bk w10 (w.heap.size + 1) 40 #[.int .i64 l, .int .i64 r, .int .i64 f, .int .i64 t]) := (by first | exact hide (Bk.call KP9.out hb) | exact hide (Bk.call KP9.out.drew hb)); have KX10 : Hid (Bk w10 (w5.heap.size) 35 #[.int .i64 W, .int .i64 L, .slice B2x n d2x]) := (by first | exact hide (Bk.call KX9.out hb) | exact hide (Bk.call KX9.out.drew hb)); have D110 : Hid (Dfs w10 B1x n ds) := (by first | exact hide (Dfs.below D19.out hb) | exact hide (Dfs.below D19.out.drew hb)); have D210 : Hid (Dfs w10 B2x n ds) := (by first | exact hide (Dfs.below D29.out hb) | exact hide (Dfs.below D29.out.drew hb)); have D310 : Hid (Dfs w10 B3x n ds) := (by first | exact hide (Dfs.below D39.out hb) | exact hide (Dfs.below D39.out.drew hb)); clear hb qA0 qA1 qA2 qP0 qP1 qP2 qP3 qX0 qX1 qX2; obtain ⟨qA0, qA1, qA2, -, -, -⟩ := KA10.out.three; obtain ⟨qP0, qP1, qP2, qP3⟩ := KP10.out.four; obtain ⟨qX0, qX1, qX2, -, -, -⟩ := KX10.out.three
  (try go_wp2_with fail)
  clear hHeld
  refine hK.out _ _ ?hS24 (fun hHeld => ?_)
  case hS24 => ((try dsimp only); (repeat' apply And.intro) <;> (first | (with_reducible assumption) | (rw [World.cell?_drew]; with_reducible assumption) | (simp [*]; done)))
  clear hK K
  (try simp only [Act.put, List.setIfInBounds_toArray, List.set_cons_zero, List.set_cons_succ])
  refine wpAnyH_take (i := 4) (v := ?v25) (by simp only [List.getElem?_toArray, List.getElem?_cons_succ, List.getElem?_cons_zero]; rfl) (by kernel_rfl) (by kernel_rfl) (by kernel_rfl) (by exact fun _ _ _ h => h) (Or.inl ⟨by rfl, ?hy25⟩) (by assumption) ?rest25
  case hy25 => (intro w hSw; (try dsimp only at hSw); go_simp; (try with_reducible rfl))
  (try simp only [Act.put, List.setIfInBounds_toArray, List.set_cons_zero, List.set_cons_succ])
  refine wpAnyH_done (by kernel_rfl) ?_ _
  go_wp2_with fail
  go_ret
  exact ⟨rfl, B10.out⟩
end Go.Proofs.Ythoamjkakfghbaa
