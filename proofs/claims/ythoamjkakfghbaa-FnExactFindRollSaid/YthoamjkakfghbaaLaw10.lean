/- The exact laws of piles. -/
import Derived.Test.YthoamjkakfghbaaPil3
import Derived.Test.YthoamjkakfghbaaOpen
namespace Go.Proofs.Ythoamjkakfghbaa
open Go.RowKit
set_option linter.unusedVariables false
set_option maxRecDepth 100000
section
variable {H : Type} {enc : TypeId × Value → H} {P : Program}
open Go.ChangeShapes Go.WideShapes Go.ChangeAt Go.Joins Go.Deep
theorem row_of_trod {e ei : TypeId} {W : World} (he : P.underlying e = some (.slice ei)) (hei : P.underlying ei = some (.int .i64)) (hci : P.cellsOf ei = 1) {v : Value} {fuel : Nat} {y : DataW H × List MemPlace}
    (h : DataW.trod enc P W 0 (fun _ => true) true fuel e [v] = some y) : ∃ (B : Option Addr) (m c : Nat) (xs : List Int), v = .slice B m c ∧ Ints W B m xs ∧ m ≤ c ∧ (m : Int) ≤ 9223372036854775807 := by
  have key : ∃ (B : Option Addr) (m c : Nat), v = .slice B m c ∧ (m : Int) ≤ 9223372036854775807 := by
    rcases open_slice1 he hci h with ⟨h0, _⟩ | ⟨a, len', cap', m, n, V, D, Pl, h0, _, hl, hm1, hm, _, hx⟩
    · simp only [List.cons.injEq, and_true] at h0
      exact ⟨none, 0, 0, h0, by omega⟩
    · simp only [List.cons.injEq, and_true] at h0
      exact ⟨some a, len', cap', h0, by unfold maxLen at hm1; omega⟩
  obtain ⟨B, m, c, rfl, hm⟩ := key
  obtain ⟨xs, h1, h2, h3, _⟩ := kinds_of_trod (d := y.1) (p := y.2) he hei hci ⟨fuel, by simpa [Value.cells] using h⟩
  exact ⟨B, m, c, xs, rfl, ⟨h1, h3⟩, h2, hm⟩
theorem rows_of_trod {t e ei : TypeId} {W : World} (ht : P.underlying t = some (.slice e)) (hc : P.cellsOf e = 1) (he : P.underlying e = some (.slice ei)) (hei : P.underlying ei = some (.int .i64)) (hci : P.cellsOf ei = 1)
    {A : Option Addr} {len cap : Nat} {d : DataW H} {p : List MemPlace} (h : DataW.Trod enc P W 0 (fun _ => true) true t (.slice A len cap) d p) :
    ∃ xss : List (List Int), Rows2 W A len xss ∧ (len : Int) ≤ 9223372036854775807 ∧ Lens xss := by
  obtain ⟨fuel, hf⟩ := h
  rcases open_slice1 ht hc hf with ⟨h0, _⟩ | ⟨a, len', cap', m, n, V, D, Pl, h0, _, hl, hm1, hm, _, hx⟩
  · simp [Value.cells] at h0
    obtain ⟨_, rfl, rfl⟩ := h0
    exact ⟨[], ⟨rfl, fun k hk => by omega⟩, by omega, fun k hk => by simp at hk⟩
  · simp [Value.cells] at h0
    obtain ⟨rfl, rfl, rfl⟩ := h0
    have hle : len ≤ m := by rw [hm]; simpa using hl
    have each : ∀ i, i < len → ∃ q : List Int, ∃ (B : Option Addr) (mm c : Nat), V i = .slice B mm c ∧ Ints W B mm q ∧ mm ≤ c ∧ (mm : Int) ≤ 9223372036854775807 := fun i hi => by
      obtain ⟨B, mm, c, xs, h1, h2, h3, h4⟩ := row_of_trod he hei hci (hx i (by omega)).2
      exact ⟨xs, B, mm, c, h1, h2, h3, h4⟩
    obtain ⟨f, hf⟩ := choose_lt each
    have ef : ∀ k, k < len → nthL ((List.range len).map f) k = f k := fun k hk => by simp [nthL, hk]
    refine ⟨(List.range len).map f, ⟨by simp, fun k hk => ?_⟩, by unfold maxLen at hm1; omega, fun k hk => ?_⟩
    · obtain ⟨B, mm, c, h1, h2, h3, h4⟩ := hf k hk
      refine ⟨a, B, mm, c, rfl, ?_, ?_, by rw [ef k hk]; exact h2, h3⟩
      · have := block_of_cell (hx k (by omega)).1
        rwa [block_add] at this
      · rw [(hx k (by omega)).1, h1]
    · have hk' : k < len := by simpa using hk
      obtain ⟨B, mm, c, h1, h2, h3, h4⟩ := hf k hk'
      rw [ef k hk', h2.1]
      exact h4
end
set_option maxHeartbeats 4000000 in
theorem lawValidPile (A : Option Addr) (n c : Nat) (xss : List (List Int)) (w : World) (h : Rows2 w A n xss ∧ (n : Int) ≤ 9223372036854775807 ∧ Lens xss) :
    Calls Try.prog 8 #[.slice A n c] w fun e w' => e = .returned (.bool true) ∧ Below w.heap.size w w' := by
  obtain ⟨h, hbig, hlens⟩ := h
  have HL := hide h.1
  have HZ := hide (fun W (hW : Rows2 W A n xss) => szIntSS_any A n c xss W hbig hW hlens)
  clear hlens hbig
  by_cases g : (n : Int) + xss.flatten.length ≤ 1048576
  case neg =>
    have HS : Hid (sz n xss = -1) := hide (if_neg g)
    have HH := hide h; clear h g
    go_enter Try.func8, Try.ntmps8
    go_wp2_with (go_at_call 29; refine (HZ.out _ HH.out).mono ?_; rintro e w' ⟨rfl, rfl⟩; rw [HS.out])
    go_ret
    exact ⟨rfl, Below.refl _ _⟩
  have HS : Hid (sz n xss = 1048576 - ((n : Int) + xss.flatten.length)) := hide (if_pos g)
  obtain ⟨Z, hZ⟩ : ∃ Z, 1048576 - ((n : Int) + xss.flatten.length) = Z := ⟨_, rfl⟩
  have hZ0 : 0 ≤ Z := by omega
  rw [hZ] at HS
  have hn : n ≤ 1048576 := by omega
  have hfl : xss.flatten.length ≤ 1048576 := by omega
  have HFL := hide hfl
  have HH := hide h; clear h g hZ hfl
  go_enter Try.func8, Try.ntmps8
  go_wp2_with fail
  refine (HZ.out _ HH.out).mono ?_; rintro e w' ⟨rfl, rfl⟩; rw [HS.out]
  clear HZ HS
  go_wp2_with fail
  refine (toIntSS_ret A n c xss _ hn HFL.out HH.out).mono ?_; rintro e w1 ⟨B1, k1, d1, rfl, R1, b1, -⟩
  obtain rfl : n = k1 := HL.out.symm.trans R1.1
  have T1 := hide b1; have Q1 := hide R1; clear b1 R1
  go_wp2_with fail
  refine (specValidPile B1 n d1 xss _ hn HFL.out Q1.out).mono ?_; rintro e w2 ⟨rfl, b2⟩
  have T2 := hide (below_then T1.out b2); clear b2
  go_wp2_with fail
  refine (toIntSS_ret A n c xss _ hn HFL.out (HH.out.below T2.out)).mono ?_; rintro e w3 ⟨B3, k3, d3, rfl, R3, b3, -⟩
  obtain rfl : n = k3 := HL.out.symm.trans R3.1
  have T3 := hide (below_then T2.out b3); have Q3 := hide R3; clear b3 R3
  go_wp2_with fail
  refine (implValidPile B3 n d3 xss _ hn HFL.out Q3.out).mono ?_; rintro e w4 ⟨rfl, b4⟩
  have T4 := hide (below_then T3.out b4); have Q4 := hide (Q3.out.below b4); clear b4
  go_wp2_with fail
  refine (toIntSS_ret A n c xss _ hn HFL.out (HH.out.below T4.out)).mono ?_; rintro e w5 ⟨B5, k5, d5, rfl, R5, b5, -⟩
  obtain rfl : n = k5 := HL.out.symm.trans R5.1
  have T5 := hide (below_then T4.out b5); have Q5 := hide R5; have Q45 := hide (Q4.out.below b5); clear b5 R5
  go_wp2_with fail
  refine (eqIntSS_b B3 B5 n d3 d5 xss _ hn HFL.out Q45.out Q5.out).mono ?_; rintro e w6 ⟨rfl, b6⟩
  have T6 := hide (below_then T5.out b6); clear b6
  go_wp2_with fail
  go_ret
  exact ⟨rfl, T6.out⟩
set_option maxHeartbeats 4000000 in
theorem lawFindRoll (A : Option Addr) (n c : Nat) (xss : List (List Int)) (y : Int) (w : World) (h : Rows2 w A n xss ∧ (n : Int) ≤ 9223372036854775807 ∧ Lens xss) (zy : (Lit.int .i64 y).wf = true) :
    Calls Try.prog 9 #[.slice A n c, .int .i64 y] w fun e w' => e = .returned (.bool true) ∧ Below w.heap.size w w' := by
  obtain ⟨h, hbig, hlens⟩ := h
  clear zy
  have HL := hide h.1
  have HZ := hide (fun W (hW : Rows2 W A n xss) => szIntSS_any A n c xss W hbig hW hlens)
  clear hlens hbig
  by_cases g : (n : Int) + xss.flatten.length ≤ 1048576
  case neg =>
    have HS : Hid (sz n xss = -1) := hide (if_neg g)
    have HH := hide h; clear h g
    go_enter Try.func9, Try.ntmps9
    go_wp2_with (go_at_call 29; refine (HZ.out _ HH.out).mono ?_; rintro e w' ⟨rfl, rfl⟩; rw [HS.out])
    go_ret
    exact ⟨rfl, Below.refl _ _⟩
  have HS : Hid (sz n xss = 1048576 - ((n : Int) + xss.flatten.length)) := hide (if_pos g)
  obtain ⟨Z, hZ⟩ : ∃ Z, 1048576 - ((n : Int) + xss.flatten.length) = Z := ⟨_, rfl⟩
  have hZ0 : 0 ≤ Z := by omega
  rw [hZ] at HS
  have hn : n ≤ 1048576 := by omega
  have hfl : xss.flatten.length ≤ 1048576 := by omega
  have HFL := hide hfl
  have HH := hide h; clear h g hZ hfl
  obtain ⟨p, hp⟩ : ∃ p, fr xss y = p := ⟨_, rfl⟩
  have HP := hide hp; clear hp
  obtain ⟨p1, p2⟩ := p
  go_enter Try.func9, Try.ntmps9
  go_wp2_with fail
  refine (HZ.out _ HH.out).mono ?_; rintro e w' ⟨rfl, rfl⟩; rw [HS.out]
  clear HZ HS
  go_wp2_with fail
  refine (toIntSS_ret A n c xss _ hn HFL.out HH.out).mono ?_; rintro e w1 ⟨B1, k1, d1, rfl, R1, b1, -⟩
  obtain rfl : n = k1 := HL.out.symm.trans R1.1
  have T1 := hide b1; have Q1 := hide R1; clear b1 R1
  go_wp2_with fail
  refine (specFindRoll B1 n d1 xss y _ hn HFL.out Q1.out).mono ?_; rintro e w2 ⟨rfl, b2⟩; rw [HP.out]; unfold pr; dsimp only
  have T2 := hide (below_then T1.out b2); clear b2
  go_wp2_with fail
  refine (toIntSS_ret A n c xss _ hn HFL.out (HH.out.below T2.out)).mono ?_; rintro e w3 ⟨B3, k3, d3, rfl, R3, b3, -⟩
  obtain rfl : n = k3 := HL.out.symm.trans R3.1
  have T3 := hide (below_then T2.out b3); have Q3 := hide R3; clear b3 R3
  go_wp2_with fail
  refine (implFindRoll B3 n d3 xss y _ hn HFL.out Q3.out).mono ?_; rintro e w4 ⟨rfl, b4⟩; rw [HP.out]; unfold pr; dsimp only
  have T4 := hide (below_then T3.out b4); have Q4 := hide (Q3.out.below b4); clear b4
  go_wp2_with fail
  refine (toIntSS_ret A n c xss _ hn HFL.out (HH.out.below T4.out)).mono ?_; rintro e w5 ⟨B5, k5, d5, rfl, R5, b5, -⟩
  obtain rfl : n = k5 := HL.out.symm.trans R5.1
  have T5 := hide (below_then T4.out b5); have Q5 := hide R5; have Q45 := hide (Q4.out.below b5); clear b5 R5
  go_wp2_with fail
  refine (eqIntSS_b B3 B5 n d3 d5 xss _ hn HFL.out Q45.out Q5.out).mono ?_; rintro e w6 ⟨rfl, b6⟩
  have T6 := hide (below_then T5.out b6); clear b6
  go_wp2_with fail
  go_ret
  exact ⟨rfl, T6.out⟩
end Go.Proofs.Ythoamjkakfghbaa
