/- Contracts of chapter 2: reels and their parts. -/
import Derived.Test.YtbbopnpmjhbffaaRows
import Derived.Test.YtbbopnpmjhbffaaKit2
import Derived.Test.YtbbopnpmjhbffaaKit5
import Derived.BigRegion
namespace Go.Proofs.Ytbbopnpmjhbffaa
open Go.RowKit
attribute [local go_sem ↓] Go.wp_at_zero Go.wp_at_succ
set_option linter.unusedVariables false
set_option maxRecDepth 100000

abbrev dfc (l r f t g : Int) : Value := .agg #[.int .i64 l, .int .i64 r, .int .i64 f, .int .i64 t, .int .i64 g]
abbrev part (l r f t : Int) : Value := .agg #[.int .i64 l, .int .i64 r, .int .i64 f, .int .i64 t]
abbrev reel (W L : Int) (A : Option Addr) (n c : Nat) : Value := .agg #[.int .i64 W, .int .i64 L, .slice A n c]
theorem Bk.four {w : World} {g : Nat} {T : TypeId} {a b c d : Value} (h : Bk w g T #[a, b, c, d]) :
    w.cell? ⟨g, 0, none⟩ = some a ∧ w.cell? ⟨g, 1, none⟩ = some b ∧ w.cell? ⟨g, 2, none⟩ = some c ∧ w.cell? ⟨g, 3, none⟩ = some d := ⟨h.cell 0, h.cell 1, h.cell 2, h.cell 3⟩
theorem Bk.five {w : World} {g : Nat} {T : TypeId} {a b c d e : Value} (h : Bk w g T #[a, b, c, d, e]) :
    w.cell? ⟨g, 0, none⟩ = some a ∧ w.cell? ⟨g, 1, none⟩ = some b ∧ w.cell? ⟨g, 2, none⟩ = some c ∧ w.cell? ⟨g, 3, none⟩ = some d ∧ w.cell? ⟨g, 4, none⟩ = some e := ⟨h.cell 0, h.cell 1, h.cell 2, h.cell 3, h.cell 4⟩

theorem inRange_any (x lo hi : Int) (w : World) : Calls Try.prog 36 #[.int .i64 x, .int .i64 lo, .int .i64 hi] w fun e w' => e = .returned (.bool (decide (lo ≤ x ∧ x ≤ hi))) ∧ w = w' := by
  by_cases h1 : lo ≤ x <;> by_cases h2 : x ≤ hi
  all_goals
    go_enter Try.func36, Try.ntmps36
    go_wp2
    go_ret
    exact ⟨by simp [h1, h2], rfl⟩

theorem implPartOf (l r f t g : Int) (w : World) : Calls Try.prog 23 #[dfc l r f t g] w fun e w' => e = .returned (part l r f t) ∧ Below w.heap.size w w' := by
  go_enter Try.func23, Try.ntmps23
  go_wp2
  refine bodyPost_ret (v := part l r f t) (by simp [results, Try.results23, go_sem]) rfl ⟨rfl, by go_grown⟩

theorem vPa_cases (W L l r f t : Int) : (0 ≤ l ∧ l < r ∧ r ≤ W ∧ 0 ≤ f ∧ f < t ∧ t ≤ L) ∨ (l < 0) ∨ (0 ≤ l ∧ r ≤ l) ∨ (0 ≤ l ∧ l < r ∧ W < r) ∨ (0 ≤ l ∧ l < r ∧ r ≤ W ∧ f < 0) ∨ (0 ≤ l ∧ l < r ∧ r ≤ W ∧ 0 ≤ f ∧ t ≤ f) ∨ (0 ≤ l ∧ l < r ∧ r ≤ W ∧ 0 ≤ f ∧ f < t ∧ L < t) := by omega
set_option maxHeartbeats 1000000 in
theorem implInside (l r f t W L : Int) (w : World) : Calls Try.prog 22 #[part l r f t, .int .i64 W, .int .i64 L] w fun e w' => e = .returned (.bool (vPa W L l r f t)) ∧ Below w.heap.size w w' := by
  rcases vPa_cases W L l r f t with ⟨h1, h2, h3, h4, h5, h6⟩ | h | ⟨h1, h⟩ | ⟨h1, h2, h⟩ | ⟨h1, h2, h3, h⟩ | ⟨h1, h2, h3, h4, h⟩ | ⟨h1, h2, h3, h4, h5, h⟩
  all_goals
    go_enter Try.func22, Try.ntmps22
    go_wp2
    go_ret
    exact ⟨ret_bool (by first | (rw [vPa_yes (by omega)]; done) | (rw [vPa_no (by omega)]; done) | (rw [vPa_yes (by omega)]; simp; omega) | (rw [vPa_no (by omega)]; simp; omega)), by go_grown⟩

theorem d_cases (W L l r f t g : Int) : (l < 0) ∨ (0 ≤ l ∧ W - 1 < l) ∨ (0 ≤ l ∧ l ≤ W - 1 ∧ r < l + 1) ∨ (0 ≤ l ∧ l ≤ W - 1 ∧ l + 1 ≤ r ∧ W < r) ∨ (0 ≤ l ∧ l ≤ W - 1 ∧ l + 1 ≤ r ∧ r ≤ W ∧ f < 0) ∨ (0 ≤ l ∧ l ≤ W - 1 ∧ l + 1 ≤ r ∧ r ≤ W ∧ 0 ≤ f ∧ L - 1 < f) ∨ (0 ≤ l ∧ l ≤ W - 1 ∧ l + 1 ≤ r ∧ r ≤ W ∧ 0 ≤ f ∧ f ≤ L - 1 ∧ t < f + 1) ∨ (0 ≤ l ∧ l ≤ W - 1 ∧ l + 1 ≤ r ∧ r ≤ W ∧ 0 ≤ f ∧ f ≤ L - 1 ∧ f + 1 ≤ t ∧ L < t) ∨ (0 ≤ l ∧ l ≤ W - 1 ∧ l + 1 ≤ r ∧ r ≤ W ∧ 0 ≤ f ∧ f ≤ L - 1 ∧ f + 1 ≤ t ∧ t ≤ L ∧ g < 1) ∨ (0 ≤ l ∧ l ≤ W - 1 ∧ l + 1 ≤ r ∧ r ≤ W ∧ 0 ≤ f ∧ f ≤ L - 1 ∧ f + 1 ≤ t ∧ t ≤ L ∧ 1 ≤ g ∧ 9 < g) ∨ (0 ≤ l ∧ l ≤ W - 1 ∧ l + 1 ≤ r ∧ r ≤ W ∧ 0 ≤ f ∧ f ≤ L - 1 ∧ f + 1 ≤ t ∧ t ≤ L ∧ 1 ≤ g ∧ g ≤ 9) := by
  by_cases x1 : 0 ≤ l
  case neg => exact .inl (by omega)
  by_cases x2 : l ≤ W - 1
  case neg => exact .inr (.inl ⟨x1, by omega⟩)
  by_cases x3 : l + 1 ≤ r
  case neg => exact .inr (.inr (.inl ⟨x1, x2, by omega⟩))
  by_cases x4 : r ≤ W
  case neg => exact .inr (.inr (.inr (.inl ⟨x1, x2, x3, by omega⟩)))
  by_cases x5 : 0 ≤ f
  case neg => exact .inr (.inr (.inr (.inr (.inl ⟨x1, x2, x3, x4, by omega⟩))))
  by_cases x6 : f ≤ L - 1
  case neg => exact .inr (.inr (.inr (.inr (.inr (.inl ⟨x1, x2, x3, x4, x5, by omega⟩)))))
  by_cases x7 : f + 1 ≤ t
  case neg => exact .inr (.inr (.inr (.inr (.inr (.inr (.inl ⟨x1, x2, x3, x4, x5, x6, by omega⟩))))))
  by_cases x8 : t ≤ L
  case neg => exact .inr (.inr (.inr (.inr (.inr (.inr (.inr (.inl ⟨x1, x2, x3, x4, x5, x6, x7, by omega⟩)))))))
  by_cases x9 : 1 ≤ g
  case neg => exact .inr (.inr (.inr (.inr (.inr (.inr (.inr (.inr (.inl ⟨x1, x2, x3, x4, x5, x6, x7, x8, by omega⟩))))))))
  by_cases x10 : g ≤ 9
  case neg => exact .inr (.inr (.inr (.inr (.inr (.inr (.inr (.inr (.inr (.inl ⟨x1, x2, x3, x4, x5, x6, x7, x8, x9, by omega⟩)))))))))
  exact .inr (.inr (.inr (.inr (.inr (.inr (.inr (.inr (.inr (.inr ⟨x1, x2, x3, x4, x5, x6, x7, x8, x9, x10⟩)))))))))
set_option maxHeartbeats 4000000 in
theorem specValidDefect (W L l r f t g : Int) (A : Option Addr) (n c : Nat) (hW : 1 ≤ W ∧ W ≤ 60) (hL : 1 ≤ L ∧ L ≤ 400) (w : World) :
    Calls Try.prog 37 #[reel W L A n c, dfc l r f t g] w fun e w' => e = .returned (.bool (dOk W L ⟨l, r, f, t, g⟩)) ∧ Below w.heap.size w w' := by
  obtain ⟨hW1, hW2⟩ := hW
  obtain ⟨hL1, hL2⟩ := hL
  rcases d_cases W L l r f t g with h1 | ⟨h1, h2⟩ | ⟨h1, h2, h3⟩ | ⟨h1, h2, h3, h4⟩ | ⟨h1, h2, h3, h4, h5⟩ | ⟨h1, h2, h3, h4, h5, h6⟩ | ⟨h1, h2, h3, h4, h5, h6, h7⟩ | ⟨h1, h2, h3, h4, h5, h6, h7, h8⟩ | ⟨h1, h2, h3, h4, h5, h6, h7, h8, h9⟩ | ⟨h1, h2, h3, h4, h5, h6, h7, h8, h9, h10⟩ | ⟨h1, h2, h3, h4, h5, h6, h7, h8, h9, h10⟩
  all_goals
    have HD : Hid (dOk W L ⟨l, r, f, t, g⟩ = _) := (by first | exact dOk_yes (by dsimp only; omega) | exact dOk_no (by dsimp only; omega))
    go_enter Try.func37, Try.ntmps37
    go_wp2_with (go_at_call 36; refine (inRange_any _ _ _ _).mono ?_; rintro e w' ⟨rfl, rfl⟩)
    go_ret
    exact ⟨ret_bool (by first | exact HD.out.symm | (rw [HD.out]; done) | (rw [HD.out]; simp; done) | (rw [HD.out]; simp; omega)), by go_grown⟩
theorem p_cases (W L l r f t : Int) : (l < 0) ∨ (0 ≤ l ∧ W - 1 < l) ∨ (0 ≤ l ∧ l ≤ W - 1 ∧ r < l + 1) ∨ (0 ≤ l ∧ l ≤ W - 1 ∧ l + 1 ≤ r ∧ W < r) ∨ (0 ≤ l ∧ l ≤ W - 1 ∧ l + 1 ≤ r ∧ r ≤ W ∧ f < 0) ∨ (0 ≤ l ∧ l ≤ W - 1 ∧ l + 1 ≤ r ∧ r ≤ W ∧ 0 ≤ f ∧ L - 1 < f) ∨ (0 ≤ l ∧ l ≤ W - 1 ∧ l + 1 ≤ r ∧ r ≤ W ∧ 0 ≤ f ∧ f ≤ L - 1 ∧ t < f + 1) ∨ (0 ≤ l ∧ l ≤ W - 1 ∧ l + 1 ≤ r ∧ r ≤ W ∧ 0 ≤ f ∧ f ≤ L - 1 ∧ f + 1 ≤ t ∧ L < t) ∨ (0 ≤ l ∧ l ≤ W - 1 ∧ l + 1 ≤ r ∧ r ≤ W ∧ 0 ≤ f ∧ f ≤ L - 1 ∧ f + 1 ≤ t ∧ t ≤ L) := by
  by_cases x1 : 0 ≤ l
  case neg => exact .inl (by omega)
  by_cases x2 : l ≤ W - 1
  case neg => exact .inr (.inl ⟨x1, by omega⟩)
  by_cases x3 : l + 1 ≤ r
  case neg => exact .inr (.inr (.inl ⟨x1, x2, by omega⟩))
  by_cases x4 : r ≤ W
  case neg => exact .inr (.inr (.inr (.inl ⟨x1, x2, x3, by omega⟩)))
  by_cases x5 : 0 ≤ f
  case neg => exact .inr (.inr (.inr (.inr (.inl ⟨x1, x2, x3, x4, by omega⟩))))
  by_cases x6 : f ≤ L - 1
  case neg => exact .inr (.inr (.inr (.inr (.inr (.inl ⟨x1, x2, x3, x4, x5, by omega⟩)))))
  by_cases x7 : f + 1 ≤ t
  case neg => exact .inr (.inr (.inr (.inr (.inr (.inr (.inl ⟨x1, x2, x3, x4, x5, x6, by omega⟩))))))
  by_cases x8 : t ≤ L
  case neg => exact .inr (.inr (.inr (.inr (.inr (.inr (.inr (.inl ⟨x1, x2, x3, x4, x5, x6, x7, by omega⟩)))))))
  exact .inr (.inr (.inr (.inr (.inr (.inr (.inr (.inr ⟨x1, x2, x3, x4, x5, x6, x7, x8⟩)))))))
set_option maxHeartbeats 4000000 in
theorem specValidPart0 (W L l r f t : Int) (A : Option Addr) (n c : Nat) (hW : 1 ≤ W ∧ W ≤ 60) (hL : 1 ≤ L ∧ L ≤ 400) (w : World) :
    Calls Try.prog 26 #[reel W L A n c, part l r f t] w fun e w' => e = .returned (.bool (vPa W L l r f t)) ∧ Below w.heap.size w w' := by
  obtain ⟨hW1, hW2⟩ := hW
  obtain ⟨hL1, hL2⟩ := hL
  rcases p_cases W L l r f t with h1 | ⟨h1, h2⟩ | ⟨h1, h2, h3⟩ | ⟨h1, h2, h3, h4⟩ | ⟨h1, h2, h3, h4, h5⟩ | ⟨h1, h2, h3, h4, h5, h6⟩ | ⟨h1, h2, h3, h4, h5, h6, h7⟩ | ⟨h1, h2, h3, h4, h5, h6, h7, h8⟩ | ⟨h1, h2, h3, h4, h5, h6, h7, h8⟩
  all_goals
    have HD : Hid (vPa W L l r f t = _) := (by first | exact vPa_yes (by omega) | exact vPa_no (by omega))
    go_enter Try.func26, Try.ntmps26
    go_wp2_with (go_at_call 36; refine (inRange_any _ _ _ _).mono ?_; rintro e w' ⟨rfl, rfl⟩)
    go_ret
    exact ⟨ret_bool (by first | exact HD.out.symm | (rw [HD.out]; done) | (rw [HD.out]; simp; done) | (rw [HD.out]; simp; omega)), by go_grown⟩
theorem dOk_false {W L l r f t g : Int} (h : vPa W L l r f t = false ∨ ¬ (1 ≤ g ∧ g ≤ 9)) : dOk W L ⟨l, r, f, t, g⟩ = false := by
  rw [dOk_split]
  rcases h with h | h
  · simp only [h, Bool.false_and]
  · simp [h]
theorem dOk_true {W L l r f t g : Int} (h : vPa W L l r f t = true) (h' : 1 ≤ g ∧ g ≤ 9) : dOk W L ⟨l, r, f, t, g⟩ = true := by
  rw [dOk_split]
  simp only [h, Bool.true_and]
  exact decide_eq_true h'
end Go.Proofs.Ytbbopnpmjhbffaa
