/- Chapter 4 in plain Lean: laws of the least way. -/
import Derived.Test.YtkmogpeiolkpbaaPl6
import Derived.Test.YtkmogpeiolkpbaaLwC
namespace Go.Proofs.Ytkmogpeiolkpbaa
set_option linter.unusedVariables false
/-- the way of the first k knives, each to its like -/
def sd (a b : List Int) : Nat → Int
  | 0 => 0
  | k + 1 => sd a b k + dst (nth a k) (nth b k)
theorem dst_comm (x y : Int) : dst x y = dst y x := by unfold dst; omega
theorem dst_self (x : Int) : dst x x = 0 := by unfold dst; omega
theorem dst_nn (x y : Int) : 0 ≤ dst x y := by unfold dst; omega
theorem sd_nn (a b : List Int) (k : Nat) : 0 ≤ sd a b k := by
  induction k with
  | zero => simp [sd]
  | succ k ih => have := dst_nn (nth a k) (nth b k); simp only [sd]; omega
theorem sd_comm (a b : List Int) (k : Nat) : sd a b k = sd b a k := by
  induction k with
  | zero => rfl
  | succ k ih => simp only [sd]; rw [ih, dst_comm]
theorem sd_self (a : List Int) (k : Nat) : sd a a k = 0 := by
  induction k with
  | zero => rfl
  | succ k ih => simp only [sd]; rw [ih, dst_self]; rfl
theorem sd_tri (a b c : List Int) (k : Nat) : sd a b k ≤ sd a c k + sd c b k := by
  induction k with
  | zero => simp [sd]
  | succ k ih =>
    simp only [sd]
    have : dst (nth a k) (nth b k) ≤ dst (nth a k) (nth c k) + dst (nth c k) (nth b k) := by unfold dst; omega
    omega
theorem sd_bd {a b : List Int} (ha : ∀ x ∈ a, -1 ≤ x ∧ x ≤ 1000) (hb : ∀ x ∈ b, -1 ≤ x ∧ x ≤ 1000) {k : Nat} (h1 : k ≤ a.length) (h2 : k ≤ b.length) : sd a b k ≤ 1001 * k := by
  induction k with
  | zero => simp [sd]
  | succ k ih =>
    have := ih (by omega) (by omega)
    have x1 := ha _ (nth_mem (show k < a.length by omega))
    have x2 := hb _ (nth_mem (show k < b.length by omega))
    have : dst (nth a k) (nth b k) ≤ 1001 := by unfold dst; omega
    simp only [sd]; omega
theorem mv_diag {a b : List Int} (ha : ∀ x ∈ a, 0 ≤ x ∧ x ≤ 60) (hb : ∀ x ∈ b, 0 ≤ x ∧ x ≤ 60) (h24 : a.length ≤ 24) (i : Nat) (hi : i ≤ a.length) (hi' : i ≤ b.length) : mv a b i i = sd a b i := by
  induction i with
  | zero => rfl
  | succ i ih =>
    have h1 := ((mv_lw ha hb h24 (i + 1) hi i (by omega)).2 (by omega)).2
    rw [mv_succ, h1, ih (by omega) (by omega), mvS, if_pos (sd_nn _ _ _), if_pos (Or.inl (by omega))]
    rfl
theorem mv_mono {a b : List Int} (ha : ∀ x ∈ a, 0 ≤ x ∧ x ≤ 60) (hb : ∀ x ∈ b, 0 ≤ x ∧ x ≤ 60) (h24 : a.length ≤ 24) {i : Nat} (hi : i ≤ a.length) (d : Nat) (hd : i + d ≤ b.length) : mv a b i (i + d) ≤ mv a b i i := by
  induction d with
  | zero => exact Int.le_refl _
  | succ d ih =>
    have h1 := ih (by omega)
    cases i with
    | zero => simp [mv]
    | succ i =>
      have h2 := ((mv_lw ha hb h24 (i + 1) hi (i + 1 + d) (by omega)).1 (by omega)).2
      rw [show i + 1 + (d + 1) = (i + 1 + d) + 1 by omega, mv_succ, mvS]
      split
      · split <;> omega
      · omega
theorem mk_pos {a b : List Int} (h : 0 ≤ mkOf a b) : vKn a = true ∧ vKn b = true := by
  unfold mkOf at h
  by_cases e : vKn a = true ∧ vKn b = true
  · exact e
  · rw [if_neg e] at h; omega
theorem mk_eq {a b : List Int} (ha : vKn a = true) (hb : vKn b = true) (hl : a.length = b.length) : mkOf a b = sd a b a.length := by
  obtain ⟨a1, a2, _⟩ := vKn_true ha
  obtain ⟨b1, b2, _⟩ := vKn_true hb
  rw [mkOf, if_pos ⟨ha, hb⟩, if_neg (by omega), ← hl]
  exact mv_diag a2 b2 a1 _ (Nat.le_refl _) (by omega)
theorem mk_comm {a b : List Int} (ha : vKn a = true) (hb : vKn b = true) : mkOf b a = mkOf a b := by
  by_cases e : a.length = b.length
  · rw [mk_eq ha hb e, mk_eq hb ha e.symm, e, sd_comm]
  · by_cases g : a.length < b.length
    · rw [mkOf, if_pos ⟨hb, ha⟩, if_pos g, mkOf, if_pos ⟨ha, hb⟩, if_neg (by omega)]
    · rw [mkOf, if_pos ⟨hb, ha⟩, if_neg g, mkOf, if_pos ⟨ha, hb⟩, if_pos (by omega)]
theorem mk_self {a : List Int} (ha : vKn a = true) : mkOf a a = 0 := by rw [mk_eq ha ha rfl, sd_self]
theorem mk_le {a b : List Int} (ha : vKn a = true) (hb : vKn b = true) : mkOf a b ≤ sd a b (min a.length b.length) := by
  obtain ⟨a1, a2, _⟩ := vKn_true ha
  obtain ⟨b1, b2, _⟩ := vKn_true hb
  rw [mkOf, if_pos ⟨ha, hb⟩]
  by_cases g : b.length < a.length
  · rw [if_pos g, show min a.length b.length = b.length by omega, sd_comm, ← mv_diag b2 a2 b1 _ (Nat.le_refl _) (by omega)]
    have := mv_mono b2 a2 b1 (Nat.le_refl _) (a.length - b.length) (by omega)
    rwa [show b.length + (a.length - b.length) = a.length by omega] at this
  · rw [if_neg g, show min a.length b.length = a.length by omega, ← mv_diag a2 b2 a1 _ (Nat.le_refl _) (by omega)]
    have := mv_mono a2 b2 a1 (Nat.le_refl _) (b.length - a.length) (by omega)
    rwa [show a.length + (b.length - a.length) = b.length by omega] at this
theorem mk_wo {a : List Int} (ha : vKn a = true) (h0 : 0 < a.length) : mkOf (wo a 0) a = 0 := by
  have hw := vKn_wo ha h0
  have hl := wo_len h0
  obtain ⟨a1, a2, _⟩ := vKn_true ha
  obtain ⟨b1, b2, _⟩ := vKn_true hw
  rw [mkOf, if_pos ⟨hw, ha⟩, if_neg (by omega)]
  have key : ∀ i, i ≤ (wo a 0).length → mv (wo a 0) a i (i + 1) = 0 := fun i => by
    induction i with
    | zero => intro _; rfl
    | succ i ih =>
      intro hi
      have h1 := ((mv_lw b2 a2 b1 (i + 1) hi (i + 1) (by omega)).1 (by omega)).2
      rw [mv_succ, ih (by omega), wo_nth h0, if_neg (by omega), dst_self, mvS, if_pos (by omega)]
      split <;> omega
  have := key _ (Nat.le_refl _)
  rwa [hl, show a.length - 1 + 1 = a.length by omega, ← hl] at this
theorem mk_bd {a b : List Int} (ha : vKn a = true) (hb : vKn b = true) : -1 ≤ mkOf a b ∧ mkOf a b ≤ 1440 := by
  obtain ⟨a1, a2, _⟩ := vKn_true ha
  obtain ⟨b1, b2, _⟩ := vKn_true hb
  rw [mkOf, if_pos ⟨ha, hb⟩]
  split
  · exact mv_bd b2 a2 b1 (Nat.le_refl _) (Nat.le_refl _)
  · exact mv_bd a2 b2 a1 (Nat.le_refl _) (Nat.le_refl _)
def inc (a : List Int) : List Int := a.map (· + 1)
theorem inc_len (a : List Int) : (inc a).length = a.length := by simp [inc]
theorem inc_nth {a : List Int} {k : Nat} (h : k < a.length) : nth (inc a) k = nth a k + 1 := by simp [inc, nth, List.getD_eq_getElem?_getD, h]
theorem inc_take {a : List Int} {k : Nat} (h : k < a.length) : (inc a).take (k + 1) = (inc a).take k ++ [nth a k + 1] := by
  rw [take_nth (by rw [inc_len]; exact h), inc_nth h]
theorem sd_inc (a : List Int) {k : Nat} (h : k ≤ a.length) : sd a (inc a) k = k := by
  induction k with
  | zero => rfl
  | succ k ih =>
    simp only [sd]
    rw [ih (by omega), inc_nth (by omega)]
    unfold dst; omega
end Go.Proofs.Ytkmogpeiolkpbaa
