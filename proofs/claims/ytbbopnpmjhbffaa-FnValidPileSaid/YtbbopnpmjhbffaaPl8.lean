/- Piles: the plain facts. -/
import Derived.Test.YtbbopnpmjhbffaaKit4
namespace Go.Proofs.Ytbbopnpmjhbffaa
set_option linter.unusedVariables false

/-- a place of row r is on the ground or has a roll on both sides below it -/
def lies (xss : List (List Int)) (r i : Nat) : Bool := decide (r = 0 ∨ (nth (nthL xss (r - 1)) i ≠ 0 ∧ nth (nthL xss (r - 1)) (i + 1) ≠ 0))
/-- the labels of the rows below r and of the first k places of row r -/
def seen (xss : List (List Int)) (r k : Nat) : List Int := ((xss.take r).flatten ++ (nthL xss r).take k).filter (fun x => decide (x ≠ 0))
def cellOk (xss : List (List Int)) (r i : Nat) : Bool :=
  decide (nth (nthL xss r) i = 0 ∨ ((1 ≤ nth (nthL xss r) i ∧ nth (nthL xss r) i ≤ 9999) ∧ nth (nthL xss r) i ∉ seen xss r i ∧ lies xss r i = true))
def lenOk (xss : List (List Int)) (r : Nat) : Bool :=
  decide (1 ≤ (nthL xss r).length ∧ (nthL xss r).length ≤ 6 ∧ (0 < r → (nthL xss r).length + 1 = (nthL xss (r - 1)).length))
def rowOk (xss : List (List Int)) (r : Nat) : Prop := lenOk xss r = true ∧ ∀ i, i < (nthL xss r).length → cellOk xss r i = true
instance (xss : List (List Int)) (r : Nat) : Decidable (rowOk xss r) := by unfold rowOk; exact inferInstance
/-- is the pile valid -/
def vp (xss : List (List Int)) : Bool := decide (xss.length ≤ 6 ∧ ∀ r, r < xss.length → rowOk xss r)

theorem seen_zero (xss : List (List Int)) : seen xss 0 0 = [] := by simp [seen]
theorem seen_row {xss : List (List Int)} {r : Nat} (h : r < xss.length) : seen xss (r + 1) 0 = seen xss r (nthL xss r).length := by
  unfold seen
  rw [takeL_nth h, List.flatten_append]
  simp
theorem seen_skip {xss : List (List Int)} {r k : Nat} (h : k < (nthL xss r).length) (h0 : nth (nthL xss r) k = 0) : seen xss r (k + 1) = seen xss r k := by
  unfold seen
  rw [take_nth h, ← List.append_assoc, List.filter_append]
  simp [h0]
theorem seen_put {xss : List (List Int)} {r k : Nat} (h : k < (nthL xss r).length) (h0 : nth (nthL xss r) k ≠ 0) : seen xss r (k + 1) = seen xss r k ++ [nth (nthL xss r) k] := by
  unfold seen
  rw [take_nth h, ← List.append_assoc, List.filter_append]
  simp [h0]
theorem flatten_take_le (xss : List (List Int)) : ∀ r, r < xss.length → ((xss.take r).flatten).length + (nthL xss r).length ≤ xss.flatten.length := by
  intro r h
  have e : xss.flatten = (xss.take r).flatten ++ ((nthL xss r) ++ (xss.drop (r + 1)).flatten) := by
    have : xss = xss.take r ++ (nthL xss r :: xss.drop (r + 1)) := by rw [← dropL_nth h, List.take_append_drop]
    conv => lhs; rw [this]
    simp
  rw [e]
  simp
theorem seen_len {xss : List (List Int)} {r k : Nat} (h : r < xss.length) (hk : k ≤ (nthL xss r).length) : (seen xss r k).length ≤ xss.flatten.length := by
  have h1 := flatten_take_le xss r h
  have h2 := List.length_filter_le (fun x : Int => decide (x ≠ 0)) ((xss.take r).flatten ++ (nthL xss r).take k)
  rw [List.length_append, List.length_take] at h2
  unfold seen
  omega
theorem seen_end {xss : List (List Int)} {r : Nat} (h : xss.length ≤ r) : (seen xss r 0).length ≤ xss.flatten.length := by
  have h2 := List.length_filter_le (fun x : Int => decide (x ≠ 0)) ((xss.take r).flatten ++ (nthL xss r).take 0)
  rw [List.take_of_length_le h] at h2
  unfold seen
  rw [List.take_of_length_le h]
  simpa using h2
theorem row_le {xss : List (List Int)} {r : Nat} (h : r < xss.length) : (nthL xss r).length ≤ xss.flatten.length := by
  have := flatten_take_le xss r h
  omega

theorem vp_len {xss : List (List Int)} (h : 6 < xss.length) : vp xss = false := by
  unfold vp; exact decide_eq_false fun g => by omega
theorem vp_row {xss : List (List Int)} {r : Nat} (hr : r < xss.length) (h : lenOk xss r = false) : vp xss = false := by
  unfold vp; exact decide_eq_false fun g => by have := (g.2 r hr).1; rw [h] at this; cases this
theorem vp_cell {xss : List (List Int)} {r i : Nat} (hr : r < xss.length) (hi : i < (nthL xss r).length) (h : cellOk xss r i = false) : vp xss = false := by
  unfold vp; exact decide_eq_false fun g => by have := (g.2 r hr).2 i hi; rw [h] at this; cases this
theorem vp_yes {xss : List (List Int)} (hn : xss.length ≤ 6) (h : ∀ r, r < xss.length → rowOk xss r) : vp xss = true := by
  unfold vp; exact decide_eq_true ⟨hn, h⟩
theorem vp_out {xss : List (List Int)} (h : vp xss = true) : xss.length ≤ 6 ∧ ∀ r, r < xss.length → rowOk xss r := by
  unfold vp at h; exact of_decide_eq_true h
theorem lenOk_yes {xss : List (List Int)} {r : Nat} (h : 1 ≤ (nthL xss r).length ∧ (nthL xss r).length ≤ 6 ∧ (0 < r → (nthL xss r).length + 1 = (nthL xss (r - 1)).length)) : lenOk xss r = true := by
  unfold lenOk; exact decide_eq_true h
theorem lenOk_no {xss : List (List Int)} {r : Nat} (h : ¬ (1 ≤ (nthL xss r).length ∧ (nthL xss r).length ≤ 6 ∧ (0 < r → (nthL xss r).length + 1 = (nthL xss (r - 1)).length))) : lenOk xss r = false := by
  unfold lenOk; exact decide_eq_false h
theorem lenOk_out {xss : List (List Int)} {r : Nat} (h : lenOk xss r = true) : 1 ≤ (nthL xss r).length ∧ (nthL xss r).length ≤ 6 ∧ (0 < r → (nthL xss r).length + 1 = (nthL xss (r - 1)).length) := by
  unfold lenOk at h; exact of_decide_eq_true h
theorem cellOk_zero {xss : List (List Int)} {r i : Nat} (h : nth (nthL xss r) i = 0) : cellOk xss r i = true := by
  unfold cellOk; exact decide_eq_true (.inl h)
theorem cellOk_no {xss : List (List Int)} {r i : Nat} (h0 : nth (nthL xss r) i ≠ 0) (h : nth (nthL xss r) i < 1 ∨ 9999 < nth (nthL xss r) i ∨ nth (nthL xss r) i ∈ seen xss r i ∨ lies xss r i = false) : cellOk xss r i = false := by
  unfold cellOk; refine decide_eq_false fun g => ?_
  rcases g with g | ⟨⟨g1, g2⟩, g3, g4⟩
  · exact h0 g
  · rcases h with h | h | h | h
    · omega
    · omega
    · exact g3 h
    · rw [h] at g4; cases g4
theorem cellOk_yes {xss : List (List Int)} {r i : Nat} (h1 : 1 ≤ nth (nthL xss r) i) (h2 : nth (nthL xss r) i ≤ 9999) (h3 : nth (nthL xss r) i ∉ seen xss r i) (h4 : lies xss r i = true) : cellOk xss r i = true := by
  unfold cellOk; exact decide_eq_true (.inr ⟨⟨h1, h2⟩, h3, h4⟩)
theorem lies_zero (xss : List (List Int)) (i : Nat) : lies xss 0 i = true := by simp [lies]
theorem lies_up (xss : List (List Int)) (r i : Nat) : lies xss (r + 1) i = (decide (nth (nthL xss r) i ≠ 0) && decide (nth (nthL xss r) (i + 1) ≠ 0)) := by
  unfold lies
  rw [← Bool.decide_and]
  congr 1
  simp
/-- the reference compares with the first row -/
theorem len_first {xss : List (List Int)} {r : Nat} (h : ∀ q, q ≤ r → lenOk xss q = true) : (nthL xss r).length + r = (nthL xss 0).length := by
  induction r with
  | zero => rfl
  | succ r ih =>
    have h1 := ih fun q hq => h q (by omega)
    have h2 := (lenOk_out (h (r + 1) (Nat.le_refl _))).2.2 (by omega)
    rw [Nat.add_sub_cancel] at h2
    omega
/-- what the reference asks of a row's length -/
def sLen (xss : List (List Int)) (r : Nat) : Prop := (nthL xss r).length + r = (nthL xss 0).length ∧ 1 ≤ (nthL xss r).length
theorem vp_sLen {xss : List (List Int)} {r : Nat} (hr : r < xss.length) (h : ¬ sLen xss r) : vp xss = false := by
  cases hv : vp xss
  · rfl
  · obtain ⟨-, hok⟩ := vp_out hv
    exact absurd ⟨len_first fun q hq => (hok q (by omega)).1, (lenOk_out (hok r hr).1).1⟩ h
theorem vp_ref {xss : List (List Int)} (h : ∀ r, r < xss.length → sLen xss r ∧ ∀ i, i < (nthL xss r).length → cellOk xss r i = true) :
    vp xss = (decide (xss.length ≤ 6) && (decide (xss.length = 0) || decide ((nthL xss 0).length ≤ 6))) := by
  by_cases h6 : xss.length ≤ 6
  · rw [decide_eq_true h6, Bool.true_and]
    by_cases h0 : xss.length = 0
    · rw [decide_eq_true h0, Bool.true_or]
      exact vp_yes h6 fun r hr => by omega
    · rw [decide_eq_false h0, Bool.false_or]
      by_cases hl : (nthL xss 0).length ≤ 6
      · rw [decide_eq_true hl]
        refine vp_yes h6 fun r hr => ⟨lenOk_yes ⟨(h r hr).1.2, ?_, fun hp => ?_⟩, (h r hr).2⟩
        · have := (h r hr).1.1; omega
        · have h1 := (h r hr).1.1; have h2 := (h (r - 1) (by omega)).1.1; omega
      · rw [decide_eq_false hl]
        exact vp_row (r := 0) (by omega) (lenOk_no fun g => hl g.2.1)
  · rw [decide_eq_false h6, Bool.false_and]
    exact vp_len (by omega)
end Go.Proofs.Ytbbopnpmjhbffaa
