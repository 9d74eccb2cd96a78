/- Chapters 3 and 4 in plain Lean: widths, patterns, wants, knives. -/
import Derived.Test.YtbbopnpmjhbffaaPl5
namespace Go.Proofs.Ytbbopnpmjhbffaa
set_option linter.unusedVariables false
/-- the first index of y, counted from k on, or -1 -/
def pInA : List Int → Int → Nat → Int
  | [], _, _ => -1
  | x :: xs, y, k => if x = y then k else pInA xs y (k + 1)
def pIn (xs : List Int) (y : Int) : Int := pInA xs y 0
def PI (xs : List Int) (y : Int) (k : Nat) : Prop := pIn xs y = pInA (xs.drop k) y k
theorem PI_start (xs : List Int) (y : Int) : PI xs y 0 := by simp [PI, pIn]
theorem PI_step {xs : List Int} {y : Int} {k : Nat} (h : PI xs y k) (hk : k < xs.length) (hne : ¬ nth xs k = y) : PI xs y (k + 1) := by
  unfold PI at *
  rw [h, drop_nth hk, pInA, if_neg hne]
theorem PI_hit {xs : List Int} {y : Int} {k : Nat} (h : PI xs y k) (hk : k < xs.length) (he : nth xs k = y) : pIn xs y = k := by
  unfold PI at h
  rw [h, drop_nth hk, pInA, if_pos he]
theorem PI_end {xs : List Int} {y : Int} {k : Nat} (h : PI xs y k) (hk : xs.length ≤ k) : pIn xs y = -1 := by
  unfold PI at h
  rw [h, List.drop_of_length_le hk, pInA]
theorem pInA_mem (xs : List Int) (y : Int) (k : Nat) : (0 ≤ pInA xs y k ↔ y ∈ xs) ∧ -1 ≤ pInA xs y k ∧ pInA xs y k < k + xs.length ∨ (xs = [] ∧ pInA xs y k = -1) := by
  induction xs generalizing k with
  | nil => simp [pInA]
  | cons x xs ih =>
    left
    by_cases e : x = y
    · subst e; simp [pInA]; omega
    · rw [pInA, if_neg e]
      have e' : ¬ y = x := fun h => e h.symm
      rcases ih (k + 1) with ⟨h1, h2, h3⟩ | ⟨rfl, h2⟩
      · simp only [List.mem_cons, e', false_or]
        refine ⟨h1, h2, ?_⟩
        simp only [List.length_cons]; omega
      · simp [h2, e']; omega
theorem pIn_nonneg {xs : List Int} {y : Int} : 0 ≤ pIn xs y ↔ y ∈ xs := by
  rcases pInA_mem xs y 0 with ⟨h, _⟩ | ⟨rfl, h⟩
  · exact h
  · simp [pIn, pInA]
theorem pIn_bd (xs : List Int) (y : Int) : -1 ≤ pIn xs y ∧ pIn xs y < (xs.length : Int) + 1 := by
  rcases pInA_mem xs y 0 with ⟨_, h1, h2⟩ | ⟨rfl, h⟩
  · unfold pIn; omega
  · simp [pIn, pInA]
/-- each number is greater than the one before it -/
def Asc (xs : List Int) (n : Nat) : Prop := ∀ j, j + 1 < n → nth xs j < nth xs (j + 1)
def ascB (xs : List Int) : Bool := (List.range (xs.length - 1)).all fun j => decide (nth xs j < nth xs (j + 1))
theorem ascB_iff {xs : List Int} : ascB xs = true ↔ Asc xs xs.length := by
  simp only [ascB, List.all_eq_true, List.mem_range, decide_eq_true_eq, Asc]
  exact ⟨fun h j hj => h j (by omega), fun h j hj => h j (by omega)⟩
theorem Asc_step {xs : List Int} {k : Nat} (h : Asc xs k) (h1 : 0 < k → nth xs (k - 1) < nth xs k) : Asc xs (k + 1) := fun j hj => by
  by_cases e : j + 1 < k
  · exact h j e
  · obtain rfl : k = j + 1 := by omega
    simpa using h1 (by omega)
def vKn (xs : List Int) : Bool := decide (xs.length ≤ 24) && (allB xs 0 60 && ascB xs)
theorem vKn_true {xs : List Int} (h : vKn xs = true) : xs.length ≤ 24 ∧ (∀ x ∈ xs, 0 ≤ x ∧ x ≤ 60) ∧ Asc xs xs.length := by
  simp only [vKn, Bool.and_eq_true, decide_eq_true_eq, allB_iff, ascB_iff] at h; exact h
theorem vKn_mk {xs : List Int} (h : xs.length ≤ 24) (h1 : allB xs 0 60 = true) (h2 : Asc xs xs.length) : vKn xs = true := by simp [vKn, h, h1, ascB_iff.2 h2]
theorem vKn_no1 {xs : List Int} (h : ¬ xs.length ≤ 24) : vKn xs = false := by simp [vKn, h]
theorem vKn_no2 {xs : List Int} (h : allB xs 0 60 = false) : vKn xs = false := by simp [vKn, h]
theorem vKn_no3 {xs : List Int} {j : Nat} (hj : j + 1 < xs.length) (h : nth xs (j + 1) ≤ nth xs j) : vKn xs = false := by
  cases hh : vKn xs
  · rfl
  · have := (vKn_true hh).2.2 j hj; omega
def ndB (xs : List Int) : Bool := (List.range xs.length).all fun k => decide (nth xs k ∉ xs.take k)
/-- no two of the first n are equal -/
def Nd (xs : List Int) (n : Nat) : Prop := ∀ k, k < n → nth xs k ∉ xs.take k
theorem ndB_iff {xs : List Int} : ndB xs = true ↔ Nd xs xs.length := by simp [ndB, Nd]
def vWd (width : Int) (xs : List Int) : Bool := decide (1 ≤ width ∧ width ≤ 60) && (decide (1 ≤ xs.length ∧ xs.length ≤ 6) && (allB xs 1 width && ndB xs))
theorem vWd_true {width : Int} {xs : List Int} (h : vWd width xs = true) : (1 ≤ width ∧ width ≤ 60) ∧ (1 ≤ xs.length ∧ xs.length ≤ 6) ∧ (∀ x ∈ xs, 1 ≤ x ∧ x ≤ width) ∧ Nd xs xs.length := by
  simp only [vWd, Bool.and_eq_true, decide_eq_true_eq, allB_iff, ndB_iff] at h; exact h
theorem vWd_no1 {width : Int} {xs : List Int} (h : ¬ (1 ≤ width ∧ width ≤ 60)) : vWd width xs = false := by simp only [vWd, decide_eq_false h, Bool.false_and]
theorem vWd_no2 {width : Int} {xs : List Int} (h : ¬ (1 ≤ xs.length ∧ xs.length ≤ 6)) : vWd width xs = false := by simp only [vWd, decide_eq_false h, Bool.false_and, Bool.and_false]
theorem vWd_no3 {width : Int} {xs : List Int} {k : Nat} (hk : k < xs.length) (h : ¬ (1 ≤ nth xs k ∧ nth xs k ≤ width)) : vWd width xs = false := by
  simp only [vWd, allB_no hk h, Bool.false_and, Bool.and_false]
theorem vWd_no4 {width : Int} {xs : List Int} {k : Nat} (hk : k < xs.length) (h : nth xs k ∈ xs.take k) : vWd width xs = false := by
  cases hh : vWd width xs
  · rfl
  · exact absurd h ((vWd_true hh).2.2.2 k hk)
theorem vWd_mk {width : Int} {xs : List Int} (h : allB xs 1 width = true) (h1 : Nd xs xs.length) : vWd width xs = (decide (1 ≤ width ∧ width ≤ 60) && decide (1 ≤ xs.length ∧ xs.length ≤ 6)) := by
  simp [vWd, h, ndB_iff.2 h1]
theorem Nd_step {xs : List Int} {k : Nat} (h : Nd xs k) (h1 : nth xs k ∉ xs.take k) : Nd xs (k + 1) := fun j hj => by
  by_cases e : j < k
  · exact h j e
  · obtain rfl : j = k := by omega
    exact h1
/-- the sum of the first k products -/
def usd (ws cs : List Int) : Nat → Int
  | 0 => 0
  | k + 1 => usd ws cs k + nth cs k * nth ws k
theorem usd_bd {ws cs : List Int} {M : Int} (hM : 0 ≤ M) (k : Nat) (h : ∀ j, j < k → 0 ≤ nth cs j * nth ws j ∧ nth cs j * nth ws j ≤ M) : 0 ≤ usd ws cs k ∧ usd ws cs k ≤ k * M := by
  induction k with
  | zero => simp [usd]
  | succ k ih =>
    have h1 := ih fun j hj => h j (by omega)
    have h2 := h k (by omega)
    simp only [usd]
    have e : ((k + 1 : Nat) : Int) * M = k * M + M := by rw [Int.natCast_add, Int.add_mul]; omega
    rw [e]; omega
theorem usd_mono {ws cs : List Int} {k m : Nat} (hkm : k ≤ m) (h : ∀ j, j < m → 0 ≤ nth cs j * nth ws j) : usd ws cs k ≤ usd ws cs m := by
  induction m with
  | zero => obtain rfl : k = 0 := by omega
            exact Int.le_refl _
  | succ m ih =>
    by_cases e : k = m + 1
    · subst e; exact Int.le_refl _
    · have h1 := ih (by omega) fun j hj => h j (by omega)
      have h2 := h m (by omega)
      simp only [usd]; omega
def vPt (width : Int) (ws cs : List Int) : Bool := vWd width ws && (decide (cs.length = ws.length) && (allB cs 0 width && decide (usd ws cs cs.length ≤ width)))
theorem vPt_true {width : Int} {ws cs : List Int} (h : vPt width ws cs = true) : vWd width ws = true ∧ cs.length = ws.length ∧ (∀ x ∈ cs, 0 ≤ x ∧ x ≤ width) ∧ usd ws cs cs.length ≤ width := by
  simp only [vPt, Bool.and_eq_true, decide_eq_true_eq, allB_iff] at h; exact h
theorem prod_bd {a b M N : Int} (h1 : 0 ≤ a ∧ a ≤ M) (h2 : 0 ≤ b ∧ b ≤ N) : 0 ≤ a * b ∧ a * b ≤ M * N :=
  ⟨Int.mul_nonneg h1.1 h2.1, Int.mul_le_mul h1.2 h2.2 h2.1 (by omega)⟩
theorem usd_pre {ws cs : List Int} {n : Nat} (hw : ∀ x ∈ ws, 0 ≤ x ∧ x ≤ 1000) (hc : ∀ x ∈ cs, 0 ≤ x ∧ x ≤ 1000) (h1 : n ≤ cs.length) (h2 : n ≤ ws.length) (hn : n ≤ 1000) {k : Nat} (hk : k ≤ n) : 0 ≤ usd ws cs k ∧ usd ws cs k ≤ 1000000000 := by
  have := usd_bd (ws := ws) (cs := cs) (M := 1000 * 1000) (by omega) k fun j hj => prod_bd (hc _ (nth_mem (by omega))) (hw _ (nth_mem (by omega)))
  omega
theorem vPt_no1 {width : Int} {ws cs : List Int} (h : vWd width ws = false) : vPt width ws cs = false := by simp [vPt, h]
theorem vPt_no2 {width : Int} {ws cs : List Int} (h : ¬ cs.length = ws.length) : vPt width ws cs = false := by simp [vPt, h]
theorem vPt_no3 {width : Int} {ws cs : List Int} {k : Nat} (hk : k < cs.length) (h : ¬ (0 ≤ nth cs k ∧ nth cs k ≤ width)) : vPt width ws cs = false := by
  simp only [vPt, allB_no hk h, Bool.false_and, Bool.and_false]
theorem vPt_no4 {width : Int} {ws cs : List Int} {k : Nat} (hk : k < cs.length) (h : width - usd ws cs k < nth cs k * nth ws k) : vPt width ws cs = false := by
  cases hh : vPt width ws cs
  · rfl
  · obtain ⟨h1, h2, h3, h4⟩ := vPt_true hh
    have h5 := (vWd_true h1).2.2.1
    have h6 := usd_mono (ws := ws) (cs := cs) (k := k + 1) (m := cs.length) hk fun j hj => Int.mul_nonneg (h3 _ (nth_mem hj)).1 (by have := h5 _ (nth_mem (k := j) (by omega)); omega)
    simp only [usd] at h6
    omega
theorem vPt_mk {width : Int} {ws cs : List Int} (h : vWd width ws = true) (h1 : cs.length = ws.length) (h2 : allB cs 0 width = true) (h3 : usd ws cs cs.length ≤ width) : vPt width ws cs = true := by simp [vPt, h, h1, h2]; rw [← h1]; exact h3
def vWn (width : Int) (ws ns : List Int) : Bool := vWd width ws && (decide (ns.length = ws.length) && (allB ns 0 20 && decide (tot ns ≤ 60)))
theorem vWn_true {width : Int} {ws ns : List Int} (h : vWn width ws ns = true) : vWd width ws = true ∧ ns.length = ws.length ∧ (∀ x ∈ ns, 0 ≤ x ∧ x ≤ 20) ∧ tot ns ≤ 60 := by
  simp only [vWn, Bool.and_eq_true, decide_eq_true_eq, allB_iff] at h; exact h
def vVl (width : Int) (ws vs : List Int) : Bool := vWd width ws && (decide (vs.length = ws.length) && allB vs 0 100)
theorem vVl_true {width : Int} {ws vs : List Int} (h : vVl width ws vs = true) : vWd width ws = true ∧ vs.length = ws.length ∧ (∀ x ∈ vs, 0 ≤ x ∧ x ≤ 100) := by
  simp only [vVl, Bool.and_eq_true, decide_eq_true_eq, allB_iff] at h; exact h
def trOf (width : Int) (ws cs : List Int) : Int := if vPt width ws cs = true then width - usd ws cs cs.length else -1
end Go.Proofs.Ytbbopnpmjhbffaa
