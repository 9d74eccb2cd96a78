/- Chapters 3 and 4 in plain Lean, second part: mirrors, knives of a pattern, the best use. -/
import Derived.Test.YtkmogpeiolkpbaaPl3
namespace Go.Proofs.Ytkmogpeiolkpbaa
set_option linter.unusedVariables false
def mir (xs : List Int) (width : Int) : List Int := (List.range xs.length).map fun k => width - nth xs (xs.length - 1 - k)
theorem mir_len (xs : List Int) (width : Int) : (mir xs width).length = xs.length := by simp [mir]
theorem mir_nth {xs : List Int} {width : Int} {k : Nat} (h : k < xs.length) : nth (mir xs width) k = width - nth xs (xs.length - 1 - k) := by simp [mir, nth, h]
theorem mir_take {xs : List Int} {width : Int} {k : Nat} (h : k < xs.length) : (mir xs width).take (k + 1) = (mir xs width).take k ++ [width - nth xs (xs.length - 1 - k)] := by
  rw [take_nth (by rw [mir_len]; exact h), mir_nth h]
def mOf (xs : List Int) (width : Int) : List Int := if vKn xs = true ∧ (0 ≤ width ∧ width ≤ 60) ∧ allB xs 0 width = true then mir xs width else []
theorem mOf_len (xs : List Int) (width : Int) : (mOf xs width).length ≤ xs.length := by unfold mOf; split <;> simp [mir_len]

def knRow (a w : Int) (n : Nat) : List Int := (List.range n).map fun (j : Nat) => a + ((j : Int) + 1) * w
theorem knRow_zero (a w : Int) : knRow a w 0 = [] := rfl
theorem knRow_len (a w : Int) (n : Nat) : (knRow a w n).length = n := by simp [knRow]
theorem knRow_succ (a w : Int) (n : Nat) : knRow a w (n + 1) = knRow a w n ++ [a + ((n : Int) + 1) * w] := by simp [knRow, List.range_succ]
def knAll (ws cs : List Int) : Nat → List Int
  | 0 => []
  | k + 1 => knAll ws cs k ++ knRow (usd ws cs k) (nth ws k) (nth cs k).toNat
theorem knAll_len {ws cs : List Int} (h : ∀ x ∈ cs, 0 ≤ x ∧ x ≤ 60) {k : Nat} (hk : k ≤ cs.length) : (knAll ws cs k).length ≤ 60 * k := by
  induction k with
  | zero => simp [knAll]
  | succ k ih =>
    have h1 := ih (by omega)
    have h2 := h _ (nth_mem (k := k) (by omega))
    simp only [knAll, List.length_append, knRow_len]
    omega
theorem knAll_tot {ws cs : List Int} (h : ∀ x ∈ cs, 0 ≤ x ∧ x ≤ 60) {k : Nat} (hk : k ≤ cs.length) : ((knAll ws cs k).length : Int) = tot (cs.take k) := by
  induction k with
  | zero => simp [knAll, tot]
  | succ k ih =>
    have h1 := ih (by omega)
    have h2 := h _ (nth_mem (k := k) (by omega))
    simp only [knAll, List.length_append, knRow_len, tot_take (show k < cs.length by omega)]
    omega
/-- 0 ahead of a list that is not empty -/
def pre0 (l : List Int) : List Int := if l = [] then [] else 0 :: l
theorem pre0_nil : pre0 [] = [] := rfl
theorem pre0_snoc (l : List Int) (x : Int) : pre0 (l ++ [x]) = 0 :: (l ++ [x]) := by simp [pre0]
theorem pre0_ne {l : List Int} (h : l ≠ []) : pre0 l = 0 :: l := by simp [pre0, h]
def kOf (width : Int) (ws cs : List Int) : List Int := if vPt width ws cs = true ∧ tot cs + 1 ≤ 24 then pre0 (knAll ws cs cs.length) else []

def bR (ws vs T : List Int) (w : Nat) : Nat → Int
  | 0 => 0
  | k + 1 => if nth ws k ≤ w then max (bR ws vs T w k) (nth vs k + nth T ((w : Int) - nth ws k).toNat) else bR ws vs T w k
def tabL (ws vs : List Int) : Nat → List Int
  | 0 => []
  | w + 1 => tabL ws vs w ++ [bR ws vs (tabL ws vs w) w ws.length]
theorem tabL_len (ws vs : List Int) (w : Nat) : (tabL ws vs w).length = w := by
  induction w with
  | zero => rfl
  | succ w ih => simp [tabL, ih]
theorem tabL_nth {ws vs : List Int} {w j : Nat} (h : j < w) : nth (tabL ws vs (w + 1)) j = nth (tabL ws vs w) j := by
  rw [tabL, nth_append_left (by rw [tabL_len]; exact h)]
theorem tabL_last (ws vs : List Int) (w : Nat) : nth (tabL ws vs (w + 1)) w = bR ws vs (tabL ws vs w) w ws.length := by
  have := nth_snoc (xs := tabL ws vs w) (x := bR ws vs (tabL ws vs w) w ws.length)
  rwa [tabL_len] at this
theorem bR_bd {ws vs T : List Int} {w : Nat} (hw : ∀ x ∈ ws, 1 ≤ x) (hv : ∀ x ∈ vs, 0 ≤ x ∧ x ≤ 100) (hl : vs.length = ws.length) (hT : ∀ j, j < w → 0 ≤ nth T j ∧ nth T j ≤ 100 * j) (k : Nat) (hk : k ≤ ws.length) : 0 ≤ bR ws vs T w k ∧ bR ws vs T w k ≤ 100 * w := by
  induction k with
  | zero => simp [bR]; omega
  | succ k ih =>
    have h1 := ih (by omega)
    have h2 := hw _ (nth_mem (k := k) (by omega))
    have h3 := hv _ (nth_mem (k := k) (by omega))
    rw [bR]
    split
    · have h4 := hT ((w : Int) - nth ws k).toNat (by omega)
      omega
    · exact h1
theorem tabL_bd {ws vs : List Int} (hw : ∀ x ∈ ws, 1 ≤ x) (hv : ∀ x ∈ vs, 0 ≤ x ∧ x ≤ 100) (hl : vs.length = ws.length) (w : Nat) : ∀ j, j < w → 0 ≤ nth (tabL ws vs w) j ∧ nth (tabL ws vs w) j ≤ 100 * j := by
  induction w with
  | zero => intro j hj; omega
  | succ w ih =>
    intro j hj
    by_cases e : j < w
    · rw [tabL_nth e]; exact ih j e
    · obtain rfl : j = w := by omega
      rw [tabL_last]
      exact bR_bd hw hv hl ih _ (Nat.le_refl _)
theorem bR_zero {ws vs T : List Int} (hw : ∀ x ∈ ws, 1 ≤ x) (k : Nat) (hk : k ≤ ws.length) : bR ws vs T 0 k = 0 := by
  induction k with
  | zero => rfl
  | succ k ih =>
    have h2 := hw _ (nth_mem (k := k) (by omega))
    rw [bR, if_neg (by omega), ih (by omega)]
def bOf (width : Int) (ws vs : List Int) : Int := if vVl width ws vs = true then nth (tabL ws vs (width.toNat + 1)) width.toNat else -1
end Go.Proofs.Ytkmogpeiolkpbaa
