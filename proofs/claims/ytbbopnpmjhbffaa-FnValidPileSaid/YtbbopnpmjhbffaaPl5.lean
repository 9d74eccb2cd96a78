/- Chapter 5 in plain Lean: lengths, sums, places. -/
import Derived.Test.YtbbopnpmjhbffaaKit3
namespace Go.Proofs.Ytbbopnpmjhbffaa
set_option linter.unusedVariables false
def tot (xs : List Int) : Int := xs.sum
theorem tot_nil : tot [] = 0 := rfl
theorem tot_cons (x : Int) (xs : List Int) : tot (x :: xs) = x + tot xs := by simp [tot]
theorem tot_snoc (xs : List Int) (x : Int) : tot (xs ++ [x]) = tot xs + x := by simp [tot]
theorem tot_append (xs ys : List Int) : tot (xs ++ ys) = tot xs + tot ys := by simp [tot]
theorem tot_take {xs : List Int} {k : Nat} (h : k < xs.length) : tot (xs.take (k + 1)) = tot (xs.take k) + nth xs k := by rw [take_nth h, tot_snoc]
theorem tot_bd {xs : List Int} {M : Int} (h : ∀ x ∈ xs, 0 ≤ x ∧ x ≤ M) : 0 ≤ tot xs ∧ tot xs ≤ xs.length * M := by
  induction xs with
  | nil => simp [tot]
  | cons x xs ih =>
    have h1 := h x (by simp)
    have h2 := ih fun y hy => h y (by simp [hy])
    rw [tot_cons]
    have e : (((x :: xs).length : Nat) : Int) * M = xs.length * M + M := by
      simp only [List.length_cons, Int.natCast_add, Int.add_mul]; omega
    rw [e]; omega
theorem tot_pre {xs : List Int} (h : ∀ x ∈ xs, 0 ≤ x ∧ x ≤ 1000000) (hn : xs.length ≤ 1048576) (k : Nat) : 0 ≤ tot (xs.take k) ∧ tot (xs.take k) ≤ 1048576000000 := by
  have h1 := tot_bd (xs := xs.take k) (M := 1000000) fun x hx => h x (List.mem_of_mem_take hx)
  have h2 : ((xs.take k).length : Int) ≤ 1048576 := by have := List.length_take_le k xs; have : (xs.take k).length ≤ xs.length := by rw [List.length_take]; omega
                                                       omega
  omega
def allB (xs : List Int) (lo hi : Int) : Bool := xs.all fun x => decide (lo ≤ x ∧ x ≤ hi)
theorem allB_iff {xs : List Int} {lo hi : Int} : allB xs lo hi = true ↔ ∀ x ∈ xs, lo ≤ x ∧ x ≤ hi := by simp [allB]
theorem allB_take {xs : List Int} {lo hi : Int} {k : Nat} (h : k < xs.length) (h0 : allB (xs.take k) lo hi = true) (h1 : lo ≤ nth xs k ∧ nth xs k ≤ hi) : allB (xs.take (k + 1)) lo hi = true := by
  rw [allB_iff] at *
  rw [take_nth h]
  intro x hx
  rcases List.mem_append.1 hx with hx | hx
  · exact h0 x hx
  · simp only [List.mem_singleton] at hx; subst hx; exact h1
theorem allB_no {xs : List Int} {lo hi : Int} {k : Nat} (h : k < xs.length) (h1 : ¬ (lo ≤ nth xs k ∧ nth xs k ≤ hi)) : allB xs lo hi = false := by
  cases hh : allB xs lo hi
  · rfl
  · exact absurd (allB_iff.1 hh _ (nth_mem h)) h1
theorem allB_all {xs : List Int} {lo hi : Int} {n : Nat} (hn : xs.length = n) (h : allB (xs.take n) lo hi = true) : allB xs lo hi = true := by
  rwa [List.take_of_length_le (by omega)] at h
def vLen (xs : List Int) : Bool := decide (xs.length ≤ 60) && allB xs 1 400
theorem vLen_true {xs : List Int} (h : vLen xs = true) : xs.length ≤ 60 ∧ ∀ x ∈ xs, 1 ≤ x ∧ x ≤ 400 := by
  simp only [vLen, Bool.and_eq_true, decide_eq_true_eq, allB_iff] at h; exact h
theorem vLen_mk {xs : List Int} (h : xs.length ≤ 60) (h1 : allB xs 1 400 = true) : vLen xs = true := by simp [vLen, h, h1]
theorem vLen_no1 {xs : List Int} (h : ¬ xs.length ≤ 60) : vLen xs = false := by simp [vLen, h]
theorem vLen_no2 {xs : List Int} (h : allB xs 1 400 = false) : vLen xs = false := by simp [vLen, h]
theorem vLen_tot {xs : List Int} (h : vLen xs = true) : 0 ≤ tot xs ∧ tot xs ≤ 24000 := by
  obtain ⟨h1, h2⟩ := vLen_true h
  have := tot_bd (xs := xs) (M := 400) fun x hx => by have := h2 x hx; omega
  omega
def enoughB (ps ws : List Int) (s : Int) : Bool := vLen ps && (vLen ws && (decide (0 ≤ s) && decide (s ≤ tot ps - tot ws)))
/-- the sums of the first lengths -/
def endsL (xs : List Int) : List Int := (List.range xs.length).map fun k => tot (xs.take (k + 1))
theorem endsL_len (xs : List Int) : (endsL xs).length = xs.length := by simp [endsL]
theorem endsL_nth {xs : List Int} {k : Nat} (h : k < xs.length) : nth (endsL xs) k = tot (xs.take (k + 1)) := by simp [endsL, nth, h]
theorem endsL_take {xs : List Int} {k : Nat} (h : k < xs.length) : (endsL xs).take (k + 1) = (endsL xs).take k ++ [tot (xs.take k) + nth xs k] := by
  rw [take_nth (by rw [endsL_len]; exact h), endsL_nth h, tot_take h]
/-- the parent and the place in it of a place -/
def pOn : List Int → Int → Nat × Int
  | [], at_ => (0, at_)
  | p :: ps, at_ => if p ≤ at_ then ((pOn ps (at_ - p)).1 + 1, (pOn ps (at_ - p)).2) else (0, at_)
/-- where the search stands behind k parents -/
def PO (xs : List Int) (a0 : Int) (k : Nat) (a : Int) : Prop := (pOn xs a0).1 = k + (pOn (xs.drop k) a).1 ∧ (pOn xs a0).2 = (pOn (xs.drop k) a).2 ∧ a = a0 - tot (xs.take k)
theorem PO_start (xs : List Int) (a0 : Int) : PO xs a0 0 a0 := ⟨by simp, by simp, by simp [tot]⟩
theorem drop_nth {xs : List Int} {k : Nat} (h : k < xs.length) : xs.drop k = nth xs k :: xs.drop (k + 1) := by rw [nth_lt h, List.drop_eq_getElem_cons h]
theorem PO_step {xs : List Int} {a0 a : Int} {k : Nat} (h : PO xs a0 k a) (hk : k < xs.length) (hc : nth xs k ≤ a) : PO xs a0 (k + 1) (a - nth xs k) := by
  obtain ⟨h1, h2, h3⟩ := h
  rw [drop_nth hk, pOn, if_pos hc] at h1 h2
  refine ⟨by rw [h1]; omega, h2, by rw [tot_take hk]; omega⟩
theorem PO_stop {xs : List Int} {a0 a : Int} {k : Nat} (h : PO xs a0 k a) (hc : k < xs.length → a < nth xs k) : pOn xs a0 = (k, a) := by
  obtain ⟨h1, h2, _⟩ := h
  by_cases hk : k < xs.length
  · rw [drop_nth hk, pOn, if_neg (by have := hc hk; omega)] at h1 h2
    exact Prod.ext h1 h2
  · rw [List.drop_of_length_le (by omega), pOn] at h1 h2
    exact Prod.ext h1 h2
theorem PO_in {xs : List Int} {a0 a : Int} {k : Nat} (h : PO xs a0 k a) (ha : a0 < tot xs) (h0 : 0 ≤ a) (hk : k ≤ xs.length) : k < xs.length := by
  rcases Nat.lt_or_ge k xs.length with h1 | h1
  · exact h1
  · obtain ⟨_, _, h3⟩ := h
    rw [List.take_of_length_le h1] at h3
    omega
/-- what is left of the paper -/
def lOver : List Int → Int → List Int
  | [], _ => []
  | p :: ps, g => (if g < p then [p - g] else []) ++ lOver ps (max 0 (g - p))
theorem lOver_len (xs : List Int) (g : Int) : (lOver xs g).length ≤ xs.length := by
  induction xs generalizing g with
  | nil => simp [lOver]
  | cons p ps ih =>
    have := ih (max 0 (g - p))
    simp only [lOver, List.length_append, List.length_cons]
    split <;> simp <;> omega
theorem lOver_zero {xs : List Int} (h : ∀ x ∈ xs, 1 ≤ x) : lOver xs 0 = xs := by
  induction xs with
  | nil => rfl
  | cons p ps ih =>
    have h1 := h p (by simp)
    rw [lOver, if_pos (by omega), show max 0 (0 - p) = 0 by omega, ih fun x hx => h x (by simp [hx])]
    simp
/-- the first number of a list made less -/
def less1 (xs : List Int) (a : Int) : List Int := match xs with | [] => [] | p :: ps => (p - a) :: ps
theorem lOver_pOn {xs : List Int} (h : ∀ x ∈ xs, 1 ≤ x) (g : Int) (hg : 0 ≤ g) : lOver xs g = less1 (xs.drop (pOn xs g).1) (pOn xs g).2 := by
  induction xs generalizing g with
  | nil => simp [lOver, less1, pOn]
  | cons p ps ih =>
    have h1 := h p (by simp)
    have h2 : ∀ x ∈ ps, 1 ≤ x := fun x hx => h x (by simp [hx])
    by_cases hc : p ≤ g
    · rw [lOver, if_neg (by omega), pOn, if_pos hc, show max 0 (g - p) = g - p by omega, ih h2 _ (by omega)]
      simp
    · rw [lOver, if_pos (by omega), pOn, if_neg hc, show max 0 (g - p) = 0 by omega, lOver_zero h2]
      simp [less1]
theorem pOn_bd {xs : List Int} (h : ∀ x ∈ xs, 0 ≤ x ∧ x ≤ 1000000) {a : Int} (ha : 0 ≤ a) : (pOn xs a).1 ≤ xs.length ∧ 0 ≤ (pOn xs a).2 ∧ (pOn xs a).2 ≤ a := by
  induction xs generalizing a with
  | nil => simp [pOn, ha]
  | cons p ps ih =>
    have h1 := h p (by simp)
    by_cases hc : p ≤ a
    · have := ih (fun x hx => h x (by simp [hx])) (a := a - p) (by omega)
      rw [pOn, if_pos hc]
      simp only [List.length_cons]
      omega
    · rw [pOn, if_neg hc]
      simp
      omega
end Go.Proofs.Ytbbopnpmjhbffaa
