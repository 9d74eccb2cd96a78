/- Chapter 4 in plain Lean, third part: the ways of knives. -/
import Derived.Test.YtkmogpeiolkpbaaPl3
namespace Go.Proofs.Ytkmogpeiolkpbaa
set_option linter.unusedVariables false
def dst (x y : Int) : Int := max (x - y) (y - x)
theorem dst_bd {x y M : Int} (hx : 0 ≤ x ∧ x ≤ M) (hy : 0 ≤ y ∧ y ≤ M) : 0 ≤ dst x y ∧ dst x y ≤ M := by unfold dst; omega
def mvS (best p d : Int) : Int := if 0 ≤ p then (if best < 0 ∨ p + d < best then p + d else best) else best
def mvR (prev : Nat → Int) (x : Int) (b : List Int) : Nat → Int
  | 0 => -1
  | k + 1 => mvS (mvR prev x b k) (prev k) (dst x (nth b k))
/-- the reference's table -/
def mv (a b : List Int) : Nat → Nat → Int
  | 0 => fun _ => 0
  | i + 1 => mvR (mv a b i) (nth a i) b
def lwR (prev : Nat → Int) (x : Int) (b : List Int) (i : Nat) : Nat → Int
  | 0 => 1441
  | j + 1 => if i ≤ j + 1 then min (lwR prev x b i j) (prev j + dst x (nth b j)) else 1441
/-- the program's table -/
def lw (a b : List Int) : Nat → Nat → Int
  | 0 => fun _ => 0
  | i + 1 => lwR (lw a b i) (nth a i) b (i + 1)
theorem mv_zero (a b : List Int) (k : Nat) : mv a b 0 k = 0 := rfl
theorem mv_succ_zero (a b : List Int) (i : Nat) : mv a b (i + 1) 0 = -1 := rfl
theorem mv_succ (a b : List Int) (i k : Nat) : mv a b (i + 1) (k + 1) = mvS (mv a b (i + 1) k) (mv a b i k) (dst (nth a i) (nth b k)) := rfl
theorem lw_succ (a b : List Int) (i j : Nat) : lw a b (i + 1) (j + 1) = if i + 1 ≤ j + 1 then min (lw a b (i + 1) j) (lw a b i j + dst (nth a i) (nth b j)) else 1441 := rfl
theorem mv_lw {a b : List Int} (ha : ∀ x ∈ a, 0 ≤ x ∧ x ≤ 60) (hb : ∀ x ∈ b, 0 ≤ x ∧ x ≤ 60) (h24 : a.length ≤ 24) (i : Nat) (hi : i ≤ a.length) : ∀ j, j ≤ b.length →
    (i ≤ j → lw a b i j = mv a b i j ∧ 0 ≤ mv a b i j ∧ mv a b i j ≤ 60 * i) ∧ (j < i → lw a b i j = 1441 ∧ mv a b i j = -1) := by
  induction i with
  | zero => intro j hj; refine ⟨fun _ => ⟨rfl, by simp [mv], by simp [mv]⟩, fun h => by omega⟩
  | succ i ih =>
    intro j
    induction j with
    | zero => intro _; exact ⟨fun h => by omega, fun _ => ⟨rfl, rfl⟩⟩
    | succ j ihj =>
      intro hj
      have h1 := ih (by omega) j (by omega)
      have h2 := ihj (by omega)
      have hd := dst_bd (ha _ (nth_mem (k := i) (by omega))) (hb _ (nth_mem (k := j) (by omega)))
      rw [lw_succ, mv_succ]
      constructor
      · intro hle
        obtain ⟨e1, e2, e3⟩ := h1.1 (by omega)
        rw [if_pos hle, e1, mvS, if_pos e2]
        by_cases hij : i + 1 ≤ j
        · obtain ⟨f1, f2, f3⟩ := h2.1 hij
          rw [f1]
          split <;> omega
        · obtain ⟨f1, f2⟩ := h2.2 (by omega)
          rw [f1, f2, if_pos (by omega)]
          omega
      · intro hlt
        obtain ⟨e1, e2⟩ := h1.2 (by omega)
        obtain ⟨f1, f2⟩ := h2.2 (by omega)
        rw [if_neg (by omega), e2, mvS, if_neg (by omega)]
        exact ⟨rfl, f2⟩
theorem mv_bd {a b : List Int} (ha : ∀ x ∈ a, 0 ≤ x ∧ x ≤ 60) (hb : ∀ x ∈ b, 0 ≤ x ∧ x ≤ 60) (h24 : a.length ≤ 24) {i j : Nat} (hi : i ≤ a.length) (hj : j ≤ b.length) : -1 ≤ mv a b i j ∧ mv a b i j ≤ 1440 := by
  have h := mv_lw ha hb h24 i hi j hj
  by_cases e : i ≤ j
  · have := (h.1 e).2; omega
  · have := (h.2 (by omega)).2; omega
theorem lw_bd {a b : List Int} (ha : ∀ x ∈ a, 0 ≤ x ∧ x ≤ 60) (hb : ∀ x ∈ b, 0 ≤ x ∧ x ≤ 60) (h24 : a.length ≤ 24) {i j : Nat} (hi : i ≤ a.length) (hj : j ≤ b.length) : 0 ≤ lw a b i j ∧ lw a b i j ≤ 1441 := by
  have h := mv_lw ha hb h24 i hi j hj
  by_cases e : i ≤ j
  · have := h.1 e; omega
  · have := h.2 (by omega); omega
/-- a row of a table, and the first rows -/
def tRow (f : Nat → Nat → Int) (i n : Nat) : List Int := (List.range n).map fun k => f i k
theorem tRow_len (f : Nat → Nat → Int) (i n : Nat) : (tRow f i n).length = n := by simp [tRow]
theorem tRow_nth {f : Nat → Nat → Int} {i n k : Nat} (h : k < n) : nth (tRow f i n) k = f i k := by simp [tRow, nth, h]
theorem tRow_succ (f : Nat → Nat → Int) (i n : Nat) : tRow f i (n + 1) = tRow f i n ++ [f i n] := by simp [tRow, List.range_succ]
def tAll (f : Nat → Nat → Int) (m n : Nat) : List (List Int) := (List.range m).map fun i => tRow f i n
theorem tAll_len (f : Nat → Nat → Int) (m n : Nat) : (tAll f m n).length = m := by simp [tAll]
theorem tAll_succ (f : Nat → Nat → Int) (m n : Nat) : tAll f (m + 1) n = tAll f m n ++ [tRow f m n] := by simp [tAll, List.range_succ]
/-- the least way, or -1 -/
def mkOf (a b : List Int) : Int := if vKn a = true ∧ vKn b = true then (if b.length < a.length then mv b a b.length a.length else mv a b a.length b.length) else -1
theorem mv_end {a b : List Int} (ha : vKn a = true) (hb : vKn b = true) (hl : a.length ≤ b.length) : lw a b a.length b.length = mv a b a.length b.length := by
  obtain ⟨l1, h1, _⟩ := vKn_true ha
  obtain ⟨l2, h2, _⟩ := vKn_true hb
  exact ((mv_lw h1 h2 l1 a.length (Nat.le_refl _) b.length (Nat.le_refl _)).1 hl).1
/-- the place that the (i+1)-th knife gets if those behind it have the places from k on -/
def pkF (a b : List Int) (i : Nat) : Nat → Nat
  | 0 => 0
  | k + 1 => if mv a b (i + 1) (k + 1) = mv a b i k + dst (nth a i) (nth b k) then k else pkF a b i k
def pkL (a b : List Int) : Nat → Nat → List Int
  | 0, _ => []
  | i + 1, k => pkL a b i (pkF a b i k) ++ [(pkF a b i k : Int)]
theorem pkL_len (a b : List Int) (i k : Nat) : (pkL a b i k).length = i := by
  induction i generalizing k with
  | zero => rfl
  | succ i ih => simp [pkL, ih]
def pkOf (a b : List Int) : List Int := if vKn a = true ∧ vKn b = true ∧ a.length ≤ b.length then pkL a b a.length b.length else []
theorem pkOf_len (a b : List Int) : (pkOf a b).length ≤ a.length := by unfold pkOf; split <;> simp [pkL_len]
theorem pkF_hit {a b : List Int} {i k : Nat} (h : mv a b (i + 1) (k + 1) = mv a b i k + dst (nth a i) (nth b k)) : pkF a b i (k + 1) = k := by rw [pkF, if_pos h]
theorem pkF_miss {a b : List Int} {i k : Nat} (h : ¬ mv a b (i + 1) (k + 1) = mv a b i k + dst (nth a i) (nth b k)) : pkF a b i (k + 1) = pkF a b i k := by rw [pkF, if_neg h]
/-- where the searched place is not this one, there is room below it -/
theorem pk_room {a b : List Int} (ha : ∀ x ∈ a, 0 ≤ x ∧ x ≤ 60) (hb : ∀ x ∈ b, 0 ≤ x ∧ x ≤ 60) (h24 : a.length ≤ 24) {i k : Nat} (hi : i < a.length) (hk : k < b.length) (hik : i ≤ k)
    (h : ¬ mv a b (i + 1) (k + 1) = mv a b i k + dst (nth a i) (nth b k)) : i + 1 ≤ k := by
  rcases Nat.lt_or_ge i k with h1 | h1
  · exact h1
  · obtain rfl : i = k := by omega
    exfalso
    apply h
    have e1 := (mv_lw ha hb h24 i (by omega) i (by omega)).1 (Nat.le_refl _)
    have e2 := (mv_lw ha hb h24 (i + 1) (by omega) i (by omega)).2 (by omega)
    rw [mv_succ, mvS, if_pos e1.2.1, e2.2, if_pos (by omega)]
end Go.Proofs.Ytkmogpeiolkpbaa
