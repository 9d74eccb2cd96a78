/- Plain numbers of chapter 1: turns, lengths, diameters. No program in sight. -/
import Derived.WalkKit
namespace Go.Proofs.Ytbmnmdpgkdaiiaa.Pl

/-- a roll is valid -/
def vr (c t n : Int) : Bool := decide (50 ≤ c ∧ c ≤ 400 ∧ 1 ≤ t ∧ t ≤ 9 ∧ 0 ≤ n ∧ n ≤ 300)
theorem vr_true {c t n : Int} (h : vr c t n = true) : 50 ≤ c ∧ c ≤ 400 ∧ 1 ≤ t ∧ t ≤ 9 ∧ 0 ≤ n ∧ n ≤ 300 := by
  unfold vr at h; exact of_decide_eq_true h
theorem vr_mk {c t n : Int} (h : 50 ≤ c ∧ c ≤ 400 ∧ 1 ≤ t ∧ t ≤ 9 ∧ 0 ≤ n ∧ n ≤ 300) : vr c t n = true := by
  unfold vr; exact decide_eq_true h
theorem vr_no {c t n : Int} (h : ¬ (50 ≤ c ∧ c ≤ 400 ∧ 1 ≤ t ∧ t ≤ 9 ∧ 0 ≤ n ∧ n ≤ 300)) : vr c t n = false := by
  unfold vr; exact decide_eq_false h

theorem vr_cases (c t n : Int) : (50 ≤ c ∧ c ≤ 400 ∧ 1 ≤ t ∧ t ≤ 9 ∧ 0 ≤ n ∧ n ≤ 300) ∨ (c < 50) ∨ (50 ≤ c ∧ 400 < c) ∨ (50 ≤ c ∧ c ≤ 400 ∧ t < 1) ∨ (50 ≤ c ∧ c ≤ 400 ∧ 1 ≤ t ∧ 9 < t) ∨
    (50 ≤ c ∧ c ≤ 400 ∧ 1 ≤ t ∧ t ≤ 9 ∧ n < 0) ∨ (50 ≤ c ∧ c ≤ 400 ∧ 1 ≤ t ∧ t ≤ 9 ∧ 0 ≤ n ∧ 300 < n) := by omega
theorem vr_cases2 (c t n : Int) : (decide (50 ≤ c ∧ c ≤ 400) = true ∧ decide (1 ≤ t ∧ t ≤ 9) = true ∧ decide (0 ≤ n ∧ n ≤ 300) = true) ∨ (decide (50 ≤ c ∧ c ≤ 400) = false) ∨ (decide (50 ≤ c ∧ c ≤ 400) = true ∧ decide (1 ≤ t ∧ t ≤ 9) = false) ∨
    (decide (50 ≤ c ∧ c ≤ 400) = true ∧ decide (1 ≤ t ∧ t ≤ 9) = true ∧ decide (0 ≤ n ∧ n ≤ 300) = false) := by
  cases decide (50 ≤ c ∧ c ≤ 400) <;> cases decide (1 ≤ t ∧ t ≤ 9) <;> cases decide (0 ≤ n ∧ n ≤ 300) <;> simp

/-- the product of thickness and turns stays small -/
theorem tk_bd0 {t k : Int} (h1 : 1 ≤ t) (h2 : t ≤ 9) (h3 : 0 ≤ k) (h4 : k ≤ 301) : 0 ≤ t * k ∧ t * k ≤ 2709 := by
  constructor
  · exact Int.mul_nonneg (by omega) h3
  · have a : t * k ≤ 9 * k := Int.mul_le_mul_of_nonneg_right h2 h3
    omega
theorem tk2 (t k : Int) : 2 * t * k = 2 * (t * k) := by rw [Int.mul_assoc]

theorem vr_and (c t n : Int) : vr c t n = (decide (50 ≤ c ∧ c ≤ 400) && decide (1 ≤ t ∧ t ≤ 9) && decide (0 ≤ n ∧ n ≤ 300)) := by
  unfold vr; rw [Bool.eq_iff_iff]; simp; omega
theorem tk2' (t k : Int) : 2 * t * k = 2 * (t * k) := tk2 t k

theorem tk_bd {t k : Int} (h1 : 1 ≤ t) (h2 : t ≤ 9) (h3 : 0 ≤ k) (h4 : k ≤ 301) : 0 ≤ 2 * t * k ∧ 2 * t * k ≤ 5418 := by
  have := tk_bd0 h1 h2 h3 h4; rw [tk2]; omega
/-- the length of a turn -/
def tl (c t k : Int) : Int := 22 * (c + 2 * t * k + t) / 7
theorem tl_bd {c t k : Int} (hc : 50 ≤ c) (hc' : c ≤ 400) (h1 : 1 ≤ t) (h2 : t ≤ 9) (h3 : 0 ≤ k) (h4 : k ≤ 301) : 160 ≤ tl c t k ∧ tl c t k ≤ 20000 := by
  have h := tk_bd h1 h2 h3 h4
  unfold tl
  generalize 2 * t * k = x at h
  omega

/-- the length of the first turns -/
def ln (c t : Int) : Nat → Int
  | 0 => 0
  | k + 1 => ln c t k + tl c t k
theorem ln_bd {c t : Int} (hc : 50 ≤ c) (hc' : c ≤ 400) (h1 : 1 ≤ t) (h2 : t ≤ 9) (k : Nat) (hk : k ≤ 301) : 160 * k ≤ ln c t k ∧ ln c t k ≤ 20000 * k := by
  induction k with
  | zero => simp [ln]
  | succ k ih =>
    have a := ih (by omega)
    have b := tl_bd hc hc' h1 h2 (k := (k : Int)) (by omega) (by omega)
    simp only [ln]; omega

/-- how many turns a length makes: so many rounds at most, from turn k on -/
def tf (c t : Int) : Nat → Nat → Int → Nat
  | 0, k, _ => k
  | f + 1, k, l => if l < tl c t k then k else tf c t f (k + 1) (l - tl c t k)
theorem tf_le (c t : Int) (f k : Nat) (l : Int) : k ≤ tf c t f k l ∧ tf c t f k l ≤ k + f := by
  induction f generalizing k l with
  | zero => simp [tf]
  | succ f ih =>
    simp only [tf]
    split
    · omega
    · have := ih (k + 1) (l - tl c t k); omega
/-- the turns for a length, from a core on -/
def tfor (c t l : Int) : Nat := tf c t 300 0 l
theorem tfor_def (c t l : Int) : tf c t 300 0 l = tfor c t l := rfl
theorem tfor_le (c t l : Int) : tfor c t l ≤ 300 := by have := tf_le c t 300 0 l; unfold tfor; omega

/-- what tf answers fits, and one turn more does not -/
theorem tf_fits (c t : Int) (f k : Nat) (l : Int) (h : 0 ≤ l) : ln c t (tf c t f k l) ≤ l + ln c t k ∧ (tf c t f k l < k + f → l + ln c t k < ln c t (tf c t f k l + 1)) := by
  induction f generalizing k l with
  | zero => simp [tf]; omega
  | succ f ih =>
    simp only [tf]
    split
    · rename_i hlt
      simp only [ln]
      constructor <;> omega
    · rename_i hge
      have a := ih (k + 1) (l - tl c t k) (by omega)
      simp only [ln] at a ⊢
      constructor
      · omega
      · intro hlt
        have b := a.2 (by omega)
        omega
theorem tfor_fits (c t l : Int) (h : 0 ≤ l) : ln c t (tfor c t l) ≤ l ∧ (tfor c t l < 300 → l < ln c t (tfor c t l + 1)) := by
  have a := tf_fits c t 300 0 l h
  have e : ln c t 0 = 0 := rfl
  rw [e] at a
  unfold tfor
  constructor
  · omega
  · intro h2; have := a.2 (by omega); omega

theorem ln_mono {c t : Int} (hc : 50 ≤ c) (hc' : c ≤ 400) (h1 : 1 ≤ t) (h2 : t ≤ 9) {a b : Nat} (h : a ≤ b) (hb : b ≤ 301) : ln c t a ≤ ln c t b := by
  induction b with
  | zero => have : a = 0 := by omega
            subst this; omega
  | succ b ih =>
    by_cases e : a = b + 1
    · subst e; omega
    · have x := ih (by omega) (by omega)
      have y := tl_bd hc hc' h1 h2 (k := (b : Int)) (by omega) (by omega)
      simp only [ln]; omega
theorem ln_lt {c t : Int} (hc : 50 ≤ c) (hc' : c ≤ 400) (h1 : 1 ≤ t) (h2 : t ≤ 9) {a b : Nat} (h : a < b) (hb : b ≤ 301) : ln c t a < ln c t b := by
  have x := ln_mono hc hc' h1 h2 (a := a + 1) (b := b) (by omega) hb
  have y := tl_bd hc hc' h1 h2 (k := (a : Int)) (by omega) (by omega)
  simp only [ln] at x; omega
/-- the turns of the length of n turns are n -/
theorem tfor_ln {c t : Int} (hc : 50 ≤ c) (hc' : c ≤ 400) (h1 : 1 ≤ t) (h2 : t ≤ 9) (n : Nat) (hn : n ≤ 300) : tfor c t (ln c t n) = n := by
  have b := ln_bd hc hc' h1 h2 n (by omega)
  have f := tfor_fits c t (ln c t n) (by omega)
  have l := tfor_le c t (ln c t n)
  by_cases h : tfor c t (ln c t n) < n
  · have x := f.2 (by omega)
    have y := ln_mono hc hc' h1 h2 (a := tfor c t (ln c t n) + 1) (b := n) (by omega) (by omega)
    omega
  · by_cases h' : n < tfor c t (ln c t n)
    · have y := ln_lt hc hc' h1 h2 h' (by omega)
      omega
    · omega

/-- how many turns a diameter allows -/
def du (c t most : Int) : Int := min 300 ((most - c) / (2 * t))
/-- the reference counts up to it -/
theorem du_of {c t most : Int} {n : Int} (h1 : 1 ≤ t) (h0 : 0 ≤ n) (hn : n ≤ 300) (ha : c + 2 * t * n ≤ most) (hb : n < 300 → most < c + 2 * t * (n + 1)) : du c t most = n := by
  have hq : 0 < 2 * t := by omega
  unfold du
  have lo : n ≤ (most - c) / (2 * t) := by
    rw [Int.le_ediv_iff_mul_le hq, Int.mul_comm]; omega
  by_cases h : n < 300
  · have hi : (most - c) / (2 * t) < n + 1 := by
      rw [Int.ediv_lt_iff_lt_mul hq, Int.mul_comm]; have := hb h; omega
    omega
  · omega

/-- the loop's state: so far k turns, x left -/
def TF (c t l : Int) (k : Nat) (x : Int) : Prop := ∃ f, k + f = 300 ∧ tf c t f k x = tfor c t l
theorem TF_start (c t l : Int) : TF c t l 0 l := ⟨300, rfl, rfl⟩
theorem TF_stop {c t l x : Int} {k : Nat} (h : TF c t l k x) (hk : k < 300) (hx : x < tl c t k) : tfor c t l = k := by
  obtain ⟨f, hf, h⟩ := h
  obtain ⟨f', rfl⟩ : ∃ f', f = f' + 1 := ⟨f - 1, by omega⟩
  rw [← h, tf, if_pos hx]
theorem TF_step {c t l x : Int} {k : Nat} (h : TF c t l k x) (hk : k < 300) (hx : ¬ x < tl c t k) : TF c t l (k + 1) (x - tl c t k) := by
  obtain ⟨f, hf, h⟩ := h
  obtain ⟨f', rfl⟩ : ∃ f', f = f' + 1 := ⟨f - 1, by omega⟩
  rw [tf, if_neg hx] at h
  exact ⟨f', by omega, h⟩
theorem TF_end {c t l x : Int} {k : Nat} (h : TF c t l k x) (hk : k = 300) : tfor c t l = 300 := by
  obtain ⟨f, hf, h⟩ := h
  obtain rfl : f = 0 := by omega
  rw [← h, tf, hk]
attribute [irreducible] tfor TF
/-- what the functions answer -/
def dOf (c t n : Int) : Int := if vr c t n = true then c + 2 * t * n else -1
theorem dOf_yes {c t n : Int} (h : vr c t n = true) : dOf c t n = c + 2 * t * n := if_pos h
theorem dOf_no {c t n : Int} (h : vr c t n = false) : dOf c t n = -1 := if_neg (by simp [h])
def tlOf (c t n k : Int) : Int := if vr c t n = true ∧ 0 ≤ k ∧ k < 300 then tl c t k else -1
theorem tlOf_yes {c t n k : Int} (h : vr c t n = true) (h0 : 0 ≤ k) (h1 : k < 300) : tlOf c t n k = tl c t k := if_pos ⟨h, h0, h1⟩
theorem tlOf_no {c t n k : Int} (h : vr c t n = false ∨ ¬ (0 ≤ k ∧ k < 300)) : tlOf c t n k = -1 := if_neg (by rintro ⟨a, b⟩; rcases h with h | h <;> simp_all)
def lnOf (c t n : Int) : Int := if vr c t n = true then ln c t n.toNat else -1
theorem lnOf_yes {c t n : Int} (h : vr c t n = true) : lnOf c t n = ln c t n.toNat := if_pos h
theorem lnOf_no {c t n : Int} (h : vr c t n = false) : lnOf c t n = -1 := if_neg (by simp [h])
def tfOf (c t n l : Int) : Int := if vr c t n = true ∧ 0 ≤ l then tfor c t l else -1
theorem tfOf_yes {c t n l : Int} (h : vr c t n = true) (h0 : 0 ≤ l) : tfOf c t n l = tfor c t l := if_pos ⟨h, h0⟩
theorem tfOf_no {c t n l : Int} (h : vr c t n = false ∨ l < 0) : tfOf c t n l = -1 := if_neg (by rintro ⟨a, b⟩; rcases h with h | h; (rw [h] at a; cases a); omega)
def duOf (c t n m : Int) : Int := if vr c t n = true ∧ c ≤ m then du c t m else -1
theorem duOf_yes {c t n m : Int} (h : vr c t n = true) (h0 : c ≤ m) : duOf c t n m = du c t m := if_pos ⟨h, h0⟩
theorem duOf_no {c t n m : Int} (h : vr c t n = false ∨ m < c) : duOf c t n m = -1 := if_neg (by rintro ⟨a, b⟩; rcases h with h | h; (rw [h] at a; cases a); omega)
def taOf (c t n a : Int) : Int := if vr c t n = true ∧ 0 ≤ a ∧ a < lnOf c t n then tfor c t a else -1
theorem taOf_yes {c t n a : Int} (h : vr c t n = true) (h0 : 0 ≤ a) (h1 : a < lnOf c t n) : taOf c t n a = tfor c t a := if_pos ⟨h, h0, h1⟩
theorem taOf_no {c t n a : Int} (h : vr c t n = false ∨ a < 0 ∨ lnOf c t n ≤ a) : taOf c t n a = -1 := if_neg (by rintro ⟨a, b⟩; rcases h with h | h; (rw [h] at a; cases a); omega)
end Go.Proofs.Ytbmnmdpgkdaiiaa.Pl
