/- BestSkip in plain Lean: pieces of rolls, counted over places. -/
import Derived.Test.YtagnliolaghehaaPl5
namespace Go.Proofs.Ytagnliolaghehaa
set_option linter.unusedVariables false
/-- how many of the places 0, 1, .. n - 1 hold -/
def cnt (f : Int → Bool) : Nat → Nat
  | 0 => 0
  | n + 1 => cnt f n + (if f n = true then 1 else 0)
theorem cnt_none {f : Int → Bool} {a : Nat} (n : Nat) (h : ∀ i : Nat, a ≤ i → i < a + n → f i = false) : cnt f (a + n) = cnt f a := by
  induction n with
  | zero => rfl
  | succ n ih =>
    rw [← Nat.add_assoc, cnt, ih fun i h1 h2 => h i h1 (by omega), h (a + n) (by omega) (by omega)]
    simp
theorem cnt_step {f : Int → Bool} {a n : Nat} (hn : 0 < n) (h0 : f a = true) (h : ∀ i : Nat, a < i → i < a + n → f i = false) : cnt f (a + n) = cnt f a + 1 := by
  have h1 := cnt_none (f := f) (a := a + 1) (n - 1) fun i h1 h2 => h i (by omega) (by omega)
  rw [show a + 1 + (n - 1) = a + n by omega] at h1
  rw [h1, cnt, h0]
  simp
theorem cnt_add {f g h : Int → Bool} (n : Nat) (hh : ∀ i : Nat, i < n → (if h i = true then 1 else 0) = (if f i = true then 1 else 0) + (if g i = true then 1 else 0)) : cnt h n = cnt f n + cnt g n := by
  induction n with
  | zero => rfl
  | succ n ih =>
    have h1 := ih fun i hi => hh i (by omega)
    have h2 := hh n (by omega)
    simp only [cnt]
    omega
theorem cnt_at (g : Int → Bool) (c : Int) (n : Nat) : cnt (fun x => g x && decide (x = c)) n = if 0 ≤ c ∧ c < n ∧ g c = true then 1 else 0 := by
  induction n with
  | zero => rw [if_neg (by omega)]; rfl
  | succ n ih =>
    rw [cnt, ih]
    by_cases hc : (n : Int) = c
    · subst hc
      rw [if_neg (by omega)]
      cases hg : g n
      · simp
      · simp; omega
    · have e : (g n && decide ((n : Int) = c)) = false := by simp [hc]
      rw [e]
      by_cases h1 : 0 ≤ c ∧ c < n ∧ g c = true
      · rw [if_pos h1, if_neg (by simp), if_pos ⟨h1.1, by omega, h1.2.2⟩]
      · rw [if_neg h1, if_neg (by simp), if_neg fun h2 => h1 ⟨h2.1, by omega, h2.2.2⟩]
/-- a place at which a roll begins, one at which one of the first k ends -/
def isSt (ws : List Int) (x : Int) : Bool := (List.range ws.length).any fun i => decide (tot (ws.take i) = x)
def isEk (ps : List Int) (k : Nat) (x : Int) : Bool := (List.range k).any fun i => decide (tot (ps.take (i + 1)) = x)
def isEn (ps : List Int) (x : Int) : Bool := isEk ps ps.length x
theorem isSt_iff {ws : List Int} {x : Int} : isSt ws x = true ↔ ∃ i, i < ws.length ∧ tot (ws.take i) = x := by simp [isSt]
theorem isEk_iff {ps : List Int} {k : Nat} {x : Int} : isEk ps k x = true ↔ ∃ i, i < k ∧ tot (ps.take (i + 1)) = x := by simp [isEk]
theorem isEn_iff {ps : List Int} {x : Int} : isEn ps x = true ↔ ∃ i, i < ps.length ∧ tot (ps.take (i + 1)) = x := isEk_iff
theorem isEn_mem {ps : List Int} {x : Int} : isEn ps x = true ↔ x ∈ endsL ps := by simp [isEn_iff, endsL]
/-- a place at which a piece begins -/
def pB (ps ws : List Int) (s x : Int) : Bool := isSt ws x || isEn ps (x + s)
theorem tot_rise {xs : List Int} (h : ∀ x ∈ xs, 1 ≤ x) {i j : Nat} (hij : i < j) (hj : j ≤ xs.length) : tot (xs.take i) < tot (xs.take j) := by
  induction j with
  | zero => omega
  | succ j ih =>
    have h1 := h _ (nth_mem (xs := xs) (k := j) (by omega))
    rw [tot_take (by omega)]
    by_cases e : i = j
    · subst e; omega
    · have := ih (by omega) (by omega); omega
theorem tot_rise_le {xs : List Int} (h : ∀ x ∈ xs, 1 ≤ x) {i j : Nat} (hij : i ≤ j) (hj : j ≤ xs.length) : tot (xs.take i) ≤ tot (xs.take j) := by
  by_cases e : i = j
  · subst e; exact Int.le_refl _
  · have := tot_rise h (i := i) (j := j) (by omega) hj; omega
theorem tot_zero (xs : List Int) : tot (xs.take 0) = 0 := by simp [tot]
theorem tot_full {xs : List Int} {n : Nat} (h : xs.length = n) : tot (xs.take n) = tot xs := by rw [List.take_of_length_le (by omega)]
theorem take_pos {xs : List Int} (h : ∀ x ∈ xs, 1 ≤ x) {i : Nat} (hi : i ≤ xs.length) : 0 ≤ tot (xs.take i) := by
  have := tot_rise_le h (Nat.zero_le i) hi
  rwa [tot_zero] at this
theorem take_le {xs : List Int} (h : ∀ x ∈ xs, 1 ≤ x) {i : Nat} (hi : i ≤ xs.length) : tot (xs.take i) ≤ tot xs := by
  have := tot_rise_le h hi (Nat.le_refl _)
  rwa [tot_full rfl] at this
theorem pB_start {ps ws : List Int} {s : Int} {i : Nat} (h : i < ws.length) : pB ps ws s (tot (ws.take i)) = true := by
  rw [pB, isSt_iff.2 ⟨i, h, rfl⟩]; rfl
theorem pB_end {ps ws : List Int} {s x : Int} {p : Nat} (h : p < ps.length) (e : x + s = tot (ps.take (p + 1))) : pB ps ws s x = true := by
  rw [pB, isEn_iff.2 ⟨p, h, e.symm⟩, Bool.or_true]
section
variable {ps ws : List Int} {s : Int} (hp : ∀ x ∈ ps, 1 ≤ x) (hw : ∀ x ∈ ws, 1 ≤ x)
include hp hw
/-- one piece more -/
theorem pc_step {i p : Nat} {cur a need n : Int} (hi : i < ws.length) (hpl : p < ps.length) (h1 : cur + need = tot (ws.take (i + 1))) (h2 : tot (ws.take i) ≤ cur) (h3 : s + cur = tot (ps.take p) + a) (h4 : 0 ≤ a) (h5 : a + n ≤ nth ps p) (h6 : n ≤ need) (hn : 0 < n) (hb : pB ps ws s cur = true) :
    cnt (pB ps ws s) (cur + n).toNat = cnt (pB ps ws s) cur.toNat + 1 := by
  have h0 := take_pos hw (i := i) (by omega)
  obtain ⟨c, rfl⟩ := Int.eq_ofNat_of_zero_le (show 0 ≤ cur by omega)
  obtain ⟨m, rfl⟩ := Int.eq_ofNat_of_zero_le (show 0 ≤ n by omega)
  rw [show ((c : Int) + m).toNat = c + m by omega, show (c : Int).toNat = c by omega]
  refine cnt_step (by omega) hb fun x hx1 hx2 => ?_
  cases hB : pB ps ws s x
  · rfl
  exfalso
  rw [pB, Bool.or_eq_true, isSt_iff, isEn_iff] at hB
  rcases hB with ⟨j, hj, e⟩ | ⟨j, hj, e⟩
  · by_cases q : j ≤ i
    · have := tot_rise_le hw q (by omega); omega
    · have := tot_rise_le hw (i := i + 1) (j := j) (by omega) (by omega); omega
  · by_cases q : j < p
    · have := tot_rise_le hp (i := j + 1) (j := p) (by omega) (by omega); omega
    · have := tot_rise_le hp (i := p + 1) (j := j + 1) (by omega) (by omega)
      have e2 := tot_take (xs := ps) hpl
      omega
omit hp in
theorem cnt_starts : cnt (isSt ws) (tot ws).toNat = ws.length := by
  have key : ∀ k, k ≤ ws.length → cnt (isSt ws) (tot (ws.take k)).toNat = k := by
    intro k hk
    induction k with
    | zero => rw [tot_zero]; rfl
    | succ k ih =>
      have h0 := take_pos hw (i := k) (by omega)
      have h1 := hw _ (nth_mem (xs := ws) (k := k) (by omega))
      have h2 := ih (by omega)
      rw [tot_take (by omega)]
      have hst : isSt ws (tot (ws.take k)) = true := isSt_iff.2 ⟨k, by omega, rfl⟩
      generalize ht : tot (ws.take k) = t at h0 h2 hst ⊢
      obtain ⟨c, rfl⟩ := Int.eq_ofNat_of_zero_le h0
      obtain ⟨m, hm⟩ := Int.eq_ofNat_of_zero_le (show 0 ≤ nth ws k by omega)
      rw [hm, show ((c : Int) + m).toNat = c + m by omega]
      rw [show (c : Int).toNat = c by omega] at h2
      rw [cnt_step (by omega) hst, h2]
      intro x hx1 hx2
      cases hB : isSt ws x
      · rfl
      exfalso
      obtain ⟨j, hj, e⟩ := isSt_iff.1 hB
      by_cases q : j ≤ k
      · have := tot_rise_le hw q (by omega); omega
      · have := tot_rise_le hw (i := k + 1) (j := j) (by omega) (by omega)
        have e2 := tot_take (xs := ws) (k := k) (by omega)
        omega
  have := key ws.length (Nat.le_refl _)
  rwa [tot_full rfl] at this
end
/-- a place inside a roll -/
def gB (ws : List Int) (x : Int) : Bool := decide (0 < x) && (decide (x < tot ws) && !isEn ws x)
theorem gB_iff {ws : List Int} {x : Int} : gB ws x = true ↔ 0 < x ∧ x < tot ws ∧ isEn ws x = false := by simp [gB]
/-- how many of the first k ends of the parents lie inside rolls -/
def sp (ps ws : List Int) (s : Int) : Nat → Nat
  | 0 => 0
  | k + 1 => sp ps ws s k + (if gB ws (tot (ps.take (k + 1)) - s) = true then 1 else 0)
theorem sp_le (ps ws : List Int) (s : Int) (k : Nat) : sp ps ws s k ≤ k := by
  induction k with
  | zero => exact Nat.le_refl _
  | succ k ih => rw [sp]; split <;> omega
theorem sp_cnt {ps ws : List Int} {s : Int} (hp : ∀ x ∈ ps, 1 ≤ x) {k : Nat} (hk : k ≤ ps.length) : sp ps ws s k = cnt (fun x => gB ws x && isEk ps k (x + s)) (tot ws).toNat := by
  induction k with
  | zero =>
    have := cnt_none (f := fun x => gB ws x && isEk ps 0 (x + s)) (a := 0) (tot ws).toNat fun i _ _ => by simp [isEk]
    rw [Nat.zero_add] at this
    rw [this]; rfl
  | succ k ih =>
    rw [sp, ih (by omega)]
    have h1 := cnt_at (gB ws) (tot (ps.take (k + 1)) - s) (tot ws).toNat
    have h2 : (if 0 ≤ tot (ps.take (k + 1)) - s ∧ tot (ps.take (k + 1)) - s < ((tot ws).toNat : Int) ∧ gB ws (tot (ps.take (k + 1)) - s) = true then 1 else 0) = (if gB ws (tot (ps.take (k + 1)) - s) = true then 1 else 0) := by
      by_cases q : gB ws (tot (ps.take (k + 1)) - s) = true
      · have := gB_iff.1 q
        rw [if_pos q, if_pos ⟨by omega, by omega, q⟩]
      · rw [if_neg q, if_neg fun q' => q q'.2.2]
    rw [← h2, ← h1]
    refine (cnt_add _ fun i hi => ?_).symm
    cases hg : gB ws i
    · simp
    · by_cases hc : (i : Int) = tot (ps.take (k + 1)) - s
      · have e1 : isEk ps k (i + s) = false := by
          cases hb : isEk ps k (i + s)
          · rfl
          · obtain ⟨j, hj, e⟩ := isEk_iff.1 hb
            have := tot_rise hp (i := j + 1) (j := k + 1) (by omega) (by omega)
            omega
        have e2 : isEk ps (k + 1) (i + s) = true := isEk_iff.2 ⟨k, by omega, by omega⟩
        have e4 : decide ((i : Int) = tot (ps.take (k + 1)) - s) = true := decide_eq_true hc
        simp [e1, e2, e4]
      · have e3 : isEk ps (k + 1) (i + s) = isEk ps k (i + s) := by
          rw [Bool.eq_iff_iff, isEk_iff, isEk_iff]
          constructor
          · rintro ⟨j, hj, e⟩
            by_cases q : j = k
            · subst q; omega
            · exact ⟨j, by omega, e⟩
          · rintro ⟨j, hj, e⟩; exact ⟨j, by omega, e⟩
        simp [e3, hc]
theorem pieces_sp {ps ws : List Int} {s : Int} (hp : ∀ x ∈ ps, 1 ≤ x) (hw : ∀ x ∈ ws, 1 ≤ x) : cnt (pB ps ws s) (tot ws).toNat = ws.length + sp ps ws s ps.length := by
  rw [sp_cnt hp (Nat.le_refl _), ← cnt_starts hw]
  refine cnt_add _ fun i hi => ?_
  have hT : 0 ≤ tot ws := by have := take_pos hw (Nat.le_refl _); rwa [tot_full rfl] at this
  have hiT : (i : Int) < tot ws := by omega
  change (if pB ps ws s i = true then 1 else 0) = (if isSt ws i = true then 1 else 0) + (if (gB ws i && isEn ps (i + s)) = true then 1 else 0)
  cases hs : isSt ws i
  · have hg : gB ws i = true := by
      rw [gB_iff]
      refine ⟨?_, hiT, ?_⟩
      · rcases Nat.eq_zero_or_pos i with e | e
        · subst e
          have hl : 0 < ws.length := by
            rcases Nat.eq_zero_or_pos ws.length with e | e
            · rw [List.length_eq_zero_iff.1 e] at hiT; simp [tot] at hiT
            · exact e
          have := isSt_iff.2 ⟨0, hl, tot_zero ws⟩
          rw [show ((0 : Nat) : Int) = 0 by rfl, this] at hs
          exact absurd hs (by decide)
        · omega
      · cases hb : isEn ws i
        · rfl
        · obtain ⟨j, hj, e⟩ := isEn_iff.1 hb
          by_cases q : j + 1 < ws.length
          · have := isSt_iff.2 ⟨j + 1, q, e⟩
            rw [this] at hs
            exact absurd hs (by decide)
          · rw [tot_full (by omega)] at e; omega
    simp [pB, hs, hg]
  · have hg : gB ws i = false := by
      cases hb : gB ws i
      · rfl
      · obtain ⟨g1, g2, g3⟩ := gB_iff.1 hb
        obtain ⟨j, hj, e⟩ := isSt_iff.1 hs
        cases j with
        | zero => rw [tot_zero] at e; omega
        | succ j =>
          have := isEn_iff.2 ⟨j, by omega, e⟩
          rw [this] at g3
          exact absurd g3 (by decide)
    simp [pB, hs, hg]
/-- the first of the best -/
def bst (C : Nat → Nat) : Nat → Nat
  | 0 => 0
  | k + 1 => if C (k + 1) < C (bst C k) then k + 1 else bst C k
theorem bst_le (C : Nat → Nat) (k : Nat) : bst C k ≤ k := by
  induction k with
  | zero => exact Nat.le_refl _
  | succ k ih => rw [bst]; split <;> omega
def spA (ps ws : List Int) (k : Nat) : Nat := sp ps ws k ps.length
def bOf (ps ws : List Int) : Int := if enoughB ps ws 0 = true then bst (spA ps ws) (tot ps - tot ws).toNat else -1
end Go.Proofs.Ytagnliolaghehaa
