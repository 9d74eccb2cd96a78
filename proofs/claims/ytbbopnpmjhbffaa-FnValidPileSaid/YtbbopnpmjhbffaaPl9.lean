/- Reels, parts and defects: the plain facts. -/
import Derived.Test.YtbbopnpmjhbffaaKit3
namespace Go.Proofs.Ytbbopnpmjhbffaa
set_option linter.unusedVariables false

structure D5 where
  l : Int
  r : Int
  f : Int
  t : Int
  g : Int
/-- the k-th defect -/
def nthD (ds : List D5) (k : Nat) : D5 := ds.getD k ⟨0, 0, 0, 0, 0⟩
theorem nthD_lt {ds : List D5} {k : Nat} (h : k < ds.length) : nthD ds k = ds[k] := by simp [nthD, h]
theorem nthD_mem {ds : List D5} {k : Nat} (h : k < ds.length) : nthD ds k ∈ ds := by rw [nthD_lt h]; exact List.getElem_mem h
theorem forall_nthD {ds : List D5} {p : D5 → Prop} : (∀ d ∈ ds, p d) ↔ ∀ k, k < ds.length → p (nthD ds k) := by
  constructor
  · intro h k hk; exact h _ (nthD_mem hk)
  · intro h d hd
    obtain ⟨k, hk, rfl⟩ := List.getElem_of_mem hd
    have := h k hk
    rwa [nthD_lt hk] at this
theorem takeD_nth {ds : List D5} {k : Nat} (h : k < ds.length) : ds.take (k + 1) = ds.take k ++ [nthD ds k] := by
  rw [nthD_lt h, List.take_succ_eq_append_getElem h]
/-- is a defect valid on a reel with W lanes and L places -/
def dOk (W L : Int) (d : D5) : Bool := decide ((0 ≤ d.l ∧ d.l < d.r ∧ d.r ≤ W) ∧ (0 ≤ d.f ∧ d.f < d.t ∧ d.t ≤ L) ∧ (1 ≤ d.g ∧ d.g ≤ 9))
/-- are lanes and places there on it -/
def vPa (W L l r f t : Int) : Bool := decide ((0 ≤ l ∧ l < r ∧ r ≤ W) ∧ (0 ≤ f ∧ f < t ∧ t ≤ L))
/-- is a reel valid -/
def vRe (W L : Int) (ds : List D5) : Bool := decide ((1 ≤ W ∧ W ≤ 60) ∧ (1 ≤ L ∧ L ≤ 400) ∧ ds.length ≤ 16 ∧ ∀ k, k < ds.length → dOk W L (nthD ds k) = true)
theorem vRe_out {W L : Int} {ds : List D5} (h : vRe W L ds = true) : (1 ≤ W ∧ W ≤ 60) ∧ (1 ≤ L ∧ L ≤ 400) ∧ ds.length ≤ 16 ∧ ∀ k, k < ds.length → dOk W L (nthD ds k) = true := by
  unfold vRe at h; exact of_decide_eq_true h
theorem vRe_yes {W L : Int} {ds : List D5} (h1 : 1 ≤ W ∧ W ≤ 60) (h2 : 1 ≤ L ∧ L ≤ 400) (h3 : ds.length ≤ 16) (h4 : ∀ k, k < ds.length → dOk W L (nthD ds k) = true) : vRe W L ds = true := by
  unfold vRe; exact decide_eq_true ⟨h1, h2, h3, h4⟩
theorem vRe_no {W L : Int} {ds : List D5} (h : ¬ ((1 ≤ W ∧ W ≤ 60) ∧ (1 ≤ L ∧ L ≤ 400) ∧ ds.length ≤ 16)) : vRe W L ds = false := by
  unfold vRe; exact decide_eq_false fun g => h ⟨g.1, g.2.1, g.2.2.1⟩
theorem vRe_bad {W L : Int} {ds : List D5} {k : Nat} (hk : k < ds.length) (h : dOk W L (nthD ds k) = false) : vRe W L ds = false := by
  unfold vRe; exact decide_eq_false fun g => by have := g.2.2.2 k hk; rw [h] at this; cases this
theorem dOk_out {W L : Int} {d : D5} (h : dOk W L d = true) : (0 ≤ d.l ∧ d.l < d.r ∧ d.r ≤ W) ∧ (0 ≤ d.f ∧ d.f < d.t ∧ d.t ≤ L) ∧ (1 ≤ d.g ∧ d.g ≤ 9) := by
  unfold dOk at h; exact of_decide_eq_true h
theorem dOk_yes {W L : Int} {d : D5} (h : (0 ≤ d.l ∧ d.l < d.r ∧ d.r ≤ W) ∧ (0 ≤ d.f ∧ d.f < d.t ∧ d.t ≤ L) ∧ (1 ≤ d.g ∧ d.g ≤ 9)) : dOk W L d = true := by
  unfold dOk; exact decide_eq_true h
theorem dOk_no {W L : Int} {d : D5} (h : ¬ ((0 ≤ d.l ∧ d.l < d.r ∧ d.r ≤ W) ∧ (0 ≤ d.f ∧ d.f < d.t ∧ d.t ≤ L) ∧ (1 ≤ d.g ∧ d.g ≤ 9))) : dOk W L d = false := by
  unfold dOk; exact decide_eq_false h
theorem vPa_out {W L l r f t : Int} (h : vPa W L l r f t = true) : (0 ≤ l ∧ l < r ∧ r ≤ W) ∧ (0 ≤ f ∧ f < t ∧ t ≤ L) := by
  unfold vPa at h; exact of_decide_eq_true h
theorem vPa_yes {W L l r f t : Int} (h : (0 ≤ l ∧ l < r ∧ r ≤ W) ∧ (0 ≤ f ∧ f < t ∧ t ≤ L)) : vPa W L l r f t = true := by
  unfold vPa; exact decide_eq_true h
theorem vPa_no {W L l r f t : Int} (h : ¬ ((0 ≤ l ∧ l < r ∧ r ≤ W) ∧ (0 ≤ f ∧ f < t ∧ t ≤ L))) : vPa W L l r f t = false := by
  unfold vPa; exact decide_eq_false h
theorem dOk_split (W L : Int) (d : D5) : dOk W L d = (vPa W L d.l d.r d.f d.t && decide (1 ≤ d.g ∧ d.g ≤ 9)) := by
  unfold dOk vPa
  rw [← Bool.decide_and]
  congr 1
  simp only [eq_iff_iff]
  constructor
  · rintro ⟨a, b, c⟩; exact ⟨⟨a, b⟩, c⟩
  · rintro ⟨⟨a, b⟩, c⟩; exact ⟨a, b, c⟩
/-- the reference's conditions are the same -/
theorem dOk_ref (W L : Int) (d : D5) : dOk W L d = (decide (0 ≤ d.l ∧ d.l ≤ W - 1) && decide (d.l + 1 ≤ d.r ∧ d.r ≤ W) && decide (0 ≤ d.f ∧ d.f ≤ L - 1) && decide (d.f + 1 ≤ d.t ∧ d.t ≤ L) && decide (1 ≤ d.g ∧ d.g ≤ 9)) := by
  unfold dOk
  rw [← Bool.decide_and, ← Bool.decide_and, ← Bool.decide_and, ← Bool.decide_and]
  congr 1
  simp only [eq_iff_iff]
  constructor
  · intro h; omega
  · intro h; omega
/-- do a defect and a part meet -/
def mt (d : D5) (l r f t : Int) : Bool := decide ((d.l < r ∧ l < d.r) ∧ (d.f < t ∧ f < d.t))
/-- the greatest grade of the first k defects that meet a part -/
def wst (ds : List D5) (l r f t : Int) : Nat → Int
  | 0 => 0
  | k + 1 => if mt (nthD ds k) l r f t = true then max (wst ds l r f t k) (nthD ds k).g else wst ds l r f t k
theorem wst_bd {ds : List D5} {l r f t : Int} {k : Nat} (h : ∀ i, i < k → (nthD ds i).g ≤ 9) : 0 ≤ wst ds l r f t k ∧ wst ds l r f t k ≤ 9 := by
  induction k with
  | zero => simp [wst]
  | succ k ih =>
    obtain ⟨a, b⟩ := ih fun i hi => h i (by omega)
    have c := h k (by omega)
    simp only [wst]
    split <;> omega
theorem wst_lanes {W L : Int} {ds : List D5} {l r f t m : Int} {k : Nat} (h : ∀ i, i < k → dOk W L (nthD ds i) = true) (h1 : l < m) (h2 : m < r) : max (wst ds l m f t k) (wst ds m r f t k) = wst ds l r f t k := by
  induction k with
  | zero => rfl
  | succ k ih =>
    have e := ih fun i hi => h i (by omega)
    obtain ⟨⟨a, b, c⟩, -, -⟩ := dOk_out (h k (by omega))
    simp only [wst, mt, decide_eq_true_eq]
    by_cases q : (nthD ds k).f < t ∧ f < (nthD ds k).t
    · by_cases x : (nthD ds k).l < m ∧ l < (nthD ds k).r <;> by_cases y : (nthD ds k).l < r ∧ m < (nthD ds k).r
      · rw [if_pos ⟨x, q⟩, if_pos ⟨y, q⟩, if_pos ⟨⟨y.1, x.2⟩, q⟩]; omega
      · rw [if_pos ⟨x, q⟩, if_neg (fun z => y z.1), if_pos ⟨⟨by omega, x.2⟩, q⟩]; omega
      · rw [if_neg (fun z => x z.1), if_pos ⟨y, q⟩, if_pos ⟨⟨y.1, by omega⟩, q⟩]; omega
      · rw [if_neg (fun z => x z.1), if_neg (fun z => y z.1), if_neg (fun z => by have h5 := z.1; omega)]; exact e
    · rw [if_neg (fun z => q z.2), if_neg (fun z => q z.2), if_neg (fun z => q z.2)]; exact e
theorem wst_places {W L : Int} {ds : List D5} {l r f t m : Int} {k : Nat} (h : ∀ i, i < k → dOk W L (nthD ds i) = true) (h1 : f < m) (h2 : m < t) : max (wst ds l r f m k) (wst ds l r m t k) = wst ds l r f t k := by
  induction k with
  | zero => rfl
  | succ k ih =>
    have e := ih fun i hi => h i (by omega)
    obtain ⟨-, ⟨a, b, c⟩, -⟩ := dOk_out (h k (by omega))
    simp only [wst, mt, decide_eq_true_eq]
    by_cases q : (nthD ds k).l < r ∧ l < (nthD ds k).r
    · by_cases x : (nthD ds k).f < m ∧ f < (nthD ds k).t <;> by_cases y : (nthD ds k).f < t ∧ m < (nthD ds k).t
      · rw [if_pos ⟨q, x⟩, if_pos ⟨q, y⟩, if_pos ⟨q, ⟨y.1, x.2⟩⟩]; omega
      · rw [if_pos ⟨q, x⟩, if_neg (fun z => y z.2), if_pos ⟨q, ⟨by omega, x.2⟩⟩]; omega
      · rw [if_neg (fun z => x z.2), if_pos ⟨q, y⟩, if_pos ⟨q, ⟨y.1, by omega⟩⟩]; omega
      · rw [if_neg (fun z => x z.2), if_neg (fun z => y z.2), if_neg (fun z => by have := z.2; omega)]; exact e
    · rw [if_neg (fun z => q z.1), if_neg (fun z => q z.1), if_neg (fun z => q z.1)]; exact e
/-- without one of its defects a reel stays valid -/
theorem vRe_less {W L : Int} {ds : List D5} (h : vRe W L ds = true) (i : Nat) : vRe W L (ds.take i ++ ds.drop (i + 1)) = true := by
  obtain ⟨h1, h2, h3, h4⟩ := vRe_out h
  have h5 : ∀ d ∈ ds, dOk W L d = true := (forall_nthD (p := fun d => dOk W L d = true)).2 h4
  refine vRe_yes h1 h2 ?_ ((forall_nthD (p := fun d => dOk W L d = true)).1 fun d hd => ?_)
  · rw [List.length_append, List.length_take, List.length_drop]; omega
  · rcases List.mem_append.1 hd with g | g
    · exact h5 d (List.mem_of_mem_take g)
    · exact h5 d (List.mem_of_mem_drop g)
end Go.Proofs.Ytbbopnpmjhbffaa
