/- Slices of defects: what a slice reads as, and what keeps it so. -/
import Derived.Test.YtbbopnpmjhbffaaPl9
import Derived.Test.YtbbopnpmjhbffaaOpen
import Derived.Deep.Slices
namespace Go.Proofs.Ytbbopnpmjhbffaa
open Go.RowKit
set_option linter.unusedVariables false

/-- block g holds the defects ds from its first cell on -/
def DfB (w : World) (g : Nat) (ds : List D5) : Prop :=
  g < w.heap.size ∧ ∀ k, k < ds.length → w.cell? ⟨g, k * 5, none⟩ = some (.int .i64 (nthD ds k).l) ∧ w.cell? ⟨g, k * 5 + 1, none⟩ = some (.int .i64 (nthD ds k).r) ∧
    w.cell? ⟨g, k * 5 + 2, none⟩ = some (.int .i64 (nthD ds k).f) ∧ w.cell? ⟨g, k * 5 + 3, none⟩ = some (.int .i64 (nthD ds k).t) ∧ w.cell? ⟨g, k * 5 + 4, none⟩ = some (.int .i64 (nthD ds k).g)
/-- the slice with address A and n elements reads as the defects ds, in a block from its first cell on -/
def Dfs (w : World) (A : Option Addr) (n : Nat) (ds : List D5) : Prop := ds.length = n ∧ (0 < n → ∃ g, A = some ⟨g, 0, none⟩ ∧ DfB w g ds)
/-- the same, wherever its cells lie -/
def DfA (w : World) (A : Option Addr) (n : Nat) (ds : List D5) : Prop := ds.length = n ∧ ∀ k, k < n → ∃ ad, A = some ad ∧ ad.block < w.heap.size ∧
    w.cell? (ad.add (k * 5)) = some (.int .i64 (nthD ds k).l) ∧ w.cell? (ad.add (k * 5 + 1)) = some (.int .i64 (nthD ds k).r) ∧
    w.cell? (ad.add (k * 5 + 2)) = some (.int .i64 (nthD ds k).f) ∧ w.cell? (ad.add (k * 5 + 3)) = some (.int .i64 (nthD ds k).t) ∧ w.cell? (ad.add (k * 5 + 4)) = some (.int .i64 (nthD ds k).g)
section
variable {w w' : World} {A : Option Addr} {n g : Nat} {ds : List D5}
theorem DfB.keep (h : DfB w g ds) (hz : w.heap.size ≤ w'.heap.size) (hb : w'.heap[g]? = w.heap[g]?) : DfB w' g ds := by
  have hc : ∀ o, w'.cell? ⟨g, o, none⟩ = w.cell? ⟨g, o, none⟩ := fun o => World.cell?_of_block (w := w) (a := ⟨g, o, none⟩) hb
  refine ⟨Nat.lt_of_lt_of_le h.1 hz, fun k hk => ?_⟩
  simp only [hc]
  exact h.2 k hk
theorem Dfs.keep (h : Dfs w A n ds) (hz : w.heap.size ≤ w'.heap.size) (hk : ∀ g, g < w.heap.size → w'.heap[g]? = w.heap[g]?) : Dfs w' A n ds :=
  ⟨h.1, fun h0 => by
    obtain ⟨g, e, hg⟩ := h.2 h0
    exact ⟨g, e, hg.keep hz (hk g hg.1)⟩⟩
theorem Dfs.below (h : Dfs w A n ds) (hb : Below w.heap.size w w') : Dfs w' A n ds := h.keep hb.size fun g hg => hb.block g hg
theorem Dfs.alloc (h : Dfs w A n ds) (o : Obj) : Dfs (w.alloc o) A n ds := h.below ((Below.refl _ _).alloc (Nat.le_refl _) _)
theorem Dfs.drewN (h : Dfs w A n ds) (k : Nat) : Dfs (w.drewN k) A n ds := h
theorem Dfs.drew (h : Dfs w A n ds) : Dfs w.drew A n ds := h
theorem Dfs.nil : Dfs w A 0 [] := ⟨rfl, fun h => by omega⟩
theorem DfA.below (h : DfA w A n ds) (hb : Below w.heap.size w w') : DfA w' A n ds :=
  ⟨h.1, fun k hk => by
    obtain ⟨ad, e, hbl, hc⟩ := h.2 k hk
    refine ⟨ad, e, Nat.lt_of_lt_of_le hbl hb.size, ?_⟩
    have hh : ∀ o, w'.cell? (ad.add o) = w.cell? (ad.add o) := fun o => hb.cell (by rw [block_add]; exact hbl)
    simp only [hh]
    exact hc⟩
end
/-- the cells of a list of defects -/
def cellsD (d : D5) : List Value := [.int .i64 d.l, .int .i64 d.r, .int .i64 d.f, .int .i64 d.t, .int .i64 d.g]
def flat (ds : List D5) : List Value := ds.flatMap cellsD
theorem flat_len (ds : List D5) : (flat ds).length = ds.length * 5 := by
  induction ds with
  | nil => rfl
  | cons d ds ih => simp only [flat, List.flatMap_cons, List.length_append] at ih ⊢; rw [ih]; simp [cellsD]; omega
theorem flat_append (a b : List D5) : flat (a ++ b) = flat a ++ flat b := by simp [flat]
theorem flat_at (ds : List D5) (k j : Nat) (hk : k < ds.length) (hj : j < 5) : (flat ds)[k * 5 + j]? = (cellsD (nthD ds k))[j]? := by
  induction ds generalizing k with
  | nil => simp at hk
  | cons d ds ih =>
    have e : flat (d :: ds) = cellsD d ++ flat ds := by simp [flat]
    have l5 : (cellsD d).length = 5 := rfl
    rw [e]
    cases k with
    | zero => rw [Nat.zero_mul, Nat.zero_add, List.getElem?_append_left (by rw [l5]; exact hj)]; rfl
    | succ k =>
      rw [List.getElem?_append_right (by rw [l5]; omega), l5, show (k + 1) * 5 + j - 5 = k * 5 + j by omega, ih k (by simpa using hk)]
      rfl
theorem flat_cell (ds : List D5) : ∀ u ∈ flat ds, u.oneCell' = true := by
  intro u hu
  simp only [flat, List.mem_flatMap, cellsD] at hu
  obtain ⟨d, _, hu⟩ := hu
  simp at hu
  rcases hu with rfl | rfl | rfl | rfl | rfl <;> rfl
/-- what the call has appended to reads as defects -/
theorem dfs_of_own {w : World} {base e n : Nat} {v : Value} {ds : List D5} (h : w.ownsRow base e 5 v n (flat ds)) : ∃ A c, v = .slice A n c ∧ Dfs w A n ds ∧ n ≤ c := by
  have hl : ds.length = n := by have := h.1; rw [flat_len] at this; omega
  rcases h.2 with ⟨rfl, rfl⟩ | ⟨g, cap, cur, rfl, hg, hh, hnc, _, hcs, ht⟩
  · exact ⟨none, 0, rfl, ⟨hl, fun h => by omega⟩, Nat.le_refl _⟩
  · refine ⟨_, cap, rfl, ⟨hl, fun _ => ⟨g, rfl, (Array.getElem?_eq_some_iff.1 hh).1, fun k hk => ?_⟩⟩, hnc⟩
    have hat : ∀ j, j < 5 → w.cell? ⟨g, k * 5 + j, none⟩ = (cellsD (nthD ds k))[j]? := fun j hj => by
      have h1 : (cur.toList.take (n * 5))[k * 5 + j]? = (cellsD (nthD ds k))[j]? := by rw [ht]; exact flat_at ds k j hk hj
      rw [List.getElem?_take, if_pos (by omega)] at h1
      simpa [World.cell?, hh] using h1
    exact ⟨hat 0 (by omega), hat 1 (by omega), hat 2 (by omega), hat 3 (by omega), hat 4 (by omega)⟩
theorem own_nil5 {w : World} (base e : Nat) : w.ownsRow base e 5 (.slice none 0 0) 0 (flat []) := ⟨rfl, .inl ⟨rfl, rfl⟩⟩
theorem own_empty5 {w : World} {base e : Nat} (hb : base ≤ w.heap.size) : (w.alloc (.cells #[] e)).ownsRow base e 5 (.slice (some ⟨w.heap.size, 0, none⟩) 0 0) 0 (flat []) :=
  ⟨rfl, .inr ⟨w.heap.size, 0, #[], rfl, hb, heap_alloc_new w _, Nat.le_refl _, by simp [maxLen], rfl, rfl⟩⟩
section
variable {H : Type} {enc : TypeId × Value → H} {P : Program}
open Go.ChangeShapes Go.WideShapes Go.ChangeAt Go.Joins Go.Deep
/-- an argument that is a slice of defects, opened -/
theorem defects_of_trod {t e ti : TypeId} {f0 f1 f2 f3 f4 : Field} {W : World} (ht : P.underlying t = some (.slice e)) (he : P.underlying e = some (.struct #[f0, f1, f2, f3, f4])) (ho : f0.offset = 0 ∧ f1.offset = 1 ∧ f2.offset = 2 ∧ f3.offset = 3 ∧ f4.offset = 4) (hty : f0.type = ti ∧ f1.type = ti ∧ f2.type = ti ∧ f3.type = ti ∧ f4.type = ti) (hi : P.underlying ti = some (.int .i64)) (hci : P.cellsOf ti = 1) (hc : P.cellsOf e = 5)
    {v : Value} {y : DataW H × List MemPlace} {fuel : Nat} (h : DataW.trod enc P W 0 (fun _ => true) true fuel t [v] = some y) :
    ∃ (A : Option Addr) (n c : Nat) (ds : List D5), v = .slice A n c ∧ DfA W A n ds ∧ (n : Int) ≤ 9223372036854775807 := by
  rcases open_slice ht h with ⟨h0, _⟩ | ⟨a, len, cap, m, q, D, Pl, h0, _, hl, hcm, hm, _, hx⟩
  · simp only [List.cons.injEq, and_true] at h0
    exact ⟨none, 0, 0, [], h0, ⟨rfl, fun k hk => by omega⟩, by omega⟩
  · simp only [List.cons.injEq, and_true] at h0
    have hle : len ≤ m := by rw [hm]; simpa using hl
    have each : ∀ i, i < m → ∃ d : D5, W.cell? (a.add (i * 5)) = some (.int .i64 d.l) ∧ W.cell? (a.add (i * 5 + 1)) = some (.int .i64 d.r) ∧ W.cell? (a.add (i * 5 + 2)) = some (.int .i64 d.f) ∧ W.cell? (a.add (i * 5 + 3)) = some (.int .i64 d.t) ∧ W.cell? (a.add (i * 5 + 4)) = some (.int .i64 d.g) := by
      intro i hi'
      obtain ⟨cs', h1, h2⟩ := hx i hi'
      rw [hc] at h1
      obtain ⟨_, hlen, hcell⟩ := World.cells?_some h1
      obtain ⟨xs, k, hk, hxy, _, hxl, hf⟩ := DataW.trod_struct he h2
      match cs', hlen with
      | [v0, v1, v2, v3, v4], _ =>
        obtain ⟨o0, o1, o2, o3, o4⟩ := ho
        obtain ⟨t0, t1, t2, t3, t4⟩ := hty
        have g0 := hf 0 f0 rfl
        have g1 := hf 1 f1 rfl
        have g2 := hf 2 f2 rfl
        have g3 := hf 3 f3 rfl
        have g4 := hf 4 f4 rfl
        rw [o0, t0, hci] at g0; rw [o1, t1, hci] at g1; rw [o2, t2, hci] at g2; rw [o3, t3, hci] at g3; rw [o4, t4, hci] at g4
        simp at g0 g1 g2 g3 g4
        match xs, hxl with
        | [y0, y1, y2, y3, y4], _ =>
          obtain ⟨x0, e0, _, _⟩ := DataW.trod_int hi g0
          obtain ⟨x1, e1, _, _⟩ := DataW.trod_int hi g1
          obtain ⟨x2, e2, _, _⟩ := DataW.trod_int hi g2
          obtain ⟨x3, e3, _, _⟩ := DataW.trod_int hi g3
          obtain ⟨x4, e4, _, _⟩ := DataW.trod_int hi g4
          simp only [List.cons.injEq, and_true] at e0 e1 e2 e3 e4
          subst e0 e1 e2 e3 e4
          have c0 := hcell 0 (by omega)
          have c1 := hcell 1 (by omega)
          have c2 := hcell 2 (by omega)
          have c3 := hcell 3 (by omega)
          have c4 := hcell 4 (by omega)
          rw [Go.Deep.add_add] at c0 c1 c2 c3 c4
          exact ⟨⟨x0, x1, x2, x3, x4⟩, by simpa using c0, by simpa using c1, by simpa using c2, by simpa using c3, by simpa using c4⟩
    haveI : Inhabited D5 := ⟨⟨0, 0, 0, 0, 0⟩⟩
    obtain ⟨f, hf⟩ := choose_lt each
    refine ⟨some a, len, cap, (List.range len).map f, h0, ⟨by simp, fun k hk => ⟨a, rfl, ?_, ?_⟩⟩, by unfold maxLen at hcm; omega⟩
    · have := block_of_cell (hf k (by omega)).1
      rwa [block_add] at this
    · have e : nthD ((List.range len).map f) k = f k := by simp [nthD, hk]
      rw [e]
      exact hf k (by omega)
end
end Go.Proofs.Ytbbopnpmjhbffaa
