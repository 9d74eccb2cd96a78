/- What a law's arguments read as, opened to lists of numbers. -/
import Derived.Test.YtbbopnpmjhbffaaKit3
import Derived.Test.YtbbopnpmjhbffaaFrame
import Derived.Deep.Slices
import Derived.Deep.Matrix
namespace Go.Proofs.Ytbbopnpmjhbffaa
open Go.ChangeShapes Go.WideShapes Go.ChangeAt Go.RowKit Go.Joins Go.Deep
set_option linter.unusedVariables false
section
variable {H : Type} {enc : TypeId × Value → H} {P : Program}
theorem block_of_cell {w : World} {a : Addr} {v : Value} (h : w.cell? a = some v) : a.block < w.heap.size := by
  rcases Nat.lt_or_ge a.block w.heap.size with h1 | h1
  · exact h1
  · simp [World.cell?, Array.getElem?_eq_none h1] at h
def intIn : Value → Int | .int _ x => x | _ => 0
theorem kinds_of_trod {k : IntKind} {t e : TypeId} {W : World} (ht : P.underlying t = some (.slice e)) (he : P.underlying e = some (.int k)) (hc : P.cellsOf e = 1) {A : Option Addr} {len cap : Nat} {d : DataW H} {p : List MemPlace}
    (h : DataW.Trod enc P W 0 (fun _ => true) true t (.slice A len cap) d p) :
    ∃ xs : List Int, xs.length = len ∧ len ≤ cap ∧ (∀ i, i < len → ∃ ad, A = some ad ∧ ad.block < W.heap.size ∧ W.cell? (ad.add i) = some (.int k (nth xs i))) ∧ ∀ x ∈ xs, (Lit.int k x).wf = true := by
  obtain ⟨fuel, hf⟩ := h
  rcases open_slice1 ht hc hf with ⟨h0, _⟩ | ⟨a, len', cap', m, n, V, D, Pl, h0, _, hl, _, hm, _, hx⟩
  · simp [Value.cells] at h0
    obtain ⟨_, rfl, rfl⟩ := h0
    exact ⟨[], rfl, Nat.le_refl _, fun i hi => by omega, fun x hx => by simp at hx⟩
  · simp [Value.cells] at h0
    obtain ⟨rfl, rfl, rfl⟩ := h0
    have hle : len ≤ m := by rw [hm]; simpa using hl
    have hv : ∀ i, i < len → V i = .int k (intIn (V i)) ∧ (Lit.int k (intIn (V i))).wf = true := fun i hi => by
      obtain ⟨x, e1, _, e3⟩ := DataW.trod_int he (hx i (by omega)).2
      simp only [List.cons.injEq, and_true] at e1
      rw [e1]
      exact ⟨rfl, e3⟩
    refine ⟨(List.range len).map fun i => intIn (V i), by simp, hl, fun i hi => ⟨a, rfl, ?_, ?_⟩, fun x hx' => ?_⟩
    · have := block_of_cell (hx i (by omega)).1
      rwa [block_add] at this
    · rw [(hx i (by omega)).1, (hv i hi).1]
      simp [nth, hi, intIn]
    · simp only [List.mem_map, List.mem_range] at hx'
      obtain ⟨i, hi, rfl⟩ := hx'
      exact (hv i hi).2
theorem ints_of_trod {t e : TypeId} {W : World} (ht : P.underlying t = some (.slice e)) (he : P.underlying e = some (.int .i64)) (hc : P.cellsOf e = 1) {A : Option Addr} {len cap : Nat} {d : DataW H} {p : List MemPlace}
    (h : DataW.Trod enc P W 0 (fun _ => true) true t (.slice A len cap) d p) : ∃ xs : List Int, Ints W A len xs ∧ ∀ x ∈ xs, (Lit.int .i64 x).wf = true := by
  obtain ⟨xs, h1, _, h2, h3⟩ := kinds_of_trod ht he hc h
  exact ⟨xs, ⟨h1, h2⟩, h3⟩
theorem u8_bd {x : Int} (h : (Lit.int .u8 x).wf = true) : 0 ≤ x ∧ x ≤ 255 := by
  simp only [Lit.wf, Bool.and_eq_true, decide_eq_true_eq] at h
  exact h
theorem bytes_of_trod {t e : TypeId} {W : World} (ht : P.underlying t = some (.slice e)) (he : P.underlying e = some (.int .u8)) (hc : P.cellsOf e = 1) {A : Option Addr} {len cap : Nat} {d : DataW H} {p : List MemPlace}
    (h : DataW.Trod enc P W 0 (fun _ => true) true t (.slice A len cap) d p) : ∃ bs : List Int, Byts W A len bs ∧ len ≤ cap := by
  obtain ⟨xs, h1, h4, h2, h3⟩ := kinds_of_trod ht he hc h
  exact ⟨xs, ⟨h1, h2, fun x hx => u8_bd (h3 x hx)⟩, h4⟩
end
end Go.Proofs.Ytbbopnpmjhbffaa
