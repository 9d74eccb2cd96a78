/- A block of memory that is known whole, and what keeps it so. -/
import Derived.Test.YtbbopnpmjhbffaaKit
import Derived.Laws.Rows
import Derived.Deep.DrawnRows
namespace Go.Proofs.Ytbbopnpmjhbffaa
open Go.RowKit
set_option linter.unusedVariables false

/-- block g holds just the cells cs, of element type T, none of them frozen -/
def Bk (w : World) (g : Nat) (T : TypeId) (cs : Array Value) : Prop := w.heap[g]? = some (.cells cs T (0, 0))
section
variable {w w' : World} {g : Nat} {T : TypeId} {cs : Array Value}
theorem Bk.lt (h : Bk w g T cs) : g < w.heap.size := by
  rcases Nat.lt_or_ge g w.heap.size with h1 | h1
  · exact h1
  · unfold Bk at h; rw [Array.getElem?_eq_none h1] at h; cases h
theorem Bk.cell (h : Bk w g T cs) (i : Nat) : w.cell? ⟨g, i, none⟩ = cs[i]? := cell_of_row w g i cs T (0, 0) h
theorem Bk.free (h : Bk w g T cs) (i : Nat) : w.frozen? ⟨g, i, none⟩ = false := by
  unfold Bk at h; simp [World.frozen?, h]
theorem Bk.made (w : World) (T : TypeId) (cs : Array Value) : Bk (w.alloc (.cells cs T)) w.heap.size T cs := heap_alloc_new w _
theorem Bk.drew (h : Bk w g T cs) : Bk w.drew g T cs := h
theorem Bk.drewN (h : Bk w g T cs) (n : Nat) : Bk (w.drewN n) g T cs := h
theorem Bk.alloc (h : Bk w g T cs) (o : Obj) : Bk (w.alloc o) g T cs := (Below.heap_alloc w o g h.lt).trans h
theorem Bk.below {B : Nat} (h : Bk w g T cs) (hb : Below B w w') (hg : g < B) : Bk w' g T cs := (hb.block g hg).trans h
theorem Bk.call (h : Bk w g T cs) (hb : Below w.heap.size w w') : Bk w' g T cs := h.below hb h.lt
theorem Bk.far (h : Bk w g T cs) {p : Addr} (hp : g ≠ p.block) (u : Value) : Bk (w.setCell p u) g T cs := (Below.heap_setCell w p u g hp).trans h
theorem Bk.put (h : Bk w g T cs) (i : Nat) (u : Value) : Bk (w.setCell ⟨g, i, none⟩ u) g T (cs.setIfInBounds i u) := by
  unfold Bk at h ⊢; simp [World.setCell, Array.getElem?_modify, h]
end
/-- a block of three cells: what the walk asks of it -/
theorem Bk.three {w : World} {g : Nat} {T : TypeId} {a b c : Value} (h : Bk w g T #[a, b, c]) :
    w.cell? ⟨g, 0, none⟩ = some a ∧ w.cell? ⟨g, 1, none⟩ = some b ∧ w.cell? ⟨g, 2, none⟩ = some c ∧ w.frozen? ⟨g, 0, none⟩ = false ∧ w.frozen? ⟨g, 1, none⟩ = false ∧ w.frozen? ⟨g, 2, none⟩ = false :=
  ⟨h.cell 0, h.cell 1, h.cell 2, h.free 0, h.free 1, h.free 2⟩
/-- three stores into one block leave the others -/
theorem far3 {w : World} {g b o : Nat} {x y z : Value} (h : ¬ b = g) : (((w.setCell ⟨g, 0, none⟩ x).setCell ⟨g, 1, none⟩ y).setCell ⟨g, 2, none⟩ z).cell? ⟨b, o, none⟩ = w.cell? ⟨b, o, none⟩ := by
  rw [World.cell?_setCell_other _ _ _ _ (fun e => h (by injection e with e1; exact e1.symm)), World.cell?_setCell_other _ _ _ _ (fun e => h (by injection e with e1; exact e1.symm)), World.cell?_setCell_other _ _ _ _ (fun e => h (by injection e with e1; exact e1.symm))]
end Go.Proofs.Ytbbopnpmjhbffaa
