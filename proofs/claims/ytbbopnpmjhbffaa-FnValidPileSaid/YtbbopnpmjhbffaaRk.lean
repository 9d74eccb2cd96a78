/- The reader of the drawn arguments: its block, and what a call that reads from it leaves alone. -/
import Derived.Test.YtbbopnpmjhbffaaKit3
namespace Go.Proofs.Ytbbopnpmjhbffaa
open Go.RowKit
set_option linter.unusedVariables false

/-- block rb is a reader that has given at most N numbers -/
def Rdr (w : World) (rb N : Nat) : Prop := ∃ (A : Option Addr) (n c : Nat) (bs : List Int) (p : Nat), p ≤ N ∧ n ≤ 2000 ∧ bs.length = n ∧
  w.heap[rb]? = some (.cells #[.slice A n c, .int .i64 (p : Int)] 55 (0, 0)) ∧
  ∀ k, k < n → ∃ ad, A = some ad ∧ ad.block < rb ∧ w.cell? (ad.add k) = some (.int .u8 (nth bs k)) ∧ 0 ≤ nth bs k ∧ nth bs k ≤ 255
/-- only the reader's block, and what is new, has turned -/
abbrev RS (rb : Nat) (w w' : World) : Prop := w.grownBy w' (some rb)
section
variable {w w' w'' : World} {rb N : Nat}
theorem Rdr.lt (h : Rdr w rb N) : rb < w.heap.size := by
  obtain ⟨A, n, c, bs, p, _, _, _, hh, _⟩ := h
  exact (Array.getElem?_eq_some_iff.1 hh).1
theorem Rdr.mono {M : Nat} (h : Rdr w rb N) (hM : N ≤ M) : Rdr w rb M := by
  obtain ⟨A, n, c, bs, p, hp, r⟩ := h
  exact ⟨A, n, c, bs, p, by omega, r⟩
theorem Rdr.below {L : Nat} (h : Rdr w rb N) (hb : Below L w w') (hL : rb < L) : Rdr w' rb N := by
  obtain ⟨A, n, c, bs, p, hp, hn, hl, hh, hk⟩ := h
  refine ⟨A, n, c, bs, p, hp, hn, hl, (hb.block rb hL).trans hh, fun k hk' => ?_⟩
  obtain ⟨ad, e, hlt, hc, r⟩ := hk k hk'
  exact ⟨ad, e, hlt, (hb.cell (by rw [block_add]; omega)).trans hc, r⟩
theorem Rdr.call (h : Rdr w rb N) (hb : Below w.heap.size w w') : Rdr w' rb N := h.below hb h.lt
theorem Rdr.drewN (h : Rdr w rb N) (k : Nat) : Rdr (w.drewN k) rb N := h
theorem Rdr.alloc (h : Rdr w rb N) (o : Obj) : Rdr (w.alloc o) rb N := h.call ((Below.refl _ _).alloc (Nat.le_refl _) _)
theorem Rdr.set (h : Rdr w rb N) {q : Addr} (hq : rb < q.block) (u : Value) : Rdr (w.setCell q u) rb N := h.below (L := rb + 1) ((Below.refl _ _).setCell (by omega) _) (by omega)
theorem RS.refl (rb : Nat) (w : World) : RS rb w w := ⟨rfl, rfl, rfl, Nat.le_refl _, fun _ _ _ => rfl⟩
theorem RS.trans (h : RS rb w w') (k : RS rb w' w'') : RS rb w w'' :=
  ⟨k.os.trans h.os, k.tape.trans h.tape, k.output.trans h.output, Nat.le_trans h.size k.size, fun i hi hne => (k.block i (Nat.lt_of_lt_of_le hi h.size) hne).trans (h.block i hi hne)⟩
theorem RS.call (h : Below w.heap.size w w') : RS rb w w' := ⟨h.os, h.tape, h.output, h.size, fun i hi _ => h.block i hi⟩
theorem RS.then (h : RS rb w w') (k : Below w'.heap.size w' w'') : RS rb w w'' := h.trans (RS.call k)
theorem RS.alloc (h : RS rb w w') (o : Obj) : RS rb w (w'.alloc o) := h.then ((Below.refl _ _).alloc (Nat.le_refl _) _)
theorem RS.drewN (h : RS rb w w') (k : Nat) : RS rb w (w'.drewN k) := ⟨h.os, h.tape, h.output, h.size, h.block⟩
theorem RS.set (h : RS rb w w') {q : Addr} (hq : w.heap.size ≤ q.block) (u : Value) : RS rb w (w'.setCell q u) :=
  ⟨h.os, h.tape, h.output, by simpa [World.setCell] using h.size, fun i hi hne => (Below.heap_setCell _ _ _ _ (by omega)).trans (h.block i hi hne)⟩
/-- a step that writes from the start's end on -/
theorem RS.from_ (h : RS rb w w') (k : Below w.heap.size w' w'') : RS rb w w'' :=
  ⟨k.os.trans h.os, k.tape.trans h.tape, k.output.trans h.output, Nat.le_trans h.size k.size, fun i hi hne => (k.block i hi).trans (h.block i hi hne)⟩
theorem ownsRow_rs {base e size n : Nat} {v : Value} {xs : List Value} (h : w.ownsRow base e size v n xs) (hs : RS rb w w') (hr : rb < base) : w'.ownsRow base e size v n xs :=
  h.kept hs (by
    cases hv : v.ownBlock with
    | none => exact .inl rfl
    | some k => exact .inr (fun e => by injection e with e; have := (h.lt k hv).1; omega))
theorem Own.rs {lo hi n : Nat} {A : Option Addr} {xs : List Int} (h : Own w lo hi A n xs) (hs : RS rb w w') (hr : rb < lo) : Own w' lo hi A n xs :=
  h.keep hs.size fun b hl hb => hs.block b (by have := h.2.1; omega) (fun e => by injection e with e; omega)
/-- below the reader nothing has turned -/
theorem RS.below (h : RS rb w w') {L : Nat} (hL : L ≤ rb) (hl : rb < w.heap.size) : Below L w w' := ⟨h.os, h.tape, h.output, h.size, fun k hk => h.block k (by omega) (fun e => by injection e with e; omega)⟩
end
/-- the call returns a number of which P holds, and has taken at most c numbers from the reader -/
def Drew (rb N : Nat) (P : Int → Prop) (w : World) (e : Ending) (w' : World) : Prop := ∃ v : Int, e = .returned (.int .i64 v) ∧ P v ∧ Rdr w' rb N ∧ RS rb w w'
/-- the call returns a slice of its own that reads as a list of which P holds -/
def DrewL (rb N : Nat) (P : List Int → Prop) (w : World) (e : Ending) (w' : World) : Prop := ∃ v ys, e = .returned v ∧ P ys ∧ w'.ownsRow w.heap.size 3 1 v ys.length (ys.map (.int .i64)) ∧ Rdr w' rb N ∧ RS rb w w'
/-- the list of a literal, read from the block that has just been made -/
theorem ints_lit {W : World} {xs : List Int} {T : TypeId} : Ints (W.alloc (.cells (xs.map (.int .i64)).toArray T)) (some ⟨W.heap.size, 0, none⟩) xs.length xs :=
  ⟨rfl, fun k hk => ⟨_, rfl, by simp, by rw [add_new, cell_of_row (W.alloc _) W.heap.size k _ T (0, 0) (heap_alloc_new W _), nth_lt hk]; simp [hk]⟩⟩
end Go.Proofs.Ytbbopnpmjhbffaa
