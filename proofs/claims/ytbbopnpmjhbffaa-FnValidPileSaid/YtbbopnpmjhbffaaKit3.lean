/- Slices of ints: what a slice reads as, and what keeps it so; a row that the call owns. -/
import Derived.Test.YtbbopnpmjhbffaaKit
import Derived.Deep.OwnRows
import Derived.Laws.Rows
import Derived.Maps.AppendAt
namespace Go.Proofs.Ytbbopnpmjhbffaa
open Go.RowKit
set_option linter.unusedVariables false

/-- the k-th number, 0 beyond the end -/
def nth (xs : List Int) (k : Nat) : Int := xs.getD k 0
theorem nth_lt {xs : List Int} {k : Nat} (h : k < xs.length) : nth xs k = xs[k] := by simp [nth, h]
theorem nth_take {xs : List Int} {k m : Nat} (h : k < m) : nth (xs.take m) k = nth xs k := by
  simp [nth, h]
theorem nth_mem {xs : List Int} {k : Nat} (h : k < xs.length) : nth xs k ∈ xs := by rw [nth_lt h]; exact List.getElem_mem h
theorem take_nth {xs : List Int} {k : Nat} (h : k < xs.length) : xs.take (k + 1) = xs.take k ++ [nth xs k] := by
  rw [nth_lt h, List.take_succ_eq_append_getElem h]
theorem nth_append_left {xs ys : List Int} {k : Nat} (h : k < xs.length) : nth (xs ++ ys) k = nth xs k := by
  simp [nth, List.getElem?_append_left h]
theorem nth_append_right {xs ys : List Int} {k : Nat} : nth (xs ++ ys) (xs.length + k) = nth ys k := by
  simp [nth, List.getElem?_append_right]
theorem nth_snoc {xs : List Int} {x : Int} : nth (xs ++ [x]) xs.length = x := by simp [nth]
theorem nth_ge {xs : List Int} {k : Nat} (h : xs.length ≤ k) : nth xs k = 0 := by simp [nth, h]
theorem ext_nth {xs ys : List Int} (hl : xs.length = ys.length) (h : ∀ k, k < xs.length → nth xs k = nth ys k) : xs = ys := by
  apply List.ext_getElem hl
  intro k h1 h2
  have := h k h1
  rwa [nth_lt h1, nth_lt h2] at this
theorem forall_nth {xs : List Int} {p : Int → Prop} : (∀ x ∈ xs, p x) ↔ ∀ k, k < xs.length → p (nth xs k) := by
  constructor
  · intro h k hk; exact h _ (nth_mem hk)
  · intro h x hx
    obtain ⟨k, hk, rfl⟩ := List.getElem_of_mem hx
    have := h k hk
    rwa [nth_lt hk] at this

theorem block_add (a : Addr) (n : Nat) : (a.add n).block = a.block := by unfold Addr.add; split <;> rfl
theorem add_new (g k : Nat) : (Addr.mk g 0 none).add k = ⟨g, k, none⟩ := by
  unfold Addr.add; split
  · simp [*]
  · simp

/-- the slice with address A and n elements reads as the list xs -/
def Ints (w : World) (A : Option Addr) (n : Nat) (xs : List Int) : Prop :=
  xs.length = n ∧ ∀ k, k < n → ∃ ad, A = some ad ∧ ad.block < w.heap.size ∧ w.cell? (ad.add k) = some (.int .i64 (nth xs k))
/-- .. and its cells lie in a block between lo and hi, from its first cell on, and may be written -/
def Own (w : World) (lo hi : Nat) (A : Option Addr) (n : Nat) (xs : List Int) : Prop :=
  xs.length = n ∧ hi ≤ w.heap.size ∧ (0 < n → ∃ g, A = some ⟨g, 0, none⟩ ∧ lo ≤ g ∧ g < hi ∧ ∀ k, k < n → w.cell? ⟨g, k, none⟩ = some (.int .i64 (nth xs k)) ∧ w.frozen? ⟨g, k, none⟩ = false)
/-- only blocks between lo and hi have turned -/
structure Within (lo hi : Nat) (w w' : World) : Prop where
  os : w'.os = w.os
  tape : w'.tape = w.tape
  output : w'.output = w.output
  size : w'.heap.size = w.heap.size
  block : ∀ b, b < lo ∨ hi ≤ b → w'.heap[b]? = w.heap[b]?
section
variable {w w' : World} {A : Option Addr} {n lo hi g : Nat} {xs : List Int}
theorem Ints.keep (h : Ints w A n xs) (hz : w.heap.size ≤ w'.heap.size) (hk : ∀ p : Addr, p.block < w.heap.size → w'.cell? p = w.cell? p) : Ints w' A n xs :=
  ⟨h.1, fun k hk' => by
    obtain ⟨ad, e, hb, hc⟩ := h.2 k hk'
    exact ⟨ad, e, by omega, (hk _ (by rw [block_add]; exact hb)).trans hc⟩⟩
theorem Ints.below (h : Ints w A n xs) (hb : Below w.heap.size w w') : Ints w' A n xs := h.keep hb.size fun _ hp => hb.cell hp
theorem Ints.drew (h : Ints w A n xs) : Ints w.drew A n xs := h
theorem Ints.drewN (h : Ints w A n xs) (k : Nat) : Ints (w.drewN k) A n xs := h
theorem Ints.alloc (h : Ints w A n xs) (o : Obj) : Ints (w.alloc o) A n xs := h.keep (by simp) fun p hp => World.cell?_alloc_lt w o p hp
theorem Ints.take (h : Ints w A n xs) {m : Nat} (hm : m ≤ n) : Ints w A m (xs.take m) :=
  ⟨by rw [List.length_take, h.1]; omega, fun k hk => by
    obtain ⟨ad, e, hb, hc⟩ := h.2 k (by omega)
    exact ⟨ad, e, hb, by rw [nth_take hk]; exact hc⟩⟩
theorem Ints.nil : Ints w A 0 [] := ⟨rfl, fun k hk => by omega⟩
theorem Own.ints (h : Own w lo hi A n xs) : Ints w A n xs := ⟨h.1, fun k hk => by
  obtain ⟨g, e, _, hb, hc⟩ := h.2.2 (by omega)
  exact ⟨_, e, by have := h.2.1; simp; omega, by rw [add_new]; exact (hc k hk).1⟩⟩
theorem Own.keep (h : Own w lo hi A n xs) (hz : w.heap.size ≤ w'.heap.size) (hk : ∀ b, lo ≤ b → b < hi → w'.heap[b]? = w.heap[b]?) : Own w' lo hi A n xs :=
  ⟨h.1, by have := h.2.1; omega, fun hn => by
    obtain ⟨g, e, hl, hb, hc⟩ := h.2.2 hn
    have hh := hk g hl hb
    exact ⟨g, e, hl, hb, fun k hk => ⟨(World.cell?_of_block (w := w) (a := ⟨g, k, none⟩) hh).trans (hc k hk).1, (World.frozen?_of_block (w := w) (a := ⟨g, k, none⟩) hh).trans (hc k hk).2⟩⟩⟩
theorem Own.below (h : Own w lo hi A n xs) (hb : Below w.heap.size w w') : Own w' lo hi A n xs := h.keep hb.size fun b _ hp => hb.block b (by have := h.2.1; omega)
theorem Own.nil (hh : hi ≤ w.heap.size) : Own w lo hi A 0 [] := ⟨rfl, hh, fun hk => by omega⟩
theorem Own.le {l' h' : Nat} (h : Own w lo hi A n xs) (hl : l' ≤ lo) (hh : hi ≤ h') (hz : h' ≤ w.heap.size) : Own w l' h' A n xs := ⟨h.1, hz, fun hn => by
  obtain ⟨g, e, a, b, r⟩ := h.2.2 hn
  exact ⟨g, e, by omega, by omega, r⟩⟩
theorem Own.within {l' h' : Nat} (h : Own w lo hi A n xs) (hw : Within l' h' w w') (hd : hi ≤ l' ∨ h' ≤ lo) : Own w' lo hi A n xs :=
  h.keep (by rw [hw.size]; exact Nat.le_refl _) fun b hl hb => hw.block b (by omega)
theorem Ints.within {l' h' : Nat} (h : Ints w A n xs) (hw : Within l' h' w w') (hd : ∀ ad, A = some ad → ad.block < l') : Ints w' A n xs :=
  ⟨h.1, fun k hk => by
    obtain ⟨ad, e, hb, hc⟩ := h.2 k hk
    exact ⟨ad, e, by rw [hw.size]; exact hb, (World.cell?_of_block (w := w) (a := ad.add k) (by rw [block_add]; exact hw.block _ (.inl (hd ad e)))).trans hc⟩⟩
theorem Own.set (h : Own w lo hi (some ⟨g, 0, none⟩) n xs) {k : Nat} (hk : k < n) (y : Int) : Own (w.setCell ⟨g, k, none⟩ (.int .i64 y)) lo hi (some ⟨g, 0, none⟩) n (xs.set k y) :=
  ⟨by simpa using h.1, by simpa [World.setCell] using h.2.1, fun hn => by
    obtain ⟨g', e, hl, hb, hc⟩ := h.2.2 hn
    obtain rfl : g = g' := by injection e with e; injection e
    refine ⟨g, rfl, hl, hb, fun i hi => ?_⟩
    have hx := h.1
    by_cases e : i = k
    · subst e
      exact ⟨by rw [World.cell?_setCell_same _ _ _ (hc i hi).1]; simp [nth, hx, hi], by rw [World.frozen?_setCell]; exact (hc i hi).2⟩
    · refine ⟨?_, by rw [World.frozen?_setCell]; exact (hc i hi).2⟩
      rw [World.cell?_setCell_other _ _ _ _ (fun e' => e (by injection e' with _ e'; exact e'.symm)), (hc i hi).1]
      simp [nth, Ne.symm e]⟩
theorem Within.refl (lo hi : Nat) (w : World) : Within lo hi w w := ⟨rfl, rfl, rfl, rfl, fun _ _ => rfl⟩
theorem Within.set {lo hi : Nat} {a w : World} (h : Within lo hi a w) {p : Addr} (h1 : lo ≤ p.block) (h2 : p.block < hi) (u : Value) : Within lo hi a (w.setCell p u) :=
  ⟨h.os, h.tape, h.output, by simpa [World.setCell] using h.size, fun b hb => (Below.heap_setCell _ _ _ _ (by omega)).trans (h.block b hb)⟩
theorem Within.below {lo hi B : Nat} {w w' : World} (h : Within lo hi w w') (hB : B ≤ lo) : Below B w w' :=
  ⟨h.os, h.tape, h.output, by rw [h.size]; exact Nat.le_refl _, fun b hb => h.block b (.inl (by omega))⟩
end
/-- a row known by its index reads as a list -/
theorem own_row {w : World} {g T n : Nat} {xs : List Int} {f : Nat → Value} (hn : xs.length = n) (h : w.rowIs g T n f) (hf : ∀ i, i < n → f i = .int .i64 (nth xs i)) {lo : Nat} (hl : lo ≤ g) :
    Own w lo w.heap.size (some ⟨g, 0, none⟩) n xs :=
  ⟨hn, Nat.le_refl _, fun _ => ⟨g, rfl, hl, h.lt, fun k hk => ⟨by rw [h.cell hk, hf k hk], h.frozen k⟩⟩⟩
theorem rowIs_below {w w' : World} {g T n B : Nat} {f : Nat → Value} (h : w.rowIs g T n f) (hb : Below B w w') (hg : g < B) : w'.rowIs g T n f := h.of_block (hb.block g hg)
theorem rowIs_call {w w' : World} {g T n : Nat} {f : Nat → Value} (h : w.rowIs g T n f) (hb : Below w.heap.size w w') : w'.rowIs g T n f := h.of_block (hb.block g h.lt)
theorem quiet_add_left {P : Program} {f : FuncId} {args : Array Value} {w : World} {a n : Nat} {v : Value}
    (h : Calls P f args (w.drewN (a + n)) fun e w' => e = .returned v ∧ w.drewN (a + n) = w') :
    Calls P f args (w.drewN (a + n)) fun e w'' => e = .returned v ∧ ∃ m, w'' = w.drewN (a + m) :=
  h.mono fun _ _ ⟨he, hm⟩ => ⟨he, n, hm.symm⟩
theorem quiet_left {P : Program} {f : FuncId} {args : Array Value} {w : World} {n : Nat} {v : Value}
    (h : Calls P f args (w.drewN n) fun e w' => e = .returned v ∧ w.drewN n = w') : Calls P f args (w.drewN n) fun e w'' => e = .returned v ∧ ∃ m, w'' = w.drewN m :=
  h.mono fun _ _ ⟨he, hm⟩ => ⟨he, n, hm.symm⟩
theorem rowIs_drewN {w : World} {b : Nat} {t : TypeId} {n : Nat} {f : Nat → Value} (h : w.rowIs b t n f) (k : Nat) : (w.drewN k).rowIs b t n f := h
theorem below_of_drewN {w : World} (B m : Nat) : Below B w (w.drewN m) := ⟨rfl, rfl, rfl, Nat.le_refl _, fun _ _ => rfl⟩

/-- what the call has appended to reads as a list -/
theorem own_of_row {w : World} {base e n : Nat} {v : Value} {ys : List Int} (h : w.ownsRow base e 1 v n (ys.map (.int .i64))) :
    ∃ A c, v = .slice A n c ∧ Own w base w.heap.size A n ys ∧ n ≤ c := by
  have hl : ys.length = n := by have := h.1; simpa using this
  rcases h.2 with ⟨rfl, rfl⟩ | ⟨g, cap, cur, rfl, hg, hh, hnc, _, hcs, ht⟩
  · exact ⟨none, 0, rfl, ⟨hl, Nat.le_refl _, fun h => by omega⟩, Nat.le_refl _⟩
  · refine ⟨_, cap, rfl, ⟨hl, Nat.le_refl _, fun _ => ⟨g, rfl, hg, ?_, fun k hk => ⟨?_, ?_⟩⟩⟩, hnc⟩
    · exact (Array.getElem?_eq_some_iff.1 hh).1
    · have h1 : (cur.toList.take (n * 1))[k]? = some (.int .i64 (nth ys k)) := by
        rw [ht, List.getElem?_map, List.getElem?_eq_getElem (by omega), nth_lt (by omega)]; rfl
      rw [List.getElem?_take] at h1
      simp only [Nat.mul_one, hk, if_true] at h1
      simpa [World.cell?, hh] using h1
    · simp [World.frozen?, hh]
theorem own_nil_row {w : World} (base e : Nat) : w.ownsRow base e 1 (.slice none 0 0) 0 (([] : List Int).map (.int .i64)) := ⟨rfl, .inl ⟨rfl, rfl⟩⟩
theorem ownsRow_call {w w' : World} {base e size n : Nat} {v : Value} {xs : List Value} (h : w.ownsRow base e size v n xs) (hb : Below w.heap.size w w') : w'.ownsRow base e size v n xs :=
  h.kept (row := none) ⟨hb.os, hb.tape, hb.output, hb.size, fun k hk _ => hb.block k hk⟩ (by
    cases hv : v.ownBlock with
    | none => exact .inl rfl
    | some k => exact .inr (by simp))
/-- an empty slice that has just been made -/
theorem own_empty_row {w : World} {base e : Nat} (hb : base ≤ w.heap.size) : (w.alloc (.cells #[] e)).ownsRow base e 1 (.slice (some ⟨w.heap.size, 0, none⟩) 0 0) 0 (([] : List Int).map (.int .i64)) :=
  ⟨rfl, .inr ⟨w.heap.size, 0, #[], rfl, hb, heap_alloc_new w _, Nat.le_refl _, by simp [maxLen], rfl, rfl⟩⟩
/-- a slice of one number that has just been made -/
theorem own_one_row {w : World} {base e : Nat} (hb : base ≤ w.heap.size) (y : Int) : (w.alloc (.cells #[.int .i64 y] e)).ownsRow base e 1 (.slice (some ⟨w.heap.size, 0, none⟩) 1 1) 1 ([y].map (.int .i64)) :=
  ⟨rfl, .inr ⟨w.heap.size, 1, #[.int .i64 y], rfl, hb, heap_alloc_new w _, Nat.le_refl _, by simp [maxLen], rfl, rfl⟩⟩
section
variable {P : Program}
/-- one number is appended to a slice of the call's own -/
theorem wpList_app1 {ops : Array Oper} {rest : List Oper} {o : Oper} {a : Act} {Q : Exit → Act → World → Prop} (hgd : o.guard = none) (s x : Operand) (t : TypeId)
    (ho : o.op = .call { callee := .builtin .append, args := #[s, x], argTypes := #[t, t] })
    (base : Nat) (e : TypeId) (ht : P.underlying t = some (.slice e)) (hinfo : (P.info? e).map (fun i => (i.zero, i.size, i.bytes)) = some (some (.int .i64 0), 1, 8))
    (v : Value) (n : Nat) (ys : List Int) (y : Int) (W : World) (hs : a.eval s = v) (hx : a.eval x = .slice (some ⟨W.heap.size, 0, none⟩) 1 1) (hown : W.ownsRow base e 1 v n (ys.map (.int .i64)))
    (hn : n ≤ 1048576) (hbase : base ≤ W.heap.size)
    (h : ∀ v' w', w'.ownsRow base e 1 v' (n + 1) ((ys ++ [y]).map (.int .i64)) → Below base W w' → wpList P ops Q rest (a.put o.dst v') w') :
    wpList P ops Q (o :: rest) a (W.alloc (.cells #[.int .i64 y] e)) := by
  obtain ⟨i0, hi0, hz0, hz1, hz2⟩ := info_parts hinfo
  refine wpList_append_own _ hgd s x t ho base e i0 (.int .i64 0) 1 8 ht hi0 hz0 hz1 hz2 rfl (by omega) v n (ys.map (.int .i64)) hs (hown.alloc _) ⟨W.heap.size, 0, none⟩ 1 1 [.int .i64 y] hx rfl ?_ ?_ (by simp only [maxLen]; omega) (by omega) (by simp; omega) ?_
  · intro j u hu
    match j, hu with
    | 0, hu =>
      have : u = .int .i64 y := by simpa using hu.symm
      subst this
      rw [add_new]
      exact cell_of_row (W.alloc _) W.heap.size 0 #[.int .i64 y] e (0, 0) (heap_alloc_new W _)
    | j + 1, hu => simp at hu
  · intro u hu
    simp only [List.mem_singleton] at hu
    subst hu; rfl
  · intro v' w' h1 h2 _
    refine h v' w' (by simpa using h1) ?_
    have h3 : Below base W (W.alloc (.cells #[.int .i64 y] e)) := (Below.refl _ _).alloc hbase _
    exact h3.grown h2 (by simp; omega) fun k hk => (hown.lt k hk).1
end
/-- the slice with address A and n elements reads as the bytes bs -/
def Byts (w : World) (A : Option Addr) (n : Nat) (bs : List Int) : Prop := bs.length = n ∧ (∀ k, k < n → ∃ ad, A = some ad ∧ ad.block < w.heap.size ∧ w.cell? (ad.add k) = some (.int .u8 (nth bs k))) ∧ ∀ x ∈ bs, 0 ≤ x ∧ x ≤ 255
/-- the call returns a slice of its own that reads as ys, and leaves what was there -/
def RetL (ys : List Int) (w : World) (e : Ending) (w' : World) : Prop := ∃ B k d, e = .returned (.slice B k d) ∧ Own w' w.heap.size w'.heap.size B k ys ∧ Below w.heap.size w w' ∧ k ≤ d
theorem retL_nil {w w' : World} (h : Below w.heap.size w w') : RetL [] w (.returned (.slice none 0 0)) w' := ⟨none, 0, 0, rfl, Own.nil (Nat.le_refl _), h, Nat.le_refl _⟩
theorem retL_row {w w' : World} {e n : Nat} {v : Value} {ys : List Int} (h : w'.ownsRow w.heap.size e 1 v n (ys.map (.int .i64))) (hb : Below w.heap.size w w') : RetL ys w (.returned v) w' := by
  obtain ⟨A, c, rfl, hO, hc⟩ := own_of_row h
  exact ⟨A, n, c, rfl, hO, hb, hc⟩
theorem retL_made {w w' : World} {g T n : Nat} {ys : List Int} {f : Nat → Value} (hn : ys.length = n) (h : w'.rowIs g T n f) (hf : ∀ i, i < n → f i = .int .i64 (nth ys i)) (hg : w.heap.size ≤ g) (hb : Below w.heap.size w w') :
    RetL ys w (.returned (.slice (some ⟨g, 0, none⟩) n n)) w' := ⟨_, n, n, rfl, own_row hn h hf hg, hb, Nat.le_refl _⟩
end Go.Proofs.Ytbbopnpmjhbffaa
