/- Slices of slices of ints. -/
import Derived.Test.YtbbopnpmjhbffaaKit3
namespace Go.Proofs.Ytbbopnpmjhbffaa
open Go.RowKit
set_option linter.unusedVariables false

/-- the k-th list, empty beyond the end -/
def nthL (xss : List (List Int)) (k : Nat) : List Int := xss.getD k []
theorem nthL_lt {xss : List (List Int)} {k : Nat} (h : k < xss.length) : nthL xss k = xss[k] := by simp [nthL, h]
theorem nthL_mem {xss : List (List Int)} {k : Nat} (h : k < xss.length) : nthL xss k ∈ xss := by rw [nthL_lt h]; exact List.getElem_mem h
theorem takeL_nth {xss : List (List Int)} {k : Nat} (h : k < xss.length) : xss.take (k + 1) = xss.take k ++ [nthL xss k] := by
  rw [nthL_lt h, List.take_succ_eq_append_getElem h]
theorem nthL_take {xss : List (List Int)} {k m : Nat} (h : k < m) : nthL (xss.take m) k = nthL xss k := by simp [nthL, h]
theorem nthL_append_left {xs ys : List (List Int)} {k : Nat} (h : k < xs.length) : nthL (xs ++ ys) k = nthL xs k := by simp [nthL, List.getElem?_append_left h]
theorem nthL_snoc {xs : List (List Int)} {x : List Int} : nthL (xs ++ [x]) xs.length = x := by simp [nthL]
theorem dropL_nth {xs : List (List Int)} {k : Nat} (h : k < xs.length) : xs.drop k = nthL xs k :: xs.drop (k + 1) := by rw [nthL_lt h, List.drop_eq_getElem_cons h]

/-- the slice with address A and n elements, each a slice of ints, reads as xss -/
def Rows2 (w : World) (A : Option Addr) (n : Nat) (xss : List (List Int)) : Prop :=
  xss.length = n ∧ ∀ k, k < n → ∃ ad B m c, A = some ad ∧ ad.block < w.heap.size ∧ w.cell? (ad.add k) = some (.slice B m c) ∧ Ints w B m (nthL xss k) ∧ m ≤ c
section
variable {w w' : World} {A : Option Addr} {n : Nat} {xss : List (List Int)}
theorem Rows2.below (h : Rows2 w A n xss) (hb : Below w.heap.size w w') : Rows2 w' A n xss :=
  ⟨h.1, fun k hk => by
    obtain ⟨ad, B, m, c, e, hbl, hc, hI, hm⟩ := h.2 k hk
    exact ⟨ad, B, m, c, e, Nat.lt_of_lt_of_le hbl hb.size, (hb.cell (by rw [block_add]; exact hbl)).trans hc, hI.below hb, hm⟩⟩
theorem Rows2.drewN (h : Rows2 w A n xss) (k : Nat) : Rows2 (w.drewN k) A n xss := h
theorem Rows2.take (h : Rows2 w A n xss) {m : Nat} (hm : m ≤ n) : Rows2 w A m (xss.take m) :=
  ⟨by rw [List.length_take, h.1]; omega, fun k hk => by
    obtain ⟨ad, B, m', c, e, hbl, hc, hI, hm'⟩ := h.2 k (by omega)
    exact ⟨ad, B, m', c, e, hbl, hc, by rw [nthL_take hk]; exact hI, hm'⟩⟩
end
/-- a slice of m ints in a block of its own of element type T, from the first cell on -/
def IntRow (w : World) (T : TypeId) (B : Option Addr) (m : Nat) (xs : List Int) : Prop :=
  xs.length = m ∧ (0 < m → ∃ g cs, B = some ⟨g, 0, none⟩ ∧ w.heap[g]? = some (.cells cs T (0, 0)) ∧ ∀ k, k < m → cs[k]? = some (.int .i64 (nth xs k)))
section
variable {w w' : World} {T : TypeId} {B : Option Addr} {m : Nat} {xs : List Int}
theorem heap_lt {w : World} {g : Nat} {o : Obj} (h : w.heap[g]? = some o) : g < w.heap.size := (Array.getElem?_eq_some_iff.1 h).1
theorem IntRow.keep (h : IntRow w T B m xs) (hk : ∀ (g : Nat) (cs : Array Value), w.heap[g]? = some (.cells cs T (0, 0)) → w'.heap[g]? = w.heap[g]?) : IntRow w' T B m xs :=
  ⟨h.1, fun hm => by
    obtain ⟨g, cs, e, hh, hc⟩ := h.2 hm
    exact ⟨g, cs, e, (hk g cs hh).trans hh, hc⟩⟩
theorem IntRow.below (h : IntRow w T B m xs) (hb : Below w.heap.size w w') : IntRow w' T B m xs := h.keep fun g cs hh => hb.block g (heap_lt hh)
theorem IntRow.ints (h : IntRow w T B m xs) : Ints w B m xs := ⟨h.1, fun k hk => by
  obtain ⟨g, cs, e, hh, hc⟩ := h.2 (by omega)
  exact ⟨_, e, heap_lt hh, by rw [add_new]; simpa [World.cell?, hh] using hc k hk⟩⟩
theorem IntRow.of_own {base n : Nat} {v : Value} (h : w.ownsRow base T 1 v n (xs.map (.int .i64))) : ∃ B c, v = .slice B n c ∧ IntRow w T B n xs ∧ n ≤ c := by
  have hl : xs.length = n := by have := h.1; simpa using this
  rcases h.2 with ⟨rfl, rfl⟩ | ⟨g, cap, cur, rfl, hg, hh, hnc, _, hcs, ht⟩
  · exact ⟨none, 0, rfl, ⟨hl, fun h => by omega⟩, Nat.le_refl _⟩
  · refine ⟨_, cap, rfl, ⟨hl, fun _ => ⟨g, cur, rfl, hh, fun k hk => ?_⟩⟩, hnc⟩
    have h1 : (cur.toList.take (n * 1))[k]? = some (.int .i64 (nth xs k)) := by
      rw [ht, List.getElem?_map, List.getElem?_eq_getElem (by omega), nth_lt (by omega)]; rfl
    rw [List.getElem?_take] at h1
    simp only [Nat.mul_one, hk, if_true] at h1
    simpa using h1
theorem IntRow.of_row {g : Nat} {f : Nat → Value} (hl : xs.length = m) (h : w.rowIs g T m f) (hf : ∀ i, i < m → f i = .int .i64 (nth xs i)) : IntRow w T (some ⟨g, 0, none⟩) m xs := by
  obtain ⟨c, hb, hn, hc⟩ := h
  exact ⟨hl, fun _ => ⟨g, c, rfl, hb, fun k hk => by rw [hc k hk, hf k hk]⟩⟩
end
/-- the values vals are slices that read as the lists xss, each in a block of element type T -/
def RowsV (w : World) (T : TypeId) (vals : List Value) (xss : List (List Int)) : Prop :=
  vals.length = xss.length ∧ ∀ k, k < vals.length → ∃ B m c, vals[k]? = some (.slice B m c) ∧ IntRow w T B m (nthL xss k) ∧ m ≤ c
section
variable {w w' : World} {T : TypeId} {vals : List Value} {xss : List (List Int)}
theorem RowsV.keep (h : RowsV w T vals xss) (hk : ∀ (g : Nat) (cs : Array Value), w.heap[g]? = some (.cells cs T (0, 0)) → w'.heap[g]? = w.heap[g]?) : RowsV w' T vals xss :=
  ⟨h.1, fun k hk' => by
    obtain ⟨B, m, c, e, hr, hm⟩ := h.2 k hk'
    exact ⟨B, m, c, e, hr.keep hk, hm⟩⟩
theorem RowsV.below (h : RowsV w T vals xss) (hb : Below w.heap.size w w') : RowsV w' T vals xss := h.keep fun g cs hh => hb.block g (heap_lt hh)
theorem RowsV.nil : RowsV w T [] [] := ⟨rfl, fun k hk => by simp at hk⟩
theorem RowsV.snoc (h : RowsV w T vals xss) {B : Option Addr} {m c : Nat} {xs : List Int} (hr : IntRow w T B m xs) (hm : m ≤ c) : RowsV w T (vals ++ [.slice B m c]) (xss ++ [xs]) := by
  refine ⟨by simp [h.1], fun k hk => ?_⟩
  by_cases e : k < vals.length
  · obtain ⟨B', m', c', e', hr', hm'⟩ := h.2 k e
    exact ⟨B', m', c', by rw [List.getElem?_append_left e]; exact e', by rw [nthL_append_left (by rw [← h.1]; exact e)]; exact hr', hm'⟩
  · have hk' : k = vals.length := by simp at hk; omega
    subst hk'
    exact ⟨B, m, c, by simp, by rw [h.1, nthL_snoc]; exact hr, hm⟩
end
theorem RowsV.low {w w' : World} {T : TypeId} {vals : List Value} {xss : List (List Int)} {G : Nat} (h : RowsV w T vals xss)
    (hl : ∀ q, q < vals.length → ∀ B m c, vals[q]? = some (.slice B m c) → ∀ ad, B = some ad → 0 < m → ad.block < G) (hb : Below G w w') : RowsV w' T vals xss :=
  ⟨h.1, fun k hk => by
    obtain ⟨B, m, c, e, hr, hm⟩ := h.2 k hk
    refine ⟨B, m, c, e, ⟨hr.1, fun h0 => ?_⟩, hm⟩
    obtain ⟨g, cs, e', hh, hc⟩ := hr.2 h0
    exact ⟨g, cs, e', (hb.block g (hl k hk B m c e _ e' h0)).trans hh, hc⟩⟩
theorem ownsRow_elem {w : World} {base e size n : Nat} {v : Value} {xs : List Value} (h : w.ownsRow base e size v n xs) {g : Nat} (hg : v.ownBlock = some g) : ∃ cs, w.heap[g]? = some (.cells cs e (0, 0)) := by
  rcases h.2 with ⟨rfl, _⟩ | ⟨g', cap, cur, rfl, _, hh, _⟩
  · simp [Value.ownBlock] at hg
  · have : g' = g := by simpa [Value.ownBlock] using hg
    subst this
    exact ⟨cur, hh⟩
theorem keep_of_grown {w w' : World} {T T2 : TypeId} {base size n : Nat} {v : Value} {xs : List Value} (h : w.ownsRow base T2 size v n xs) (hg : w.grownBy w' v.ownBlock) (hne : T ≠ T2) :
    ∀ (g : Nat) (cs : Array Value), w.heap[g]? = some (.cells cs T (0, 0)) → w'.heap[g]? = w.heap[g]? := fun g cs hh => hg.block g (heap_lt hh) (fun e => by
  obtain ⟨cs', h'⟩ := ownsRow_elem h e.symm
  rw [hh] at h'
  injection h' with h'
  injection h' with _ h'
  exact hne h')
section
variable {P : Program}
/-- one slice is appended to a slice of slices of the call's own -/
theorem wpList_appS {ops : Array Oper} {rest : List Oper} {o : Oper} {a : Act} {Q : Exit → Act → World → Prop} (hgd : o.guard = none) (s x : Operand) (t : TypeId)
    (ho : o.op = .call { callee := .builtin .append, args := #[s, x], argTypes := #[t, t] })
    (base : Nat) (e : TypeId) (ht : P.underlying t = some (.slice e)) (hinfo : (P.info? e).map (fun i => (i.zero, i.size, i.bytes)) = some (some (.slice none 0 0), 1, 24))
    (v : Value) (n : Nat) (vals : List Value) (B : Option Addr) (m c : Nat) (W : World) (hs : a.eval s = v) (hx : a.eval x = .slice (some ⟨W.heap.size, 0, none⟩) 1 1) (hown : W.ownsRow base e 1 v n vals)
    (hn : n ≤ 1048576) (hbase : base ≤ W.heap.size)
    (h : ∀ v' w', w'.ownsRow base e 1 v' (n + 1) (vals ++ [.slice B m c]) → Below base W w' → (∀ T, T ≠ e → ∀ (g : Nat) (cs : Array Value), W.heap[g]? = some (.cells cs T (0, 0)) → w'.heap[g]? = W.heap[g]?) → wpList P ops Q rest (a.put o.dst v') w') :
    wpList P ops Q (o :: rest) a (W.alloc (.cells #[.slice B m c] e)) := by
  obtain ⟨i0, hi0, hz0, hz1, hz2⟩ := info_parts hinfo
  refine wpList_append_own _ hgd s x t ho base e i0 (.slice none 0 0) 1 24 ht hi0 hz0 hz1 hz2 rfl (by omega) v n vals hs (hown.alloc _) ⟨W.heap.size, 0, none⟩ 1 1 [.slice B m c] hx rfl ?_ ?_ (by simp only [maxLen]; omega) (by omega) (by simp; omega) ?_
  · intro j u hu
    match j, hu with
    | 0, hu =>
      have : u = .slice B m c := by simpa using hu.symm
      subst this
      rw [add_new]
      exact cell_of_row (W.alloc _) W.heap.size 0 #[.slice B m c] e (0, 0) (heap_alloc_new W _)
    | j + 1, hu => simp at hu
  · intro u hu
    simp only [List.mem_singleton] at hu
    subst hu; rfl
  · intro v' w' h1 h2 _
    refine h v' w' h1 ?_ ?_
    · have h3 : Below base W (W.alloc (.cells #[.slice B m c] e)) := (Below.refl _ _).alloc hbase _
      exact h3.grown h2 (by simp; omega) fun k hk => (hown.lt k hk).1
    · intro T hT g cs hg
      have h4 := keep_of_grown (hown.alloc (.cells #[.slice B m c] e)) h2 hT g cs ((Below.heap_alloc _ _ _ (heap_lt hg)).trans hg)
      rw [h4, Below.heap_alloc _ _ _ (heap_lt hg)]
end
/-- the call returns a slice of slices of its own that reads as yss -/
def RetLL (yss : List (List Int)) (w : World) (e : Ending) (w' : World) : Prop := ∃ B k d, e = .returned (.slice B k d) ∧ Rows2 w' B k yss ∧ Below w.heap.size w w' ∧ k ≤ d
theorem rows2_of_own {w : World} {base T2 T n : Nat} {v : Value} {vals : List Value} {xss : List (List Int)} (h : w.ownsRow base T2 1 v n vals) (hr : RowsV w T vals xss) : ∃ A c, v = .slice A n c ∧ Rows2 w A n xss ∧ n ≤ c := by
  have hl : vals.length = n := by have := h.1; simpa using this
  rcases h.2 with ⟨rfl, rfl⟩ | ⟨g, cap, cur, rfl, hg, hh, hnc, _, hcs, ht⟩
  · exact ⟨none, 0, rfl, ⟨by rw [← hr.1]; exact hl, fun k hk => by omega⟩, Nat.le_refl _⟩
  · refine ⟨_, cap, rfl, ⟨by rw [← hr.1]; exact hl, fun k hk => ?_⟩, hnc⟩
    obtain ⟨B, m, c, e, hI, hm⟩ := hr.2 k (by omega)
    refine ⟨_, B, m, c, rfl, heap_lt hh, ?_, hI.ints, hm⟩
    rw [add_new]
    have h1 : (cur.toList.take (n * 1))[k]? = some (.slice B m c) := by rw [ht]; exact e
    rw [List.getElem?_take] at h1
    simp only [Nat.mul_one, hk, if_true] at h1
    simpa [World.cell?, hh] using h1
theorem retLL_row {w w' : World} {T2 T n : Nat} {v : Value} {vals : List Value} {yss : List (List Int)} (h : w'.ownsRow w.heap.size T2 1 v n vals) (hr : RowsV w' T vals yss) (hb : Below w.heap.size w w') : RetLL yss w (.returned v) w' := by
  obtain ⟨A, c, rfl, hR, hc⟩ := rows2_of_own h hr
  exact ⟨A, n, c, rfl, hR, hb, hc⟩
theorem retLL_made {w w' : World} {T2 T n g : Nat} {vals : List Value} {yss : List (List Int)} (hv : vals.length = n) (h : w'.rowIs g T2 n (fun r => (vals[r]?).getD (.slice none 0 0))) (hr : RowsV w' T vals yss) (hb : Below w.heap.size w w') :
    RetLL yss w (.returned (.slice (some ⟨g, 0, none⟩) n n)) w' := by
  refine ⟨_, n, n, rfl, ⟨by rw [← hr.1]; exact hv, fun k hk => ?_⟩, hb, Nat.le_refl _⟩
  obtain ⟨B, m, c, e, hI, hm⟩ := hr.2 k (by omega)
  exact ⟨_, B, m, c, rfl, h.lt, by rw [add_new, h.cell hk, e]; rfl, hI.ints, hm⟩
theorem retLL_nil {w w' : World} (h : Below w.heap.size w w') : RetLL [] w (.returned (.slice none 0 0)) w' := ⟨none, 0, 0, rfl, ⟨rfl, fun k hk => by omega⟩, h, Nat.le_refl _⟩
end Go.Proofs.Ytbbopnpmjhbffaa
