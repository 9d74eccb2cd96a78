/- Full piles: rows in blocks of their own, apart from each other. -/
import Derived.Test.YtbbopnpmjhbffaaKit4
import Derived.Test.YtbbopnpmjhbffaaInt1
namespace Go.Proofs.Ytbbopnpmjhbffaa
open Go.RowKit
set_option linter.unusedVariables false
set_option maxRecDepth 100000
/-- block g, of element type T, begins with the m numbers xs -/
def RowAt (w : World) (T : TypeId) (g m : Nat) (xs : List Int) : Prop := xs.length = m ∧ ∃ cs, w.heap[g]? = some (.cells cs T (0, 0)) ∧ ∀ k, k < m → cs[k]? = some (.int .i64 (nth xs k))
theorem RowAt.own {w : World} {T : TypeId} {g m : Nat} {xs : List Int} (h : RowAt w T g m xs) : Own w g (g + 1) (some ⟨g, 0, none⟩) m xs := by
  obtain ⟨hl, cs, hh, hc⟩ := h
  refine ⟨hl, heap_lt hh, fun _ => ⟨g, rfl, Nat.le_refl _, Nat.lt_succ_self _, fun k hk => ⟨by simpa [World.cell?, hh] using hc k hk, by simp [World.frozen?, hh]⟩⟩⟩
theorem RowAt.keep {w w' : World} {T : TypeId} {g m : Nat} {xs : List Int} (h : RowAt w T g m xs) (hk : ∀ (g : Nat) (cs : Array Value), w.heap[g]? = some (.cells cs T (0, 0)) → w'.heap[g]? = w.heap[g]?) : RowAt w' T g m xs := by
  obtain ⟨hl, cs, hh, hc⟩ := h
  exact ⟨hl, cs, (hk g cs hh).trans hh, hc⟩
/-- the values are slices of rows of their own, in blocks that rise -/
def RV (w : World) (T : TypeId) (lo : Nat) (vals : List Value) (xss : List (List Int)) : Prop :=
  vals.length = xss.length ∧ ∃ gs : Nat → Nat, (∀ i j, i < j → j < vals.length → gs i < gs j) ∧ ∀ k, k < vals.length → ∃ m c, vals[k]? = some (.slice (some ⟨gs k, 0, none⟩) m c) ∧ RowAt w T (gs k) m (nthL xss k) ∧ m ≤ c ∧ lo ≤ gs k ∧ gs k < w.heap.size
theorem RV.nil (w : World) (T : TypeId) (lo : Nat) : RV w T lo [] [] := ⟨rfl, fun _ => 0, fun i j hi hj => by simp at hj, fun k hk => by simp at hk⟩
theorem RV.keep {w w' : World} {T : TypeId} {lo : Nat} {vals : List Value} {xss : List (List Int)} (h : RV w T lo vals xss) (hz : w.heap.size ≤ w'.heap.size) (hk : ∀ (g : Nat) (cs : Array Value), w.heap[g]? = some (.cells cs T (0, 0)) → w'.heap[g]? = w.heap[g]?) : RV w' T lo vals xss := by
  obtain ⟨hl, gs, hm, hr⟩ := h
  refine ⟨hl, gs, hm, fun k hk' => ?_⟩
  obtain ⟨m, c, e, ha, hc, h1, h2⟩ := hr k hk'
  exact ⟨m, c, e, ha.keep hk, hc, h1, by omega⟩
theorem RV.below {w w' : World} {T : TypeId} {lo : Nat} {vals : List Value} {xss : List (List Int)} (h : RV w T lo vals xss) (hb : Below w.heap.size w w') : RV w' T lo vals xss := h.keep hb.size fun g cs hh => hb.block g (heap_lt hh)
theorem RV.snoc {w : World} {T : TypeId} {lo g m c : Nat} {vals : List Value} {xss : List (List Int)} {xs : List Int} (h : RV w T lo vals xss) (hg : RowAt w T g m xs) (hc : m ≤ c) (hlo : lo ≤ g)
    {s : Nat} (hs : ∀ k, k < vals.length → ∀ m c b, vals[k]? = some (.slice (some ⟨b, 0, none⟩) m c) → b < s) (hsg : s ≤ g) : RV w T lo (vals ++ [.slice (some ⟨g, 0, none⟩) m c]) (xss ++ [xs]) := by
  obtain ⟨hl, gs, hm, hr⟩ := h
  refine ⟨by simp [hl], fun k => if k < vals.length then gs k else g, fun i j hij hj => ?_, fun k hk => ?_⟩
  · simp at hj
    have hi : i < vals.length := by omega
    dsimp only
    rw [if_pos hi]
    by_cases hjl : j < vals.length
    · rw [if_pos hjl]; exact hm i j hij hjl
    · rw [if_neg hjl]
      obtain ⟨m', c', e, _⟩ := hr i hi
      have := hs i hi _ _ _ e
      omega
  · by_cases e : k < vals.length
    · obtain ⟨m', c', e', ha, hc', h1, h2⟩ := hr k e
      exact ⟨m', c', by rw [List.getElem?_append_left e, e']; simp [e], by simp only [if_pos e]; rw [nthL_append_left (by rw [← hl]; exact e)]; exact ha, hc', by simp only [if_pos e]; exact h1, by simp only [if_pos e]; exact h2⟩
    · have hk' : k = vals.length := by simp at hk; omega
      subst hk'
      refine ⟨m, c, by simp, ?_, hc, by simpa using hlo, ?_⟩
      · simp only [if_neg e]; rw [hl, nthL_snoc]; exact hg
      · simp only [if_neg e]; obtain ⟨_, cs, hh, _⟩ := hg; exact heap_lt hh
theorem RV.top {w : World} {T : TypeId} {lo : Nat} {vals : List Value} {xss : List (List Int)} (h : RV w T lo vals xss) : ∀ k, k < vals.length → ∀ m c b, vals[k]? = some (.slice (some ⟨b, 0, none⟩) m c) → b < w.heap.size := by
  obtain ⟨hl, gs, hm, hr⟩ := h
  intro k hk m c b e
  obtain ⟨m', c', e', _, _, _, h2⟩ := hr k hk
  rw [e] at e'
  injection e' with e'
  injection e' with e1 _ _
  injection e1 with e1
  injection e1 with e1
  omega
/-- a slice of rows in blocks of their own, apart from each other and from the slice's own -/
def RowsD (w : World) (lo : Nat) (A : Option Addr) (n : Nat) (xss : List (List Int)) : Prop :=
  xss.length = n ∧ ∃ gs : Nat → Nat, (∀ i j, i < j → j < n → gs i < gs j) ∧ ∀ k, k < n → ∃ ad B m c, A = some ad ∧ lo ≤ ad.block ∧ ad.block < w.heap.size ∧ (∀ j, j < n → ad.block ≠ gs j) ∧ w.cell? (ad.add k) = some (.slice B m c) ∧ Own w (gs k) (gs k + 1) B m (nthL xss k) ∧ lo ≤ gs k ∧ m ≤ c
theorem RowsD.rows {w : World} {lo : Nat} {A : Option Addr} {n : Nat} {xss : List (List Int)} (h : RowsD w lo A n xss) : Rows2 w A n xss := by
  obtain ⟨hl, gs, hm, hr⟩ := h
  refine ⟨hl, fun k hk => ?_⟩
  obtain ⟨ad, B, m, c, e, h1, h2, h3, h4, h5, h6, h7⟩ := hr k hk
  exact ⟨ad, B, m, c, e, h2, h4, h5.ints, h7⟩
theorem RowsD.below {w w' : World} {lo : Nat} {A : Option Addr} {n : Nat} {xss : List (List Int)} (h : RowsD w lo A n xss) (hb : Below w.heap.size w w') : RowsD w' lo A n xss := by
  obtain ⟨hl, gs, hm, hr⟩ := h
  refine ⟨hl, gs, hm, fun k hk => ?_⟩
  obtain ⟨ad, B, m, c, e, h1, h2, h3, h4, h5, h6, h7⟩ := hr k hk
  exact ⟨ad, B, m, c, e, h1, Nat.lt_of_lt_of_le h2 hb.size, h3, (hb.cell (by rw [block_add]; exact h2)).trans h4, h5.below hb, h6, h7⟩
theorem rowsD_of_own {w : World} {base T2 T n : Nat} {v : Value} {vals : List Value} {xss : List (List Int)} (h : w.ownsRow base T2 1 v n vals) (hr : RV w T base vals xss) (hT : T ≠ T2) : ∃ A c, v = .slice A n c ∧ RowsD w base A n xss ∧ n ≤ c := by
  have hl : vals.length = n := by have := h.1; simpa using this
  obtain ⟨hl2, gs, hm, hrr⟩ := hr
  rcases h.2 with ⟨rfl, rfl⟩ | ⟨g, cap, cur, rfl, hg, hh, hnc, _, hcs, ht⟩
  · exact ⟨none, 0, rfl, ⟨by rw [← hl2]; exact hl, gs, fun i j hi hj => by omega, fun k hk => by omega⟩, Nat.le_refl _⟩
  · refine ⟨_, cap, rfl, ⟨by rw [← hl2]; exact hl, gs, fun i j hi hj => hm i j hi (by omega), fun k hk => ?_⟩, hnc⟩
    obtain ⟨m, c, e, hI, hmc, h1, h2⟩ := hrr k (by omega)
    refine ⟨_, _, m, c, rfl, hg, heap_lt hh, fun j hj e' => ?_, ?_, hI.own, h1, hmc⟩
    · obtain ⟨_, _, _, hI', _⟩ := hrr j (by omega)
      obtain ⟨_, cs', hh', _⟩ := hI'
      have e'' : g = gs j := e'
      rw [← e'', hh] at hh'
      injection hh' with hh'
      injection hh' with _ hh'
      exact hT hh'.symm
    · rw [add_new]
      have h3 : (cur.toList.take (n * 1))[k]? = some (.slice (some ⟨gs k, 0, none⟩) m c) := by rw [ht]; exact e
      rw [List.getElem?_take] at h3
      simp only [Nat.mul_one, hk, if_true] at h3
      simpa [World.cell?, hh] using h3
/-- .. and what a call that makes such a slice gives -/
def RetLD (yss : List (List Int)) (w : World) (e : Ending) (w' : World) : Prop := ∃ B k d, e = .returned (.slice B k d) ∧ RowsD w' w.heap.size B k yss ∧ Below w.heap.size w w' ∧ k ≤ d
theorem retLD_row {w w' : World} {T2 T n : Nat} {v : Value} {vals : List Value} {yss : List (List Int)} (h : w'.ownsRow w.heap.size T2 1 v n vals) (hr : RV w' T w.heap.size vals yss) (hT : T ≠ T2) (hb : Below w.heap.size w w') : RetLD yss w (.returned v) w' := by
  obtain ⟨A, c, rfl, hR, hc⟩ := rowsD_of_own h hr hT
  exact ⟨A, n, c, rfl, hR, hb, hc⟩
theorem retLD_nil {w w' : World} (h : Below w.heap.size w w') : RetLD [] w (.returned (.slice none 0 0)) w' := ⟨none, 0, 0, rfl, ⟨rfl, fun _ => 0, fun i j hi hj => by omega, fun k hk => by omega⟩, h, Nat.le_refl _⟩

/-- the numbers behind x, m of them -/
def fRow (x m : Nat) : List Int := (List.range m).map fun (i : Nat) => (x : Int) + (i : Int) + 1
theorem fRow_len (x m : Nat) : (fRow x m).length = m := by simp [fRow]
theorem fRow_nth {x m i : Nat} (h : i < m) : nth (fRow x m) i = (x : Int) + i + 1 := by simp [nth, fRow, h]
theorem fRow_succ (x m : Nat) : fRow x (m + 1) = fRow x m ++ [(x : Int) + m + 1] := by simp [fRow, List.range_succ]
/-- how many places lie in the rows below r -/
def fOff (n : Nat) : Nat → Nat
  | 0 => 0
  | r + 1 => fOff n r + (n - r)
def fAll (n r : Nat) : List (List Int) := (List.range r).map fun q => fRow (fOff n q) (n - q)
theorem fAll_succ (n r : Nat) : fAll n (r + 1) = fAll n r ++ [fRow (fOff n r) (n - r)] := by simp [fAll, List.range_succ]
theorem fAll_len (n r : Nat) : (fAll n r).length = r := by simp [fAll]
theorem fOff_bd {n : Nat} (hn : n ≤ 6) (r : Nat) : fOff n r ≤ 6 * r := by
  induction r with
  | zero => simp [fOff]
  | succ r ih => simp only [fOff]; omega
def fp (x : Int) : List (List Int) := if 0 ≤ x ∧ x ≤ 6 then fAll x.toNat x.toNat else []
theorem info_intsF : (Try.prog.info? 49).map (fun i => (i.zero, i.size, i.bytes)) = some (some (.slice none 0 0), 1, 24) := by kernel_rfl
theorem rowAt_of_own {w : World} {base T n : Nat} {v : Value} {xs : List Int} (h : w.ownsRow base T 1 v n (xs.map (.int .i64))) (h0 : 0 < n) : ∃ g c, v = .slice (some ⟨g, 0, none⟩) n c ∧ RowAt w T g n xs ∧ n ≤ c ∧ base ≤ g := by
  have hl : xs.length = n := by have := h.1; simpa using this
  rcases h.2 with ⟨rfl, rfl⟩ | ⟨g, cap, cur, rfl, hg, hh, hnc, _, hcs, ht⟩
  · omega
  · refine ⟨g, cap, rfl, ⟨hl, cur, hh, fun k hk => ?_⟩, hnc, hg⟩
    have h1 : (cur.toList.take (n * 1))[k]? = some (.int .i64 (nth xs k)) := by
      rw [ht, List.getElem?_map, List.getElem?_eq_getElem (by omega), nth_lt (by omega)]; rfl
    rw [List.getElem?_take] at h1
    simp only [Nat.mul_one, hk, if_true] at h1
    simpa using h1
set_option maxHeartbeats 4000000 in
theorem specFullPile (x : Int) (w : World) : Calls Try.prog 43 #[.int .i64 x] w (RetLD (fp x) w) := by
  by_cases hx : 0 ≤ x ∧ x ≤ 6
  case neg =>
    have HD : Hid (fp x = []) := hide (if_neg hx)
    rcases (show (decide (0 ≤ x) = false ∧ decide (0 ≤ x ∧ x ≤ 6) = false) ∨ (0 ≤ x ∧ decide (x ≤ 6) = false) by
      by_cases h0 : 0 ≤ x
      · exact .inr ⟨h0, decide_eq_false (by omega)⟩
      · exact .inl ⟨decide_eq_false h0, decide_eq_false hx⟩) with ⟨g, g'⟩ | ⟨g, g'⟩
    all_goals
      clear hx
      go_enter Try.func43, Try.ntmps43
      go_wp2_with (go_at_call 36; refine (inRange_any _ _ _ _).mono ?_; rintro e w' ⟨rfl, rfl⟩)
      go_ret
      rw [HD.out]; exact retLD_nil (Below.refl _ _)
  have HD : Hid (fp x = fAll x.toNat x.toNat) := hide (if_pos hx)
  obtain ⟨n, rfl⟩ := Int.eq_ofNat_of_zero_le hx.1
  rw [Int.toNat_natCast] at HD
  have hn : (n : Int) ≤ 6 := by omega
  have hn0 : (0 : Int) ≤ n := by omega
  clear hx
  go_enter Try.func43, Try.ntmps43
  go_wp2_with (go_at_call 36; refine (inRange_any _ _ _ _).mono ?_; rintro e w' ⟨rfl, rfl⟩)
  go_loopw [3, 4, 5] (fun v l i wr => ∃ (r : Nat) (vals : List Value), r ≤ n ∧ i = .int .i64 r ∧ l = .int .i64 (fOff n r : Nat) ∧ Hid (wr.ownsRow w.heap.size 49 1 v r vals) ∧ Hid (RV wr 3 w.heap.size vals (fAll n r)) ∧ Hid (Below w.heap.size w wr)) (fun _ _ i _ => n - (intOf i).toNat)
  case atStart => exact ⟨0, [], by omega, rfl, rfl, hide ⟨rfl, .inr ⟨w.heap.size, 0, #[], rfl, Nat.le_refl _, heap_alloc_new w _, Nat.le_refl _, by simp [maxLen], rfl, rfl⟩⟩, hide (RV.nil _ _ _), hide (by go_grown)⟩
  case round =>
    obtain ⟨r, vals, hr, rfl, rfl, hown, hrv, hB⟩ := hrel
    obtain ⟨A3, c3, hv3, hRD, hc3⟩ := rowsD_of_own hown.out hrv.out (by decide)
    subst hv3
    have HRD := hide hRD; clear hRD
    by_cases hlt : r < n
    · obtain ⟨m, hm⟩ : ∃ m : Nat, n - r = m := ⟨_, rfl⟩
      have hm1 : (n : Int) - (r : Int) = m := by omega
      have hm6 : m ≤ 6 := by omega
      have hm0 : 0 < m := by omega
      have HM := hide hm
      have ob := fOff_bd (n := n) (by omega) r
      have hO : fOff n r ≤ 36 := by omega
      have HSTEP := hide (show fOff n (r + 1) = fOff n r + m by simp only [fOff]; omega)
      have HALL := hide (show fAll n (r + 1) = fAll n r ++ [fRow (fOff n r) m] by rw [fAll_succ, hm])
      obtain ⟨O, hOe⟩ : ∃ O, fOff n r = O := ⟨_, rfl⟩
      have HO := hide hOe
      rw [hOe] at HSTEP HALL hO ⊢
      clear hm ob hOe
      obtain ⟨wo, rfl⟩ : ∃ wo : World, wo = wr := ⟨_, rfl⟩
      go_wp2
      go_loopw [6, 4, 7] (fun v l i wr => ∃ k : Nat, k ≤ m ∧ i = .int .i64 k ∧ l = .int .i64 ((O + k : Nat) : Int) ∧ Hid (wr.ownsRow wo.heap.size 3 1 v k ((fRow O k).map (.int .i64))) ∧ Hid (Below wo.heap.size wo wr)) (fun _ _ i _ => m - (intOf i).toNat)
      case atStart => exact ⟨0, by omega, rfl, rfl, hide (own_empty_row (Nat.le_refl _)), hide ((Below.refl _ _).alloc (Nat.le_refl _) _)⟩
      case round =>
        obtain ⟨k, hk, rfl, rfl, hrow, hB2⟩ := hrel
        by_cases hkm : k < m
        · have hkmI : (k : Int) < m := by omega
          have hbs : wo.heap.size ≤ wr.heap.size := hB2.out.size
          go_wp2_with (at_builtin; refine wpList_app1 rfl _ _ _ rfl wo.heap.size _ Try.underlying49 info_int _ _ _ _ _ (by rfl) (by rfl) hrow.out (by omega) hbs ?_; intro v' w1 hown' hb')
          go_roundw
          case rel => exact ⟨k + 1, by omega, by go_num, by go_num, hide (by rw [fRow_succ, show (O : Int) + (k : Int) + 1 = ((O + k : Nat) : Int) + 1 by omega]; exact hown'), hide (hB2.out.trans hb')⟩
          case measure => simp [intOf]; omega
        · have hkm' : k = m := by omega
          subst hkm'
          have hkk : (k : Int) ≤ k := by omega
          obtain ⟨g6, c6, hv6, hra, hc6, hg6⟩ := rowAt_of_own hrow.out hm0
          subst hv6
          have HRA := hide hra; clear hra
          have hown2 := hide (ownsRow_call hown.out hB2.out)
          have hrv2 := hide (hrv.out.below hB2.out)
          have HTOP := hide hrv.out.top
          have HB3 := hide (hB.out.trans (hB2.out.mono hB.out.size))
          have hbs : w.heap.size ≤ wr.heap.size := HB3.out.size
          have hws : w.heap.size ≤ g6 := Nat.le_trans hB.out.size hg6
          go_wp2_with (at_builtin; refine wpList_appS rfl _ _ _ rfl w.heap.size _ Try.underlying36 info_intsF _ _ _ _ _ _ _ (by rfl) (by rfl) hown2.out (by omega) hbs ?_; intro v3 w3 hown3 hb3 hk3)
          go_roundw
          case rel => exact ⟨r + 1, _, by omega, by go_num, by first | (rw [HSTEP.out]; done) | (rw [HSTEP.out]; go_num) | (rw [HSTEP.out]; simp; done), hide hown3, hide (by rw [HALL.out]; exact (hrv2.out.keep hb3.size (hk3 _ (by decide))).snoc (HRA.out.keep (hk3 _ (by decide))) hc6 hws HTOP.out hg6), hide (HB3.out.trans hb3)⟩
          case measure => simp [intOf]; omega
    · have : r = n := by omega
      subst this
      have hR := HRD.out
      rw [← HD.out] at hR
      have HRR := hide hR; clear hR
      go_wp2
      go_ret
      exact ⟨_, _, _, rfl, HRR.out, hB.out, hc3⟩
end Go.Proofs.Ytbbopnpmjhbffaa
