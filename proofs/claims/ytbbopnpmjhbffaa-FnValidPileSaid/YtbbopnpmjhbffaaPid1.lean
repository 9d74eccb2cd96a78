/- Contracts of drawn piles. -/
import Derived.Test.YtbbopnpmjhbffaaFulP
import Derived.Test.YtbbopnpmjhbffaaRd1
import Derived.Test.YtbbopnpmjhbffaaPil2
namespace Go.Proofs.Ytbbopnpmjhbffaa
open Go.RowKit
set_option linter.unusedVariables false
set_option maxRecDepth 100000
/-- a slice of rows of the call's own, known whole -/
def RetLO (yss : List (List Int)) (w : World) (e : Ending) (w' : World) : Prop := ∃ (v : Value) (vals : List Value), e = .returned v ∧ w'.ownsRow w.heap.size 49 1 v yss.length vals ∧ RV w' 3 w.heap.size vals yss ∧ Below w.heap.size w w'
set_option maxHeartbeats 4000000 in
theorem specFullPileO (n : Nat) (hn : (n : Int) ≤ 6) (w : World) : Calls Try.prog 43 #[.int .i64 n] w (RetLO (fAll n n) w) := by
  have hn0 : (0 : Int) ≤ n := by omega
  go_enter Try.func43, Try.ntmps43
  go_wp2_with (go_at_call 36; refine (inRange_any _ _ _ _).mono ?_; rintro e w' ⟨rfl, rfl⟩)
  go_loopw [3, 4, 5] (fun v l i wr => ∃ (r : Nat) (vals : List Value), r ≤ n ∧ i = .int .i64 r ∧ l = .int .i64 (fOff n r : Nat) ∧ Hid (wr.ownsRow w.heap.size 49 1 v r vals) ∧ Hid (RV wr 3 w.heap.size vals (fAll n r)) ∧ Hid (Below w.heap.size w wr)) (fun _ _ i _ => n - (intOf i).toNat)
  case atStart => exact ⟨0, [], by omega, rfl, rfl, hide ⟨rfl, .inr ⟨w.heap.size, 0, #[], rfl, Nat.le_refl _, heap_alloc_new w _, Nat.le_refl _, by simp [maxLen], rfl, rfl⟩⟩, hide (RV.nil _ _ _), hide (by go_grown)⟩
  case round =>
    obtain ⟨r, vals, hr, rfl, rfl, hown, hrv, hB⟩ := hrel
    obtain ⟨A3, c3, hv3, hRD, hc3⟩ := rowsD_of_own hown.out hrv.out (by decide)
    subst hv3
    have HRD := hide hRD; clear hRD
    by_cases hlt : r < n
    · obtain ⟨m, hm⟩ : ∃ m : Nat, n - r = m := ⟨_, rfl⟩
      have hm1 : (n : Int) - (r : Int) = m := by omega
      have hm6 : m ≤ 6 := by omega
      have hm0 : 0 < m := by omega
      have HM := hide hm
      have ob := fOff_bd (n := n) (by omega) r
      have hO : fOff n r ≤ 36 := by omega
      have HSTEP := hide (show fOff n (r + 1) = fOff n r + m by simp only [fOff]; omega)
      have HALL := hide (show fAll n (r + 1) = fAll n r ++ [fRow (fOff n r) m] by rw [fAll_succ, hm])
      obtain ⟨O, hOe⟩ : ∃ O, fOff n r = O := ⟨_, rfl⟩
      have HO := hide hOe
      rw [hOe] at HSTEP HALL hO ⊢
      clear hm ob hOe
      obtain ⟨wo, rfl⟩ : ∃ wo : World, wo = wr := ⟨_, rfl⟩
      go_wp2
      go_loopw [6, 4, 7] (fun v l i wr => ∃ k : Nat, k ≤ m ∧ i = .int .i64 k ∧ l = .int .i64 ((O + k : Nat) : Int) ∧ Hid (wr.ownsRow wo.heap.size 3 1 v k ((fRow O k).map (.int .i64))) ∧ Hid (Below wo.heap.size wo wr)) (fun _ _ i _ => m - (intOf i).toNat)
      case atStart => exact ⟨0, by omega, rfl, rfl, hide (own_empty_row (Nat.le_refl _)), hide ((Below.refl _ _).alloc (Nat.le_refl _) _)⟩
      case round =>
        obtain ⟨k, hk, rfl, rfl, hrow, hB2⟩ := hrel
        by_cases hkm : k < m
        · have hkmI : (k : Int) < m := by omega
          have hbs : wo.heap.size ≤ wr.heap.size := hB2.out.size
          go_wp2_with (at_builtin; refine wpList_app1 rfl _ _ _ rfl wo.heap.size _ Try.underlying49 info_int _ _ _ _ _ (by rfl) (by rfl) hrow.out (by omega) hbs ?_; intro v' w1 hown' hb')
          go_roundw
          case rel => exact ⟨k + 1, by omega, by go_num, by go_num, hide (by rw [fRow_succ, show (O : Int) + (k : Int) + 1 = ((O + k : Nat) : Int) + 1 by omega]; exact hown'), hide (hB2.out.trans hb')⟩
          case measure => simp [intOf]; omega
        · have hkm' : k = m := by omega
          subst hkm'
          have hkk : (k : Int) ≤ k := by omega
          obtain ⟨g6, c6, hv6, hra, hc6, hg6⟩ := rowAt_of_own hrow.out hm0
          subst hv6
          have HRA := hide hra; clear hra
          have hown2 := hide (ownsRow_call hown.out hB2.out)
          have hrv2 := hide (hrv.out.below hB2.out)
          have HTOP := hide hrv.out.top
          have HB3 := hide (hB.out.trans (hB2.out.mono hB.out.size))
          have hbs : w.heap.size ≤ wr.heap.size := HB3.out.size
          have hws : w.heap.size ≤ g6 := Nat.le_trans hB.out.size hg6
          go_wp2_with (at_builtin; refine wpList_appS rfl _ _ _ rfl w.heap.size _ Try.underlying36 info_intsF _ _ _ _ _ _ _ (by rfl) (by rfl) hown2.out (by omega) hbs ?_; intro v3 w3 hown3 hb3 hk3)
          go_roundw
          case rel => exact ⟨r + 1, _, by omega, by go_num, by first | (rw [HSTEP.out]; done) | (rw [HSTEP.out]; go_num) | (rw [HSTEP.out]; simp; done), hide hown3, hide (by rw [HALL.out]; exact (hrv2.out.keep hb3.size (hk3 _ (by decide))).snoc (HRA.out.keep (hk3 _ (by decide))) hc6 hws HTOP.out hg6), hide (HB3.out.trans hb3)⟩
          case measure => simp [intOf]; omega
    · have : r = n := by omega
      subst this
      go_wp2
      go_ret
      exact ⟨_, vals, rfl, by rw [fAll_len]; exact hown.out, hrv.out, hB.out⟩

theorem RV.rs {w w' : World} {rb N lo : Nat} {vals : List Value} {xss : List (List Int)} (h : RV w 3 lo vals xss) (hS : RS rb w w') (hR : Rdr w rb N) : RV w' 3 lo vals xss :=
  h.keep hS.size fun g cs hh => hS.block g (heap_lt hh) (fun e => by
    injection e with e
    subst e
    obtain ⟨A, n, c, bs, p, _, _, _, hr, _⟩ := hR
    rw [hh] at hr
    injection hr with hr
    injection hr with _ hr
    exact absurd hr (by decide))
theorem RowAt.put {w : World} {T g m i : Nat} {xs : List Int} (h : RowAt w T g m xs) (u : Int) : RowAt (w.setCell ⟨g, i, none⟩ (.int .i64 u)) T g m (xs.set i u) := by
  obtain ⟨hl, cs, hh, hc⟩ := h
  refine ⟨by simpa using hl, cs.setIfInBounds i (.int .i64 u), by simp [World.setCell, Array.getElem?_modify, hh], fun k hk => ?_⟩
  have h1 := hc k hk
  by_cases e : i = k
  · subst e
    have hsz : i < cs.size := (Array.getElem?_eq_some_iff.1 h1).1
    simp [hsz, nth, hl, hk]
  · rw [Array.getElem?_setIfInBounds_ne e, h1]
    simp [nth, e]
/-- one row of such a slice: where it lies, and what a store into it leaves -/
theorem row_at {w : World} {base n k : Nat} {v : Value} {vals : List Value} {xss : List (List Int)} (h : w.ownsRow base 49 1 v n vals) (hr : RV w 3 base vals xss) (hk : k < n) :
    ∃ G cap g m c, v = .slice (some ⟨G, 0, none⟩) n cap ∧ n ≤ cap ∧ base ≤ g ∧ (¬ g = G ∧ base ≤ G) ∧ m ≤ c ∧ (nthL xss k).length = m ∧ w.cell? ⟨G, k, none⟩ = some (.slice (some ⟨g, 0, none⟩) m c) ∧
      (∀ i, i < m → w.cell? ⟨g, i, none⟩ = some (.int .i64 (nth (nthL xss k) i)) ∧ w.frozen? ⟨g, i, none⟩ = false) ∧
      ∀ i u, (w.setCell ⟨g, i, none⟩ (.int .i64 u)).ownsRow base 49 1 v n vals ∧ RV (w.setCell ⟨g, i, none⟩ (.int .i64 u)) 3 base vals (xss.set k ((nthL xss k).set i u)) := by
  have hl : vals.length = n := by have := h.1; simpa using this
  obtain ⟨hl2, gs, hm, hrr⟩ := hr
  rcases h.2 with ⟨rfl, rfl⟩ | ⟨G, cap, cur, rfl, hg, hh, hnc, hmx, hcs, ht⟩
  · omega
  obtain ⟨m, c, e, hI, hmc, h1, h2⟩ := hrr k (by omega)
  obtain ⟨hxl, cs, hhg, hcc⟩ := hI
  have hne : gs k ≠ G := fun e' => by
    rw [e', hh] at hhg
    injection hhg with hhg
    injection hhg with _ hhg
    exact absurd hhg (by decide)
  refine ⟨G, cap, gs k, m, c, rfl, hnc, h1, ⟨hne, hg⟩, hmc, hxl, ?_, fun i hi => ⟨by simpa [World.cell?, hhg] using hcc i hi, by simp [World.frozen?, hhg]⟩, fun i u => ⟨?_, by simpa using hl2, gs, hm, fun j hj => ?_⟩⟩
  · have h3 : (cur.toList.take (n * 1))[k]? = some (.slice (some ⟨gs k, 0, none⟩) m c) := by rw [ht]; exact e
    rw [List.getElem?_take] at h3
    simp only [Nat.mul_one, hk, if_true] at h3
    simpa [World.cell?, hh] using h3
  · exact ⟨h.1, .inr ⟨G, cap, cur, rfl, hg, (Below.heap_setCell _ _ _ _ (fun e' => hne e'.symm)).trans hh, hnc, hmx, hcs, ht⟩⟩
  · obtain ⟨m', c', e', hI', hmc', h1', h2'⟩ := hrr j hj
    refine ⟨m', c', e', ?_, hmc', h1', by simpa [World.setCell] using h2'⟩
    by_cases ejk : j = k
    · subst ejk
      rw [e] at e'
      injection e' with e'
      injection e' with _ e2 e3
      subst e2 e3
      have hn' : nthL (xss.set j ((nthL xss j).set i u)) j = (nthL xss j).set i u := by simp [nthL, show j < xss.length by omega]
      rw [hn']
      exact RowAt.put ⟨hxl, cs, hhg, hcc⟩ u
    · have hgg : gs j ≠ gs k := by
        rcases Nat.lt_or_gt_of_ne ejk with q | q
        · have := hm j k q (by omega); omega
        · have := hm k j q (by omega); omega
      have hn' : nthL (xss.set k ((nthL xss k).set i u)) j = nthL xss j := by simp [nthL, Ne.symm ejk]
      rw [hn']
      obtain ⟨a, cs', b, d⟩ := hI'
      exact ⟨a, cs', (Below.heap_setCell _ _ _ _ hgg).trans b, d⟩
theorem row_put {w : World} {base n k m c : Nat} {G g cap : Nat} {vals : List Value} {xss : List (List Int)} (h : w.ownsRow base 49 1 (.slice (some ⟨G, 0, none⟩) n cap) n vals) (hr : RV w 3 base vals xss) (hk : k < n) (hc : w.cell? ⟨G, k, none⟩ = some (.slice (some ⟨g, 0, none⟩) m c)) :
    ∀ i u, (w.setCell ⟨g, i, none⟩ (.int .i64 u)).ownsRow base 49 1 (.slice (some ⟨G, 0, none⟩) n cap) n vals ∧ RV (w.setCell ⟨g, i, none⟩ (.int .i64 u)) 3 base vals (xss.set k ((nthL xss k).set i u)) := by
  obtain ⟨G', cap', g', m', c', hv, -, -, -, -, -, hc', -, hp⟩ := row_at h hr hk
  injection hv with hv _ _
  injection hv with hv
  injection hv with hv
  subst hv
  rw [hc] at hc'
  injection hc' with hc'
  injection hc' with hc' _ _
  injection hc' with hc'
  injection hc' with hc'
  subst hc'
  exact hp
theorem cell_rs {w w' : World} {rb g i : Nat} {v : Value} (h : w.cell? ⟨g, i, none⟩ = some v) (hS : RS rb w w') (hg : ¬ g = rb) : w'.cell? ⟨g, i, none⟩ = some v := by
  have hlt : g < w.heap.size := by
    by_cases q : g < w.heap.size
    · exact q
    · have : w.heap[g]? = none := by simp; omega
      simp [World.cell?, this] at h
  have := hS.block g hlt (fun e => by injection e with e; omega)
  simpa [World.cell?, this] using h
theorem frozen_rs {w w' : World} {rb g i : Nat} {b : Bool} {v : Value} (hv : w.cell? ⟨g, i, none⟩ = some v) (h : w.frozen? ⟨g, i, none⟩ = b) (hS : RS rb w w') (hg : ¬ g = rb) : w'.frozen? ⟨g, i, none⟩ = b := by
  have hlt : g < w.heap.size := by
    by_cases q : g < w.heap.size
    · exact q
    · have : w.heap[g]? = none := by simp; omega
      simp [World.cell?, this] at hv
  have := hS.block g hlt (fun e => by injection e with e; omega)
  simpa [World.frozen?, this] using h
theorem RV.base {w : World} {T lo lo' : Nat} {vals : List Value} {xss : List (List Int)} (h : RV w T lo vals xss) (hl : lo' ≤ lo) : RV w T lo' vals xss := by
  obtain ⟨a, gs, b, d⟩ := h
  refine ⟨a, gs, b, fun q hq => ?_⟩
  obtain ⟨m, c, e, r, i, j, l⟩ := d q hq
  exact ⟨m, c, e, r, i, by omega, l⟩
/-- the rows of a full pile, whatever they hold -/
def Lns (n : Nat) (xss : List (List Int)) : Prop := xss.length = n ∧ ∀ q, q < n → (nthL xss q).length = n - q
theorem lns_all (n : Nat) : Lns n (fAll n n) := ⟨fAll_len _ _, fun q hq => by simp [nthL, fAll, hq, fRow_len]⟩
theorem Lns.put {n k i : Nat} {u : Int} {xss : List (List Int)} (h : Lns n xss) : Lns n (xss.set k ((nthL xss k).set i u)) := by
  refine ⟨by simpa using h.1, fun q hq => ?_⟩
  by_cases e : q = k
  · subst e
    have : nthL (xss.set q ((nthL xss q).set i u)) q = (nthL xss q).set i u := by simp [nthL, h.1, hq]
    rw [this, List.length_set]; exact h.2 q hq
  · have : nthL (xss.set k ((nthL xss k).set i u)) q = nthL xss q := by simp [nthL, Ne.symm e]
    rw [this]; exact h.2 q hq
end Go.Proofs.Ytbbopnpmjhbffaa
