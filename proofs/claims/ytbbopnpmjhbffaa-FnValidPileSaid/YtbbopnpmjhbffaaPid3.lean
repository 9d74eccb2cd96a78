/- The law of piles that lose their top: drawn piles, and the law's walk. -/
import Derived.Test.YtbbopnpmjhbffaaPid2
namespace Go.Proofs.Ytbbopnpmjhbffaa
open Go.RowKit
attribute [local go_sem ↓] Go.wp_at_zero Go.wp_at_succ
set_option linter.unusedVariables false
set_option maxRecDepth 100000
theorem len_put {k i : Nat} {u : Int} {xss : List (List Int)} (q : Nat) : (nthL (xss.set k ((nthL xss k).set i u)) q).length = (nthL xss q).length := by
  by_cases e : q = k
  · subst e
    by_cases h : q < xss.length
    · have : nthL (xss.set q ((nthL xss q).set i u)) q = (nthL xss q).set i u := by simp [nthL, h]
      rw [this, List.length_set]
    · rw [List.set_eq_of_length_le (by omega)]
  · have : nthL (xss.set k ((nthL xss k).set i u)) q = nthL xss q := by simp [nthL, Ne.symm e]
    rw [this]
/-- rows of at most six places -/
def Six (xss : List (List Int)) : Prop := ∀ q, q < xss.length → (nthL xss q).length ≤ 6
theorem Six.put {k i : Nat} {u : Int} {xss : List (List Int)} (h : Six xss) : Six (xss.set k ((nthL xss k).set i u)) := fun q hq => by
  rw [len_put]; exact h q (by simpa using hq)
theorem Six.snoc {xss : List (List Int)} {xs : List Int} (h : Six xss) (hx : xs.length ≤ 6) : Six (xss ++ [xs]) := fun q hq => by
  by_cases e : q < xss.length
  · rw [nthL_append_left e]; exact h q e
  · obtain rfl : q = xss.length := by simp at hq; omega
    rw [nthL_snoc]; exact hx
theorem Six.take {k : Nat} {xss : List (List Int)} (h : Six xss) : Six (xss.take k) := fun q hq => by
  rw [List.length_take] at hq
  rw [nthL_take (by omega)]; exact h q (by omega)
theorem Six.flat {xss : List (List Int)} (h : Six xss) : xss.flatten.length ≤ 6 * xss.length := by
  induction xss with
  | nil => simp
  | cons x xs ih =>
    have h1 := h 0 (by simp)
    have h2 := ih fun q hq => h (q + 1) (by simpa using hq)
    have h3 : nthL (x :: xs) 0 = x := rfl
    rw [h3] at h1
    simp only [List.flatten_cons, List.length_append, List.length_cons]
    omega
/-- a drawn pile, valid or not -/
def AnyP (rb : Nat) (w : World) (e : Ending) (w' : World) : Prop := ∃ (v : Value) (n : Nat) (vals : List Value) (xss : List (List Int)), e = .returned v ∧ (n ≤ 7 ∧ xss.length = n ∧ Six xss) ∧ w'.ownsRow w.heap.size 49 1 v n vals ∧ RV w' 3 w.heap.size vals xss ∧ RS rb w w'
theorem row_123 (w : World) (T : TypeId) : RowAt (w.alloc (.cells #[.int .i64 1, .int .i64 2, .int .i64 3] T)) T w.heap.size 3 [1, 2, 3] :=
  ⟨rfl, _, heap_alloc_new w _, fun k hk => by
    rcases (show k = 0 ∨ k = 1 ∨ k = 2 by omega) with rfl | rfl | rfl <;> rfl⟩
set_option maxHeartbeats 4000000 in
theorem anyPile_any (rb N : Nat) (M : Int) (w : World) (hN : N ≤ 100) (h : Rdr w rb N) :
    Calls Try.prog 29 #[.pointer (some ⟨rb, 0, none⟩), .int .i64 M] w (AnyP rb w) := by
  have hrb := h.lt
  go_enter Try.func29, Try.ntmps29
  go_wp2_with fail
  refine (somePile_any rb N M _ hN h).mono ?_
  rintro e w1 ⟨v, n, vals, xss, rfl, ⟨hn6, hxl, hrows⟩, ho, hrv, hR1, hS1⟩
  obtain ⟨Av, cv, hv, -, hcv⟩ := rowsD_of_own ho hrv (by decide)
  subst hv
  have O1 := hide ho; have V1 := hide hrv; have R1 := hide hR1; have S1 := hide hS1; have HX := hide hxl
  have HS := hide (show Six xss from fun q hq => (hrows q (by omega)).2)
  have HR := hide hrows
  clear ho hrv hR1 hS1 hxl hrows h
  by_cases h0 : 0 < n
  · have h0' : (0 : Int) < n := by omega
    go_wp2_with fail
    refine (pick_any rb (N + 1000) 20 _ (by omega) R1.out).mono ?_
    rintro e w2 ⟨p, rfl, hp, hR2, hS2⟩
    have O2 := hide (ownsRow_rs O1.out hS2 hrb); have V2 := hide (V1.out.rs hS2 R1.out); have R2 := hide hR2; have S2 := hide (S1.out.trans hS2)
    clear hp hR2 hS2 O1 V1 R1 S1
    by_cases hp0 : p = 0
    · subst hp0
      obtain ⟨G, cap, g, m, c, hv', hcap, hg, ⟨neg, hgG⟩, hmc, hlen, hcr, hcells, -⟩ := row_at O2.out V2.out h0
      injection hv' with hv1 _ hv3
      subst hv1 hv3
      have hm0 : 0 < m := by have := HR.out 0 h0; omega
      have hm0' : (0 : Int) < m := by omega
      obtain ⟨ck, fk⟩ := hcells 0 hm0
      generalize nth (nthL xss 0) 0 = x at ck
      have hrbg : rb < g := by omega
      have hneb : ¬ g = rb := by omega
      have hneB : ¬ G = rb := by omega
      have hws : w.heap.size ≤ w2.heap.size := S2.out.size
      have hGl : G < w2.heap.size := by
        by_cases q : G < w2.heap.size
        · exact q
        · have : w2.heap[G]? = none := by simp; omega
          simp [World.cell?, this] at hcr
      have hgl : g < w2.heap.size := by
        by_cases q : g < w2.heap.size
        · exact q
        · have : w2.heap[g]? = none := by simp; omega
          simp [World.cell?, this] at ck
      have hca := fun o => (World.cell?_alloc_lt w2 o ⟨G, 0, none⟩ hGl).trans hcr
      clear hcells hlen
      go_wp2_with fail
      refine wp_region_held_drew (S := fun w' => w'.cell? ⟨G, 0, none⟩ = some (.slice (some ⟨g, 0, none⟩) m c)) (by kernel_rfl) ?hS1 (fun hHeld => ?_)
      case hS1 => ((try dsimp only); (repeat' apply And.intro) <;> (first | (with_reducible assumption) | (rw [World.cell?_drew]; with_reducible assumption) | (rw [World.cell?_setCell_other _ _ _ _ (fun e => by injection e with _ e; cases e)]; with_reducible assumption) | (simp [*]; done)))
      refine wpAnyH_take (i := 0) (v := ?v2) (by simp only [List.getElem?_toArray, List.getElem?_cons_zero]; rfl) (by kernel_rfl) (by kernel_rfl) (by kernel_rfl) (by exact fun _ _ _ h => h) (Or.inl ⟨by rfl, ?hy2⟩) (by assumption) ?rest2
      case hy2 => (intro w hSw; (try dsimp only at hSw); go_simp; (try with_reducible rfl))
      (try simp only [Act.put, List.setIfInBounds_toArray, List.set_cons_zero, List.set_cons_succ])
      refine wpAnyH_take (i := 1) (v := ?v3) (by simp only [List.getElem?_toArray, List.getElem?_cons_succ, List.getElem?_cons_zero]; rfl) (by kernel_rfl) (by kernel_rfl) (by kernel_rfl) (by exact fun _ _ _ h => h) (Or.inl ⟨by rfl, ?hy3⟩) (by assumption) ?rest3
      case hy3 => (intro w hSw; (try dsimp only at hSw); go_simp; (try with_reducible rfl))
      (try simp only [Act.put, List.setIfInBounds_toArray, List.set_cons_zero, List.set_cons_succ])
      refine wpAnyH_take (i := 2) (v := ?v4) (by simp only [List.getElem?_toArray, List.getElem?_cons_succ, List.getElem?_cons_zero]; rfl) (by kernel_rfl) (by kernel_rfl) (by kernel_rfl) (by exact fun _ _ _ h => h) (Or.inl ⟨by rfl, ?hy4⟩) (by assumption) ?rest4
      case hy4 => (intro w hSw; (try dsimp only at hSw); go_simp; (try with_reducible rfl))
      (try simp only [Act.put, List.setIfInBounds_toArray, List.set_cons_zero, List.set_cons_succ])
      refine wpAnyH_take (i := 3) (v := ?v5) (by simp only [List.getElem?_toArray, List.getElem?_cons_succ, List.getElem?_cons_zero]; rfl) (by kernel_rfl) (by kernel_rfl) (by kernel_rfl) (by exact fun _ _ _ h => h) (Or.inl ⟨by rfl, ?hy5⟩) (by assumption) ?rest5
      case hy5 => (intro w hSw; (try dsimp only at hSw); go_simp; (try with_reducible rfl))
      (try simp only [Act.put, List.setIfInBounds_toArray, List.set_cons_zero, List.set_cons_succ])
      refine wpAnyH_ready (rs := [4]) (by kernel_rfl) (by simp) (AllReadyH.cons (by simp only [List.getElem?_toArray, List.getElem?_cons_succ, List.getElem?_cons_zero]; rfl) (fun K hK => ?_) AllReadyH.nil)
      go_simp
      clear hHeld
      refine hK.out _ _ ?hS6 (fun hHeld => ?_)
      case hS6 => ((try dsimp only); (repeat' apply And.intro) <;> (first | (with_reducible assumption) | (rw [World.cell?_drew]; with_reducible assumption) | (rw [World.cell?_setCell_other _ _ _ _ (fun e => by injection e with e; omega)]; with_reducible assumption) | (simp [*]; done)))
      clear hK K
      (try simp only [Act.put, List.setIfInBounds_toArray, List.set_cons_zero, List.set_cons_succ])
      refine wpAnyH_ready (rs := [5]) (by kernel_rfl) (by simp) (AllReadyH.cons (by simp only [List.getElem?_toArray, List.getElem?_cons_succ, List.getElem?_cons_zero]; rfl) (fun K hK => ?_) AllReadyH.nil)
      go_simp
      refine (one_arr rb (N + 1000 + 1) _ _ _ _ _ (by simp) (by rfl) (by simp) (by simp) (by omega) (R2.out.drewN 1)).mono ?_
      rintro e w3 ⟨u, rfl, hu, hR3, hS3⟩
      have O3 := hide (ownsRow_rs (w := w2.drew) (O2.out.drew) hS3 hrb); have V3 := hide (RV.rs (w := w2.drew) V2.out hS3 (R2.out.drewN 1))
      have S3 := hide ((S2.out.drewN 1).trans hS3)
      replace fk := frozen_rs (w := w2.drew) ck fk hS3 hneb
      replace ck := cell_rs (w := w2.drew) ck hS3 hneb
      replace hcr := cell_rs (w := w2.drew) hcr hS3 hneB
      clear hca
      have HPUT := hide (row_put O3.out V3.out h0 hcr)
      clear hu hR3 hS3 O2 V2 R2 S2
      (try go_wp2_with fail)
      clear hHeld
      refine hK.out _ _ ?hS7 (fun hHeld => ?_)
      case hS7 => ((try dsimp only); (repeat' apply And.intro) <;> (first | (with_reducible assumption) | (rw [World.cell?_drew]; with_reducible assumption) | (rw [World.cell?_setCell_other _ _ _ _ (fun e => by injection e with e; omega)]; with_reducible assumption) | (simp [*]; done)))
      clear hK K
      (try simp only [Act.put, List.setIfInBounds_toArray, List.set_cons_zero, List.set_cons_succ])
      refine wpAnyH_take (i := 6) (v := ?v8) (by simp only [List.getElem?_toArray, List.getElem?_cons_succ, List.getElem?_cons_zero]; rfl) (by kernel_rfl) (by kernel_rfl) (by kernel_rfl) (by exact fun _ _ _ h => h) (Or.inl ⟨by rfl, ?hy8⟩) (by assumption) ?rest8
      case hy8 => (intro w hSw; (try dsimp only at hSw); go_simp; (try with_reducible rfl))
      (try simp only [Act.put, List.setIfInBounds_toArray, List.set_cons_zero, List.set_cons_succ])
      refine wpAnyH_ready (rs := [7]) (by kernel_rfl) (by simp) (AllReadyH.cons (by simp only [List.getElem?_toArray, List.getElem?_cons_succ, List.getElem?_cons_zero]; rfl) (fun K hK => ?_) AllReadyH.nil)
      go_simp
      clear hHeld
      refine hK.out _ _ ?hS9 (fun hHeld => ?_)
      case hS9 => ((try dsimp only); (repeat' apply And.intro) <;> (first | (with_reducible assumption) | (rw [World.cell?_drew]; with_reducible assumption) | (rw [World.cell?_setCell_other _ _ _ _ (fun e => by injection e with e; omega)]; with_reducible assumption) | (simp [*]; done)))
      clear hK K
      (try simp only [Act.put, List.setIfInBounds_toArray, List.set_cons_zero, List.set_cons_succ])
      refine wpAnyH_done (by kernel_rfl) ?_ _
      go_wp2_with fail
      go_ret
      exact ⟨_, n, vals, _, rfl, ⟨by omega, by simpa using HX.out, HS.out.put⟩, (HPUT.out 0 _).1, (HPUT.out 0 _).2, S3.out.set (by simpa using hg) _⟩
    · have hd0 : (p == 0) = false := by simpa using hp0
      clear hp0
      by_cases hp1 : p = 1
      · subst hp1
        clear hd0
        have O3 := hide (O2.out.alloc (.cells #[.int .i64 1, .int .i64 2, .int .i64 3] 3))
        have V3 := hide (V2.out.below ((Below.refl w2.heap.size w2).alloc (Nat.le_refl _) (.cells #[.int .i64 1, .int .i64 2, .int .i64 3] 3)))
        have HTOP := hide V2.out.top
        have S3 := hide (S2.out.alloc (.cells #[.int .i64 1, .int .i64 2, .int .i64 3] 3))
        have HNEW := hide (row_123 w2 3)
        have hws : w.heap.size ≤ w2.heap.size := S2.out.size
        have hbs : w.heap.size ≤ (w2.alloc (.cells #[.int .i64 1, .int .i64 2, .int .i64 3] 3)).heap.size := by simp; omega
        clear O2 V2 S2
        go_wp2_with (at_builtin; refine wpList_appS rfl _ _ _ rfl w.heap.size _ Try.underlying36 info_intsF _ _ _ _ _ _ _ (by rfl) (by rw [World.size_alloc]; rfl) O3.out (by omega) hbs ?_; intro v3 w3 hown3 hb3 hk3)
        go_ret
        exact ⟨v3, n + 1, _, _, rfl, ⟨by omega, by rw [List.length_append, HX.out]; rfl, HS.out.snoc (xs := [1, 2, 3]) (by decide)⟩, hown3, (V3.out.keep hb3.size (hk3 _ (by decide))).snoc (HNEW.out.keep (hk3 _ (by decide))) (Nat.le_refl _) hws HTOP.out (Nat.le_refl _), S3.out.from_ hb3⟩
      · have hd1 : (p == 1) = false := by simpa using hp1
        clear hp1
        go_wp2_with fail
        go_ret
        exact ⟨_, n, _, _, rfl, ⟨by omega, HX.out, HS.out⟩, O2.out, V2.out, S2.out⟩
  · obtain rfl : n = 0 := by omega
    go_wp2_with fail
    go_ret
    exact ⟨_, 0, _, _, rfl, ⟨by omega, HX.out, HS.out⟩, O1.out, V1.out, S1.out⟩

end Go.Proofs.Ytbbopnpmjhbffaa
