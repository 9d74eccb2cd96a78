/- Contracts of chapter 4: the least way of knives. -/
import Derived.Test.YtkmogpeiolkpbaaMov2
namespace Go.Proofs.Ytkmogpeiolkpbaa
open Go.RowKit
set_option linter.unusedVariables false
set_option maxRecDepth 100000
theorem tab_row {w : World} {A : Option Addr} {N M : Nat} {f : Nat → Nat → Int} (h : Rows2 w A N (tAll f N M)) {i : Nat} (hi : i < N) (hM : 0 < M) :
    ∃ ad ad6 c, A = some ad ∧ w.cell? (ad.add i) = some (.slice (some ad6) M c) ∧ ∀ p, p < M → w.cell? (ad6.add p) = some (.int .i64 (f i p)) := by
  obtain ⟨ad, B, m, c, rfl, _, hc, hI, _⟩ := h.2 i hi
  rw [show nthL (tAll f N M) i = tRow f i M by simp [nthL, tAll, hi]] at hI
  have hm : M = m := by have := hI.1; rw [tRow_len] at this; exact this
  subst hm
  obtain ⟨ad6, rfl, _, _⟩ := hI.2 0 hM
  refine ⟨ad, ad6, c, rfl, hc, fun p hp => ?_⟩
  obtain ⟨ad7, e, _, hc7⟩ := hI.2 p hp
  injection e with e; subst e
  rw [hc7, tRow_nth hp]
theorem rows2_len {w : World} {A : Option Addr} {k N M : Nat} {f : Nat → Nat → Int} (h : Rows2 w A k (tAll f N M)) : N = k := by have := h.1; rw [tAll_len] at this; exact this
theorem specMoves0 (A B : Option Addr) (n c m d : Nat) (a b : List Int) (w : World) (hl : (n : Int) ≤ m) (ha : vKn a = true) (hb : vKn b = true) (h : Ints w A n a) (h' : Ints w B m b) :
    Calls Try.prog 73 #[.slice A n c, .slice B m d] w fun e w' => e = .returned (.int .i64 (mv a b n m)) ∧ Below w.heap.size w w' := by
  obtain ⟨l1, h1, _⟩ := vKn_true ha
  obtain ⟨l2, h2, _⟩ := vKn_true hb
  rw [h.1] at l1
  rw [h'.1] at l2
  have H1 := hide h1; have H2 := hide h2; clear h1 h2 ha hb
  go_enter Try.func73, Try.ntmps73
  go_wp2_with fail
  refine (specMoveTable A B n c m d a b _ l1 l2 h h' H1.out H2.out).mono ?_; rintro e w1 ⟨B1, k1, d1, rfl, hR, hb1, -⟩
  obtain rfl := rows2_len hR
  obtain ⟨ad, ad6, c6, rfl, hc, hcc⟩ := tab_row hR (i := n) (by omega) (by omega)
  have hc6 := hcc m (by omega)
  have z0 : (n : Int) < (n : Int) + 1 := by omega
  have z1 : (m : Int) < (m : Int) + 1 := by omega
  clear hcc hR h h'
  go_wp2_with fail
  go_ret
  exact ⟨rfl, hb1⟩
theorem specMoves (A B : Option Addr) (n c m d : Nat) (a b : List Int) (w : World) (ha : vKn a = true) (hb : vKn b = true) (h : Ints w A n a) (h' : Ints w B m b) :
    Calls Try.prog 73 #[.slice A n c, .slice B m d] w fun e w' => e = .returned (.int .i64 (mkOf a b)) ∧ Below w.heap.size w w' := by
  by_cases hl : (n : Int) ≤ m
  · refine (specMoves0 A B n c m d a b w hl ha hb h h').mono fun e w' ⟨he, hb'⟩ => ⟨?_, hb'⟩
    rw [he, mkOf, if_pos ⟨ha, hb⟩, if_neg (by rw [h.1, h'.1]; omega), h.1, h'.1]
  · have hl' : (m : Int) < n := by omega
    have HA := hide ha; have HB := hide hb; clear ha hb
    go_enter Try.func73, Try.ntmps73
    go_wp2_with (go_at_call 73; refine (specMoves0 B A m d n c b a _ (by omega) HB.out HA.out h' h).mono ?_; rintro e w' ⟨rfl, hb'⟩)
    go_ret
    exact ⟨ret_int (by rw [mkOf, if_pos ⟨HA.out, HB.out⟩, if_pos (by rw [h.1, h'.1]; omega), h.1, h'.1]), hb'⟩
theorem specMoveKnives (A B : Option Addr) (n c m d : Nat) (a b : List Int) (w : World) (hn : n ≤ 1048576) (hm : m ≤ 1048576) (h : Ints w A n a) (h' : Ints w B m b) :
    Calls Try.prog 47 #[.slice A n c, .slice B m d] w fun e w' => e = .returned (.int .i64 (mkOf a b)) ∧ Below w.heap.size w w' := by
  cases ha : vKn a
  · have HA := hide ha; clear ha
    go_enter Try.func47, Try.ntmps47
    go_wp2_with (go_at_call 59; refine (specValidKnives0 _ _ _ _ _ hn h).mono ?_; rintro e w' ⟨rfl, q, rfl⟩; rw [HA.out])
    go_ret
    exact ⟨ret_int (by rw [mkOf, if_neg (by rw [HA.out]; simp)]), below_of_drewN _ _⟩
  have HA := hide ha; clear ha
  cases hb : vKn b
  · have HB := hide hb; clear hb
    go_enter Try.func47, Try.ntmps47
    go_wp2_with fail
    refine (specValidKnives0 A n c a _ hn h).mono ?_; rintro e w' ⟨rfl, q, rfl⟩; rw [HA.out]
    go_wp2_with fail
    refine (specValidKnives0 B m d b _ hm (h'.drewN _)).mono ?_; rintro e w' ⟨rfl, q2, rfl⟩; rw [HB.out]
    go_wp2_with fail
    go_ret
    exact ⟨ret_int (by rw [mkOf, if_neg (by rw [HB.out]; simp)]), by first | exact below_of_drewN _ _ | (rw [World.drewN_drewN]; exact below_of_drewN _ _)⟩
  have HB := hide hb; clear hb
  go_enter Try.func47, Try.ntmps47
  go_wp2_with fail
  refine (specValidKnives0 A n c a _ hn h).mono ?_; rintro e w' ⟨rfl, q, rfl⟩; rw [HA.out]
  go_wp2_with fail
  refine (specValidKnives0 B m d b _ hm (h'.drewN _)).mono ?_; rintro e w' ⟨rfl, q2, rfl⟩; rw [HB.out]
  go_wp2_with fail
  refine (specMoves A B n c m d a b _ HA.out HB.out (h.drewN _) (h'.drewN _)).mono ?_; rintro e w1 ⟨rfl, hb1⟩
  go_wp2_with fail
  go_ret
  exact ⟨rfl, below_then (below_of_drewN _ _) hb1⟩
theorem implMoveKnives (A B : Option Addr) (n c m d : Nat) (a b : List Int) (w : World) (hn : n ≤ 1048576) (hm : m ≤ 1048576) (h : Ints w A n a) (h' : Ints w B m b) :
    Calls Try.prog 45 #[.slice A n c, .slice B m d] w fun e w' => e = .returned (.int .i64 (mkOf a b)) ∧ Below w.heap.size w w' := by
  cases ha : vKn a
  · have HA := hide ha; clear ha
    go_enter Try.func45, Try.ntmps45
    go_wp2_with (go_at_call 25; refine (implValidKnives _ _ _ _ _ hn h).mono ?_; rintro e w' ⟨rfl, rfl⟩; rw [HA.out])
    go_ret
    exact ⟨ret_int (by rw [mkOf, if_neg (by rw [HA.out]; simp)]), Below.refl _ _⟩
  obtain ⟨l1, h1, _⟩ := vKn_true ha
  rw [h.1] at l1
  have HA := hide ha; clear ha
  have H1 := hide h1; clear h1
  cases hb : vKn b
  · have HB := hide hb; clear hb
    go_enter Try.func45, Try.ntmps45
    go_wp2_with fail
    refine (implValidKnives A n c a _ hn h).mono ?_; rintro e w' ⟨rfl, rfl⟩; rw [HA.out]
    go_wp2_with fail
    refine (implValidKnives B m d b _ hm h').mono ?_; rintro e w' ⟨rfl, rfl⟩; rw [HB.out]
    go_wp2_with fail
    go_ret
    exact ⟨ret_int (by rw [mkOf, if_neg (by rw [HB.out]; simp)]), Below.refl _ _⟩
  obtain ⟨l2, h2, _⟩ := vKn_true hb
  rw [h'.1] at l2
  have HB := hide hb; clear hb
  have H2 := hide h2; clear h2
  by_cases hl : (n : Int) ≤ m
  · go_enter Try.func45, Try.ntmps45
    go_wp2_with fail
    refine (implValidKnives A n c a _ hn h).mono ?_; rintro e w' ⟨rfl, rfl⟩; rw [HA.out]
    go_wp2_with fail
    refine (implValidKnives B m d b _ hm h').mono ?_; rintro e w' ⟨rfl, rfl⟩; rw [HB.out]
    go_wp2_with fail
    refine (implLeastWays A B n c m d a b _ l1 l2 h h' H1.out H2.out).mono ?_; rintro e w1 ⟨B1, k1, d1, rfl, hR, hb1, -⟩
    obtain rfl := rows2_len hR
    obtain ⟨ad, ad6, c6, rfl, hc, hcc⟩ := tab_row hR (i := n) (by omega) (by omega)
    have hc6 := hcc m (by omega)
    have z0 : (n : Int) < (n : Int) + 1 := by omega
    have z1 : (m : Int) < (m : Int) + 1 := by omega
    clear hcc hR
    go_wp2_with fail
    go_ret
    refine ⟨ret_int ?_, hb1⟩
    have e1 := mv_end HA.out HB.out (by rw [h.1, h'.1]; omega)
    rw [mkOf, if_pos ⟨HA.out, HB.out⟩, if_neg (by rw [h.1, h'.1]; omega), ← e1, h.1, h'.1]
  · have hl' : (m : Int) < n := by omega
    go_enter Try.func45, Try.ntmps45
    go_wp2_with fail
    refine (implValidKnives A n c a _ hn h).mono ?_; rintro e w' ⟨rfl, rfl⟩; rw [HA.out]
    go_wp2_with fail
    refine (implValidKnives B m d b _ hm h').mono ?_; rintro e w' ⟨rfl, rfl⟩; rw [HB.out]
    go_wp2_with fail
    refine (implLeastWays B A m d n c b a _ l2 l1 h' h H2.out H1.out).mono ?_; rintro e w1 ⟨B1, k1, d1, rfl, hR, hb1, -⟩
    obtain rfl := rows2_len hR
    obtain ⟨ad, ad6, c6, rfl, hc, hcc⟩ := tab_row hR (i := m) (by omega) (by omega)
    have hc6 := hcc n (by omega)
    have z0 : (n : Int) < (n : Int) + 1 := by omega
    have z1 : (m : Int) < (m : Int) + 1 := by omega
    clear hcc hR
    go_wp2_with fail
    go_ret
    refine ⟨ret_int ?_, hb1⟩
    have e1 := mv_end HB.out HA.out (by rw [h.1, h'.1]; omega)
    rw [mkOf, if_pos ⟨HA.out, HB.out⟩, if_pos (by rw [h.1, h'.1]; omega), ← e1, h.1, h'.1]
end Go.Proofs.Ytkmogpeiolkpbaa
