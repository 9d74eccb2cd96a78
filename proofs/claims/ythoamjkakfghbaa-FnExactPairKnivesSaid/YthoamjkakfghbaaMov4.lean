/- Contracts of chapter 4: which places knives get. -/
import Derived.Test.YthoamjkakfghbaaMov3
namespace Go.Proofs.Ythoamjkakfghbaa
open Go.RowKit
set_option linter.unusedVariables false
set_option maxRecDepth 100000
set_option maxHeartbeats 2000000 in
theorem implPairKnives (A B : Option Addr) (n c m d : Nat) (a b : List Int) (w : World) (hn : n ≤ 1048576) (hm : m ≤ 1048576) (h : Ints w A n a) (h' : Ints w B m b) :
    Calls Try.prog 16 #[.slice A n c, .slice B m d] w (RetL (pkOf a b) w) := by
  cases ha : vKn a
  · have HA := hide ha; clear ha
    go_enter Try.func16, Try.ntmps16
    go_wp2_with fail
    refine (implValidKnives A n c a _ hn h).mono ?_; rintro e w' ⟨rfl, rfl⟩; rw [HA.out]
    go_wp2_with fail
    go_ret
    rw [pkOf, if_neg (by rw [HA.out]; simp)]
    exact retL_nil (Below.refl _ _)
  obtain ⟨l1, h1, _⟩ := vKn_true ha
  rw [h.1] at l1
  have HA := hide ha; clear ha
  have H1 := hide h1; clear h1
  cases hb : vKn b
  · have HB := hide hb; clear hb
    go_enter Try.func16, Try.ntmps16
    go_wp2_with fail
    refine (implValidKnives A n c a _ hn h).mono ?_; rintro e w' ⟨rfl, rfl⟩; rw [HA.out]
    go_wp2_with fail
    refine (implValidKnives B m d b _ hm h').mono ?_; rintro e w' ⟨rfl, rfl⟩; rw [HB.out]
    go_wp2_with fail
    go_ret
    rw [pkOf, if_neg (by rw [HB.out]; simp)]
    exact retL_nil (Below.refl _ _)
  obtain ⟨l2, h2, _⟩ := vKn_true hb
  rw [h'.1] at l2
  have HB := hide hb; clear hb
  have H2 := hide h2; clear h2
  by_cases hl : (m : Int) < n
  · go_enter Try.func16, Try.ntmps16
    go_wp2_with fail
    refine (implValidKnives A n c a _ hn h).mono ?_; rintro e w' ⟨rfl, rfl⟩; rw [HA.out]
    go_wp2_with fail
    refine (implValidKnives B m d b _ hm h').mono ?_; rintro e w' ⟨rfl, rfl⟩; rw [HB.out]
    go_wp2_with fail
    go_ret
    rw [pkOf, if_neg (by rw [h.1, h'.1]; omega)]
    exact retL_nil (Below.refl _ _)
  have hl' : (n : Int) ≤ m := by omega
  have HML := hide (mv_lw H1.out H2.out (by rw [h.1]; exact l1))
  have hmk := fun W => run_make_row' (P := Try.prog) 22 3 (.int .i64 0) 8 Try.underlying22 info_int rfl .i64 .i64 n (by omega) (by omega) W
  go_enter Try.func16, Try.ntmps16
  go_wp2_with fail
  refine (implValidKnives A n c a _ hn h).mono ?_; rintro e w' ⟨rfl, rfl⟩; rw [HA.out]
  go_wp2_with fail
  refine (implValidKnives B m d b _ hm h').mono ?_; rintro e w' ⟨rfl, rfl⟩; rw [HB.out]
  go_wp2_with fail
  refine (implLeastWays A B n c m d a b _ l1 l2 h h' H1.out H2.out).mono ?_; rintro e w1 ⟨B1, k1, d1, rfl, hR, hb1, -⟩
  obtain rfl := rows2_len hR
  have HR := hide hR; clear hR
  go_wp2_with fail
  clear hmk
  go_loopw [7, 8] (fun s i wr => ∃ (r k : Nat) (rest : List Int), r ≤ n ∧ r ≤ k ∧ k ≤ m ∧ i = .int .i64 r ∧ s = .int .i64 k ∧ pkL a b n m = pkL a b r k ++ rest ∧ wr.rowIs w1.heap.size 3 n (fun q => if r ≤ q then .int .i64 (nth (pkL a b n m) q) else .int .i64 0) ∧ Below w1.heap.size w1 wr) (fun _ i _ => (intOf i).toNat)
  case atStart => exact ⟨n, m, [], by omega, by omega, by omega, rfl, rfl, by simp, (World.rowIs_made w1 (.int .i64 0) n 3).congr (fun q hq => by rw [if_neg (by omega)]), (Below.refl _ _).alloc (Nat.le_refl _) _⟩
  case round =>
    obtain ⟨r, k, rest, hr, hrk, hkm, rfl, rfl, hpk, hrow, hB⟩ := hrel
    have HPK := hide hpk; clear hpk
    have hBw := below_then hb1 hB
    by_cases h0 : 0 < r
    · obtain ⟨i, hi⟩ : ∃ i : Nat, (r : Int) - 1 = i := ⟨r - 1, by omega⟩
      have HI := hide (show r = i + 1 by omega)
      have hin : i < n := by omega
      obtain ⟨ad5, ad6, c6, rfl, hc5, hcc⟩ := tab_row (HR.out.below hB) (i := i) (by omega) (by omega)
      obtain ⟨ad5', ad7, c7, e5, hc5', hcc'⟩ := tab_row (HR.out.below hB) (i := r) (by omega) (by omega)
      injection e5 with e5; subst e5
      obtain ⟨ad, rfl, -, hca⟩ := (h.below hBw).2 i hin
      have hga := H1.out _ (nth_mem (k := i) (by rw [h.1]; exact hin))
      have GA := hide hga; clear hga
      have HC := hide hcc; have HC' := hide hcc'; clear hcc hcc'
      have hcb := hide ((h'.below hBw).2)
      have hr0 : 0 < (r : Int) := by omega
      have ci := hrow.cell hin
      rw [if_neg (by omega)] at ci
      have fi := hrow.frozen i
      go_wp2
      obtain ⟨wo, rfl⟩ : ∃ wo : World, wo = wr := ⟨_, rfl⟩
      go_loopw [7] (fun s wr => ∃ (k2 q : Nat), r ≤ k2 ∧ k2 ≤ m ∧ s = .int .i64 k2 ∧ pkF a b i k = pkF a b i k2 ∧ wr = wo.drewN q) (fun s _ => (intOf s).toNat)
      case atStart => exact ⟨k, 0, hrk, hkm, rfl, rfl, rfl⟩
      case round =>
        obtain ⟨k2, q, hk2, hkm2, rfl, hF, rfl⟩ := hrel
        have HF := hide hF; clear hF
        obtain ⟨p, hp⟩ : ∃ p : Nat, (k2 : Int) - 1 = p := ⟨k2 - 1, by omega⟩
        have HP := hide (show k2 = p + 1 by omega)
        have hpm : p < m := by omega
        have hip : i ≤ p := by omega
        have hc6 := HC.out p (by omega)
        have hc7 := HC'.out k2 (by omega)
        obtain ⟨x1, x2, x3⟩ := (HML.out i (by rw [h.1]; omega) p (by rw [h'.1]; omega)).1 hip
        obtain ⟨y1, y2, y3⟩ := (HML.out r (by rw [h.1]; omega) k2 (by rw [h'.1]; omega)).1 (by omega)
        rw [x1] at hc6
        rw [y1] at hc7
        clear x1 y1
        obtain ⟨ad', rfl, -, hcb'⟩ := hcb.out p hpm
        have hgb := H2.out _ (nth_mem (k := p) (by rw [h'.1]; exact hpm))
        obtain ⟨d1, d2⟩ := dst_bd GA.out hgb
        have GB := hide hgb; clear hgb
        have p0 : (0 : Int) ≤ p := by omega
        have p1 : (p : Int) < (m : Int) + 1 := by omega
        have p2 : (p : Int) < m := by omega
        have k0 : (0 : Int) ≤ k2 := by omega
        have k1 : (k2 : Int) < (m : Int) + 1 := by omega
        have i0 : (0 : Int) ≤ i := by omega
        have i1 : (i : Int) < n := by omega
        have i2 : (i : Int) < (n : Int) + 1 := by omega
        have r0 : (0 : Int) ≤ r := by omega
        have r1 : (r : Int) < (n : Int) + 1 := by omega
        have e1 : IntKind.i64.wrap ((r : Int) - 1) = i := by rw [hi]; exact IntWalk.i64_in _ ⟨by omega, by omega⟩
        have e2 : IntKind.i64.wrap ((k2 : Int) - 1) = p := by rw [hp]; exact IntWalk.i64_in _ ⟨by omega, by omega⟩
        have e3 : IntKind.i64.wrap (mv a b i p + dst (nth a i) (nth b p)) = mv a b i p + dst (nth a i) (nth b p) := IntWalk.i64_in _ ⟨by omega, by omega⟩
        have hgd : decide (mv a b i p < 0) = false := decide_eq_false (by omega)
        by_cases ht : mv a b r k2 = mv a b i p + dst (nth a i) (nth b p)
        · have hd : (mv a b i p + dst (nth a i) (nth b p) != mv a b r k2) = false := by simp [ht]
          have hx : pkF a b i k = p := by rw [HF.out, HP.out]; exact pkF_hit (by rw [← HI.out, ← HP.out]; exact ht)
          have HX := hide hx
          clear ht hx
          go_wp2
          go_quiet ((go_at_call 46; first | exact quiet_left (way_any _ _ _ GA.out GB.out) | exact quiet_add_left (way_any _ _ _ GA.out GB.out)))
          clear e1 e2 e3 hd hgd
          go_wp2
          go_roundw
          case rel =>
            refine ⟨i, p, (p : Int) :: rest, by omega, hip, by omega, rfl, rfl, ?_, (by first | exact (rowIs_drewN (rowIs_drewN hrow _) _).set i _ | exact (rowIs_drewN hrow _).set i _ : World.rowIs _ w1.heap.size 3 n _).congr (fun y hy => ?_), by first | exact (below_drewN (below_drewN hB _) _).setCell (p := ⟨w1.heap.size, i, none⟩) (Nat.le_refl _) _ | exact (below_drewN hB _).setCell (p := ⟨w1.heap.size, i, none⟩) (Nat.le_refl _) _⟩
            · rw [HPK.out, HI.out, pkL, HX.out]; simp
            · by_cases e : y = i
              · subst e
                have hn : nth (pkL a b n m) y = p := by
                  rw [HPK.out, HI.out, pkL, HX.out, List.append_assoc]
                  have := nth_append_right (xs := pkL a b y p) (ys := [(p : Int)] ++ rest) (k := 0)
                  rw [pkL_len] at this
                  simpa [nth] using this
                rw [if_pos rfl, if_pos (Nat.le_refl _), hn]
              · simp only [if_neg e]
                by_cases h1 : r ≤ y
                · rw [if_pos h1, if_pos (by omega)]
                · rw [if_neg h1, if_neg (by omega)]
          case measure => simp [intOf]; omega
        · have hd : (mv a b i p + dst (nth a i) (nth b p) != mv a b r k2) = true := by simpa using fun e => ht e.symm
          have hx : pkF a b i k2 = pkF a b i p := by rw [HP.out]; exact pkF_miss (by rw [← HI.out, ← HP.out]; exact ht)
          have hrm : i + 1 ≤ p := pk_room H1.out H2.out (by rw [h.1]; exact l1) (by rw [h.1]; exact hin) (by rw [h'.1]; exact hpm) hip (by rw [← HI.out, ← HP.out]; exact ht)
          have HX := hide hx
          clear ht hx
          go_wp2
          go_quiet ((go_at_call 46; first | exact quiet_left (way_any _ _ _ GA.out GB.out) | exact quiet_add_left (way_any _ _ _ GA.out GB.out)))
          clear e1 e2 e3 hd hgd
          go_wp2
          go_roundw
          case rel => exact ⟨p, _, by have := HI.out; omega, by omega, rfl, by rw [HF.out, HX.out], by first | rfl | exact World.drewN_drewN _ _ _⟩
          case measure => simp [intOf]; omega
    · have h0' : (r : Int) ≤ 0 := by omega
      have HR0 := hide (show r = 0 by omega)
      go_wp2
      go_ret
      rw [pkOf, if_pos ⟨HA.out, HB.out, by rw [h.1, h'.1]; omega⟩, h.1, h'.1]
      exact retL_made (pkL_len _ _ _ _) hrow (fun q _ => by rw [if_pos (by have := HR0.out; omega)]) hb1.size hBw
set_option maxHeartbeats 2000000 in
theorem specPairKnives (A B : Option Addr) (n c m d : Nat) (a b : List Int) (w : World) (hn : n ≤ 1048576) (hm : m ≤ 1048576) (h : Ints w A n a) (h' : Ints w B m b) :
    Calls Try.prog 15 #[.slice A n c, .slice B m d] w (RetL (pkOf a b) w) := by
  cases ha : vKn a
  · have HA := hide ha; clear ha
    go_enter Try.func15, Try.ntmps15
    go_wp2_with fail
    refine (specValidKnives0 A n c a _ hn h).mono ?_; rintro e w' ⟨rfl, q, rfl⟩; rw [HA.out]
    go_wp2_with fail
    go_ret
    rw [pkOf, if_neg (by rw [HA.out]; simp)]
    exact retL_nil (below_of_drewN _ _)
  obtain ⟨l1, h1, _⟩ := vKn_true ha
  rw [h.1] at l1
  have HA := hide ha; clear ha
  have H1 := hide h1; clear h1
  cases hb : vKn b
  · have HB := hide hb; clear hb
    go_enter Try.func15, Try.ntmps15
    go_wp2_with fail
    refine (specValidKnives0 A n c a _ hn h).mono ?_; rintro e w' ⟨rfl, q, rfl⟩; rw [HA.out]
    go_wp2_with fail
    refine (specValidKnives0 B m d b _ hm (h'.drewN _)).mono ?_; rintro e w' ⟨rfl, q2, rfl⟩; rw [HB.out]
    go_wp2_with fail
    go_ret
    rw [pkOf, if_neg (by rw [HB.out]; simp)]
    exact retL_nil (by first | exact below_of_drewN _ _ | (rw [World.drewN_drewN]; exact below_of_drewN _ _))
  obtain ⟨l2, h2, _⟩ := vKn_true hb
  rw [h'.1] at l2
  have HB := hide hb; clear hb
  have H2 := hide h2; clear h2
  by_cases hl : (m : Int) < n
  · go_enter Try.func15, Try.ntmps15
    go_wp2_with fail
    refine (specValidKnives0 A n c a _ hn h).mono ?_; rintro e w' ⟨rfl, q, rfl⟩; rw [HA.out]
    go_wp2_with fail
    refine (specValidKnives0 B m d b _ hm (h'.drewN _)).mono ?_; rintro e w' ⟨rfl, q2, rfl⟩; rw [HB.out]
    go_wp2_with fail
    go_ret
    rw [pkOf, if_neg (by rw [h.1, h'.1]; omega)]
    exact retL_nil (by first | exact below_of_drewN _ _ | (rw [World.drewN_drewN]; exact below_of_drewN _ _))
  have hl' : (n : Int) ≤ m := by omega
  have HML := hide (mv_lw H1.out H2.out (by rw [h.1]; exact l1))
  have hmk := fun W => run_make_row' (P := Try.prog) 22 3 (.int .i64 0) 8 Try.underlying22 info_int rfl .i64 .i64 n (by omega) (by omega) W
  go_enter Try.func15, Try.ntmps15
  go_wp2_with fail
  refine (specValidKnives0 A n c a _ hn h).mono ?_; rintro e w' ⟨rfl, q, rfl⟩; rw [HA.out]
  go_wp2_with fail
  refine (specValidKnives0 B m d b _ hm (h'.drewN _)).mono ?_; rintro e w' ⟨rfl, q2, rfl⟩; rw [HB.out]
  go_wp2_with fail
  refine (specMoveTable A B n c m d a b _ l1 l2 (h.drewN _) (h'.drewN _) H1.out H2.out).mono ?_; rintro e w1 ⟨B1, k1, d1, rfl, hR, hb0, -⟩
  have hb1 : Below w.heap.size w w1 := below_then (below_of_drewN _ _) hb0
  obtain rfl := rows2_len hR
  have HR := hide hR; clear hR
  go_wp2_with fail
  clear hmk
  go_loopw [7, 8] (fun s i wr => ∃ (r k : Nat) (rest : List Int), r ≤ n ∧ r ≤ k ∧ k ≤ m ∧ i = .int .i64 r ∧ s = .int .i64 k ∧ pkL a b n m = pkL a b r k ++ rest ∧ wr.rowIs w1.heap.size 3 n (fun q => if r ≤ q then .int .i64 (nth (pkL a b n m) q) else .int .i64 0) ∧ Below w1.heap.size w1 wr) (fun _ i _ => (intOf i).toNat)
  case atStart => exact ⟨n, m, [], by omega, by omega, by omega, rfl, rfl, by simp, (World.rowIs_made w1 (.int .i64 0) n 3).congr (fun q hq => by rw [if_neg (by omega)]), (Below.refl _ _).alloc (Nat.le_refl _) _⟩
  case round =>
    obtain ⟨r, k, rest, hr, hrk, hkm, rfl, rfl, hpk, hrow, hB⟩ := hrel
    have HPK := hide hpk; clear hpk
    have hBw := below_then hb1 hB
    by_cases h0 : 0 < r
    · obtain ⟨i, hi⟩ : ∃ i : Nat, (r : Int) - 1 = i := ⟨r - 1, by omega⟩
      have HI := hide (show r = i + 1 by omega)
      have hin : i < n := by omega
      obtain ⟨ad5, ad6, c6, rfl, hc5, hcc⟩ := tab_row (HR.out.below hB) (i := i) (by omega) (by omega)
      obtain ⟨ad5', ad7, c7, e5, hc5', hcc'⟩ := tab_row (HR.out.below hB) (i := r) (by omega) (by omega)
      injection e5 with e5; subst e5
      obtain ⟨ad, rfl, -, hca⟩ := (h.below hBw).2 i hin
      have hga := H1.out _ (nth_mem (k := i) (by rw [h.1]; exact hin))
      have GA := hide hga; clear hga
      have HC := hide hcc; have HC' := hide hcc'; clear hcc hcc'
      have hcb := hide ((h'.below hBw).2)
      have hr0 : 0 < (r : Int) := by omega
      have ci := hrow.cell hin
      rw [if_neg (by omega)] at ci
      have fi := hrow.frozen i
      go_wp2
      obtain ⟨wo, rfl⟩ : ∃ wo : World, wo = wr := ⟨_, rfl⟩
      go_loopw [7] (fun s wr => ∃ (k2 q : Nat), r ≤ k2 ∧ k2 ≤ m ∧ s = .int .i64 k2 ∧ pkF a b i k = pkF a b i k2 ∧ wr = wo.drewN q) (fun s _ => (intOf s).toNat)
      case atStart => exact ⟨k, 0, hrk, hkm, rfl, rfl, rfl⟩
      case round =>
        obtain ⟨k2, q, hk2, hkm2, rfl, hF, rfl⟩ := hrel
        have HF := hide hF; clear hF
        obtain ⟨p, hp⟩ : ∃ p : Nat, (k2 : Int) - 1 = p := ⟨k2 - 1, by omega⟩
        have HP := hide (show k2 = p + 1 by omega)
        have hpm : p < m := by omega
        have hip : i ≤ p := by omega
        have hc6 := HC.out p (by omega)
        have hc7 := HC'.out k2 (by omega)
        obtain ⟨x1, x2, x3⟩ := (HML.out i (by rw [h.1]; omega) p (by rw [h'.1]; omega)).1 hip
        obtain ⟨y1, y2, y3⟩ := (HML.out r (by rw [h.1]; omega) k2 (by rw [h'.1]; omega)).1 (by omega)
        clear x1 y1
        obtain ⟨ad', rfl, -, hcb'⟩ := hcb.out p hpm
        have hgb := H2.out _ (nth_mem (k := p) (by rw [h'.1]; exact hpm))
        obtain ⟨d1, d2⟩ := dst_bd GA.out hgb
        have GB := hide hgb; clear hgb
        have p0 : (0 : Int) ≤ p := by omega
        have p1 : (p : Int) < (m : Int) + 1 := by omega
        have p2 : (p : Int) < m := by omega
        have k0 : (0 : Int) ≤ k2 := by omega
        have k1 : (k2 : Int) < (m : Int) + 1 := by omega
        have i0 : (0 : Int) ≤ i := by omega
        have i1 : (i : Int) < n := by omega
        have i2 : (i : Int) < (n : Int) + 1 := by omega
        have r0 : (0 : Int) ≤ r := by omega
        have r1 : (r : Int) < (n : Int) + 1 := by omega
        have e1 : IntKind.i64.wrap ((r : Int) - 1) = i := by rw [hi]; exact IntWalk.i64_in _ ⟨by omega, by omega⟩
        have e2 : IntKind.i64.wrap ((k2 : Int) - 1) = p := by rw [hp]; exact IntWalk.i64_in _ ⟨by omega, by omega⟩
        have e3 : IntKind.i64.wrap (mv a b i p + dst (nth a i) (nth b p)) = mv a b i p + dst (nth a i) (nth b p) := IntWalk.i64_in _ ⟨by omega, by omega⟩
        have hgd : decide (mv a b i p < 0) = false := decide_eq_false (by omega)
        by_cases ht : mv a b r k2 = mv a b i p + dst (nth a i) (nth b p)
        · have hd : (mv a b r k2 != mv a b i p + dst (nth a i) (nth b p)) = false := by simp [ht]
          have hx : pkF a b i k = p := by rw [HF.out, HP.out]; exact pkF_hit (by rw [← HI.out, ← HP.out]; exact ht)
          have HX := hide hx
          clear ht hx
          go_wp2
          go_quiet ((go_at_call 45; first | exact quiet_left (far_any _ _ _ GA.out GB.out) | exact quiet_add_left (far_any _ _ _ GA.out GB.out)))
          clear e1 e2 e3 hd hgd
          go_wp2
          go_roundw
          case rel =>
            refine ⟨i, p, (p : Int) :: rest, by omega, hip, by omega, rfl, rfl, ?_, (by first | exact (rowIs_drewN (rowIs_drewN hrow _) _).set i _ | exact (rowIs_drewN hrow _).set i _ : World.rowIs _ w1.heap.size 3 n _).congr (fun y hy => ?_), by first | exact (below_drewN (below_drewN hB _) _).setCell (p := ⟨w1.heap.size, i, none⟩) (Nat.le_refl _) _ | exact (below_drewN hB _).setCell (p := ⟨w1.heap.size, i, none⟩) (Nat.le_refl _) _⟩
            · rw [HPK.out, HI.out, pkL, HX.out]; simp
            · by_cases e : y = i
              · subst e
                have hn : nth (pkL a b n m) y = p := by
                  rw [HPK.out, HI.out, pkL, HX.out, List.append_assoc]
                  have := nth_append_right (xs := pkL a b y p) (ys := [(p : Int)] ++ rest) (k := 0)
                  rw [pkL_len] at this
                  simpa [nth] using this
                rw [if_pos rfl, if_pos (Nat.le_refl _), hn]
              · simp only [if_neg e]
                by_cases h1 : r ≤ y
                · rw [if_pos h1, if_pos (by omega)]
                · rw [if_neg h1, if_neg (by omega)]
          case measure => simp [intOf]; omega
        · have hd : (mv a b r k2 != mv a b i p + dst (nth a i) (nth b p)) = true := by simpa using ht
          have hx : pkF a b i k2 = pkF a b i p := by rw [HP.out]; exact pkF_miss (by rw [← HI.out, ← HP.out]; exact ht)
          have hrm : i + 1 ≤ p := pk_room H1.out H2.out (by rw [h.1]; exact l1) (by rw [h.1]; exact hin) (by rw [h'.1]; exact hpm) hip (by rw [← HI.out, ← HP.out]; exact ht)
          have HX := hide hx
          clear ht hx
          go_wp2
          go_quiet ((go_at_call 45; first | exact quiet_left (far_any _ _ _ GA.out GB.out) | exact quiet_add_left (far_any _ _ _ GA.out GB.out)))
          clear e1 e2 e3 hd hgd
          go_wp2
          go_roundw
          case rel => exact ⟨p, _, by have := HI.out; omega, by omega, rfl, by rw [HF.out, HX.out], by first | rfl | exact World.drewN_drewN _ _ _⟩
          case measure => simp [intOf]; omega
    · have h0' : (r : Int) ≤ 0 := by omega
      have HR0 := hide (show r = 0 by omega)
      go_wp2
      go_ret
      rw [pkOf, if_pos ⟨HA.out, HB.out, by rw [h.1, h'.1]; omega⟩, h.1, h'.1]
      exact retL_made (pkL_len _ _ _ _) hrow (fun q _ => by rw [if_pos (by have := HR0.out; omega)]) hb1.size hBw
end Go.Proofs.Ythoamjkakfghbaa
