/- Contracts of chapter 3: the best use of a width. -/
import Derived.Test.YtheddimkifhnkaaInt7
import Derived.Test.YtheddimkifhnkaaPl4
import Derived.BigRegion
namespace Go.Proofs.Ytheddimkifhnkaa
open Go.RowKit
set_option linter.unusedVariables false
set_option maxRecDepth 100000

theorem specValidValues (A B : Option Addr) (n c m d : Nat) (width : Int) (ws cs : List Int) (w : World) (hn : n ≤ 1048576) (hm : m ≤ 1048576) (hnc : n ≤ c) (h : Ints w A n ws) (h' : Ints w B m cs) :
    Calls Try.prog 58 #[.int .i64 width, .slice A n c, .slice B m d] w fun e w' => e = .returned (.bool (vVl width ws cs)) ∧ ∃ m, w' = w.drewN m := by
  cases hv : vWd width ws
  · have HV := hide hv; clear hv
    go_enter Try.func58, Try.ntmps58
    go_wp2_with (go_at_call 45; refine (specValidWidths0 _ _ _ _ _ _ hn hnc h).mono ?_; rintro e w' ⟨rfl, q, rfl⟩; rw [HV.out])
    go_ret
    exact ⟨ret_bool (by simp [vVl, HV.out]), q, rfl⟩
  have HV := hide hv; clear hv
  by_cases hmn : m = n
  · subst hmn
    go_enter Try.func58, Try.ntmps58
    go_wp2_with (first | (go_at_call 45; refine (specValidWidths0 _ _ _ _ _ _ hn hnc h).mono ?_; rintro e w' ⟨rfl, q, rfl⟩; rw [HV.out]) | (go_at_call 49; refine (allIn_any _ _ _ _ _ _ _ hm (h'.drewN _)).mono ?_; rintro e w' ⟨rfl, rfl⟩))
    go_ret
    exact ⟨ret_bool (by rw [vVl, HV.out, decide_eq_true (show cs.length = ws.length by rw [h.1, h'.1])]; rfl), q, rfl⟩
  · have hd : ((m : Int) == (n : Int)) = false := by simp; omega
    go_enter Try.func58, Try.ntmps58
    go_wp2_with (go_at_call 45; refine (specValidWidths0 _ _ _ _ _ _ hn hnc h).mono ?_; rintro e w' ⟨rfl, q, rfl⟩; rw [HV.out])
    go_ret
    exact ⟨ret_bool (by rw [vVl, decide_eq_false (show ¬ cs.length = ws.length by rw [h.1, h'.1]; omega)]; simp), q, rfl⟩
theorem implValidValues (A B : Option Addr) (n c m d : Nat) (width : Int) (ws cs : List Int) (w : World) (hn : n ≤ 1048576) (hm : m ≤ 1048576) (hnc : n ≤ c) (h : Ints w A n ws) (h' : Ints w B m cs) :
    Calls Try.prog 60 #[.int .i64 width, .slice A n c, .slice B m d] w fun e w' => e = .returned (.bool (vVl width ws cs)) ∧ w = w' := by
  cases hv : vWd width ws
  · have HV := hide hv; clear hv
    go_enter Try.func60, Try.ntmps60
    go_wp2_with (go_at_call 22; refine (implValidWidths _ _ _ _ _ _ hn hnc h).mono ?_; rintro e w' ⟨rfl, rfl⟩; rw [HV.out])
    go_ret
    exact ⟨ret_bool (by simp [vVl, HV.out]), rfl⟩
  have HV := hide hv; clear hv
  by_cases hmn : m = n
  · subst hmn
    go_enter Try.func60, Try.ntmps60
    go_wp2_with (go_at_call 22; refine (implValidWidths _ _ _ _ _ _ hn hnc h).mono ?_; rintro e w' ⟨rfl, rfl⟩; rw [HV.out])
    go_loop [22] (fun i => ∃ k : Nat, k ≤ m ∧ i = .int .i64 k ∧ allB (cs.take k) 0 100 = true) (fun i => m - (intOf i).toNat)
    case atStart => exact ⟨0, by omega, rfl, rfl⟩
    case round =>
      obtain ⟨k, hk, rfl, hT⟩ := hrel
      have HT := hide hT; clear hT
      by_cases hlt : k < m
      · have hcx : k < cs.length := by rw [h'.1]; exact hlt
        have HCX := hide hcx; clear hcx
        obtain ⟨ad', rfl, hb', hcl'⟩ := h'.2 k hlt
        rcases (show nth cs k < 0 ∨ (0 ≤ nth cs k ∧ 100 < nth cs k) ∨ (0 ≤ nth cs k ∧ nth cs k ≤ 100) by omega) with q | ⟨q, q'⟩ | ⟨q, q'⟩
        · clear h h'
          go_wp2
          go_ret
          exact ⟨ret_bool (by rw [vVl, allB_no HCX.out (by omega)]; simp), rfl⟩
        · clear h h'
          go_wp2
          go_ret
          exact ⟨ret_bool (by rw [vVl, allB_no HCX.out (by omega)]; simp), rfl⟩
        · clear h h'
          go_wp2
          go_round
          case rel => exact ⟨k + 1, by omega, by go_num, allB_take HCX.out HT.out ⟨q, q'⟩⟩
          case measure => simp [intOf]; omega
      · have : k = m := by omega
        subst this
        go_wp2
        go_ret
        exact ⟨ret_bool (by rw [vVl, HV.out, allB_all h'.1 HT.out, decide_eq_true (show cs.length = ws.length by rw [h.1, h'.1])]; rfl), rfl⟩
  · have hd : ((m : Int) != (n : Int)) = true := by simp; omega
    go_enter Try.func60, Try.ntmps60
    go_wp2_with (go_at_call 22; refine (implValidWidths _ _ _ _ _ _ hn hnc h).mono ?_; rintro e w' ⟨rfl, rfl⟩; rw [HV.out])
    go_ret
    exact ⟨ret_bool (by rw [vVl, decide_eq_false (show ¬ cs.length = ws.length by rw [h.1, h'.1]; omega)]; simp), rfl⟩
set_option maxHeartbeats 1000000 in
theorem specBestUse0 (A B : Option Addr) (n c d W : Nat) (ws vs : List Int) (w : World) (hn : n ≤ 6) (hW : W ≤ 60) (h : Ints w A n ws) (h' : Ints w B n vs) (hw : ∀ x ∈ ws, 1 ≤ x ∧ x ≤ 60) (hv : ∀ x ∈ vs, 0 ≤ x ∧ x ≤ 100) :
    Calls Try.prog 59 #[.int .i64 W, .slice A n c, .slice B n d] w (RetL (tabL ws vs (W + 1)) w) := by
  have HW := hide hw; clear hw
  have HV := hide hv; clear hv
  have HT := hide (tabL_bd (fun x hx => (HW.out x hx).1) HV.out (by rw [h.1, h'.1]))
  go_enter Try.func59, Try.ntmps59
  go_wp2
  go_loopw [7, 8] (fun v i wr => ∃ k : Nat, k ≤ W + 1 ∧ i = .int .i64 k ∧ wr.ownsRow w.heap.size 3 1 v k ((tabL ws vs k).map (.int .i64)) ∧ Below w.heap.size w wr) (fun _ i _ => W + 1 - (intOf i).toNat)
  case atStart => exact ⟨0, by omega, rfl, own_empty_row (Nat.le_refl _), (Below.refl _ _).alloc (Nat.le_refl _) _⟩
  case round =>
    obtain ⟨k, hk, rfl, hown, hB⟩ := hrel
    by_cases hlt : (k : Int) ≤ W
    · have HR := hide (fun j (hj : j ≤ n) => bR_bd (ws := ws) (vs := vs) (fun x hx => (HW.out x hx).1) HV.out (by rw [h.1, h'.1]) (HT.out k) j (by rw [h.1]; exact hj))
      obtain ⟨A1, c1, rfl, hO, -⟩ := own_of_row hown
      have HOI := hide hO.ints; clear hO
      go_wp2
      obtain ⟨wo, rfl⟩ : ∃ wo : World, wo = wr := ⟨_, rfl⟩
      go_loopw [9, 10] (fun s i wr => ∃ j q : Nat, j ≤ n ∧ i = .int .i64 j ∧ s = .int .i64 (bR ws vs (tabL ws vs k) k j) ∧ wr = wo.drewN q) (fun _ i _ => n - (intOf i).toNat)
      case atStart => exact ⟨0, 0, by omega, rfl, rfl, rfl⟩
      case round =>
        obtain ⟨j, q, hj, rfl, rfl, rfl⟩ := hrel
        obtain ⟨r1, r2⟩ := HR.out j hj
        by_cases hjl : j < n
        · obtain ⟨u1, u2⟩ := HW.out _ (nth_mem (k := j) (by rw [h.1]; exact hjl))
          obtain ⟨v1, v2⟩ := HV.out _ (nth_mem (k := j) (by rw [h'.1]; exact hjl))
          obtain ⟨ad, rfl, hb, hcl⟩ := (h.below hB).2 j hjl
          obtain ⟨ad', rfl, hb', hcl'⟩ := (h'.below hB).2 j hjl
          by_cases hle : nth ws j ≤ k
          · obtain ⟨p, hp⟩ : ∃ p : Nat, (k : Int) - nth ws j = p := ⟨((k : Int) - nth ws j).toNat, by omega⟩
            have hpk : p < k := by omega
            obtain ⟨ad2, rfl, hb2, hcl2⟩ := HOI.out.2 p hpk
            have x1 := HT.out k p hpk
            have HP := hide hp
            have p0 : (0 : Int) ≤ p := by omega
            have p1 : (p : Int) < k := by omega
            have j0 : (0 : Int) ≤ j := by omega
            have j1 : (j : Int) < n := by omega
            have e1 : IntKind.i64.wrap ((k : Int) - nth ws j) = p := by rw [hp]; exact IntWalk.i64_in _ ⟨by omega, by omega⟩
            have e2 : IntKind.i64.wrap (nth vs j + nth (tabL ws vs k) p) = nth vs j + nth (tabL ws vs k) p := IntWalk.i64_in _ ⟨by omega, by omega⟩
            clear h h'
            go_wp2
            go_quiet (fail)
            clear e1 e2
            go_wp2
            go_roundw
            case rel =>
              refine ⟨j + 1, _, by omega, by go_num, ?_, by first | rfl | exact World.drewN_drewN _ _ _⟩
              rw [bR, if_pos hle, show ((k : Int) - nth ws j).toNat = p by have := HP.out; omega]
              first | rfl | (congr 1; omega) | (congr 1; split <;> omega)
            case measure => simp [intOf]; omega
          · have hle' : (k : Int) < nth ws j := by omega
            clear h h'
            go_wp2
            go_roundw
            case rel => exact ⟨j + 1, q, by omega, by go_num, by rw [bR, if_neg (by omega)], rfl⟩
            case measure => simp [intOf]; omega
        · obtain rfl : j = n := by omega
          have hl : ws.length = j := h.1
          have HL := hide hl; clear hl
          have ho2 := ownsRow_call hown (below_of_drewN wo.heap.size q)
          have hB2 : Below w.heap.size w (wo.drewN q) := below_then hB (below_of_drewN wo.heap.size q)
          go_wp2_with (at_builtin; refine wpList_app1 rfl _ _ _ rfl w.heap.size _ Try.underlying22 info_int _ _ _ _ _ (by rfl) (by rfl) ho2 (by omega) hB2.size ?_; intro v' w1 hown' hb')
          go_roundw
          case rel => exact ⟨k + 1, by omega, by go_num, by rw [tabL, HL.out]; exact hown', hB2.trans hb'⟩
          case measure => simp [intOf]; omega
    · have hk' : (W : Int) < k := by omega
      have HK := hide (show k = W + 1 by omega)
      go_wp2
      go_ret
      rw [← HK.out]
      exact retL_row hown hB
set_option maxHeartbeats 1000000 in
theorem implBestValues (A B : Option Addr) (n c d W : Nat) (ws vs : List Int) (w : World) (hn : n ≤ 6) (hW : W ≤ 60) (h : Ints w A n ws) (h' : Ints w B n vs) (hw : ∀ x ∈ ws, 1 ≤ x ∧ x ≤ 60) (hv : ∀ x ∈ vs, 0 ≤ x ∧ x ≤ 100) :
    Calls Try.prog 61 #[.int .i64 W, .slice A n c, .slice B n d] w (RetL (tabL ws vs (W + 1)) w) := by
  have HW := hide hw; clear hw
  have HV := hide hv; clear hv
  have HT := hide (tabL_bd (fun x hx => (HW.out x hx).1) HV.out (by rw [h.1, h'.1]))
  have hmk := fun W' => run_make_row' (P := Try.prog) 22 3 (.int .i64 0) 8 Try.underlying22 info_int rfl .i64 .i64 (W + 1) (by omega) (by omega) W'
  rw [show ((W + 1 : Nat) : Int) = (W : Int) + 1 by omega] at hmk
  go_enter Try.func61, Try.ntmps61
  go_wp2
  clear hmk
  go_loopw [8] (fun i wr => ∃ k : Nat, 1 ≤ k ∧ k ≤ W + 1 ∧ i = .int .i64 k ∧ wr.rowIs w.heap.size 3 (W + 1) (fun i => if i < k then .int .i64 (nth (tabL ws vs k) i) else .int .i64 0) ∧ Below w.heap.size w wr) (fun i _ => W + 1 - (intOf i).toNat)
  case atStart =>
    refine ⟨1, by omega, by omega, rfl, (World.rowIs_made w (.int .i64 0) (W + 1) 3).congr (fun i hi => ?_), (Below.refl _ _).alloc (Nat.le_refl _) _⟩
    by_cases e : i < 1
    · obtain rfl : i = 0 := by omega
      rw [if_pos e, tabL_last, bR_zero (fun x hx => (HW.out x hx).1) _ (Nat.le_refl _)]
    · rw [if_neg e]
  case round =>
    obtain ⟨k, hk1, hk, rfl, hrow, hB⟩ := hrel
    by_cases hlt : (k : Int) ≤ W
    · have HR := hide (fun j (hj : j ≤ n) => bR_bd (ws := ws) (vs := vs) (fun x hx => (HW.out x hx).1) HV.out (by rw [h.1, h'.1]) (HT.out k) j (by rw [h.1]; exact hj))
      go_wp2
      go_loopw [21] (fun i wr => ∃ j : Nat, j ≤ n ∧ i = .int .i64 j ∧ wr.rowIs w.heap.size 3 (W + 1) (fun i => if i < k then .int .i64 (nth (tabL ws vs k) i) else if i = k then .int .i64 (bR ws vs (tabL ws vs k) k j) else .int .i64 0) ∧ Below w.heap.size w wr) (fun i _ => n - (intOf i).toNat)
      case atStart =>
        refine ⟨0, by omega, rfl, hrow.congr (fun i hi => ?_), hB⟩
        by_cases e : i < k
        · rw [if_pos e, if_pos e]
        · rw [if_neg e, if_neg e]; simp [bR]
      case round =>
        obtain ⟨j, hj, rfl, hrow2, hB2⟩ := hrel
        obtain ⟨r1, r2⟩ := HR.out j hj
        by_cases hjl : j < n
        · obtain ⟨u1, u2⟩ := HW.out _ (nth_mem (k := j) (by rw [h.1]; exact hjl))
          obtain ⟨v1, v2⟩ := HV.out _ (nth_mem (k := j) (by rw [h'.1]; exact hjl))
          obtain ⟨ad, rfl, hb, hcl⟩ := (h.below hB2).2 j hjl
          obtain ⟨ad', rfl, hb', hcl'⟩ := (h'.below hB2).2 j hjl
          by_cases hle : nth ws j ≤ k
          · obtain ⟨p, hp⟩ : ∃ p : Nat, (k : Int) - nth ws j = p := ⟨((k : Int) - nth ws j).toNat, by omega⟩
            have hpk : p < k := by omega
            have x1 := HT.out k p hpk
            have HP := hide hp
            have c1 := hrow2.cell (i := k) (by omega)
            rw [if_neg (by omega), if_pos rfl] at c1
            have f1 := hrow2.frozen k
            have c2 := hrow2.cell (i := p) (by omega)
            rw [if_pos hpk] at c2
            have p0 : (0 : Int) ≤ p := by omega
            have p1 : (p : Int) < (W : Int) + 1 := by omega
            have k0 : (0 : Int) ≤ k := by omega
            have k1 : (k : Int) < (W : Int) + 1 := by omega
            have j0 : (0 : Int) ≤ j := by omega
            have j1 : (j : Int) < n := by omega
            have e1 : IntKind.i64.wrap ((k : Int) - nth ws j) = p := by rw [hp]; exact IntWalk.i64_in _ ⟨by omega, by omega⟩
            have e2 : IntKind.i64.wrap (nth vs j + nth (tabL ws vs k) p) = nth vs j + nth (tabL ws vs k) p := IntWalk.i64_in _ ⟨by omega, by omega⟩
            clear h h'
            go_wp2
            go_region
            clear e1 e2
            go_wp2
            go_roundw
            case rel =>
              refine ⟨j + 1, by omega, by go_num, (by first | exact (hrow2.set k _).drew | exact hrow2.drew.set k _ : World.rowIs _ w.heap.size 3 (W + 1) _).congr (fun i hi => ?_), by first | exact (hB2.setCell (Nat.le_refl _) _).drew | exact hB2.drew.setCell (Nat.le_refl _) _⟩
              by_cases e : i = k
              · subst e
                have hbb : bR ws vs (tabL ws vs i) i (j + 1) = max (bR ws vs (tabL ws vs i) i j) (nth vs j + nth (tabL ws vs i) p) := by
                  rw [bR, if_pos hle, show ((i : Int) - nth ws j).toNat = p by have := HP.out; omega]
                simp only [Nat.lt_irrefl, if_false, if_true, hbb]
                first | rfl | (congr 1; omega) | (congr 1; split <;> omega)
              · simp only [if_neg e]
            case measure => simp [intOf]; omega
          · have hle' : (k : Int) < nth ws j := by omega
            clear h h'
            go_wp2
            go_roundw
            case rel => exact ⟨j + 1, by omega, by go_num, hrow2.congr (fun i hi => by rw [show bR ws vs (tabL ws vs k) k (j + 1) = bR ws vs (tabL ws vs k) k j by rw [bR, if_neg (by omega)]]), hB2⟩
            case measure => simp [intOf]; omega
        · obtain rfl : j = n := by omega
          have hl : ws.length = j := h.1
          go_wp2
          go_roundw
          case rel =>
            refine ⟨k + 1, by omega, by omega, by go_num, hrow2.congr (fun i hi => ?_), hB2⟩
            by_cases e : i < k
            · rw [if_pos e, if_pos (by omega), tabL_nth e]
            · rw [if_neg e]
              by_cases e2 : i = k
              · subst e2; rw [if_pos rfl, if_pos (by omega), tabL_last, hl]
              · rw [if_neg e2, if_neg (by omega)]
          case measure => simp [intOf]; omega
    · have hk' : (W : Int) < k := by omega
      have HK := hide (show k = W + 1 by omega)
      go_wp2
      go_ret
      exact retL_made (tabL_len _ _ _) hrow (fun i hi => by rw [if_pos (by have := HK.out; omega), HK.out]) (Nat.le_refl _) hB
theorem implBestUse (A B : Option Addr) (n c m d : Nat) (width : Int) (ws vs : List Int) (w : World) (hn : n ≤ 1048576) (hm : m ≤ 1048576) (hnc : n ≤ c) (h : Ints w A n ws) (h' : Ints w B m vs) :
    Calls Try.prog 42 #[.int .i64 width, .slice A n c, .slice B m d] w fun e w' => e = .returned (.int .i64 (bOf width ws vs)) ∧ Below w.heap.size w w' := by
  cases hv : vVl width ws vs
  · have HV := hide hv; clear hv
    go_enter Try.func42, Try.ntmps42
    go_wp2_with (go_at_call 60; refine (implValidValues _ _ _ _ _ _ _ _ _ _ hn hm hnc h h').mono ?_; rintro e w' ⟨rfl, rfl⟩; rw [HV.out])
    go_ret
    exact ⟨ret_int (by rw [bOf, if_neg (by rw [HV.out]; simp)]), Below.refl _ _⟩
  obtain ⟨v1, v2, v3⟩ := vVl_true hv
  obtain ⟨⟨w1, w2⟩, ⟨l1, l2⟩, hw, -⟩ := vWd_true v1
  have HV := hide hv; clear hv v1
  rw [h.1, h'.1] at v2
  rw [h.1] at l1 l2
  subst v2
  have HC := hide v3; clear v3
  have HW := hide (fun x (hx : x ∈ ws) => show 1 ≤ x ∧ x ≤ 60 by have := hw x hx; omega); clear hw
  obtain ⟨W, rfl⟩ := Int.eq_ofNat_of_zero_le (show 0 ≤ width by omega)
  go_enter Try.func42, Try.ntmps42
  go_wp2_with fail
  refine (implValidValues _ _ _ _ _ _ _ _ _ _ hn hm hnc h h').mono ?_; rintro e w' ⟨rfl, rfl⟩; rw [HV.out]
  go_wp2_with fail
  refine (implBestValues A B m c d W ws vs _ (by omega) (by omega) h h' HW.out HC.out).mono ?_; rintro e w1 ⟨B1, k1, d1, rfl, hO, hb, -⟩
  have hk1 : k1 = W + 1 := by have := hO.1; rw [tabL_len] at this; exact this.symm
  subst hk1
  obtain ⟨ad, rfl, hb1, hc1⟩ := hO.ints.2 W (by omega)
  have z0 : (W : Int) < (W : Int) + 1 := by omega
  clear hO
  go_wp2_with fail
  go_ret
  exact ⟨ret_int (by rw [bOf, if_pos HV.out]; rfl), hb⟩
theorem specBestUse (A B : Option Addr) (n c m d : Nat) (width : Int) (ws vs : List Int) (w : World) (hn : n ≤ 1048576) (hm : m ≤ 1048576) (hnc : n ≤ c) (h : Ints w A n ws) (h' : Ints w B m vs) :
    Calls Try.prog 41 #[.int .i64 width, .slice A n c, .slice B m d] w fun e w' => e = .returned (.int .i64 (bOf width ws vs)) ∧ Below w.heap.size w w' := by
  cases hv : vVl width ws vs
  · have HV := hide hv; clear hv
    go_enter Try.func41, Try.ntmps41
    go_wp2_with (go_at_call 58; refine (specValidValues _ _ _ _ _ _ _ _ _ _ hn hm hnc h h').mono ?_; rintro e w' ⟨rfl, q, rfl⟩; rw [HV.out])
    go_ret
    exact ⟨ret_int (by rw [bOf, if_neg (by rw [HV.out]; simp)]), below_of_drewN _ _⟩
  obtain ⟨v1, v2, v3⟩ := vVl_true hv
  obtain ⟨⟨w1, w2⟩, ⟨l1, l2⟩, hw, -⟩ := vWd_true v1
  have HV := hide hv; clear hv v1
  rw [h.1, h'.1] at v2
  rw [h.1] at l1 l2
  subst v2
  have HC := hide v3; clear v3
  have HW := hide (fun x (hx : x ∈ ws) => show 1 ≤ x ∧ x ≤ 60 by have := hw x hx; omega); clear hw
  obtain ⟨W, rfl⟩ := Int.eq_ofNat_of_zero_le (show 0 ≤ width by omega)
  go_enter Try.func41, Try.ntmps41
  go_wp2_with fail
  refine (specValidValues _ _ _ _ _ _ _ _ _ _ hn hm hnc h h').mono ?_; rintro e w' ⟨rfl, q, rfl⟩; rw [HV.out]
  go_wp2_with fail
  refine (specBestUse0 A B m c d W ws vs _ (by omega) (by omega) (h.drewN _) (h'.drewN _) HW.out HC.out).mono ?_; rintro e w1 ⟨B1, k1, d1, rfl, hO, hb, -⟩
  have hk1 : k1 = W + 1 := by have := hO.1; rw [tabL_len] at this; exact this.symm
  subst hk1
  obtain ⟨ad, rfl, hb1, hc1⟩ := hO.ints.2 W (by omega)
  have z0 : (W : Int) < (W : Int) + 1 := by omega
  clear hO
  go_wp2_with fail
  go_ret
  exact ⟨ret_int (by rw [bOf, if_pos HV.out]; rfl), below_then (below_of_drewN _ _) hb⟩
end Go.Proofs.Ytheddimkifhnkaa
