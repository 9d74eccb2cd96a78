/- Contracts of chapter 3, third part: patterns and wants of the reference, trims, values. -/
import Derived.Test.YtheddimkifhnkaaInt6
namespace Go.Proofs.Ytheddimkifhnkaa
open Go.RowKit
set_option linter.unusedVariables false
set_option maxRecDepth 100000

theorem bd1000 {xs : List Int} {a b : Int} (h : ∀ x ∈ xs, a ≤ x ∧ x ≤ b) (ha : 0 ≤ a) (hb : b ≤ 1000) : ∀ x ∈ xs, 0 ≤ x ∧ x ≤ 1000 := fun x hx => by have := h x hx; omega
theorem bd1000000 {xs : List Int} {a b : Int} (h : ∀ x ∈ xs, a ≤ x ∧ x ≤ b) (ha : 0 ≤ a) (hb : b ≤ 1000) : ∀ x ∈ xs, 0 ≤ x ∧ x ≤ 1000000 := fun x hx => by have := h x hx; omega
theorem specValidPattern0 (A B : Option Addr) (n c m d : Nat) (width : Int) (ws cs : List Int) (w : World) (hn : n ≤ 1048576) (hm : m ≤ 1048576) (hnc : n ≤ c) (h : Ints w A n ws) (h' : Ints w B m cs) :
    Calls Try.prog 55 #[.int .i64 width, .slice A n c, .slice B m d] w fun e w' => e = .returned (.bool (vPt width ws cs)) ∧ ∃ m, w' = w.drewN m := by
  cases hv : vWd width ws
  · have HV := hide hv; clear hv
    go_enter Try.func55, Try.ntmps55
    go_wp2_with (go_at_call 45; refine (specValidWidths0 _ _ _ _ _ _ hn hnc h).mono ?_; rintro e w' ⟨rfl, q, rfl⟩; rw [HV.out])
    go_ret
    exact ⟨ret_bool (vPt_no1 HV.out).symm, q, rfl⟩
  obtain ⟨⟨w1, w2⟩, ⟨l1, l2⟩, hw, -⟩ := vWd_true hv
  have HV := hide hv; clear hv
  have HW := hide hw; clear hw
  by_cases hmn : m = n
  · subst hmn
    rw [h.1] at l1 l2
    cases ha : allB cs 0 width
    · have HA := hide ha; clear ha
      go_enter Try.func55, Try.ntmps55
      go_wp2_with (first | (go_at_call 45; refine (specValidWidths0 _ _ _ _ _ _ hn hnc h).mono ?_; rintro e w' ⟨rfl, q, rfl⟩; rw [HV.out]) | (go_at_call 49; refine (allIn_any _ _ _ _ _ _ _ hm (h'.drewN _)).mono ?_; rintro e w' ⟨rfl, rfl⟩; rw [HA.out]))
      go_ret
      exact ⟨ret_bool (by simp [vPt, HA.out]), q, rfl⟩
    · have HB := hide (bd1000 (allB_iff.1 ha) (by omega) (by omega))
      have HA := hide ha; clear ha
      go_enter Try.func55, Try.ntmps55
      go_wp2_with (first | (go_at_call 45; refine (specValidWidths0 _ _ _ _ _ _ hn hnc h).mono ?_; rintro e w' ⟨rfl, q, rfl⟩; rw [HV.out]) | (go_at_call 49; refine (allIn_any _ _ _ _ _ _ _ hm (h'.drewN _)).mono ?_; rintro e w' ⟨rfl, rfl⟩; rw [HA.out]) | (go_at_call 57; refine (specUsed _ _ _ _ _ _ _ _ _ (by omega) (by omega) (h.drewN _) (h'.drewN _) (bd1000 HW.out (by omega) (by omega)) HB.out).mono ?_; rintro e w' ⟨rfl, q2, rfl⟩))
      go_ret
      exact ⟨ret_bool (by rw [vPt, HV.out, HA.out, decide_eq_true (show cs.length = ws.length by rw [h.1, h'.1]), h'.1]; rfl), q + q2, by first | rfl | rw [World.drewN_drewN]⟩
  · have hd : ((m : Int) == (n : Int)) = false := by simp; omega
    go_enter Try.func55, Try.ntmps55
    go_wp2_with (go_at_call 45; refine (specValidWidths0 _ _ _ _ _ _ hn hnc h).mono ?_; rintro e w' ⟨rfl, q, rfl⟩; rw [HV.out])
    go_ret
    exact ⟨ret_bool (vPt_no2 (by rw [h.1, h'.1]; omega)).symm, q, rfl⟩
theorem specValidPattern (A B : Option Addr) (n c m d : Nat) (width : Int) (ws cs : List Int) (w : World) (hn : n ≤ 1048576) (hm : m ≤ 1048576) (hnc : n ≤ c) (h : Ints w A n ws) (h' : Ints w B m cs) :
    Calls Try.prog 31 #[.int .i64 width, .slice A n c, .slice B m d] w fun e w' => e = .returned (.bool (vPt width ws cs)) ∧ Below w.heap.size w w' := by
  go_enter Try.func31, Try.ntmps31
  go_wp2_with (go_at_call 55; refine (specValidPattern0 _ _ _ _ _ _ _ _ _ _ hn hm hnc h h').mono ?_; rintro e w' ⟨rfl, q, rfl⟩)
  go_ret
  exact ⟨rfl, below_of_drewN _ _⟩
theorem specTrimOf (A B : Option Addr) (n c m d : Nat) (width : Int) (ws cs : List Int) (w : World) (hn : n ≤ 1048576) (hm : m ≤ 1048576) (hnc : n ≤ c) (h : Ints w A n ws) (h' : Ints w B m cs) :
    Calls Try.prog 35 #[.int .i64 width, .slice A n c, .slice B m d] w fun e w' => e = .returned (.int .i64 (trOf width ws cs)) ∧ Below w.heap.size w w' := by
  cases hv : vPt width ws cs
  · have HV := hide hv; clear hv
    go_enter Try.func35, Try.ntmps35
    go_wp2_with (go_at_call 55; refine (specValidPattern0 _ _ _ _ _ _ _ _ _ _ hn hm hnc h h').mono ?_; rintro e w' ⟨rfl, q, rfl⟩; rw [HV.out])
    go_ret
    exact ⟨ret_int (by rw [trOf, if_neg (by rw [HV.out]; simp)]), below_of_drewN _ _⟩
  obtain ⟨v1, v2, v3, v4⟩ := vPt_true hv
  obtain ⟨⟨w1, w2⟩, ⟨l1, l2⟩, hw, -⟩ := vWd_true v1
  have HV := hide hv; clear hv v1
  rw [h.1, h'.1] at v2
  rw [h.1] at l1 l2
  subst v2
  have HW := hide (bd1000 hw (by omega) (by omega)); clear hw
  have HC := hide (bd1000 v3 (by omega) (by omega)); clear v3
  obtain ⟨u1, u2⟩ := usd_pre HW.out HC.out (n := m) (k := m) (by rw [h'.1]; exact Nat.le_refl _) (by rw [h.1]; exact Nat.le_refl _) (by omega) (Nat.le_refl _)
  rw [h'.1] at v4
  go_enter Try.func35, Try.ntmps35
  go_wp2_with (first | (go_at_call 55; refine (specValidPattern0 _ _ _ _ _ _ _ _ _ _ hn hm hnc h h').mono ?_; rintro e w' ⟨rfl, q, rfl⟩; rw [HV.out]) | (go_at_call 57; refine (specUsed _ _ _ _ _ _ _ _ _ (by omega) (by omega) (h.drewN _) (h'.drewN _) HW.out HC.out).mono ?_; rintro e w' ⟨rfl, q2, rfl⟩))
  go_ret
  exact ⟨ret_int (by rw [trOf, if_pos HV.out, h'.1]), by first | exact below_of_drewN _ _ | (rw [World.drewN_drewN]; exact below_of_drewN _ _)⟩
theorem implTrimOf (A B : Option Addr) (n c m d : Nat) (width : Int) (ws cs : List Int) (w : World) (hn : n ≤ 1048576) (hm : m ≤ 1048576) (hnc : n ≤ c) (h : Ints w A n ws) (h' : Ints w B m cs) :
    Calls Try.prog 36 #[.int .i64 width, .slice A n c, .slice B m d] w fun e w' => e = .returned (.int .i64 (trOf width ws cs)) ∧ w = w' := by
  cases hv : vPt width ws cs
  · have HV := hide hv; clear hv
    go_enter Try.func36, Try.ntmps36
    go_wp2_with (go_at_call 32; refine (implValidPattern _ _ _ _ _ _ _ _ _ _ hn hm hnc h h').mono ?_; rintro e w' ⟨rfl, rfl⟩; rw [HV.out])
    go_ret
    exact ⟨ret_int (by rw [trOf, if_neg (by rw [HV.out]; simp)]), rfl⟩
  obtain ⟨v1, v2, v3, v4⟩ := vPt_true hv
  obtain ⟨⟨w1, w2⟩, ⟨l1, l2⟩, hw, -⟩ := vWd_true v1
  have HV := hide hv; clear hv v1
  rw [h.1, h'.1] at v2
  rw [h.1] at l1 l2
  subst v2
  have HW := hide (bd1000 hw (by omega) (by omega)); clear hw
  have HC := hide (bd1000 v3 (by omega) (by omega)); clear v3
  have HP := hide (fun k (hk : k ≤ m) => usd_pre HW.out HC.out (by rw [h'.1]; exact Nat.le_refl _) (by rw [h.1]; exact Nat.le_refl _) (by omega) hk)
  clear v4
  go_enter Try.func36, Try.ntmps36
  go_wp2_with (go_at_call 32; refine (implValidPattern _ _ _ _ _ _ _ _ _ _ hn hm hnc h h').mono ?_; rintro e w' ⟨rfl, rfl⟩; rw [HV.out])
  go_loop [7, 18] (fun s i => ∃ k : Nat, k ≤ m ∧ i = .int .i64 k ∧ s = .int .i64 (width - usd ws cs k)) (fun _ i => m - (intOf i).toNat)
  case atStart => exact ⟨0, by omega, rfl, by simp [usd]⟩
  case round =>
    obtain ⟨k, hk, rfl, rfl⟩ := hrel
    obtain ⟨p1, p2⟩ := HP.out k hk
    by_cases hlt : k < m
    · obtain ⟨u1, u2⟩ := HW.out _ (nth_mem (k := k) (by rw [h.1]; omega))
      obtain ⟨v1, v2⟩ := HC.out _ (nth_mem (k := k) (by rw [h'.1]; omega))
      obtain ⟨t1, t2⟩ := prod_bd ⟨v1, v2⟩ ⟨u1, u2⟩
      obtain ⟨ad, rfl, hb, hcl⟩ := h.2 k (by omega)
      obtain ⟨ad', rfl, hb', hcl'⟩ := h'.2 k hlt
      clear h h'
      go_wp2
      go_round
      case rel => exact ⟨k + 1, by omega, by go_num, by simp only [usd]; congr 1; omega⟩
      case measure => simp [intOf]; omega
    · have : k = m := by omega
      subst this
      go_wp2
      go_ret
      exact ⟨ret_int (by rw [trOf, if_pos HV.out, h'.1]), rfl⟩
theorem specValidWants0 (A B : Option Addr) (n c m d : Nat) (width : Int) (ws cs : List Int) (w : World) (hn : n ≤ 1048576) (hm : m ≤ 1048576) (hnc : n ≤ c) (h : Ints w A n ws) (h' : Ints w B m cs) :
    Calls Try.prog 56 #[.int .i64 width, .slice A n c, .slice B m d] w fun e w' => e = .returned (.bool (vWn width ws cs)) ∧ ∃ m, w' = w.drewN m := by
  cases hv : vWd width ws
  · have HV := hide hv; clear hv
    go_enter Try.func56, Try.ntmps56
    go_wp2_with (go_at_call 45; refine (specValidWidths0 _ _ _ _ _ _ hn hnc h).mono ?_; rintro e w' ⟨rfl, q, rfl⟩; rw [HV.out])
    go_ret
    exact ⟨ret_bool (by simp [vWn, HV.out]), q, rfl⟩
  have HV := hide hv; clear hv
  by_cases hmn : m = n
  · subst hmn
    cases ha : allB cs 0 20
    · have HA := hide ha; clear ha
      go_enter Try.func56, Try.ntmps56
      go_wp2_with (first | (go_at_call 45; refine (specValidWidths0 _ _ _ _ _ _ hn hnc h).mono ?_; rintro e w' ⟨rfl, q, rfl⟩; rw [HV.out]) | (go_at_call 49; refine (allIn_any _ _ _ _ _ _ _ hm (h'.drewN _)).mono ?_; rintro e w' ⟨rfl, rfl⟩; rw [HA.out]))
      go_ret
      exact ⟨ret_bool (by simp [vWn, HA.out]), q, rfl⟩
    · have HB := hide (bd1000000 (allB_iff.1 ha) (by omega) (by omega))
      have HA := hide ha; clear ha
      go_enter Try.func56, Try.ntmps56
      go_wp2_with (first | (go_at_call 45; refine (specValidWidths0 _ _ _ _ _ _ hn hnc h).mono ?_; rintro e w' ⟨rfl, q, rfl⟩; rw [HV.out]) | (go_at_call 49; refine (allIn_any _ _ _ _ _ _ _ hm (h'.drewN _)).mono ?_; rintro e w' ⟨rfl, rfl⟩; rw [HA.out]) | (go_at_call 51; refine (specTotal _ _ _ _ _ hm (h'.drewN _) HB.out).mono ?_; rintro e w' ⟨rfl, rfl⟩))
      go_ret
      exact ⟨ret_bool (by rw [vWn, HV.out, HA.out, decide_eq_true (show cs.length = ws.length by rw [h.1, h'.1])]; rfl), q, rfl⟩
  · have hd : ((m : Int) == (n : Int)) = false := by simp; omega
    go_enter Try.func56, Try.ntmps56
    go_wp2_with (go_at_call 45; refine (specValidWidths0 _ _ _ _ _ _ hn hnc h).mono ?_; rintro e w' ⟨rfl, q, rfl⟩; rw [HV.out])
    go_ret
    exact ⟨ret_bool (by rw [vWn, decide_eq_false (show ¬ cs.length = ws.length by rw [h.1, h'.1]; omega)]; simp), q, rfl⟩
theorem specValidWants (A B : Option Addr) (n c m d : Nat) (width : Int) (ws cs : List Int) (w : World) (hn : n ≤ 1048576) (hm : m ≤ 1048576) (hnc : n ≤ c) (h : Ints w A n ws) (h' : Ints w B m cs) :
    Calls Try.prog 33 #[.int .i64 width, .slice A n c, .slice B m d] w fun e w' => e = .returned (.bool (vWn width ws cs)) ∧ Below w.heap.size w w' := by
  go_enter Try.func33, Try.ntmps33
  go_wp2_with (go_at_call 56; refine (specValidWants0 _ _ _ _ _ _ _ _ _ _ hn hm hnc h h').mono ?_; rintro e w' ⟨rfl, q, rfl⟩)
  go_ret
  exact ⟨rfl, below_of_drewN _ _⟩
theorem implValidWants (A B : Option Addr) (n c m d : Nat) (width : Int) (ws cs : List Int) (w : World) (hn : n ≤ 1048576) (hm : m ≤ 1048576) (hnc : n ≤ c) (h : Ints w A n ws) (h' : Ints w B m cs) :
    Calls Try.prog 34 #[.int .i64 width, .slice A n c, .slice B m d] w fun e w' => e = .returned (.bool (vWn width ws cs)) ∧ w = w' := by
  cases hv : vWd width ws
  · have HV := hide hv; clear hv
    go_enter Try.func34, Try.ntmps34
    go_wp2_with (go_at_call 22; refine (implValidWidths _ _ _ _ _ _ hn hnc h).mono ?_; rintro e w' ⟨rfl, rfl⟩; rw [HV.out])
    go_ret
    exact ⟨ret_bool (by simp [vWn, HV.out]), rfl⟩
  obtain ⟨_, ⟨l1, l2⟩, _, -⟩ := vWd_true hv
  have HV := hide hv; clear hv
  by_cases hmn : m = n
  · subst hmn
    rw [h.1] at l1 l2
    go_enter Try.func34, Try.ntmps34
    go_wp2_with (go_at_call 22; refine (implValidWidths _ _ _ _ _ _ hn hnc h).mono ?_; rintro e w' ⟨rfl, rfl⟩; rw [HV.out])
    go_loop [7, 23] (fun s i => ∃ (k : Nat) (x : Int), k ≤ m ∧ i = .int .i64 k ∧ s = .int .i64 x ∧ 0 ≤ x ∧ x ≤ 20 * k ∧ x = tot (cs.take k) ∧ allB (cs.take k) 0 20 = true) (fun _ i => m - (intOf i).toNat)
    case atStart => exact ⟨0, 0, by omega, rfl, rfl, by omega, by omega, by simp [tot], rfl⟩
    case round =>
      obtain ⟨k, x, hk, rfl, rfl, x0, x1, hx, hT⟩ := hrel
      have HT := hide hT; clear hT
      have HX := hide hx; clear hx
      by_cases hlt : k < m
      · have hcx : k < cs.length := by rw [h'.1]; exact hlt
        have HCX := hide hcx; clear hcx
        obtain ⟨ad', rfl, hb', hcl'⟩ := h'.2 k hlt
        rcases (show nth cs k < 0 ∨ (0 ≤ nth cs k ∧ 20 < nth cs k) ∨ (0 ≤ nth cs k ∧ nth cs k ≤ 20) by omega) with q | ⟨q, q'⟩ | ⟨q, q'⟩
        · clear h h'
          go_wp2
          go_ret
          exact ⟨ret_bool (by rw [vWn, allB_no HCX.out (by omega)]; simp), rfl⟩
        · clear h h'
          go_wp2
          go_ret
          exact ⟨ret_bool (by rw [vWn, allB_no HCX.out (by omega)]; simp), rfl⟩
        · clear h h'
          go_wp2
          go_round
          case rel => exact ⟨k + 1, x + nth cs k, by omega, by go_num, rfl, by omega, by omega, by rw [HX.out, tot_take HCX.out], allB_take HCX.out HT.out ⟨q, q'⟩⟩
          case measure => simp [intOf]; omega
      · have : k = m := by omega
        subst this
        go_wp2
        go_ret
        exact ⟨ret_bool (by rw [vWn, HV.out, allB_all h'.1 HT.out, decide_eq_true (show cs.length = ws.length by rw [h.1, h'.1]), HX.out, List.take_of_length_le (by rw [h'.1]; exact Nat.le_refl _)]; rfl), rfl⟩
  · have hd : ((m : Int) != (n : Int)) = true := by simp; omega
    go_enter Try.func34, Try.ntmps34
    go_wp2_with (go_at_call 22; refine (implValidWidths _ _ _ _ _ _ hn hnc h).mono ?_; rintro e w' ⟨rfl, rfl⟩; rw [HV.out])
    go_ret
    exact ⟨ret_bool (by rw [vWn, decide_eq_false (show ¬ cs.length = ws.length by rw [h.1, h'.1]; omega)]; simp), rfl⟩
end Go.Proofs.Ytheddimkifhnkaa
