/- Contracts of chapter 3, third part: patterns and wants of the reference, trims, values. -/
import Derived.Test.YtkmogpeiolkpbaaInt6
namespace Go.Proofs.Ytkmogpeiolkpbaa
open Go.RowKit
set_option linter.unusedVariables false
set_option maxRecDepth 100000

theorem bd1000 {xs : List Int} {a b : Int} (h : ∀ x ∈ xs, a ≤ x ∧ x ≤ b) (ha : 0 ≤ a) (hb : b ≤ 1000) : ∀ x ∈ xs, 0 ≤ x ∧ x ≤ 1000 := fun x hx => by have := h x hx; omega
theorem bd1000000 {xs : List Int} {a b : Int} (h : ∀ x ∈ xs, a ≤ x ∧ x ≤ b) (ha : 0 ≤ a) (hb : b ≤ 1000) : ∀ x ∈ xs, 0 ≤ x ∧ x ≤ 1000000 := fun x hx => by have := h x hx; omega
theorem specValidPattern0 (A B : Option Addr) (n c m d : Nat) (width : Int) (ws cs : List Int) (w : World) (hn : n ≤ 1048576) (hm : m ≤ 1048576) (hnc : n ≤ c) (h : Ints w A n ws) (h' : Ints w B m cs) :
    Calls Try.prog 70 #[.int .i64 width, .slice A n c, .slice B m d] w fun e w' => e = .returned (.bool (vPt width ws cs)) ∧ ∃ m, w' = w.drewN m := by
  cases hv : vWd width ws
  · have HV := hide hv; clear hv
    go_enter Try.func70, Try.ntmps70
    go_wp2_with (go_at_call 67; refine (specValidWidths0 _ _ _ _ _ _ hn hnc h).mono ?_; rintro e w' ⟨rfl, q, rfl⟩; rw [HV.out])
    go_ret
    exact ⟨ret_bool (vPt_no1 HV.out).symm, q, rfl⟩
  obtain ⟨⟨w1, w2⟩, ⟨l1, l2⟩, hw, -⟩ := vWd_true hv
  have HV := hide hv; clear hv
  have HW := hide hw; clear hw
  by_cases hmn : m = n
  · subst hmn
    rw [h.1] at l1 l2
    cases ha : allB cs 0 width
    · have HA := hide ha; clear ha
      go_enter Try.func70, Try.ntmps70
      go_wp2_with (first | (go_at_call 67; refine (specValidWidths0 _ _ _ _ _ _ hn hnc h).mono ?_; rintro e w' ⟨rfl, q, rfl⟩; rw [HV.out]) | (go_at_call 71; refine (allIn_any _ _ _ _ _ _ _ hm (h'.drewN _)).mono ?_; rintro e w' ⟨rfl, rfl⟩; rw [HA.out]))
      go_ret
      exact ⟨ret_bool (by simp [vPt, HA.out]), q, rfl⟩
    · have HB := hide (bd1000 (allB_iff.1 ha) (by omega) (by omega))
      have HA := hide ha; clear ha
      go_enter Try.func70, Try.ntmps70
      go_wp2_with (first | (go_at_call 67; refine (specValidWidths0 _ _ _ _ _ _ hn hnc h).mono ?_; rintro e w' ⟨rfl, q, rfl⟩; rw [HV.out]) | (go_at_call 71; refine (allIn_any _ _ _ _ _ _ _ hm (h'.drewN _)).mono ?_; rintro e w' ⟨rfl, rfl⟩; rw [HA.out]) | (go_at_call 78; refine (specUsed _ _ _ _ _ _ _ _ _ (by omega) (by omega) (h.drewN _) (h'.drewN _) (bd1000 HW.out (by omega) (by omega)) HB.out).mono ?_; rintro e w' ⟨rfl, q2, rfl⟩))
      go_ret
      exact ⟨ret_bool (by rw [vPt, HV.out, HA.out, decide_eq_true (show cs.length = ws.length by rw [h.1, h'.1]), h'.1]; rfl), q + q2, by first | rfl | rw [World.drewN_drewN]⟩
  · have hd : ((m : Int) == (n : Int)) = false := by simp; omega
    go_enter Try.func70, Try.ntmps70
    go_wp2_with (go_at_call 67; refine (specValidWidths0 _ _ _ _ _ _ hn hnc h).mono ?_; rintro e w' ⟨rfl, q, rfl⟩; rw [HV.out])
    go_ret
    exact ⟨ret_bool (vPt_no2 (by rw [h.1, h'.1]; omega)).symm, q, rfl⟩
theorem specValidPattern (A B : Option Addr) (n c m d : Nat) (width : Int) (ws cs : List Int) (w : World) (hn : n ≤ 1048576) (hm : m ≤ 1048576) (hnc : n ≤ c) (h : Ints w A n ws) (h' : Ints w B m cs) :
    Calls Try.prog 41 #[.int .i64 width, .slice A n c, .slice B m d] w fun e w' => e = .returned (.bool (vPt width ws cs)) ∧ Below w.heap.size w w' := by
  go_enter Try.func41, Try.ntmps41
  go_wp2_with (go_at_call 70; refine (specValidPattern0 _ _ _ _ _ _ _ _ _ _ hn hm hnc h h').mono ?_; rintro e w' ⟨rfl, q, rfl⟩)
  go_ret
  exact ⟨rfl, below_of_drewN _ _⟩
theorem specValidWants0 (A B : Option Addr) (n c m d : Nat) (width : Int) (ws cs : List Int) (w : World) (hn : n ≤ 1048576) (hm : m ≤ 1048576) (hnc : n ≤ c) (h : Ints w A n ws) (h' : Ints w B m cs) :
    Calls Try.prog 69 #[.int .i64 width, .slice A n c, .slice B m d] w fun e w' => e = .returned (.bool (vWn width ws cs)) ∧ ∃ m, w' = w.drewN m := by
  cases hv : vWd width ws
  · have HV := hide hv; clear hv
    go_enter Try.func69, Try.ntmps69
    go_wp2_with (go_at_call 67; refine (specValidWidths0 _ _ _ _ _ _ hn hnc h).mono ?_; rintro e w' ⟨rfl, q, rfl⟩; rw [HV.out])
    go_ret
    exact ⟨ret_bool (by simp [vWn, HV.out]), q, rfl⟩
  have HV := hide hv; clear hv
  by_cases hmn : m = n
  · subst hmn
    cases ha : allB cs 0 20
    · have HA := hide ha; clear ha
      go_enter Try.func69, Try.ntmps69
      go_wp2_with (first | (go_at_call 67; refine (specValidWidths0 _ _ _ _ _ _ hn hnc h).mono ?_; rintro e w' ⟨rfl, q, rfl⟩; rw [HV.out]) | (go_at_call 71; refine (allIn_any _ _ _ _ _ _ _ hm (h'.drewN _)).mono ?_; rintro e w' ⟨rfl, rfl⟩; rw [HA.out]))
      go_ret
      exact ⟨ret_bool (by simp [vWn, HA.out]), q, rfl⟩
    · have HB := hide (bd1000000 (allB_iff.1 ha) (by omega) (by omega))
      have HA := hide ha; clear ha
      go_enter Try.func69, Try.ntmps69
      go_wp2_with (first | (go_at_call 67; refine (specValidWidths0 _ _ _ _ _ _ hn hnc h).mono ?_; rintro e w' ⟨rfl, q, rfl⟩; rw [HV.out]) | (go_at_call 71; refine (allIn_any _ _ _ _ _ _ _ hm (h'.drewN _)).mono ?_; rintro e w' ⟨rfl, rfl⟩; rw [HA.out]) | (go_at_call 53; refine (specTotal _ _ _ _ _ hm (h'.drewN _) HB.out).mono ?_; rintro e w' ⟨rfl, rfl⟩))
      go_ret
      exact ⟨ret_bool (by rw [vWn, HV.out, HA.out, decide_eq_true (show cs.length = ws.length by rw [h.1, h'.1])]; rfl), q, rfl⟩
  · have hd : ((m : Int) == (n : Int)) = false := by simp; omega
    go_enter Try.func69, Try.ntmps69
    go_wp2_with (go_at_call 67; refine (specValidWidths0 _ _ _ _ _ _ hn hnc h).mono ?_; rintro e w' ⟨rfl, q, rfl⟩; rw [HV.out])
    go_ret
    exact ⟨ret_bool (by rw [vWn, decide_eq_false (show ¬ cs.length = ws.length by rw [h.1, h'.1]; omega)]; simp), q, rfl⟩
theorem specValidWants (A B : Option Addr) (n c m d : Nat) (width : Int) (ws cs : List Int) (w : World) (hn : n ≤ 1048576) (hm : m ≤ 1048576) (hnc : n ≤ c) (h : Ints w A n ws) (h' : Ints w B m cs) :
    Calls Try.prog 38 #[.int .i64 width, .slice A n c, .slice B m d] w fun e w' => e = .returned (.bool (vWn width ws cs)) ∧ Below w.heap.size w w' := by
  go_enter Try.func38, Try.ntmps38
  go_wp2_with (go_at_call 69; refine (specValidWants0 _ _ _ _ _ _ _ _ _ _ hn hm hnc h h').mono ?_; rintro e w' ⟨rfl, q, rfl⟩)
  go_ret
  exact ⟨rfl, below_of_drewN _ _⟩
theorem implValidWants (A B : Option Addr) (n c m d : Nat) (width : Int) (ws cs : List Int) (w : World) (hn : n ≤ 1048576) (hm : m ≤ 1048576) (hnc : n ≤ c) (h : Ints w A n ws) (h' : Ints w B m cs) :
    Calls Try.prog 37 #[.int .i64 width, .slice A n c, .slice B m d] w fun e w' => e = .returned (.bool (vWn width ws cs)) ∧ w = w' := by
  cases hv : vWd width ws
  · have HV := hide hv; clear hv
    go_enter Try.func37, Try.ntmps37
    go_wp2_with (go_at_call 34; refine (implValidWidths _ _ _ _ _ _ hn hnc h).mono ?_; rintro e w' ⟨rfl, rfl⟩; rw [HV.out])
    go_ret
    exact ⟨ret_bool (by simp [vWn, HV.out]), rfl⟩
  obtain ⟨_, ⟨l1, l2⟩, _, -⟩ := vWd_true hv
  have HV := hide hv; clear hv
  by_cases hmn : m = n
  · subst hmn
    rw [h.1] at l1 l2
    go_enter Try.func37, Try.ntmps37
    go_wp2_with (go_at_call 34; refine (implValidWidths _ _ _ _ _ _ hn hnc h).mono ?_; rintro e w' ⟨rfl, rfl⟩; rw [HV.out])
    go_loop [7, 23] (fun s i => ∃ (k : Nat) (x : Int), k ≤ m ∧ i = .int .i64 k ∧ s = .int .i64 x ∧ 0 ≤ x ∧ x ≤ 20 * k ∧ x = tot (cs.take k) ∧ allB (cs.take k) 0 20 = true) (fun _ i => m - (intOf i).toNat)
    case atStart => exact ⟨0, 0, by omega, rfl, rfl, by omega, by omega, by simp [tot], rfl⟩
    case round =>
      obtain ⟨k, x, hk, rfl, rfl, x0, x1, hx, hT⟩ := hrel
      have HT := hide hT; clear hT
      have HX := hide hx; clear hx
      by_cases hlt : k < m
      · have hcx : k < cs.length := by rw [h'.1]; exact hlt
        have HCX := hide hcx; clear hcx
        obtain ⟨ad', rfl, hb', hcl'⟩ := h'.2 k hlt
        rcases (show nth cs k < 0 ∨ (0 ≤ nth cs k ∧ 20 < nth cs k) ∨ (0 ≤ nth cs k ∧ nth cs k ≤ 20) by omega) with q | ⟨q, q'⟩ | ⟨q, q'⟩
        · clear h h'
          go_wp2
          go_ret
          exact ⟨ret_bool (by rw [vWn, allB_no HCX.out (by omega)]; simp), rfl⟩
        · clear h h'
          go_wp2
          go_ret
          exact ⟨ret_bool (by rw [vWn, allB_no HCX.out (by omega)]; simp), rfl⟩
        · clear h h'
          go_wp2
          go_round
          case rel => exact ⟨k + 1, x + nth cs k, by omega, by go_num, rfl, by omega, by omega, by rw [HX.out, tot_take HCX.out], allB_take HCX.out HT.out ⟨q, q'⟩⟩
          case measure => simp [intOf]; omega
      · have : k = m := by omega
        subst this
        go_wp2
        go_ret
        exact ⟨ret_bool (by rw [vWn, HV.out, allB_all h'.1 HT.out, decide_eq_true (show cs.length = ws.length by rw [h.1, h'.1]), HX.out, List.take_of_length_le (by rw [h'.1]; exact Nat.le_refl _)]; rfl), rfl⟩
  · have hd : ((m : Int) != (n : Int)) = true := by simp; omega
    go_enter Try.func37, Try.ntmps37
    go_wp2_with (go_at_call 34; refine (implValidWidths _ _ _ _ _ _ hn hnc h).mono ?_; rintro e w' ⟨rfl, rfl⟩; rw [HV.out])
    go_ret
    exact ⟨ret_bool (by rw [vWn, decide_eq_false (show ¬ cs.length = ws.length by rw [h.1, h'.1]; omega)]; simp), rfl⟩
end Go.Proofs.Ytkmogpeiolkpbaa
