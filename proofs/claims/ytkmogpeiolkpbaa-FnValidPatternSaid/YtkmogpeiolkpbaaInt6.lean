/- Contracts of chapter 3, second part: patterns, wants, values. -/
import Derived.Test.YtkmogpeiolkpbaaInt5
namespace Go.Proofs.Ytkmogpeiolkpbaa
open Go.RowKit
set_option linter.unusedVariables false
set_option maxRecDepth 100000

theorem specValidWidths (A : Option Addr) (n c : Nat) (width : Int) (xs : List Int) (w : World) (hn : n ≤ 1048576) (hc : n ≤ c) (h : Ints w A n xs) :
    Calls Try.prog 35 #[.int .i64 width, .slice A n c] w fun e w' => e = .returned (.bool (vWd width xs)) ∧ Below w.heap.size w w' := by
  go_enter Try.func35, Try.ntmps35
  go_wp2_with (go_at_call 67; refine (specValidWidths0 _ _ _ _ _ _ hn hc h).mono ?_; rintro e w' ⟨rfl, m, rfl⟩)
  go_ret
  exact ⟨rfl, below_of_drewN _ _⟩
theorem quo_lt {a b n : Int} (hb : 1 ≤ b) (h : a / b < n) : a < n * b := by
  have h1 := Int.lt_ediv_add_one_mul_self a (show 0 < b by omega)
  have h2 : (a / b + 1) * b ≤ n * b := Int.mul_le_mul_of_nonneg_right (by omega) (by omega)
  omega
theorem quo_le {a b n : Int} (hb : 1 ≤ b) (h : n ≤ a / b) : n * b ≤ a := by
  have h1 := Int.ediv_mul_le a (show b ≠ 0 by omega)
  have h2 : n * b ≤ a / b * b := Int.mul_le_mul_of_nonneg_right h (by omega)
  omega
theorem implValidPattern (A B : Option Addr) (n c m d : Nat) (width : Int) (ws cs : List Int) (w : World) (hn : n ≤ 1048576) (hm : m ≤ 1048576) (hnc : n ≤ c) (h : Ints w A n ws) (h' : Ints w B m cs) :
    Calls Try.prog 40 #[.int .i64 width, .slice A n c, .slice B m d] w fun e w' => e = .returned (.bool (vPt width ws cs)) ∧ w = w' := by
  cases hv : vWd width ws
  · have HV := hide hv; clear hv
    go_enter Try.func40, Try.ntmps40
    go_wp2_with (go_at_call 34; refine (implValidWidths _ _ _ _ _ _ hn hnc h).mono ?_; rintro e w' ⟨rfl, rfl⟩; rw [HV.out])
    go_ret
    exact ⟨ret_bool (vPt_no1 HV.out).symm, rfl⟩
  obtain ⟨⟨w1, w2⟩, ⟨l1, l2⟩, hw, -⟩ := vWd_true hv
  have HV := hide hv; clear hv
  have HW := hide hw; clear hw
  by_cases hmn : m = n
  · subst hmn
    rw [h.1] at l1 l2
    go_enter Try.func40, Try.ntmps40
    go_wp2_with (go_at_call 34; refine (implValidWidths _ _ _ _ _ _ hn hnc h).mono ?_; rintro e w' ⟨rfl, rfl⟩; rw [HV.out])
    go_loop [7, 24] (fun s i => ∃ (k : Nat) (x : Int), k ≤ m ∧ i = .int .i64 k ∧ s = .int .i64 x ∧ 0 ≤ x ∧ x ≤ width ∧ x = width - usd ws cs k ∧ allB (cs.take k) 0 width = true) (fun _ i => m - (intOf i).toNat)
    case atStart => exact ⟨0, width, by omega, rfl, rfl, by omega, by omega, by simp [usd], rfl⟩
    case round =>
      obtain ⟨k, x, hk, rfl, rfl, x0, x1, hx, hT⟩ := hrel
      have HT := hide hT; clear hT
      have HX := hide hx; clear hx
      by_cases hlt : k < m
      · have hcx : k < cs.length := by rw [h'.1]; exact hlt
        have hwx : k < ws.length := by rw [h.1]; exact hlt
        obtain ⟨u1, u2⟩ := HW.out _ (nth_mem hwx)
        have HCX := hide hcx; clear hcx hwx
        obtain ⟨ad, rfl, hb, hcl⟩ := h.2 k hlt
        obtain ⟨ad', rfl, hb', hcl'⟩ := h'.2 k hlt
        have hx0 : nth cs k < 0 ∨ 0 ≤ nth cs k := by omega
        have hq0 : 0 ≤ x / nth ws k := Int.ediv_nonneg x0 (by omega)
        have hq1 : x / nth ws k ≤ x := Int.ediv_le_self _ x0
        rcases hx0 with q | q
        · clear h h'
          go_wp2
          go_ret
          exact ⟨ret_bool (vPt_no3 HCX.out (by omega)).symm, rfl⟩
        · by_cases r : x / nth ws k < nth cs k
          · clear h h'
            go_wp2
            go_ret
            exact ⟨ret_bool (vPt_no4 HCX.out (by rw [← HX.out]; exact quo_lt u1 r)).symm, rfl⟩
          · have r' : nth cs k ≤ x / nth ws k := by omega
            have r2 := quo_le u1 r'
            have r3 : 0 ≤ nth cs k * nth ws k := Int.mul_nonneg q (by omega)
            clear h h'
            go_wp2
            go_round
            case rel => exact ⟨k + 1, x - nth cs k * nth ws k, by omega, by go_num, rfl, by omega, by omega, by rw [HX.out]; simp only [usd]; omega, allB_take HCX.out HT.out ⟨q, by omega⟩⟩
            case measure => simp [intOf]; omega
      · have : k = m := by omega
        subst this
        go_wp2
        go_ret
        exact ⟨ret_bool (vPt_mk HV.out (by rw [h.1, h'.1]) (allB_all h'.1 HT.out) (by rw [h'.1]; have := HX.out; omega)).symm, rfl⟩
  · have hd : ((m : Int) != (n : Int)) = true := by simp; omega
    go_enter Try.func40, Try.ntmps40
    go_wp2_with (go_at_call 34; refine (implValidWidths _ _ _ _ _ _ hn hnc h).mono ?_; rintro e w' ⟨rfl, rfl⟩; rw [HV.out])
    go_ret
    exact ⟨ret_bool (vPt_no2 (by rw [h.1, h'.1]; omega)).symm, rfl⟩
theorem specUsed (A B : Option Addr) (n c m d : Nat) (ws cs : List Int) (w : World) (hn : n ≤ 1000) (hm : m ≤ n) (h : Ints w A n ws) (h' : Ints w B m cs) (hw : ∀ x ∈ ws, 0 ≤ x ∧ x ≤ 1000) (hc : ∀ x ∈ cs, 0 ≤ x ∧ x ≤ 1000) :
    Calls Try.prog 78 #[.slice A n c, .slice B m d] w fun e w' => e = .returned (.int .i64 (usd ws cs m)) ∧ ∃ m, w' = w.drewN m := by
  have HW := hide hw; clear hw
  have HC := hide hc; clear hc
  have HP := hide (fun k (hk : k ≤ m) => usd_pre HW.out HC.out (by rw [h'.1]; exact Nat.le_refl _) (by rw [h.1]; exact hm) (by omega) hk)
  go_enter Try.func78, Try.ntmps78
  go_wp2
  go_loopw [5, 6] (fun s i wr => ∃ k q : Nat, k ≤ m ∧ i = .int .i64 k ∧ s = .int .i64 (usd ws cs k) ∧ wr = w.drewN q) (fun _ i _ => m - (intOf i).toNat)
  case atStart => exact ⟨0, 0, by omega, rfl, rfl, rfl⟩
  case round =>
    obtain ⟨k, q, hk, rfl, rfl, rfl⟩ := hrel
    obtain ⟨p1, p2⟩ := HP.out k hk
    by_cases hlt : k < m
    · obtain ⟨u1, u2⟩ := HW.out _ (nth_mem (k := k) (by rw [h.1]; omega))
      obtain ⟨v1, v2⟩ := HC.out _ (nth_mem (k := k) (by rw [h'.1]; omega))
      obtain ⟨t1, t2⟩ := prod_bd ⟨v1, v2⟩ ⟨u1, u2⟩
      obtain ⟨ad, rfl, hb, hcl⟩ := h.2 k (by omega)
      obtain ⟨ad', rfl, hb', hcl'⟩ := h'.2 k hlt
      have k0 : (0 : Int) ≤ k := by omega
      have k1 : (k : Int) < m := by omega
      have k2 : (k : Int) < n := by omega
      have e1 : IntKind.i64.wrap (nth cs k * nth ws k) = nth cs k * nth ws k := IntWalk.i64_in _ ⟨by omega, by omega⟩
      have e2 : IntKind.i64.wrap (usd ws cs k + nth cs k * nth ws k) = usd ws cs k + nth cs k * nth ws k := IntWalk.i64_in _ ⟨by omega, by omega⟩
      clear h h'
      go_wp2
      go_quiet (fail)
      clear e1 e2
      go_wp2
      go_roundw
      case rel => exact ⟨k + 1, _, by omega, by go_num, by simp only [usd], by first | rfl | exact World.drewN_drewN _ _ _⟩
      case measure => simp [intOf]; omega
    · have : k = m := by omega
      subst this
      go_wp2
      go_ret
      exact ⟨rfl, q, rfl⟩
end Go.Proofs.Ytkmogpeiolkpbaa
