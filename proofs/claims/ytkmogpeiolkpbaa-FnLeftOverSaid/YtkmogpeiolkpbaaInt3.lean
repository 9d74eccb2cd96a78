/- Contracts of chapter 5, second part: enough paper, places, ends, what is left. -/
import Derived.Test.YtkmogpeiolkpbaaInt2
namespace Go.Proofs.Ytkmogpeiolkpbaa
open Go.RowKit
set_option linter.unusedVariables false
set_option maxRecDepth 100000

theorem specEnough (A B : Option Addr) (n m c d : Nat) (ps ws : List Int) (s : Int) (w : World) (hn : n ≤ 1048576) (hm : m ≤ 1048576) (h : Ints w A n ps) (h' : Ints w B m ws) :
    Calls Try.prog 52 #[.slice A n c, .slice B m d, .int .i64 s] w fun e w' => e = .returned (.bool (enoughB ps ws s)) ∧ w = w' := by
  cases h1 : vLen ps
  · have H1 := hide h1; clear h1
    go_enter Try.func52, Try.ntmps52
    go_wp2_with (go_at_call 56; refine (specValidLengths0 _ _ _ _ _ hn h).mono ?_; rintro e w' ⟨rfl, rfl⟩; rw [H1.out])
    go_ret
    exact ⟨ret_bool (by rw [enoughB, H1.out]; rfl), rfl⟩
  have H1 := hide h1; clear h1
  cases h2 : vLen ws
  · have H2 := hide h2; clear h2
    go_enter Try.func52, Try.ntmps52
    go_wp2_with (first | (go_at_call 56; (with_reducible refine (specValidLengths0 A n c ps _ hn h).mono ?_); rintro e w' ⟨rfl, rfl⟩; rw [H1.out]) | (go_at_call 56; (with_reducible refine (specValidLengths0 B m d ws _ hm h').mono ?_); rintro e w' ⟨rfl, rfl⟩; rw [H2.out]))
    go_ret
    exact ⟨ret_bool (by rw [enoughB, H1.out, H2.out]; rfl), rfl⟩
  obtain ⟨t1, t2⟩ := vLen_tot H1.out
  obtain ⟨t3, t4⟩ := vLen_tot h2
  have p1 : ∀ x ∈ ps, 0 ≤ x ∧ x ≤ 1000000 := fun x hx => by have := (vLen_true H1.out).2 x hx; omega
  have p2 : ∀ x ∈ ws, 0 ≤ x ∧ x ≤ 1000000 := fun x hx => by have := (vLen_true h2).2 x hx; omega
  have P1 := hide p1; clear p1
  have P2 := hide p2; clear p2
  have H2 := hide h2; clear h2
  by_cases hs : 0 ≤ s
  · go_enter Try.func52, Try.ntmps52
    go_wp2_with (first | (go_at_call 56; (with_reducible refine (specValidLengths0 A n c ps _ hn h).mono ?_); rintro e w' ⟨rfl, rfl⟩; rw [H1.out]) | (go_at_call 56; (with_reducible refine (specValidLengths0 B m d ws _ hm h').mono ?_); rintro e w' ⟨rfl, rfl⟩; rw [H2.out]) | (go_at_call 53; (with_reducible refine (specTotal A n c ps _ hn h P1.out).mono ?_); rintro e w' ⟨rfl, rfl⟩) | (go_at_call 53; (with_reducible refine (specTotal B m d ws _ hm h' P2.out).mono ?_); rintro e w' ⟨rfl, rfl⟩))
    go_ret
    exact ⟨ret_bool (by rw [enoughB, H1.out, H2.out, decide_eq_true hs]; rfl), rfl⟩
  · have hs' : s < 0 := by omega
    go_enter Try.func52, Try.ntmps52
    go_wp2_with (first | (go_at_call 56; (with_reducible refine (specValidLengths0 A n c ps _ hn h).mono ?_); rintro e w' ⟨rfl, rfl⟩; rw [H1.out]) | (go_at_call 56; (with_reducible refine (specValidLengths0 B m d ws _ hm h').mono ?_); rintro e w' ⟨rfl, rfl⟩; rw [H2.out]))
    go_ret
    exact ⟨ret_bool (by rw [enoughB, H1.out, H2.out, decide_eq_false (by omega)]; rfl), rfl⟩
theorem implEnough (A B : Option Addr) (n m c d : Nat) (ps ws : List Int) (s : Int) (w : World) (hn : n ≤ 1048576) (hm : m ≤ 1048576) (h : Ints w A n ps) (h' : Ints w B m ws) :
    Calls Try.prog 49 #[.slice A n c, .slice B m d, .int .i64 s] w fun e w' => e = .returned (.bool (enoughB ps ws s)) ∧ w = w' := by
  cases h1 : vLen ps
  · have H1 := hide h1; clear h1
    go_enter Try.func49, Try.ntmps49
    go_wp2_with (go_at_call 20; refine (implValidLengths _ _ _ _ _ hn h).mono ?_; rintro e w' ⟨rfl, rfl⟩; rw [H1.out])
    go_ret
    exact ⟨ret_bool (by rw [enoughB, H1.out]; rfl), rfl⟩
  have H1 := hide h1; clear h1
  cases h2 : vLen ws
  · have H2 := hide h2; clear h2
    go_enter Try.func49, Try.ntmps49
    go_wp2_with (first | (go_at_call 20; (with_reducible refine (implValidLengths A n c ps _ hn h).mono ?_); rintro e w' ⟨rfl, rfl⟩; rw [H1.out]) | (go_at_call 20; (with_reducible refine (implValidLengths B m d ws _ hm h').mono ?_); rintro e w' ⟨rfl, rfl⟩; rw [H2.out]))
    go_ret
    exact ⟨ret_bool (by rw [enoughB, H1.out, H2.out]; rfl), rfl⟩
  obtain ⟨t1, t2⟩ := vLen_tot H1.out
  obtain ⟨t3, t4⟩ := vLen_tot h2
  have p1 : ∀ x ∈ ps, 0 ≤ x ∧ x ≤ 1000000 := fun x hx => by have := (vLen_true H1.out).2 x hx; omega
  have p2 : ∀ x ∈ ws, 0 ≤ x ∧ x ≤ 1000000 := fun x hx => by have := (vLen_true h2).2 x hx; omega
  have P1 := hide p1; clear p1
  have P2 := hide p2; clear p2
  have H2 := hide h2; clear h2
  by_cases hs : 0 ≤ s
  · go_enter Try.func49, Try.ntmps49
    go_wp2_with (first | (go_at_call 20; (with_reducible refine (implValidLengths A n c ps _ hn h).mono ?_); rintro e w' ⟨rfl, rfl⟩; rw [H1.out]) | (go_at_call 20; (with_reducible refine (implValidLengths B m d ws _ hm h').mono ?_); rintro e w' ⟨rfl, rfl⟩; rw [H2.out]) | (go_at_call 51; (with_reducible refine (implSumOf A n c ps _ hn h P1.out).mono ?_); rintro e w' ⟨rfl, rfl⟩) | (go_at_call 51; (with_reducible refine (implSumOf B m d ws _ hm h' P2.out).mono ?_); rintro e w' ⟨rfl, rfl⟩))
    go_ret
    exact ⟨ret_bool (by rw [enoughB, H1.out, H2.out, decide_eq_true hs]; rfl), rfl⟩
  · have hs' : s < 0 := by omega
    go_enter Try.func49, Try.ntmps49
    go_wp2_with (first | (go_at_call 20; (with_reducible refine (implValidLengths A n c ps _ hn h).mono ?_); rintro e w' ⟨rfl, rfl⟩; rw [H1.out]) | (go_at_call 20; (with_reducible refine (implValidLengths B m d ws _ hm h').mono ?_); rintro e w' ⟨rfl, rfl⟩; rw [H2.out]))
    go_ret
    exact ⟨ret_bool (by rw [enoughB, H1.out, H2.out, decide_eq_false (by omega)]; rfl), rfl⟩
theorem placeOn_any (A : Option Addr) (n c : Nat) (xs : List Int) (a : Int) (w : World) (hn : n ≤ 1048576) (h : Ints w A n xs) (hx : ∀ x ∈ xs, 0 ≤ x ∧ x ≤ 1000000) (ha : a ≤ 1000000000000) (ha0 : 0 ≤ a) :
    Calls Try.prog 50 #[.slice A n c, .int .i64 a] w fun e w' => e = .returned (.tuple #[.int .i64 ((pOn xs a).1 : Nat), .int .i64 (pOn xs a).2]) ∧ w = w' := by
  have HX := hide hx; clear hx
  go_enter Try.func50, Try.ntmps50
  go_wp2
  go_loop [1, 6] (fun s i => ∃ (k : Nat) (x : Int), k ≤ n ∧ 0 ≤ x ∧ x ≤ a ∧ i = .int .i64 k ∧ s = .int .i64 x ∧ PO xs a k x) (fun _ i => n - (intOf i).toNat)
  case atStart => exact ⟨0, a, by omega, ha0, by omega, rfl, rfl, PO_start xs a⟩
  case round =>
    obtain ⟨k, x, hk, hx0, hx1, rfl, rfl, hP⟩ := hrel
    by_cases hlt : k < n
    · have hx : k < xs.length := by rw [h.1]; exact hlt
      obtain ⟨ad, rfl, hb, hcl⟩ := h.2 k hlt
      obtain ⟨t3, t4⟩ := HX.out _ (nth_mem hx)
      have HK := hide hx; clear hx h
      by_cases hc : nth xs k ≤ x
      · go_wp2
        go_round
        case rel => exact ⟨k + 1, x - nth xs k, by omega, by omega, by omega, by go_num, rfl, PO_step hP HK.out hc⟩
        case measure => simp [intOf]; omega
      · have hc' : x < nth xs k := by omega
        go_wp2
        go_ret2
        exact ⟨by rw [PO_stop hP (fun _ => hc')]; rfl, rfl⟩
    · have : k = n := by omega
      subst this
      go_wp2
      go_ret2
      exact ⟨by rw [PO_stop hP (fun h1 => by have := h.1; omega)]; rfl, rfl⟩
/-- the place of a place, or -1 and -1 -/
def plOf (ps ws : List Int) (s a : Int) : Int × Int := if enoughB ps ws s = true ∧ 0 ≤ a ∧ a < tot ws then (((pOn ps (s + a)).1 : Nat), (pOn ps (s + a)).2) else (-1, -1)
theorem enough_true {ps ws : List Int} {s : Int} (h : enoughB ps ws s = true) : vLen ps = true ∧ vLen ws = true ∧ 0 ≤ s ∧ s ≤ tot ps - tot ws := by
  simp only [enoughB, Bool.and_eq_true, decide_eq_true_eq] at h; exact ⟨h.1, h.2.1, h.2.2.1, h.2.2.2⟩
theorem vLen_bd {xs : List Int} (h : vLen xs = true) : ∀ x ∈ xs, 0 ≤ x ∧ x ≤ 1000000 := fun x hx => by have := (vLen_true h).2 x hx; omega
theorem ret_ii {a b c d : Int} (h1 : a = c) (h2 : b = d) : Ending.returned (.tuple #[.int .i64 a, .int .i64 b]) = .returned (.tuple #[.int .i64 c, .int .i64 d]) := by rw [h1, h2]
theorem implPlaceOf (A B : Option Addr) (n m c d : Nat) (ps ws : List Int) (s a : Int) (w : World) (hn : n ≤ 1048576) (hm : m ≤ 1048576) (h : Ints w A n ps) (h' : Ints w B m ws) :
    Calls Try.prog 31 #[.slice A n c, .slice B m d, .int .i64 s, .int .i64 a] w fun e w' => e = .returned (.tuple #[.int .i64 (plOf ps ws s a).1, .int .i64 (plOf ps ws s a).2]) ∧ w = w' := by
  cases h1 : enoughB ps ws s
  · have H1 := hide h1; clear h1
    go_enter Try.func31, Try.ntmps31
    go_wp2_with (go_at_call 49; refine (implEnough _ _ _ _ _ _ _ _ _ _ hn hm h h').mono ?_; rintro e w' ⟨rfl, rfl⟩; rw [H1.out])
    go_ret2
    exact ⟨by rw [plOf, if_neg (by rw [H1.out]; simp)]; rfl, rfl⟩
  obtain ⟨v1, v2, e1, e2⟩ := enough_true h1
  have H1 := hide h1; clear h1
  have b1 := vLen_tot v1
  have b2 := vLen_tot v2
  have P1 := hide (vLen_bd v1); have P2 := hide (vLen_bd v2); clear v1 v2
  by_cases ha : a < 0
  · go_enter Try.func31, Try.ntmps31
    go_wp2_with (go_at_call 49; refine (implEnough _ _ _ _ _ _ _ _ _ _ hn hm h h').mono ?_; rintro e w' ⟨rfl, rfl⟩; rw [H1.out])
    go_ret2
    exact ⟨by rw [plOf, if_neg (by omega)]; rfl, rfl⟩
  have ha' : 0 ≤ a := by omega
  by_cases hb : tot ws ≤ a
  · go_enter Try.func31, Try.ntmps31
    go_wp2_with (first | (go_at_call 49; refine (implEnough _ _ _ _ _ _ _ _ _ _ hn hm h h').mono ?_; rintro e w' ⟨rfl, rfl⟩; rw [H1.out]) | (go_at_call 51; refine (implSumOf _ _ _ _ _ hm h' P2.out).mono ?_; rintro e w' ⟨rfl, rfl⟩))
    go_ret2
    exact ⟨by rw [plOf, if_neg (by omega)]; rfl, rfl⟩
  have hb' : a < tot ws := by omega
  go_enter Try.func31, Try.ntmps31
  go_wp2_with (first | (go_at_call 49; refine (implEnough _ _ _ _ _ _ _ _ _ _ hn hm h h').mono ?_; rintro e w' ⟨rfl, rfl⟩; rw [H1.out]) | (go_at_call 51; refine (implSumOf _ _ _ _ _ hm h' P2.out).mono ?_; rintro e w' ⟨rfl, rfl⟩) | (go_at_call 50; refine (placeOn_any _ _ _ _ _ _ hn h P1.out (by omega) (by omega)).mono ?_; rintro e w' ⟨rfl, rfl⟩))
  go_ret2
  exact ⟨by rw [plOf, if_pos ⟨H1.out, ha', hb'⟩]; rfl, rfl⟩
theorem specPlaceOf (A B : Option Addr) (n m c d : Nat) (ps ws : List Int) (s a : Int) (w : World) (hn : n ≤ 1048576) (hm : m ≤ 1048576) (h : Ints w A n ps) (h' : Ints w B m ws) :
    Calls Try.prog 32 #[.slice A n c, .slice B m d, .int .i64 s, .int .i64 a] w fun e w' => e = .returned (.tuple #[.int .i64 (plOf ps ws s a).1, .int .i64 (plOf ps ws s a).2]) ∧ w = w' := by
  cases h1 : enoughB ps ws s
  · have H1 := hide h1; clear h1
    go_enter Try.func32, Try.ntmps32
    go_wp2_with (go_at_call 52; refine (specEnough _ _ _ _ _ _ _ _ _ _ hn hm h h').mono ?_; rintro e w' ⟨rfl, rfl⟩; rw [H1.out])
    go_ret2
    exact ⟨by rw [plOf, if_neg (by rw [H1.out]; simp)]; rfl, rfl⟩
  obtain ⟨v1, v2, e1, e2⟩ := enough_true h1
  have H1 := hide h1; clear h1
  have b1 := vLen_tot v1
  have b2 := vLen_tot v2
  have P1 := hide (vLen_bd v1); have P2 := hide (vLen_bd v2); clear v1 v2
  by_cases ha : 0 ≤ a ∧ a ≤ tot ws - 1
  · have hd : decide (0 ≤ a ∧ a ≤ tot ws - 1) = true := decide_eq_true ha
    obtain ⟨ha0, ha1⟩ := ha
    have hlt : s + a < tot ps := by omega
    go_enter Try.func32, Try.ntmps32
    go_wp2_with (first | (go_at_call 52; refine (specEnough _ _ _ _ _ _ _ _ _ _ hn hm h h').mono ?_; rintro e w' ⟨rfl, rfl⟩; rw [H1.out]) | (go_at_call 53; refine (specTotal _ _ _ _ _ hm h' P2.out).mono ?_; rintro e w' ⟨rfl, rfl⟩) | (go_at_call 64; refine (inRange_any _ _ _ _).mono ?_; rintro e w' ⟨rfl, rfl⟩))
    go_loop [3, 10] (fun s' i => ∃ (k : Nat) (x : Int), k ≤ n ∧ 0 ≤ x ∧ x ≤ s + a ∧ i = .int .i64 k ∧ s' = .int .i64 x ∧ PO ps (s + a) k x) (fun _ i => n - (intOf i).toNat)
    case atStart => exact ⟨0, s + a, by omega, by omega, by omega, rfl, by simp; omega, PO_start ps (s + a)⟩
    case round =>
      obtain ⟨k, x, hk, hx0, hx1, rfl, rfl, hP⟩ := hrel
      have hx : k < ps.length := PO_in hP hlt hx0 (by rw [h.1]; exact hk)
      have hlt' : k < n := by rw [h.1] at hx; exact hx
      obtain ⟨ad, rfl, hb, hcl⟩ := h.2 k hlt'
      obtain ⟨t3, t4⟩ := P1.out _ (nth_mem hx)
      have HK := hide hx; clear hx h hd
      by_cases hc : nth ps k ≤ x
      · go_wp2
        go_round
        case rel => exact ⟨k + 1, x - nth ps k, by omega, by omega, by omega, by go_num, rfl, PO_step hP HK.out hc⟩
        case measure => simp [intOf]; omega
      · have hc' : x < nth ps k := by omega
        go_wp2
        go_ret2
        exact ⟨by rw [plOf, if_pos ⟨H1.out, ha0, by omega⟩, PO_stop hP (fun _ => hc')]; rfl, rfl⟩
  · have hd : decide (0 ≤ a ∧ a ≤ tot ws - 1) = false := decide_eq_false ha
    have HA := hide ha; clear ha
    go_enter Try.func32, Try.ntmps32
    go_wp2_with (first | (go_at_call 52; refine (specEnough _ _ _ _ _ _ _ _ _ _ hn hm h h').mono ?_; rintro e w' ⟨rfl, rfl⟩; rw [H1.out]) | (go_at_call 53; refine (specTotal _ _ _ _ _ hm h' P2.out).mono ?_; rintro e w' ⟨rfl, rfl⟩) | (go_at_call 64; refine (inRange_any _ _ _ _).mono ?_; rintro e w' ⟨rfl, rfl⟩))
    go_ret2
    exact ⟨by rw [plOf, if_neg (by have := HA.out; omega)]; rfl, rfl⟩
end Go.Proofs.Ytkmogpeiolkpbaa
