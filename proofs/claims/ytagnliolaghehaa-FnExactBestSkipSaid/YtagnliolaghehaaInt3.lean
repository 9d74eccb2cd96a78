/- Contracts of chapter 5, second part: enough paper, places, ends, what is left. -/
import Derived.Test.YtagnliolaghehaaInt2
namespace Go.Proofs.Ytagnliolaghehaa
open Go.RowKit
set_option linter.unusedVariables false
set_option maxRecDepth 100000

theorem specEnough (A B : Option Addr) (n m c d : Nat) (ps ws : List Int) (s : Int) (w : World) (hn : n ≤ 1048576) (hm : m ≤ 1048576) (h : Ints w A n ps) (h' : Ints w B m ws) :
    Calls Try.prog 8 #[.slice A n c, .slice B m d, .int .i64 s] w fun e w' => e = .returned (.bool (enoughB ps ws s)) ∧ w = w' := by
  cases h1 : vLen ps
  · have H1 := hide h1; clear h1
    go_enter Try.func8, Try.ntmps8
    go_wp2_with (go_at_call 15; refine (specValidLengths0 _ _ _ _ _ hn h).mono ?_; rintro e w' ⟨rfl, rfl⟩; rw [H1.out])
    go_ret
    exact ⟨ret_bool (by rw [enoughB, H1.out]; rfl), rfl⟩
  have H1 := hide h1; clear h1
  cases h2 : vLen ws
  · have H2 := hide h2; clear h2
    go_enter Try.func8, Try.ntmps8
    go_wp2_with (first | (go_at_call 15; (with_reducible refine (specValidLengths0 A n c ps _ hn h).mono ?_); rintro e w' ⟨rfl, rfl⟩; rw [H1.out]) | (go_at_call 15; (with_reducible refine (specValidLengths0 B m d ws _ hm h').mono ?_); rintro e w' ⟨rfl, rfl⟩; rw [H2.out]))
    go_ret
    exact ⟨ret_bool (by rw [enoughB, H1.out, H2.out]; rfl), rfl⟩
  obtain ⟨t1, t2⟩ := vLen_tot H1.out
  obtain ⟨t3, t4⟩ := vLen_tot h2
  have p1 : ∀ x ∈ ps, 0 ≤ x ∧ x ≤ 1000000 := fun x hx => by have := (vLen_true H1.out).2 x hx; omega
  have p2 : ∀ x ∈ ws, 0 ≤ x ∧ x ≤ 1000000 := fun x hx => by have := (vLen_true h2).2 x hx; omega
  have P1 := hide p1; clear p1
  have P2 := hide p2; clear p2
  have H2 := hide h2; clear h2
  by_cases hs : 0 ≤ s
  · go_enter Try.func8, Try.ntmps8
    go_wp2_with (first | (go_at_call 15; (with_reducible refine (specValidLengths0 A n c ps _ hn h).mono ?_); rintro e w' ⟨rfl, rfl⟩; rw [H1.out]) | (go_at_call 15; (with_reducible refine (specValidLengths0 B m d ws _ hm h').mono ?_); rintro e w' ⟨rfl, rfl⟩; rw [H2.out]) | (go_at_call 9; (with_reducible refine (specTotal A n c ps _ hn h P1.out).mono ?_); rintro e w' ⟨rfl, rfl⟩) | (go_at_call 9; (with_reducible refine (specTotal B m d ws _ hm h' P2.out).mono ?_); rintro e w' ⟨rfl, rfl⟩))
    go_ret
    exact ⟨ret_bool (by rw [enoughB, H1.out, H2.out, decide_eq_true hs]; rfl), rfl⟩
  · have hs' : s < 0 := by omega
    go_enter Try.func8, Try.ntmps8
    go_wp2_with (first | (go_at_call 15; (with_reducible refine (specValidLengths0 A n c ps _ hn h).mono ?_); rintro e w' ⟨rfl, rfl⟩; rw [H1.out]) | (go_at_call 15; (with_reducible refine (specValidLengths0 B m d ws _ hm h').mono ?_); rintro e w' ⟨rfl, rfl⟩; rw [H2.out]))
    go_ret
    exact ⟨ret_bool (by rw [enoughB, H1.out, H2.out, decide_eq_false (by omega)]; rfl), rfl⟩
theorem implEnough (A B : Option Addr) (n m c d : Nat) (ps ws : List Int) (s : Int) (w : World) (hn : n ≤ 1048576) (hm : m ≤ 1048576) (h : Ints w A n ps) (h' : Ints w B m ws) :
    Calls Try.prog 11 #[.slice A n c, .slice B m d, .int .i64 s] w fun e w' => e = .returned (.bool (enoughB ps ws s)) ∧ w = w' := by
  cases h1 : vLen ps
  · have H1 := hide h1; clear h1
    go_enter Try.func11, Try.ntmps11
    go_wp2_with (go_at_call 17; refine (implValidLengths _ _ _ _ _ hn h).mono ?_; rintro e w' ⟨rfl, rfl⟩; rw [H1.out])
    go_ret
    exact ⟨ret_bool (by rw [enoughB, H1.out]; rfl), rfl⟩
  have H1 := hide h1; clear h1
  cases h2 : vLen ws
  · have H2 := hide h2; clear h2
    go_enter Try.func11, Try.ntmps11
    go_wp2_with (first | (go_at_call 17; (with_reducible refine (implValidLengths A n c ps _ hn h).mono ?_); rintro e w' ⟨rfl, rfl⟩; rw [H1.out]) | (go_at_call 17; (with_reducible refine (implValidLengths B m d ws _ hm h').mono ?_); rintro e w' ⟨rfl, rfl⟩; rw [H2.out]))
    go_ret
    exact ⟨ret_bool (by rw [enoughB, H1.out, H2.out]; rfl), rfl⟩
  obtain ⟨t1, t2⟩ := vLen_tot H1.out
  obtain ⟨t3, t4⟩ := vLen_tot h2
  have p1 : ∀ x ∈ ps, 0 ≤ x ∧ x ≤ 1000000 := fun x hx => by have := (vLen_true H1.out).2 x hx; omega
  have p2 : ∀ x ∈ ws, 0 ≤ x ∧ x ≤ 1000000 := fun x hx => by have := (vLen_true h2).2 x hx; omega
  have P1 := hide p1; clear p1
  have P2 := hide p2; clear p2
  have H2 := hide h2; clear h2
  by_cases hs : 0 ≤ s
  · go_enter Try.func11, Try.ntmps11
    go_wp2_with (first | (go_at_call 17; (with_reducible refine (implValidLengths A n c ps _ hn h).mono ?_); rintro e w' ⟨rfl, rfl⟩; rw [H1.out]) | (go_at_call 17; (with_reducible refine (implValidLengths B m d ws _ hm h').mono ?_); rintro e w' ⟨rfl, rfl⟩; rw [H2.out]) | (go_at_call 14; (with_reducible refine (implSumOf A n c ps _ hn h P1.out).mono ?_); rintro e w' ⟨rfl, rfl⟩) | (go_at_call 14; (with_reducible refine (implSumOf B m d ws _ hm h' P2.out).mono ?_); rintro e w' ⟨rfl, rfl⟩))
    go_ret
    exact ⟨ret_bool (by rw [enoughB, H1.out, H2.out, decide_eq_true hs]; rfl), rfl⟩
  · have hs' : s < 0 := by omega
    go_enter Try.func11, Try.ntmps11
    go_wp2_with (first | (go_at_call 17; (with_reducible refine (implValidLengths A n c ps _ hn h).mono ?_); rintro e w' ⟨rfl, rfl⟩; rw [H1.out]) | (go_at_call 17; (with_reducible refine (implValidLengths B m d ws _ hm h').mono ?_); rintro e w' ⟨rfl, rfl⟩; rw [H2.out]))
    go_ret
    exact ⟨ret_bool (by rw [enoughB, H1.out, H2.out, decide_eq_false (by omega)]; rfl), rfl⟩
theorem enough_true {ps ws : List Int} {s : Int} (h : enoughB ps ws s = true) : vLen ps = true ∧ vLen ws = true ∧ 0 ≤ s ∧ s ≤ tot ps - tot ws := by
  simp only [enoughB, Bool.and_eq_true, decide_eq_true_eq] at h; exact ⟨h.1, h.2.1, h.2.2.1, h.2.2.2⟩
theorem vLen_bd {xs : List Int} (h : vLen xs = true) : ∀ x ∈ xs, 0 ≤ x ∧ x ≤ 1000000 := fun x hx => by have := (vLen_true h).2 x hx; omega
end Go.Proofs.Ytagnliolaghehaa
