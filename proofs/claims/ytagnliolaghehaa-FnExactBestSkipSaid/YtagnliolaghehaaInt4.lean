/- Contracts of chapter 5, third part: ends, and what is left. -/
import Derived.Test.YtagnliolaghehaaInt3
namespace Go.Proofs.Ytagnliolaghehaa
open Go.RowKit
set_option linter.unusedVariables false
set_option maxRecDepth 100000
def eOf (xs : List Int) : List Int := if vLen xs = true then endsL xs else []
theorem implEndsOf (A : Option Addr) (n c : Nat) (xs : List Int) (w : World) (hn : n ≤ 1048576) (h : Ints w A n xs) : Calls Try.prog 12 #[.slice A n c] w (RetL (eOf xs) w) := by
  cases h1 : vLen xs
  · have H1 := hide h1; clear h1
    go_enter Try.func12, Try.ntmps12
    go_wp2_with (go_at_call 17; refine (implValidLengths _ _ _ _ _ hn h).mono ?_; rintro e w' ⟨rfl, rfl⟩; rw [H1.out])
    go_ret
    rw [eOf, if_neg (by rw [H1.out]; simp)]
    exact retL_nil (Below.refl _ _)
  · have h60 : n ≤ 1000 := by have := (vLen_true h1).1; rw [h.1] at this; omega
    have HX := hide (vLen_bd h1)
    have H1 := hide h1; clear h1
    have hmk := fun W => run_make_row' (P := Try.prog) 22 3 (.int .i64 0) 8 Try.underlying22 info_int rfl .i64 .i64 n (by omega) (by omega) W
    go_enter Try.func12, Try.ntmps12
    go_wp2_with (go_at_call 17; refine (implValidLengths _ _ _ _ _ hn h).mono ?_; rintro e w' ⟨rfl, rfl⟩; rw [H1.out])
    go_loopw [4, 15] (fun s i wr => ∃ k : Nat, k ≤ n ∧ i = .int .i64 k ∧ s = .int .i64 (tot (xs.take k)) ∧ wr.rowIs w.heap.size 3 n (fun i => if i < k then .int .i64 (nth (endsL xs) i) else .int .i64 0) ∧ Below w.heap.size w wr) (fun _ i _ => n - (intOf i).toNat)
    case atStart => exact ⟨0, by omega, rfl, rfl, (World.rowIs_made w (.int .i64 0) n 3).congr (fun i _ => by simp), (Below.refl _ _).alloc (Nat.le_refl _) _⟩
    case round =>
      obtain ⟨k, hk, rfl, rfl, hrow, hB⟩ := hrel
      clear hmk
      obtain ⟨t1, t2⟩ := tot_pre HX.out (by rw [h.1]; omega) k
      by_cases hlt : k < n
      · have hx : k < xs.length := by rw [h.1]; exact hlt
        obtain ⟨ad, rfl, hb, hc⟩ := (h.below hB).2 k hlt
        obtain ⟨t3, t4⟩ := HX.out _ (nth_mem hx)
        have HK := hide hx; clear hx h
        have c1 := hrow.cell hlt
        have f1 := hrow.frozen k
        go_wp2
        go_roundw
        case rel =>
          refine ⟨k + 1, by omega, by go_num, by rw [tot_take HK.out], (hrow.set k _).congr (fun i _ => ?_), hB.setCell (Nat.le_refl _) _⟩
          by_cases e : i = k
          · subst e; rw [if_pos rfl, if_pos (by omega), endsL_nth HK.out, tot_take HK.out]
          · simp only [if_neg e]
            by_cases h1 : i < k
            · rw [if_pos h1, if_pos (by omega)]
            · rw [if_neg h1, if_neg (by omega)]
        case measure => simp [intOf]; omega
      · have : k = n := by omega
        subst this
        go_wp2
        go_ret
        rw [eOf, if_pos H1.out]
        exact retL_made (by rw [endsL_len, h.1]) hrow (fun i hi => if_pos hi) (Nat.le_refl _) hB
end Go.Proofs.Ytagnliolaghehaa
