/- Contracts of chapter 5, third part: ends, and what is left. -/
import Derived.Test.YtkmogpeiolkpbaaInt3
namespace Go.Proofs.Ytkmogpeiolkpbaa
open Go.RowKit
set_option linter.unusedVariables false
set_option maxRecDepth 100000
theorem specEnds (A : Option Addr) (n c : Nat) (xs : List Int) (w : World) (hn : n ≤ 1000) (h : Ints w A n xs) (hx : ∀ x ∈ xs, 0 ≤ x ∧ x ≤ 1000000) :
    Calls Try.prog 60 #[.slice A n c] w (RetL (endsL xs) w) := by
  have HX := hide hx; clear hx
  go_enter Try.func60, Try.ntmps60
  go_wp2
  go_loopw [3, 4, 5] (fun v s i wr => ∃ k : Nat, k ≤ n ∧ i = .int .i64 k ∧ s = .int .i64 (tot (xs.take k)) ∧ wr.ownsRow w.heap.size 3 1 v k (((endsL xs).take k).map (.int .i64)) ∧ Below w.heap.size w wr) (fun _ _ i _ => n - (intOf i).toNat)
  case atStart => exact ⟨0, by omega, rfl, rfl, own_empty_row (Nat.le_refl _), by go_grown⟩
  case round =>
    obtain ⟨k, hk, rfl, rfl, hown, hB⟩ := hrel
    obtain ⟨t1, t2⟩ := tot_pre HX.out (by rw [h.1]; omega) k
    by_cases hlt : k < n
    · have hx : k < xs.length := by rw [h.1]; exact hlt
      obtain ⟨ad, rfl, hb, hc⟩ := (h.below hB).2 k hlt
      obtain ⟨t3, t4⟩ := HX.out _ (nth_mem hx)
      have HK := hide hx; clear hx h
      go_wp2_with (at_builtin; refine wpList_app1 rfl _ _ _ rfl w.heap.size _ Try.underlying23 info_int _ _ _ _ _ (by rfl) (by rfl) hown (by omega) hB.size ?_; intro v' w1 hown' hb')
      go_roundw
      case rel => exact ⟨k + 1, by omega, by go_num, by rw [tot_take HK.out], by rw [endsL_take HK.out]; exact hown', hB.trans hb'⟩
      case measure => simp [intOf]; omega
    · have : k = n := by omega
      subst this
      go_wp2
      go_ret
      rw [List.take_of_length_le (by rw [endsL_len, h.1]; exact Nat.le_refl _)] at hown
      exact retL_row hown hB
def eOf (xs : List Int) : List Int := if vLen xs = true then endsL xs else []
theorem specEndsOf (A : Option Addr) (n c : Nat) (xs : List Int) (w : World) (hn : n ≤ 1048576) (h : Ints w A n xs) : Calls Try.prog 29 #[.slice A n c] w (RetL (eOf xs) w) := by
  cases h1 : vLen xs
  · have H1 := hide h1; clear h1
    go_enter Try.func29, Try.ntmps29
    go_wp2_with (go_at_call 56; refine (specValidLengths0 _ _ _ _ _ hn h).mono ?_; rintro e w' ⟨rfl, rfl⟩; rw [H1.out])
    go_ret
    rw [eOf, if_neg (by rw [H1.out]; simp)]
    exact retL_nil (Below.refl _ _)
  · have h60 : n ≤ 1000 := by have := (vLen_true h1).1; rw [h.1] at this; omega
    have P1 := hide (vLen_bd h1)
    have H1 := hide h1; clear h1
    go_enter Try.func29, Try.ntmps29
    go_wp2_with (first | (go_at_call 56; refine (specValidLengths0 _ _ _ _ _ hn h).mono ?_; rintro e w' ⟨rfl, rfl⟩; rw [H1.out]) | (go_at_call 60; refine (specEnds _ _ _ _ _ h60 h P1.out).mono ?_; rintro e w' ⟨B, k, d, rfl, hO, hb, hkd⟩))
    go_ret
    rw [eOf, if_pos H1.out]
    exact ⟨B, k, d, rfl, hO, hb, hkd⟩
theorem implEndsOf (A : Option Addr) (n c : Nat) (xs : List Int) (w : World) (hn : n ≤ 1048576) (h : Ints w A n xs) : Calls Try.prog 28 #[.slice A n c] w (RetL (eOf xs) w) := by
  cases h1 : vLen xs
  · have H1 := hide h1; clear h1
    go_enter Try.func28, Try.ntmps28
    go_wp2_with (go_at_call 20; refine (implValidLengths _ _ _ _ _ hn h).mono ?_; rintro e w' ⟨rfl, rfl⟩; rw [H1.out])
    go_ret
    rw [eOf, if_neg (by rw [H1.out]; simp)]
    exact retL_nil (Below.refl _ _)
  · have h60 : n ≤ 1000 := by have := (vLen_true h1).1; rw [h.1] at this; omega
    have HX := hide (vLen_bd h1)
    have H1 := hide h1; clear h1
    have hmk := fun W => run_make_row' (P := Try.prog) 23 3 (.int .i64 0) 8 Try.underlying23 info_int rfl .i64 .i64 n (by omega) (by omega) W
    go_enter Try.func28, Try.ntmps28
    go_wp2_with (go_at_call 20; refine (implValidLengths _ _ _ _ _ hn h).mono ?_; rintro e w' ⟨rfl, rfl⟩; rw [H1.out])
    go_loopw [4, 15] (fun s i wr => ∃ k : Nat, k ≤ n ∧ i = .int .i64 k ∧ s = .int .i64 (tot (xs.take k)) ∧ wr.rowIs w.heap.size 3 n (fun i => if i < k then .int .i64 (nth (endsL xs) i) else .int .i64 0) ∧ Below w.heap.size w wr) (fun _ i _ => n - (intOf i).toNat)
    case atStart => exact ⟨0, by omega, rfl, rfl, (World.rowIs_made w (.int .i64 0) n 3).congr (fun i _ => by simp), (Below.refl _ _).alloc (Nat.le_refl _) _⟩
    case round =>
      obtain ⟨k, hk, rfl, rfl, hrow, hB⟩ := hrel
      clear hmk
      obtain ⟨t1, t2⟩ := tot_pre HX.out (by rw [h.1]; omega) k
      by_cases hlt : k < n
      · have hx : k < xs.length := by rw [h.1]; exact hlt
        obtain ⟨ad, rfl, hb, hc⟩ := (h.below hB).2 k hlt
        obtain ⟨t3, t4⟩ := HX.out _ (nth_mem hx)
        have HK := hide hx; clear hx h
        have c1 := hrow.cell hlt
        have f1 := hrow.frozen k
        go_wp2
        go_roundw
        case rel =>
          refine ⟨k + 1, by omega, by go_num, by rw [tot_take HK.out], (hrow.set k _).congr (fun i _ => ?_), hB.setCell (Nat.le_refl _) _⟩
          by_cases e : i = k
          · subst e; rw [if_pos rfl, if_pos (by omega), endsL_nth HK.out, tot_take HK.out]
          · simp only [if_neg e]
            by_cases h1 : i < k
            · rw [if_pos h1, if_pos (by omega)]
            · rw [if_neg h1, if_neg (by omega)]
        case measure => simp [intOf]; omega
      · have : k = n := by omega
        subst this
        go_wp2
        go_ret
        rw [eOf, if_pos H1.out]
        exact retL_made (by rw [endsL_len, h.1]) hrow (fun i hi => if_pos hi) (Nat.le_refl _) hB
theorem eOf_len (xs : List Int) : (eOf xs).length ≤ xs.length := by unfold eOf; split <;> simp [endsL_len]
def lOf (ps ws : List Int) (s : Int) : List Int := if enoughB ps ws s = true then lOver ps (s + tot ws) else []
theorem lOf_len (ps ws : List Int) (s : Int) : (lOf ps ws s).length ≤ ps.length := by unfold lOf; split; exact lOver_len _ _; simp
/-- what the reference has appended behind k parents -/
def LO (xs : List Int) (g0 : Int) (k : Nat) (g : Int) (ys : List Int) : Prop := lOver xs g0 = ys ++ lOver (xs.drop k) g
theorem LO_step {xs : List Int} {g0 g : Int} {k : Nat} {ys : List Int} (h : LO xs g0 k g ys) (hk : k < xs.length) : LO xs g0 (k + 1) (max 0 (g - nth xs k)) (ys ++ if g < nth xs k then [nth xs k - g] else []) := by
  unfold LO at *
  rw [h, drop_nth hk, lOver, List.append_assoc]
theorem specLeftOver (A B : Option Addr) (n m c d : Nat) (ps ws : List Int) (s : Int) (w : World) (hn : n ≤ 1048576) (hm : m ≤ 1048576) (h : Ints w A n ps) (h' : Ints w B m ws) :
    Calls Try.prog 17 #[.slice A n c, .slice B m d, .int .i64 s] w (RetL (lOf ps ws s) w) := by
  cases h1 : enoughB ps ws s
  · have H1 := hide h1; clear h1
    go_enter Try.func17, Try.ntmps17
    go_wp2_with (go_at_call 52; refine (specEnough _ _ _ _ _ _ _ _ _ _ hn hm h h').mono ?_; rintro e w' ⟨rfl, rfl⟩; rw [H1.out])
    go_ret
    rw [lOf, if_neg (by rw [H1.out]; simp)]
    exact retL_nil (Below.refl _ _)
  obtain ⟨v1, v2, e1, e2⟩ := enough_true h1
  have H1 := hide h1; clear h1
  have b1 := vLen_tot v1
  have b2 := vLen_tot v2
  have h60 : n ≤ 1000 := by have := (vLen_true v1).1; rw [h.1] at this; omega
  have P1 := hide (vLen_bd v1); have P2 := hide (vLen_bd v2); clear v1 v2
  go_enter Try.func17, Try.ntmps17
  go_wp2_with (first | (go_at_call 52; refine (specEnough _ _ _ _ _ _ _ _ _ _ hn hm h h').mono ?_; rintro e w' ⟨rfl, rfl⟩; rw [H1.out]) | (go_at_call 53; refine (specTotal _ _ _ _ _ hm (h'.below ((Below.refl _ _).alloc (Nat.le_refl _) _)) P2.out).mono ?_; rintro e w' ⟨rfl, rfl⟩))
  go_loopw [7, 8, 9] (fun v g i wr => ∃ (k : Nat) (ys : List Int) (x : Int), k ≤ n ∧ i = .int .i64 k ∧ 0 ≤ x ∧ x ≤ 100000 ∧ g = .int .i64 x ∧ ys.length ≤ k ∧ LO ps (s + tot ws) k x ys ∧ wr.ownsRow w.heap.size 3 1 v ys.length (ys.map (.int .i64)) ∧ Below w.heap.size w wr) (fun _ _ i _ => n - (intOf i).toNat)
  case atStart => exact ⟨0, [], s + tot ws, by omega, rfl, by omega, by omega, rfl, by simp, by simp [LO], own_empty_row (Nat.le_refl _), by go_grown⟩
  case round =>
    obtain ⟨k, ys, x, hk, rfl, hx0, hx1, rfl, hy, hL, hown, hB⟩ := hrel
    by_cases hlt : k < n
    · have hx : k < ps.length := by rw [h.1]; exact hlt
      obtain ⟨ad, rfl, hb, hc⟩ := (h.below hB).2 k hlt
      obtain ⟨t3, t4⟩ := P1.out _ (nth_mem hx)
      have hL' := hide (LO_step hL hx)
      by_cases hg : x < nth ps k
      · have hc2 : ∀ w1 : World, Below w.heap.size wr w1 → w1.cell? (ad.add k) = some (.int .i64 (nth ps k)) := fun w1 hb1 => by
          have hz := ((h.below (hB.trans hb1)).2 k hlt)
          obtain ⟨ad', e, _, hc'⟩ := hz
          injection e with e; subst e; exact hc'
        have HC := hide hc2
        clear hx h hL hc2
        go_wp2_with (at_builtin; refine wpList_app1 rfl _ _ _ rfl w.heap.size _ Try.underlying23 info_int _ _ _ _ _ (by rfl) (by rfl) hown (by omega) hB.size ?_; intro v' w1 hown' hb'; have hcc := HC.out w1 hb')
        go_roundw
        case rel =>
          have h2 := hL'.out
          rw [if_pos hg] at h2
          exact ⟨k + 1, _, max 0 (x - nth ps k), by omega, by go_num, by omega, by omega, by rw [show max 0 (x - nth ps k) = 0 by omega], by simp; omega, h2, by simpa using hown', hB.trans hb'⟩
        case measure => simp [intOf]; omega
      · have hg' : nth ps k ≤ x := by omega
        clear hx h hL
        go_wp2
        go_roundw
        case rel =>
          have h2 := hL'.out
          rw [if_neg (by omega), List.append_nil] at h2
          exact ⟨k + 1, ys, max 0 (x - nth ps k), by omega, by go_num, by omega, by omega, by rw [show max 0 (x - nth ps k) = x - nth ps k by omega]; congr 1; split <;> omega, by omega, h2, hown, hB⟩
        case measure => simp [intOf]; omega
    · have : k = n := by omega
      subst this
      go_wp2
      go_ret
      rw [lOf, if_pos H1.out, show lOver ps (s + tot ws) = ys by rw [show lOver ps (s + tot ws) = _ from hL, List.drop_of_length_le (by rw [h.1]; exact Nat.le_refl _)]; simp [lOver]]
      exact retL_row hown hB
theorem implLeftOver (A B : Option Addr) (n m c d : Nat) (ps ws : List Int) (s : Int) (w : World) (hn : n ≤ 1048576) (hm : m ≤ 1048576) (h : Ints w A n ps) (h' : Ints w B m ws) :
    Calls Try.prog 15 #[.slice A n c, .slice B m d, .int .i64 s] w (RetL (lOf ps ws s) w) := by
  cases h1 : enoughB ps ws s
  · have H1 := hide h1; clear h1
    go_enter Try.func15, Try.ntmps15
    go_wp2_with (go_at_call 49; refine (implEnough _ _ _ _ _ _ _ _ _ _ hn hm h h').mono ?_; rintro e w' ⟨rfl, rfl⟩; rw [H1.out])
    go_ret
    rw [lOf, if_neg (by rw [H1.out]; simp)]
    exact retL_nil (Below.refl _ _)
  obtain ⟨v1, v2, e1, e2⟩ := enough_true h1
  have H1 := hide h1; clear h1
  have b1 := vLen_tot v1
  have b2 := vLen_tot v2
  have h60 : n ≤ 1000 := by have := (vLen_true v1).1; rw [h.1] at this; omega
  have hlo := hide (lOver_pOn (fun x hx => ((vLen_true v1).2 x hx).1) (s + tot ws) (by omega))
  have P1 := hide (vLen_bd v1); have P2 := hide (vLen_bd v2); clear v1 v2
  obtain ⟨q1, q2⟩ := pOn_bd P1.out (a := s + tot ws) (by omega)
  obtain ⟨q3, q4⟩ := q2
  obtain ⟨k0, hk0⟩ : ∃ k0, k0 = (pOn ps (s + tot ws)).1 := ⟨_, rfl⟩
  obtain ⟨f0, hf0⟩ : ∃ f0, f0 = (pOn ps (s + tot ws)).2 := ⟨_, rfl⟩
  rw [← hk0] at q1
  rw [← hf0] at q3 q4
  rw [h.1] at q1
  have hlo' : lOver ps (s + tot ws) = less1 (ps.drop k0) f0 := by rw [hk0, hf0]; exact hlo.out
  have HL := hide hlo'; clear hlo hlo'
  have HK0 := hide hk0; have HF0 := hide hf0; clear hk0 hf0
  go_enter Try.func15, Try.ntmps15
  go_wp2_with (first | (go_at_call 49; refine (implEnough _ _ _ _ _ _ _ _ _ _ hn hm h h').mono ?_; rintro e w' ⟨rfl, rfl⟩; rw [H1.out]) | (go_at_call 51; refine (implSumOf _ _ _ _ _ hm h' P2.out).mono ?_; rintro e w' ⟨rfl, rfl⟩) | (go_at_call 50; refine (placeOn_any _ _ _ _ _ _ hn h P1.out (by omega) (by omega)).mono ?_; rintro e w' ⟨rfl, rfl⟩; rw [← HK0.out, ← HF0.out]))
  go_loopw [7, 8, 9] (fun i f v wr => ∃ (k : Nat) (ys : List Int) (x : Int), k ≤ n ∧ i = .int .i64 k ∧ 0 ≤ x ∧ x ≤ 100000 ∧ f = .int .i64 x ∧ ys.length ≤ k ∧ less1 (ps.drop k0) f0 = ys ++ less1 (ps.drop k) x ∧ wr.ownsRow w.heap.size 3 1 v ys.length (ys.map (.int .i64)) ∧ Below w.heap.size w wr) (fun i _ _ _ => n - (intOf i).toNat)
  case atStart => exact ⟨k0, [], f0, q1, rfl, by omega, by omega, rfl, by simp, by simp, own_nil_row _ _, Below.refl _ _⟩
  case round =>
    obtain ⟨k, ys, x, hk, rfl, hx0, hx1, rfl, hy, hL, hown, hB⟩ := hrel
    by_cases hlt : k < n
    · have hx : k < ps.length := by rw [h.1]; exact hlt
      obtain ⟨ad, rfl, hb, hc⟩ := (h.below hB).2 k hlt
      obtain ⟨t3, t4⟩ := P1.out _ (nth_mem hx)
      have hL' : less1 (ps.drop k0) f0 = (ys ++ [nth ps k - x]) ++ less1 (ps.drop (k + 1)) 0 := by
        rw [hL, drop_nth hx, List.append_assoc]
        congr 1
        cases ps.drop (k + 1) <;> simp [less1]
      have HL' := hide hL'
      clear hx h hL hL'
      go_wp2_with (at_builtin; refine wpList_app1 rfl _ _ _ rfl w.heap.size _ Try.underlying23 info_int _ _ _ _ _ (by rfl) (by rfl) hown (by omega) hB.size ?_; intro v' w1 hown' hb')
      go_roundw
      case rel => exact ⟨k + 1, _, 0, by omega, by go_num, by omega, by omega, rfl, by simp; omega, HL'.out, by simpa using hown', hB.trans hb'⟩
      case measure => simp [intOf]; omega
    · have : k = n := by omega
      subst this
      go_wp2
      go_ret
      rw [lOf, if_pos H1.out, HL.out, hL, List.drop_of_length_le (by rw [h.1]; exact Nat.le_refl _)]
      simp only [less1, List.append_nil]
      exact retL_row hown hB
end Go.Proofs.Ytkmogpeiolkpbaa
