/- Contracts of the program's BestSkip. -/
import Derived.Test.YtagnliolaghehaaInt4
import Derived.Test.YtagnliolaghehaaPlS
namespace Go.Proofs.Ytagnliolaghehaa
open Go.RowKit
set_option linter.unusedVariables false
set_option maxRecDepth 100000
theorem info_bool : (Try.prog.info? 4).map (fun i => (i.zero, i.size, i.bytes)) = some (some (.bool false), 1, 1) := by kernel_rfl
/-- neither a beginning nor an end, told for one place -/
def inV (ws : List Int) (k : Nat) (i : Nat) : Bool := decide (0 < i) && !isEk ws k i
theorem inV_succ {ws : List Int} {k c : Nat} (hc : tot (ws.take (k + 1)) = c) (i : Nat) : inV ws (k + 1) i = if i = c then false else inV ws k i := by
  have e : isEk ws (k + 1) i = (isEk ws k i || decide (tot (ws.take (k + 1)) = (i : Int))) := by simp [isEk, List.range_succ]
  rw [inV, e, hc]
  by_cases h : i = c
  · subst h; simp
  · have h2 : ¬ (c : Int) = i := by omega
    simp [inV, h, h2]
theorem nth_ends {ws : List Int} {k : Nat} (hw : ∀ x ∈ ws, 1 ≤ x) (hk : k < ws.length) : ∃ c : Nat, nth (endsL ws) k = c ∧ tot (ws.take (k + 1)) = c ∧ (c : Int) ≤ tot ws := by
  have h1 := take_pos hw (i := k + 1) (by omega)
  have h2 := take_le hw (i := k + 1) (by omega)
  obtain ⟨c, hc⟩ := Int.eq_ofNat_of_zero_le h1
  exact ⟨c, by rw [endsL_nth hk, hc], hc, by omega⟩
theorem gB_in {ws : List Int} {x : Nat} (hx : 0 < x) (hT : (x : Int) ≤ tot ws) : gB ws x = inV ws ws.length x := by
  by_cases h : (x : Int) < tot ws
  · have h0 : (0 : Int) < x := by omega
    simp [gB, inV, isEn, h, hx]
  · have e : (x : Int) = tot ws := by omega
    have hl : 0 < ws.length := by
      rcases Nat.eq_zero_or_pos ws.length with q | q
      · rw [List.length_eq_zero_iff.1 q, tot_nil] at hT; omega
      · exact q
    have h1 : isEk ws ws.length x = true := isEk_iff.2 ⟨ws.length - 1, by omega, by rw [tot_full (by omega), e]⟩
    simp [gB, inV, h, h1]
theorem insideRolls_any (A : Option Addr) (n c T : Nat) (ws : List Int) (w : World) (hn : n ≤ 1048576) (h : Ints w A n ws) (hv : vLen ws = true) (hT : tot ws = T) :
    Calls Try.prog 13 #[.slice A n c] w fun e w' => e = .returned (.slice (some ⟨w.heap.size, 0, none⟩) (T + 1) (T + 1)) ∧ w'.rowIs w.heap.size 4 (T + 1) (fun i => .bool (inV ws ws.length i)) ∧ Below w.heap.size w w' := by
  have b := vLen_tot hv
  have hw : ∀ x ∈ ws, 1 ≤ x := fun x hx => ((vLen_true hv).2 x hx).1
  have hl := h.1
  have HW := hide hw; have HV := hide hv; have P := hide (vLen_bd hv); have HT := hide hT; have HL := hide hl
  have hT2 : T ≤ 24000 := by omega
  clear hw hv hT b hl
  have hmk := fun W => run_make_row' (P := Try.prog) 29 4 (.bool false) 1 Try.underlying29 info_bool rfl .i64 .i64 (T + 1) (by omega) (by omega) W
  simp only [Int.natCast_add, Int.natCast_one] at hmk
  go_enter Try.func13, Try.ntmps13
  go_wp2_with (go_at_call 14; refine (implSumOf _ _ _ _ _ hn h P.out).mono ?_; rintro e w' ⟨rfl, rfl⟩; rw [HT.out])
  go_loopw [13] (fun i wr => ∃ k : Nat, k ≤ T + 1 ∧ i = .int .i64 k ∧ wr.rowIs w.heap.size 4 (T + 1) (fun i => .bool (decide (i < k) && decide (0 < i))) ∧ Below w.heap.size w wr) (fun i _ => T + 1 - (intOf i).toNat)
  case atStart => exact ⟨0, by omega, rfl, (World.rowIs_made w (.bool false) (T + 1) 4).congr (fun i _ => by simp), (Below.refl _ _).alloc (Nat.le_refl _) _⟩
  case round =>
    obtain ⟨k, hk, rfl, hrow, hB⟩ := hrel
    clear hmk
    by_cases hlt : k < T + 1
    · have c1 := hrow.cell hlt
      have f1 := hrow.frozen k
      have hkI : (k : Int) < (T : Int) + 1 := by omega
      go_wp2
      go_roundw
      case rel =>
        refine ⟨k + 1, by omega, by go_num, (hrow.set k _).congr (fun i _ => ?_), hB.setCell (Nat.le_refl _) _⟩
        by_cases e : i = k
        · subst e; simp
        · simp only [if_neg e]
          by_cases h1 : i < k
          · rw [decide_eq_true h1, decide_eq_true (show i < k + 1 by omega)]
          · rw [decide_eq_false h1, decide_eq_false (show ¬ i < k + 1 by omega)]
      case measure => simp [intOf]; omega
    · have hke : k = T + 1 := by omega
      subst hke
      have hI := h.below hB
      have HB := hide hB; have HI := hide hI; have HR := hide (hrow.congr (g := fun i => .bool (inV ws 0 i)) (fun i hi => by simp [hi, inV, isEk]))
      clear hrow hB hI h
      go_wp2_with fail
      refine (implEndsOf _ _ _ _ _ hn HI.out).mono ?_; rintro e w1 ⟨B, kb, d, rfl, hO, hb, hkd⟩
      rw [eOf, if_pos HV.out] at hO
      obtain rfl : n = kb := by have h1 := hO.1; rw [endsL_len] at h1; have h2 := HL.out; omega
      have HO := hide hO; have R1 := hide (rowIs_call HR.out hb); have B1 := hide (below_then HB.out hb)
      have hs : w.heap.size < wr.heap.size := HR.out.lt
      clear hO hb hkd HI HR HB
      go_wp2_with fail
      go_loopw [25] (fun i w2 => ∃ k : Nat, k ≤ n ∧ i = .int .i64 k ∧ w2.rowIs w.heap.size 4 (T + 1) (fun i => .bool (inV ws k i)) ∧ Hid (Own w2 wr.heap.size w1.heap.size B n (endsL ws)) ∧ Hid (Below w.heap.size w w2)) (fun i _ => n - (intOf i).toNat)
      case atStart => exact ⟨0, by omega, rfl, R1.out, HO, B1⟩
      case round =>
        clear HO R1 B1
        obtain ⟨k, hk, rfl, hrow, hO, hB⟩ := hrel
        by_cases hlt : k < n
        · have hlx := HL.out
          obtain ⟨ce, e1, e2, e3⟩ := nth_ends HW.out (k := k) (by omega)
          rw [HT.out] at e3
          have HE := hide e2
          obtain ⟨ad, rfl, hb, hc⟩ := hO.out.ints.2 k hlt
          rw [e1] at hc
          have c1 := hrow.cell (i := ce) (by omega)
          have f1 := hrow.frozen ce
          have hc2 : (ce : Int) < (T : Int) + 1 := by omega
          clear hlx e1 e2
          go_wp2
          go_roundw
          case rel =>
            refine ⟨k + 1, by omega, by go_num, (hrow.set ce _).congr (fun i _ => ?_), hide (hO.out.keep (by simp [World.setCell]) fun b h1 h2 => Below.heap_setCell _ _ _ _ (by simp; omega)), hide (hB.out.setCell (Nat.le_refl _) _)⟩
            rw [inV_succ HE.out]
            split <;> rfl
          case measure => simp [intOf]; omega
        · have : k = n := by omega
          subst this
          go_wp2
          go_ret
          exact ⟨rfl, by have hl := HL.out; subst hl; exact hrow, hB.out⟩
end Go.Proofs.Ytagnliolaghehaa
