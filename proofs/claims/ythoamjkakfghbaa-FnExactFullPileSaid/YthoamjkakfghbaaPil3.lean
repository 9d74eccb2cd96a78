/- Contracts of chapter 6: the laws' copies of piles; where a roll is. -/
import Derived.Test.YthoamjkakfghbaaPil2
namespace Go.Proofs.Ythoamjkakfghbaa
open Go.RowKit
set_option linter.unusedVariables false
set_option maxRecDepth 100000
theorem info_intsP : (Try.prog.info? 22).map (fun i => (i.zero, i.size, i.bytes)) = some (some (.slice none 0 0), 1, 24) := by kernel_rfl
/-- the lengths of the rows are lengths -/
def Lens (xss : List (List Int)) : Prop := ∀ k, k < xss.length → ((nthL xss k).length : Int) ≤ 9223372036854775807
theorem szIntS_any (A : Option Addr) (n c : Nat) (x : Int) (w : World) (hn : (n : Int) ≤ 9223372036854775807) (h0 : 0 ≤ x) (h1 : x ≤ 1048576) :
    Calls Try.prog 61 #[.slice A n c, .int .i64 x] w fun e w' => e = .returned (.int .i64 (if (n : Int) ≤ x then x - (n : Int) else -1)) ∧ w = w' := by
  by_cases h : (n : Int) ≤ x
  · rw [if_pos h]
    go_enter Try.func61, Try.ntmps61
    go_wp2
    go_ret
    exact ⟨rfl, rfl⟩
  · rw [if_neg h]
    have h2 : IntKind.i64.wrap (x - (n : Int)) = x - (n : Int) := IntWalk.i64_in _ ⟨by omega, by omega⟩
    have h3 : x - (n : Int) < 0 := by omega
    clear h
    go_enter Try.func61, Try.ntmps61
    go_wp2
    go_ret
    exact ⟨rfl, rfl⟩
theorem flat_step {xss : List (List Int)} {k : Nat} (h : k < xss.length) : ((xss.take (k + 1)).flatten.length) = (xss.take k).flatten.length + (nthL xss k).length := by
  rw [takeL_nth h, List.flatten_append]; simp
theorem flat_mono {xss : List (List Int)} {k : Nat} (h : k < xss.length) : (xss.take k).flatten.length + (nthL xss k).length ≤ xss.flatten.length := flatten_take_le xss k h
/-- what the measure of a pile gives -/
def sz (n : Nat) (xss : List (List Int)) : Int := if (n : Int) + xss.flatten.length ≤ 1048576 then 1048576 - ((n : Int) + xss.flatten.length) else -1
set_option maxHeartbeats 1000000 in
theorem szIntSS_any (A : Option Addr) (n c : Nat) (xss : List (List Int)) (w : World) (hn : (n : Int) ≤ 9223372036854775807) (h : Rows2 w A n xss) (hl : Lens xss) :
    Calls Try.prog 29 #[.slice A n c, .int .i64 1048576] w fun e w' => e = .returned (.int .i64 (sz n xss)) ∧ w = w' := by
  have HL := hide h.1
  have HLN := hide hl; clear hl
  by_cases h1 : (1048576 : Int) < n
  · have HD : Hid (sz n xss = -1) := hide (if_neg (by omega))
    have h2 : IntKind.i64.wrap (1048576 - (n : Int)) = 1048576 - (n : Int) := IntWalk.i64_in _ ⟨by omega, by omega⟩
    have h3 : 1048576 - (n : Int) < 0 := by omega
    clear h
    go_enter Try.func29, Try.ntmps29
    go_wp2
    go_ret
    exact ⟨ret_int HD.out.symm, rfl⟩
  have h1' : (n : Int) ≤ 1048576 := by omega
  clear h1
  have HH := hide h; clear h
  go_enter Try.func29, Try.ntmps29
  go_wp2
  go_loop [1, 5] (fun x i => ∃ (k : Nat) (y : Int), k ≤ n ∧ i = .int .i64 k ∧ x = .int .i64 y ∧ 0 ≤ y ∧ y ≤ 1048576 ∧ Hid (y + ((n : Int) + (xss.take k).flatten.length) = 1048576)) (fun _ i => n - (intOf i).toNat)
  case atStart => exact ⟨0, 1048576 - (n : Int), by omega, rfl, rfl, by omega, by omega, hide (by first | (simp; done) | (simp; omega))⟩
  case round =>
    obtain ⟨k, y, hk, rfl, rfl, hy0, hy1, hS⟩ := hrel
    by_cases hlt : k < n
    · have HKL := hide (show k < xss.length by rw [HL.out]; exact hlt)
      obtain ⟨ad, B, m, c', rfl, hb, hc, hI, hmc, hlen⟩ := HH.out.row hlt
      have hm : (m : Int) ≤ 9223372036854775807 := by have := HLN.out k HKL.out; rw [hlen] at this; exact this
      have HST := hide (flat_step HKL.out); rw [hlen] at HST
      have HMO := hide (flat_mono HKL.out); rw [hlen] at HMO
      clear hI hlen hb hmc
      by_cases hle : (m : Int) ≤ y
      · have HZ := hide (fun W => szIntS_any B m c' y W hm hy0 hy1)
        rw [if_pos hle] at HZ
        go_wp2_with (go_at_call 61; refine (HZ.out _).mono ?_; rintro e w' ⟨rfl, rfl⟩)
        go_round
        case rel => exact ⟨k + 1, y - m, by omega, by go_num, rfl, by omega, by omega, hide (by have := hS.out; rw [HST.out]; omega)⟩
        case measure => simp [intOf]; omega
      · have HZ := hide (fun W => szIntS_any B m c' y W hm hy0 hy1)
        rw [if_neg hle] at HZ
        have HD : Hid (sz n xss = -1) := hide (if_neg (by have := hS.out; have := HMO.out; omega))
        clear hle
        go_wp2_with (go_at_call 61; refine (HZ.out _).mono ?_; rintro e w' ⟨rfl, rfl⟩)
        go_ret
        exact ⟨ret_int HD.out.symm, rfl⟩
    · have : k = n := by omega
      subst this
      have HD : Hid (sz k xss = y) := hide (by have := hS.out; rw [List.take_of_length_le (by rw [HL.out]; exact Nat.le_refl _)] at this; unfold sz; rw [if_pos (by omega)]; omega)
      go_wp2
      go_ret
      exact ⟨ret_int HD.out.symm, rfl⟩
theorem RowsV.put {w : World} {T T2 : TypeId} {vals : List Value} {xss : List (List Int)} (h : RowsV w T vals xss) {b n : Nat} {f : Nat → Value} (hb : w.rowIs b T2 n f) (hne : T ≠ T2) (i : Nat) (v : Value) : RowsV (w.setCell ⟨b, i, none⟩ v) T vals xss :=
  h.keep fun g cs hh => Below.heap_setCell _ _ _ _ (fun e => by
    obtain ⟨c, hc, _, _⟩ := hb
    have e' : g = b := e
    subst e'
    rw [hh] at hc
    injection hc with hc
    injection hc with _ hc
    exact hne hc)
set_option maxHeartbeats 1000000 in
theorem toIntSS_ret (A : Option Addr) (n c : Nat) (xss : List (List Int)) (w : World) (hn : n ≤ 1048576) (hfl : xss.flatten.length ≤ 1048576) (h : Rows2 w A n xss) : Calls Try.prog 31 #[.slice A n c] w (RetLL xss w) := by
  have hmk := fun W => run_make_row' (P := Try.prog) 45 22 (.slice none 0 0) 24 Try.underlying45 info_intsP rfl .i64 .i64 n (by omega) (by omega) W
  have HL := hide h.1
  have HFL := hide hfl
  have HH := hide h; clear h hfl
  go_enter Try.func31, Try.ntmps31
  go_wp2
  clear hmk
  go_loopw [4] (fun i wr => ∃ (k : Nat) (vals : List Value), k ≤ n ∧ i = .int .i64 k ∧ Hid (vals.length = k) ∧ Hid (wr.rowIs w.heap.size 22 n (fun r => (vals[r]?).getD (.slice none 0 0))) ∧ Hid (RowsV wr 3 vals (xss.take k)) ∧ Hid (Below w.heap.size w wr)) (fun i _ => n - (intOf i).toNat)
  case atStart => exact ⟨0, [], by omega, rfl, hide rfl, hide ((World.rowIs_made w (.slice none 0 0) n 22).congr (fun i _ => by simp)), hide RowsV.nil, hide (by go_grown)⟩
  case round =>
    obtain ⟨k, vals, hk, rfl, hvl, hrow, hrv, hB⟩ := hrel
    by_cases hlt : k < n
    · have HKL := hide (show k < xss.length by rw [HL.out]; exact hlt)
      obtain ⟨ad, B, m, c', rfl, hb, hc, hI, hmc, hlen⟩ := (HH.out.below hB.out).row hlt
      have hm : m ≤ 1048576 := by have h1 := row_le HKL.out; have h2 := HFL.out; omega
      have HI := hide hI; clear hI hlen hb hmc
      go_wp2_with fail
      refine (toIntS_any B m c' (nthL xss k) _ hm HI.out).mono ?_; rintro e wx ⟨rfl, hr, hbx⟩
      have HR := hide (hrow.out.of_block (hbx.block w.heap.size hrow.out.lt))
      have BX := hide (below_then hB.out hbx)
      have HV := hide ((hrv.out.below hbx).snoc (IntRow.of_row HI.out.1 hr (fun i _ => rfl)) (Nat.le_refl m))
      have o0 := HR.out.cell hlt
      have z0 := HR.out.frozen k
      clear hr hbx hc
      go_wp2_with fail
      go_roundw
      case rel =>
        refine ⟨k + 1, vals ++ [.slice (some ⟨wr.heap.size, 0, none⟩) m m], by omega, by go_num, hide (by simp [hvl.out]), hide ((HR.out.set k _).congr (fun i _ => ?_)), hide ?_, hide (BX.out.setCell (Nat.le_refl _) _)⟩
        · have hv := hvl.out
          by_cases e : i = k
          · subst e; simp [← hv]
          · rw [if_neg e]
            by_cases h1 : i < k
            · rw [List.getElem?_append_left (by omega)]
            · rw [List.getElem?_eq_none (by omega), List.getElem?_eq_none (by simp; omega)]
        · rw [takeL_nth HKL.out]
          exact HV.out.put HR.out (by decide) k _
      case measure => simp [intOf]; omega
    · have : k = n := by omega
      subst this
      have HT : Hid (xss.take k = xss) := hide (List.take_of_length_le (by rw [HL.out]; exact Nat.le_refl _))
      go_wp2
      go_ret
      exact retLL_made hvl.out hrow.out (by have := hrv.out; rw [HT.out] at this; exact this) hB.out
set_option maxHeartbeats 1000000 in
theorem eqIntSS_b (A B : Option Addr) (n c d : Nat) (xss : List (List Int)) (w : World) (hn : n ≤ 1048576) (hfl : xss.flatten.length ≤ 1048576) (h : Rows2 w A n xss) (h' : Rows2 w B n xss) :
    Calls Try.prog 33 #[.slice A n c, .slice B n d] w fun e w' => e = .returned (.bool true) ∧ Below w.heap.size w w' := by
  have HL := hide h.1
  have HFL := hide hfl
  have HH := hide h; have HK := hide h'; clear h h' hfl
  go_enter Try.func33, Try.ntmps33
  go_wp2
  go_loopw [5] (fun i wr => ∃ k : Nat, k ≤ n ∧ i = .int .i64 k ∧ Hid (Below w.heap.size w wr)) (fun i _ => n - (intOf i).toNat)
  case atStart => exact ⟨0, by omega, rfl, hide (Below.refl _ _)⟩
  case round =>
    obtain ⟨k, hk, rfl, hB⟩ := hrel
    by_cases hlt : k < n
    · have HKL := hide (show k < xss.length by rw [HL.out]; exact hlt)
      obtain ⟨a1, B1, m1, c1, rfl, hb1, hc1, hI1, hmc1, hlen1⟩ := (HH.out.below hB.out).row hlt
      obtain ⟨a2, B2, m2, c2, rfl, hb2, hc2, hI2, hmc2, hlen2⟩ := (HK.out.below hB.out).row hlt
      obtain rfl : m1 = m2 := hlen1.symm.trans hlen2
      have hm : m1 ≤ 1048576 := by have h1 := row_le HKL.out; have h2 := HFL.out; omega
      have HI1 := hide hI1; have HI2 := hide hI2
      clear hI1 hI2 hlen1 hlen2 hmc1 hmc2 hb1 hb2
      go_wp2_with fail
      first | (go_region_with (first | (go_at_call 14; refine (eqIntS_b B1 B2 m1 c1 c2 (nthL xss k) _ hm (by first | exact HI1.out | exact HI1.out.drewN 1) (by first | exact HI2.out | exact HI2.out.drewN 1)).mono ?_; rintro e wx ⟨rfl, hbx⟩; have Bx : Hid (Below w.heap.size w wx) := (by first | exact below_then (below_drewN hB.out 1) hbx | exact below_then hB.out hbx); clear hc1 hc2 hbx))) | fail
      go_wp2_with fail
      all_goals go_roundw
      all_goals first
        | (case rel => exact ⟨k + 1, by omega, by go_num, Bx⟩)
        | (case measure => simp [intOf]; omega)
    · have : k = n := by omega
      subst this
      go_wp2
      go_ret
      exact ⟨rfl, hB.out⟩
def fdA : List (List Int) → Int → Nat → Int × Int
  | [], _, _ => (-1, -1)
  | xs :: r, y, k => if 0 ≤ pIn xs y then ((k : Int), pIn xs y) else fdA r y (k + 1)
/-- the row and the place of a label -/
def fd (xss : List (List Int)) (y : Int) : Int × Int := fdA xss y 0
theorem fd_step {xss : List (List Int)} {y : Int} {k : Nat} (h : fd xss y = fdA (xss.drop k) y k) (hk : k < xss.length) (hn : pIn (nthL xss k) y < 0) : fd xss y = fdA (xss.drop (k + 1)) y (k + 1) := by
  rw [h, dropL_nth hk, fdA, if_neg (by omega)]
theorem fd_hit {xss : List (List Int)} {y : Int} {k : Nat} (h : fd xss y = fdA (xss.drop k) y k) (hk : k < xss.length) (hn : 0 ≤ pIn (nthL xss k) y) : fd xss y = ((k : Int), pIn (nthL xss k) y) := by
  rw [h, dropL_nth hk, fdA, if_pos hn]
theorem fd_end {xss : List (List Int)} {y : Int} {k : Nat} (h : fd xss y = fdA (xss.drop k) y k) (hk : xss.length ≤ k) : fd xss y = (-1, -1) := by
  rw [h, List.drop_of_length_le hk, fdA]
def pr (p : Int × Int) : Value := .tuple #[.int .i64 p.1, .int .i64 p.2]
theorem pr_mk {p : Int × Int} {a b : Int} (h : p = (a, b)) : Ending.returned (.tuple #[.int .i64 a, .int .i64 b]) = .returned (pr p) := by subst h; rfl
set_option maxHeartbeats 1000000 in
theorem find_any (A : Option Addr) (n c : Nat) (xss : List (List Int)) (y : Int) (w : World) (hn : n ≤ 1048576) (hfl : xss.flatten.length ≤ 1048576) (h : Rows2 w A n xss) :
    Calls Try.prog 66 #[.slice A n c, .int .i64 y] w fun e w' => e = .returned (pr (fd xss y)) ∧ w = w' := by
  have HL := hide h.1
  have HFL := hide hfl
  have HH := hide h; clear h hfl
  go_enter Try.func66, Try.ntmps66
  go_wp2
  go_loop [6, 7] (fun i _ => ∃ k : Nat, k ≤ n ∧ i = .int .i64 k ∧ Hid (fd xss y = fdA (xss.drop k) y k)) (fun i _ => n - (intOf i).toNat)
  case atStart => exact ⟨0, by omega, rfl, hide rfl⟩
  case round =>
    obtain ⟨k, hk, rfl, hF⟩ := hrel
    by_cases hlt : k < n
    · have HKL := hide (show k < xss.length by rw [HL.out]; exact hlt)
      obtain ⟨ad, B, m, c', rfl, hb, hc, hI, hmc, hlen⟩ := HH.out.row hlt
      have hm : m ≤ 1048576 := by have h1 := row_le HKL.out; have h2 := HFL.out; omega
      have HI := hide hI; clear hI hlen hb hmc
      obtain ⟨P, hP⟩ : ∃ P, pIn (nthL xss k) y = P := ⟨_, rfl⟩
      have HP := hide hP; clear hP
      by_cases hp : 0 ≤ P
      · have HD := hide (fd_hit hF.out HKL.out (by rw [HP.out]; exact hp))
        rw [HP.out] at HD
        go_wp2_with (go_at_call 75; refine (placeIn_any _ _ _ _ _ _ hm HI.out).mono ?_; rintro e w' ⟨rfl, rfl⟩; rw [HP.out])
        go_ret2
        exact ⟨pr_mk HD.out, rfl⟩
      · have hp' : P < 0 := by omega
        have HD := hide (fd_step hF.out HKL.out (by rw [HP.out]; exact hp'))
        clear hp
        go_wp2_with (go_at_call 75; refine (placeIn_any _ _ _ _ _ _ hm HI.out).mono ?_; rintro e w' ⟨rfl, rfl⟩; rw [HP.out])
        go_round
        case rel => exact ⟨k + 1, by omega, by go_num, HD⟩
        case measure => simp [intOf]; omega
    · have : k = n := by omega
      subst this
      have HD := hide (fd_end hF.out (by rw [HL.out]; exact Nat.le_refl _))
      go_wp2
      go_ret2
      exact ⟨pr_mk HD.out, rfl⟩
/-- what FindRoll gives -/
def fr (xss : List (List Int)) (y : Int) : Int × Int := if vp xss = true ∧ 1 ≤ y ∧ y ≤ 9999 then fd xss y else (-1, -1)
theorem fr_no {xss : List (List Int)} {y : Int} (h : vp xss = false ∨ y < 1 ∨ 9999 < y) : fr xss y = (-1, -1) := if_neg (by rintro ⟨a, b, c⟩; rcases h with h | h | h; (rw [h] at a; cases a); omega; omega)
theorem fr_yes {xss : List (List Int)} {y : Int} (h : vp xss = true) (h1 : 1 ≤ y) (h2 : y ≤ 9999) : fr xss y = fd xss y := if_pos ⟨h, h1, h2⟩
set_option maxHeartbeats 1000000 in
theorem specFindRoll (A : Option Addr) (n c : Nat) (xss : List (List Int)) (y : Int) (w : World) (hn : n ≤ 1048576) (hfl : xss.flatten.length ≤ 1048576) (h : Rows2 w A n xss) :
    Calls Try.prog 34 #[.slice A n c, .int .i64 y] w fun e w' => e = .returned (pr (fr xss y)) ∧ Below w.heap.size w w' := by
  have HH := hide h; clear h
  cases hv : vp xss
  · have HV := hide hv
    have HD := hide (fr_no (y := y) (.inl hv)); clear hv
    go_enter Try.func34, Try.ntmps34
    go_wp2_with fail
    refine (specValidPile0 _ _ _ xss _ hn hfl HH.out).mono ?_; rintro e w1 ⟨rfl, hb⟩; rw [HV.out]
    go_wp2_with fail
    go_ret2
    exact ⟨pr_mk HD.out, hb⟩
  · have HV := hide hv
    by_cases h1 : y < 1
    · have HD := hide (fr_no (xss := xss) (y := y) (.inr (.inl h1))); clear hv
      have hd1 : decide (1 ≤ y) = false := decide_eq_false (by omega)
      have hd2 : decide (1 ≤ y ∧ y ≤ 9999) = false := decide_eq_false (by omega)
      go_enter Try.func34, Try.ntmps34
      go_wp2_with fail
      refine (specValidPile0 _ _ _ xss _ hn hfl HH.out).mono ?_; rintro e w1 ⟨rfl, hb⟩; rw [HV.out]
      go_wp2_with (go_at_call 65; refine (inRange_any _ _ _ _).mono ?_; rintro e w' ⟨rfl, rfl⟩)
      go_ret2
      exact ⟨pr_mk HD.out, hb⟩
    have h1' : 1 ≤ y := by omega
    clear h1
    by_cases h2 : 9999 < y
    · have HD := hide (fr_no (xss := xss) (y := y) (.inr (.inr h2))); clear hv
      have hd1 : decide (y ≤ 9999) = false := decide_eq_false (by omega)
      have hd2 : decide (1 ≤ y ∧ y ≤ 9999) = false := decide_eq_false (by omega)
      go_enter Try.func34, Try.ntmps34
      go_wp2_with fail
      refine (specValidPile0 _ _ _ xss _ hn hfl HH.out).mono ?_; rintro e w1 ⟨rfl, hb⟩; rw [HV.out]
      go_wp2_with (go_at_call 65; refine (inRange_any _ _ _ _).mono ?_; rintro e w' ⟨rfl, rfl⟩)
      go_ret2
      exact ⟨pr_mk HD.out, hb⟩
    have h2' : y ≤ 9999 := by omega
    clear h2
    have HD := hide (fr_yes (xss := xss) (y := y) hv h1' h2'); clear hv
    obtain ⟨p, hp⟩ : ∃ p, fd xss y = p := ⟨_, rfl⟩
    have HP := hide hp; clear hp
    rw [HP.out] at HD
    obtain ⟨p1, p2⟩ := p
    go_enter Try.func34, Try.ntmps34
    go_wp2_with fail
    refine (specValidPile0 _ _ _ xss _ hn hfl HH.out).mono ?_; rintro e w1 ⟨rfl, hb⟩; rw [HV.out]
    go_wp2_with (first
      | (go_at_call 65; refine (inRange_any _ _ _ _).mono ?_; rintro e w' ⟨rfl, rfl⟩)
      | (go_at_call 66; refine (find_any _ _ _ xss _ _ hn hfl (HH.out.below hb)).mono ?_; rintro e w' ⟨rfl, rfl⟩; rw [HP.out]; unfold pr; dsimp only))
    go_ret2
    exact ⟨pr_mk HD.out, hb⟩
set_option maxHeartbeats 1000000 in
theorem implFindRoll (A : Option Addr) (n c : Nat) (xss : List (List Int)) (y : Int) (w : World) (hn : n ≤ 1048576) (hfl : xss.flatten.length ≤ 1048576) (h : Rows2 w A n xss) :
    Calls Try.prog 35 #[.slice A n c, .int .i64 y] w fun e w' => e = .returned (pr (fr xss y)) ∧ Below w.heap.size w w' := by
  have HH := hide h; clear h
  cases hv : vp xss
  · have HV := hide hv
    have HD := hide (fr_no (y := y) (.inl hv)); clear hv
    go_enter Try.func35, Try.ntmps35
    go_wp2_with fail
    refine (implValidPile _ _ _ xss _ hn hfl HH.out).mono ?_; rintro e w1 ⟨rfl, hb⟩; rw [HV.out]
    go_wp2_with fail
    go_ret2
    exact ⟨pr_mk HD.out, hb⟩
  · have HV := hide hv
    by_cases h1 : y < 1
    · have HD := hide (fr_no (xss := xss) (y := y) (.inr (.inl h1))); clear hv
      go_enter Try.func35, Try.ntmps35
      go_wp2_with fail
      refine (implValidPile _ _ _ xss _ hn hfl HH.out).mono ?_; rintro e w1 ⟨rfl, hb⟩; rw [HV.out]
      go_wp2_with fail
      go_ret2
      exact ⟨pr_mk HD.out, hb⟩
    have h1' : 1 ≤ y := by omega
    clear h1
    by_cases h2 : 9999 < y
    · have HD := hide (fr_no (xss := xss) (y := y) (.inr (.inr h2))); clear hv
      go_enter Try.func35, Try.ntmps35
      go_wp2_with fail
      refine (implValidPile _ _ _ xss _ hn hfl HH.out).mono ?_; rintro e w1 ⟨rfl, hb⟩; rw [HV.out]
      go_wp2_with fail
      go_ret2
      exact ⟨pr_mk HD.out, hb⟩
    have h2' : y ≤ 9999 := by omega
    clear h2
    have HFR := hide (fr_yes (xss := xss) (y := y) hv h1' h2'); clear hv
    have HL := hide HH.out.1
    have HFL := hide hfl
    go_enter Try.func35, Try.ntmps35
    go_wp2_with fail
    refine (implValidPile _ _ _ xss _ hn hfl HH.out).mono ?_; rintro e w1 ⟨rfl, hb⟩; rw [HV.out]
    have HB := hide hb
    have HW := hide (HH.out.below hb)
    clear hb hfl
    go_wp2_with fail
    go_loop [22] (fun i => ∃ k : Nat, k ≤ n ∧ i = .int .i64 k ∧ Hid (fd xss y = fdA (xss.drop k) y k)) (fun i => n - (intOf i).toNat)
    case atStart => exact ⟨0, by omega, rfl, hide rfl⟩
    case round =>
      obtain ⟨k, hk, rfl, hF⟩ := hrel
      by_cases hlt : k < n
      · have HKL := hide (show k < xss.length by rw [HL.out]; exact hlt)
        obtain ⟨ad, B, m, c', rfl, hb, hc, hI, hmc, hlen⟩ := HW.out.row hlt
        have hm : m ≤ 1048576 := by have h1 := row_le HKL.out; have h2 := HFL.out; omega
        have HI := hide hI; clear hI hlen hb hmc
        obtain ⟨P, hP⟩ : ∃ P, pIn (nthL xss k) y = P := ⟨_, rfl⟩
        have HP := hide hP; clear hP
        by_cases hp : 0 ≤ P
        · have HD := hide (fd_hit hF.out HKL.out (by rw [HP.out]; exact hp))
          rw [HP.out] at HD
          go_wp2_with (go_at_call 67; refine (index_any _ _ _ _ _ _ hm HI.out).mono ?_; rintro e w' ⟨rfl, rfl⟩; rw [HP.out])
          go_ret2
          exact ⟨pr_mk (HFR.out.trans HD.out), HB.out⟩
        · have hp' : P < 0 := by omega
          have HD := hide (fd_step hF.out HKL.out (by rw [HP.out]; exact hp'))
          clear hp
          go_wp2_with (go_at_call 67; refine (index_any _ _ _ _ _ _ hm HI.out).mono ?_; rintro e w' ⟨rfl, rfl⟩; rw [HP.out])
          go_round
          case rel => exact ⟨k + 1, by omega, by go_num, HD⟩
          case measure => simp [intOf]; omega
      · have : k = n := by omega
        subst this
        have HD := hide (fd_end hF.out (by rw [HL.out]; exact Nat.le_refl _))
        go_wp2
        go_ret2
        exact ⟨pr_mk (HFR.out.trans HD.out), HB.out⟩
end Go.Proofs.Ythoamjkakfghbaa
