/- Contracts of chapter 1, fifth part: unwinding and rewinding. -/
import Derived.Test.YtbmnmdpgkdaiiaaRoll4
import Derived.Test.YtbmnmdpgkdaiiaaPl2
import Derived.Test.YtbmnmdpgkdaiiaaKit2
namespace Go.Proofs.Ytbmnmdpgkdaiiaa
open Go.RowKit Pl
attribute [local go_sem ↓] Go.wp_at_zero Go.wp_at_succ
set_option linter.unusedVariables false
set_option maxRecDepth 100000

set_option maxHeartbeats 1000000 in
theorem implUnwind_yes (c t n k : Int) (hv : vr c t n = true) (g : 0 ≤ k) (g' : k ≤ n) (w : World) : Calls Try.prog 31 #[roll c t n, .int .i64 k] w fun e w' => e = .returned (.tuple #[roll c t (n - k), .int .i64 (lnOf c t n - lnOf c t (n - k)), .bool true]) ∧ Below w.heap.size w w' := by
  obtain ⟨h1, h2, h3, h4, h5, h6⟩ := vr_true hv
  have hv2 : vr c t (n - k) = true := vr_mk (by omega)
  have b1 := lnOf_bd hv
  have b2 := lnOf_bd hv2
  have Hv := hide hv; clear hv
  have Hv2 := hide hv2; clear hv2
  go_enter Try.func31, Try.ntmps31
  go_wp2_with fail
  refine (implValidRoll _ _ _ _).mono ?_; rintro e w1 ⟨rfl, hb1⟩; rw [Hv.out]
  have KA : Bk w1 w.heap.size 24 #[.int .i64 c, .int .i64 t, .int .i64 n] := ((Bk.made _ _ _).alloc _).call hb1
  have KR : Bk w1 (w.heap.size + 1) 24 #[.int .i64 0, .int .i64 0, .int .i64 0] := by
    have := (Bk.made (w.alloc (.cells #[.int .i64 c, .int .i64 t, .int .i64 n] 24)) 24 #[.int .i64 0, .int .i64 0, .int .i64 0]).call hb1
    simpa using this
  have B1 : Below w.heap.size w w1 := below_next (by go_grown) (by go_size) hb1
  have s1 := B1.size
  clear hb1
  obtain ⟨q0, q1, q2, -, -, -⟩ := KA.three
  obtain ⟨r0, r1, r2, r3, r4, r5⟩ := KR.three
  go_wp2_with fail
  have KB : Bk (w1.alloc (.cells #[.int .i64 c, .int .i64 t, .int .i64 (n - k)] 24)) w1.heap.size 24 #[.int .i64 c, .int .i64 t, .int .i64 (n - k)] := Bk.made _ _ _
  have KR0 : w.heap.size + 1 < w1.heap.size := KR.lt
  have BW : Below w.heap.size w (w1.alloc (.cells #[.int .i64 c, .int .i64 t, .int .i64 (n - k)] 24)) := B1.alloc s1 _
  replace KA := KA.alloc (.cells #[.int .i64 c, .int .i64 t, .int .i64 (n - k)] 24)
  replace KR := KR.alloc (.cells #[.int .i64 c, .int .i64 t, .int .i64 (n - k)] 24)
  clear q0 q1 q2 r0 r1 r2 r3 r4 r5
  have n1 : ¬ w1.heap.size = w.heap.size + 1 := by have := KR0; omega
  have n2 : ¬ w.heap.size = w1.heap.size := by have := KR0; omega
  generalize w1.alloc (.cells #[.int .i64 c, .int .i64 t, .int .i64 (n - k)] 24) = W2 at *
  have n3 : ¬ w.heap.size + 1 = w1.heap.size := by have := KR0; omega
  clear B1 s1 KR0
  obtain ⟨q0, q1, q2, -, -, -⟩ := KA.three
  obtain ⟨p0, p1, p2, -, -, -⟩ := KB.three
  obtain ⟨r0, r1, r2, r3, r4, r5⟩ := KR.three
  have sW := BW.size
  go_region_held3 (fun w' => w'.cell? ⟨w.heap.size, 0, none⟩ = some (.int .i64 c) ∧ w'.cell? ⟨w.heap.size, 1, none⟩ = some (.int .i64 t) ∧ w'.cell? ⟨w.heap.size, 2, none⟩ = some (.int .i64 n) ∧ w'.cell? ⟨w1.heap.size, 0, none⟩ = some (.int .i64 c) ∧ w'.cell? ⟨w1.heap.size, 1, none⟩ = some (.int .i64 t) ∧ w'.cell? ⟨w1.heap.size, 2, none⟩ = some (.int .i64 (n - k)))
    (((try dsimp only); (repeat' apply And.intro) <;> (first | (with_reducible assumption) | (rw [far3 (by omega)]; with_reducible assumption) | (simp [*]; done))))
    (first | (go_at_call 27; refine (implLengthOf _ _ _ _).mono ?_; rintro e wx ⟨rfl, hbx⟩; have BX : Below w.heap.size w wx := below_next (by go_grown) (by go_size) hbx; have sx := BX.size; have KAx : Bk wx w.heap.size 24 #[.int .i64 c, .int .i64 t, .int .i64 n] := (by first | exact Bk.call KAx hbx | exact Bk.call KA.drew hbx | exact Bk.call KA hbx); have KBx : Bk wx w1.heap.size 24 #[.int .i64 c, .int .i64 t, .int .i64 (n - k)] := (by first | exact Bk.call KBx hbx | exact Bk.call KB.drew hbx | exact Bk.call KB hbx); have KRx : Bk wx (w.heap.size + 1) 24 #[.int .i64 0, .int .i64 0, .int .i64 0] := (by first | exact Bk.call KRx hbx | exact Bk.call KR.drew hbx | exact Bk.call KR hbx); obtain ⟨q0, q1, q2, -, -, -⟩ := KAx.three; obtain ⟨p0, p1, p2, -, -, -⟩ := KBx.three; obtain ⟨r0, r1, r2, r3, r4, r5⟩ := KRx.three))
  go_wp2
  have KF := ((KRx.put 0 (.int .i64 c)).put 1 (.int .i64 t)).put 2 (.int .i64 (n - k))
  obtain ⟨u0, u1, u2, -, -, -⟩ := Bk.three (a := .int .i64 c) (b := .int .i64 t) (c := .int .i64 (n - k)) KF
  have ew : IntKind.i64.wrap (lnOf c t n - lnOf c t (n - k)) = lnOf c t n - lnOf c t (n - k) := IntWalk.i64_in _ ⟨by omega, by omega⟩
  refine bodyPost_ret (v := .tuple #[roll c t (n - k), .int .i64 (lnOf c t n - lnOf c t (n - k)), .bool true]) (by simp [results, Try.results31, go_sem, u0, u1, u2, ew]) rfl ?_
  exact ⟨rfl, by go_grown⟩
theorem implUnwind_no (c t n k : Int) (h : vr c t n = false ∨ ¬ (0 ≤ k ∧ k ≤ n)) (w : World) : Calls Try.prog 31 #[roll c t n, .int .i64 k] w fun e w' => e = .returned (.tuple #[roll 0 0 0, .int .i64 0, .bool false]) ∧ Below w.heap.size w w' := by
  cases hv : vr c t n
  · have Hv := hide hv; clear hv h
    go_enter Try.func31, Try.ntmps31
    go_wp2_with (go_at_call 25; refine (implValidRoll _ _ _ _).mono ?_; rintro e w' ⟨rfl, hb⟩; rw [Hv.out]; have HB : Below w.heap.size w w' := below_next (by go_grown) (by go_size) hb; have hz := HB.size; obtain ⟨hcel, hfro⟩ := bcell hb)
    refine bodyPost_ret (v := .tuple #[roll 0 0 0, .int .i64 0, .bool false]) (by simp [results, Try.results31, go_sem, *]) rfl ?_
    exact ⟨rfl, by go_grown⟩
  · obtain ⟨h1, h2, h3, h4, h5, h6⟩ := vr_true hv
    have h' : k < 0 ∨ (0 ≤ k ∧ n < k) := by
      rcases h with h | h
      · rw [hv] at h; cases h
      · omega
    have Hv := hide hv; clear hv h
    rcases h' with g | ⟨g, g'⟩
    all_goals
      have zz : w.heap.size < w.heap.size + 1 + 1 := by omega
      go_enter Try.func31, Try.ntmps31
      go_wp2_with (go_at_call 25; refine (implValidRoll _ _ _ _).mono ?_; rintro e w' ⟨rfl, hb⟩; rw [Hv.out]; have HB : Below w.heap.size w w' := below_next (by go_grown) (by go_size) hb; have hz := HB.size; obtain ⟨hcel, hfro⟩ := bcell hb)
      refine bodyPost_ret (v := .tuple #[roll 0 0 0, .int .i64 0, .bool false]) (by simp [results, Try.results31, go_sem, *]) rfl ?_
      exact ⟨rfl, by go_grown⟩
theorem specUnwind_no (c t n k : Int) (h : vr c t n = false ∨ ¬ (0 ≤ k ∧ k ≤ n)) (w : World) : Calls Try.prog 38 #[roll c t n, .int .i64 k] w fun e w' => e = .returned (.tuple #[roll 0 0 0, .int .i64 0, .bool false]) ∧ Below w.heap.size w w' := by
  cases hv : vr c t n
  · have Hv := hide hv; clear hv h
    go_enter Try.func38, Try.ntmps38
    go_wp2_with (go_at_call 49; refine (specValidRoll0 _ _ _ _).mono ?_; rintro e w' ⟨rfl, hb⟩; rw [Hv.out]; have HB : Below w.heap.size w w' := below_next (by go_grown) (by go_size) hb; have hz := HB.size; obtain ⟨hcel, hfro⟩ := bcell hb)
    refine bodyPost_ret (v := .tuple #[roll 0 0 0, .int .i64 0, .bool false]) (by simp [results, Try.results38, go_sem, *]) rfl ?_
    exact ⟨rfl, by go_grown⟩
  · have hd : decide (0 ≤ k ∧ k ≤ n) = false := by
      rcases h with h | h
      · rw [hv] at h; cases h
      · exact decide_eq_false h
    have Hv := hide hv; clear hv h
    have zz : w.heap.size < w.heap.size + 1 + 1 := by omega
    go_enter Try.func38, Try.ntmps38
    go_wp2_with (first | (go_at_call 49; refine (specValidRoll0 _ _ _ _).mono ?_; rintro e w' ⟨rfl, hb⟩; rw [Hv.out]; have HB : Below w.heap.size w w' := below_next (by go_grown) (by go_size) hb; have hz := HB.size; obtain ⟨hcel, hfro⟩ := bcell hb) | (go_at_call 50; refine (inRange_any _ _ _ _).mono ?_; rintro e w' ⟨rfl, rfl⟩))
    refine bodyPost_ret (v := .tuple #[roll 0 0 0, .int .i64 0, .bool false]) (by simp [results, Try.results38, go_sem, *]) rfl ?_
    exact ⟨rfl, by go_grown⟩
theorem specLengthOf1 (c t n k : Int) (h1 : 50 ≤ c) (h2 : c ≤ 400) (h3 : 1 ≤ t) (h4 : t ≤ 9) (g : 0 ≤ k) (g' : k ≤ 300) (w : World) :
    Calls Try.prog 53 #[roll c t n, .int .i64 k] w fun e w' => e = .returned (.int .i64 (ln c t k.toNat)) ∧ Below w.heap.size w w' := by
  obtain ⟨m, rfl⟩ := Int.eq_ofNat_of_zero_le g
  exact specLengthOf0 c t n m h1 h2 h3 h4 (by omega) w
set_option maxHeartbeats 1000000 in
theorem specUnwind_yes (c t n k : Int) (hv : vr c t n = true) (g : 0 ≤ k) (g' : k ≤ n) (w : World) : Calls Try.prog 38 #[roll c t n, .int .i64 k] w fun e w' => e = .returned (.tuple #[roll c t (n - k), .int .i64 (lnOf c t n - lnOf c t (n - k)), .bool true]) ∧ Below w.heap.size w w' := by
  obtain ⟨h1, h2, h3, h4, h5, h6⟩ := vr_true hv
  have hv2 : vr c t (n - k) = true := vr_mk (by omega)
  have b1 := lnOf_bd hv
  have b2 := lnOf_bd hv2
  have hd : decide (0 ≤ k ∧ k ≤ n) = true := decide_eq_true ⟨g, g'⟩
  rw [lnOf_yes hv] at b1 ⊢
  rw [lnOf_yes hv2] at b2 ⊢
  have Hv := hide hv; clear hv hv2
  go_enter Try.func38, Try.ntmps38
  go_wp2_with fail
  refine (specValidRoll0 _ _ _ _).mono ?_; rintro e w1 ⟨rfl, hb1⟩; rw [Hv.out]
  have KA : Bk w1 w.heap.size 24 #[.int .i64 c, .int .i64 t, .int .i64 n] := ((Bk.made _ _ _).alloc _).call hb1
  have KR : Bk w1 (w.heap.size + 1) 24 #[.int .i64 0, .int .i64 0, .int .i64 0] := by
    have := (Bk.made (w.alloc (.cells #[.int .i64 c, .int .i64 t, .int .i64 n] 24)) 24 #[.int .i64 0, .int .i64 0, .int .i64 0]).call hb1
    simpa using this
  have B1 : Below w.heap.size w w1 := below_next (by go_grown) (by go_size) hb1
  have s1 := B1.size
  clear hb1
  obtain ⟨q0, q1, q2, -, -, -⟩ := KA.three
  go_wp2_with (go_at_call 50; refine (inRange_any _ _ _ _).mono ?_; rintro e w' ⟨rfl, rfl⟩)
  have ew : IntKind.i64.wrap (n - k) = n - k := IntWalk.i64_in _ ⟨by omega, by omega⟩
  go_region_held3 (fun w' => w'.cell? ⟨w.heap.size, 0, none⟩ = some (.int .i64 c) ∧ w'.cell? ⟨w.heap.size, 1, none⟩ = some (.int .i64 t) ∧ w'.cell? ⟨w.heap.size, 2, none⟩ = some (.int .i64 n))
    (((try dsimp only); (repeat' apply And.intro) <;> (first | (with_reducible assumption) | (simp [*]; done))))
    (first | (go_at_call 53; (try rw [IntWalk.i64_in (n - k) ⟨by omega, by omega⟩]); refine (specLengthOf1 _ _ _ _ h1 h2 h3 h4 (by omega) (by omega) _).mono ?_; rintro e wx ⟨rfl, hbx⟩; have BX : Below w.heap.size w wx := below_next (by go_grown) (by go_size) hbx; have sx := BX.size; have KAx : Bk wx w.heap.size 24 #[.int .i64 c, .int .i64 t, .int .i64 n] := (by first | exact Bk.call KAx hbx | exact Bk.call KA.drew hbx | exact Bk.call KA hbx); have KRx : Bk wx (w.heap.size + 1) 24 #[.int .i64 0, .int .i64 0, .int .i64 0] := (by first | exact Bk.call KRx hbx | exact Bk.call KR.drew hbx | exact Bk.call KR hbx); obtain ⟨q0, q1, q2, q3, q4, q5⟩ := KAx.three))
  clear ew
  obtain ⟨r0, r1, r2, r3, r4, r5⟩ := KRx.three
  go_wp2
  have KF := (((KRx.far (p := ⟨w.heap.size, 2, none⟩) (by simp) (.int .i64 (n - k))).put 0 (.int .i64 c)).put 1 (.int .i64 t)).put 2 (.int .i64 (n - k))
  obtain ⟨u0, u1, u2, -, -, -⟩ := Bk.three (a := .int .i64 c) (b := .int .i64 t) (c := .int .i64 (n - k)) KF
  have ew : IntKind.i64.wrap (ln c t n.toNat - ln c t (n - k).toNat) = ln c t n.toNat - ln c t (n - k).toNat := IntWalk.i64_in _ ⟨by omega, by omega⟩
  refine bodyPost_ret (v := .tuple #[roll c t (n - k), .int .i64 (ln c t n.toNat - ln c t (n - k).toNat), .bool true]) (by simp [results, Try.results38, go_sem, u0, u1, u2, ew]) rfl ?_
  exact ⟨rfl, by go_grown⟩
end Go.Proofs.Ytbmnmdpgkdaiiaa
