/- Contracts of chapter 1, seventh part: what is not rewound. -/
import Derived.Test.YtbmnmdpgkdaiiaaRoll6
namespace Go.Proofs.Ytbmnmdpgkdaiiaa
open Go.RowKit Pl
set_option linter.unusedVariables false
set_option maxRecDepth 100000

theorem implRewind_no1 (c d t u n p : Int) (hv : vr c t n = false) (w : World) : Calls Try.prog 43 #[roll c t n, roll d u p] w fun e w' => e = .returned (.tuple #[roll 0 0 0, .int .i64 0, .bool false]) ∧ Below w.heap.size w w' := by
  have Hv := hide hv; clear hv
  go_enter Try.func43, Try.ntmps43
  go_wp2_with fail
  refine (implValidRoll _ _ _ _).mono ?_; rintro e w1 ⟨rfl, hb1⟩; rw [Hv.out]
  have KA : Bk w1 w.heap.size 24 #[.int .i64 c, .int .i64 t, .int .i64 n] := (((Bk.made _ _ _).alloc _).alloc _).call hb1
  have KC : Bk w1 (w.heap.size + 1) 24 #[.int .i64 d, .int .i64 u, .int .i64 p] := by
    have := (((Bk.made (w.alloc (.cells #[.int .i64 c, .int .i64 t, .int .i64 n] 24)) 24 #[.int .i64 d, .int .i64 u, .int .i64 p]).alloc (.cells #[.int .i64 0, .int .i64 0, .int .i64 0] 24)).call hb1)
    simpa using this
  have KR : Bk w1 (w.heap.size + 1 + 1) 24 #[.int .i64 0, .int .i64 0, .int .i64 0] := by
    have := (Bk.made ((w.alloc (.cells #[.int .i64 c, .int .i64 t, .int .i64 n] 24)).alloc (.cells #[.int .i64 d, .int .i64 u, .int .i64 p] 24)) 24 #[.int .i64 0, .int .i64 0, .int .i64 0]).call hb1
    simpa using this
  have B1 : Below w.heap.size w w1 := below_next (by go_grown) (by go_size) hb1
  have s1 := B1.size
  clear hb1
  obtain ⟨q0, q1, q2, -, -, -⟩ := KA.three
  obtain ⟨p0, p1, p2, -, -, -⟩ := KC.three
  obtain ⟨r0, r1, r2, r3, r4, r5⟩ := KR.three
  go_wp2_with fail
  have KF := ((KR.put 0 (.int .i64 0)).put 1 (.int .i64 0)).put 2 (.int .i64 0)
  obtain ⟨u0, u1, u2, -, -, -⟩ := Bk.three (a := .int .i64 0) (b := .int .i64 0) (c := .int .i64 0) KF
  refine bodyPost_ret (v := .tuple #[roll 0 0 0, .int .i64 0, .bool false]) (by simp [results, Try.results43, go_sem, u0, u1, u2]) rfl ?_
  exact ⟨rfl, by go_grown⟩
theorem implRewind_no2 (c d t u n p : Int) (hv : vr c t n = true) (hd : vr d u p = false) (w : World) : Calls Try.prog 43 #[roll c t n, roll d u p] w fun e w' => e = .returned (.tuple #[roll 0 0 0, .int .i64 0, .bool false]) ∧ Below w.heap.size w w' := by
  have Hv := hide hv; clear hv
  have Hd := hide hd; clear hd
  go_enter Try.func43, Try.ntmps43
  go_wp2_with fail
  refine (implValidRoll _ _ _ _).mono ?_; rintro e w1 ⟨rfl, hb1⟩; rw [Hv.out]
  have KA : Bk w1 w.heap.size 24 #[.int .i64 c, .int .i64 t, .int .i64 n] := (((Bk.made _ _ _).alloc _).alloc _).call hb1
  have KC : Bk w1 (w.heap.size + 1) 24 #[.int .i64 d, .int .i64 u, .int .i64 p] := by
    have := (((Bk.made (w.alloc (.cells #[.int .i64 c, .int .i64 t, .int .i64 n] 24)) 24 #[.int .i64 d, .int .i64 u, .int .i64 p]).alloc (.cells #[.int .i64 0, .int .i64 0, .int .i64 0] 24)).call hb1)
    simpa using this
  have KR : Bk w1 (w.heap.size + 1 + 1) 24 #[.int .i64 0, .int .i64 0, .int .i64 0] := by
    have := (Bk.made ((w.alloc (.cells #[.int .i64 c, .int .i64 t, .int .i64 n] 24)).alloc (.cells #[.int .i64 d, .int .i64 u, .int .i64 p] 24)) 24 #[.int .i64 0, .int .i64 0, .int .i64 0]).call hb1
    simpa using this
  have B1 : Below w.heap.size w w1 := below_next (by go_grown) (by go_size) hb1
  have s1 := B1.size
  clear hb1
  obtain ⟨q0, q1, q2, -, -, -⟩ := KA.three
  obtain ⟨p0, p1, p2, -, -, -⟩ := KC.three
  obtain ⟨r0, r1, r2, r3, r4, r5⟩ := KR.three
  go_wp2_with fail
  refine (implValidRoll _ _ _ _).mono ?_; rintro e w2 ⟨rfl, hb2⟩; rw [Hd.out]
  replace KA := KA.call hb2; replace KC := KC.call hb2; replace KR := KR.call hb2
  have B2 : Below w.heap.size w w2 := below_next B1 s1 hb2
  have s2 := B2.size
  clear hb2 q0 q1 q2 p0 p1 p2 r0 r1 r2 r3 r4 r5 B1 s1
  obtain ⟨q0, q1, q2, -, -, -⟩ := KA.three
  obtain ⟨p0, p1, p2, -, -, -⟩ := KC.three
  obtain ⟨r0, r1, r2, r3, r4, r5⟩ := KR.three
  go_wp2_with fail
  have KF := ((KR.put 0 (.int .i64 0)).put 1 (.int .i64 0)).put 2 (.int .i64 0)
  obtain ⟨u0, u1, u2, -, -, -⟩ := Bk.three (a := .int .i64 0) (b := .int .i64 0) (c := .int .i64 0) KF
  refine bodyPost_ret (v := .tuple #[roll 0 0 0, .int .i64 0, .bool false]) (by simp [results, Try.results43, go_sem, u0, u1, u2]) rfl ?_
  exact ⟨rfl, by go_grown⟩
theorem implRewind_no3 (c d t u n p : Int) (hv : vr c t n = true) (hd : vr d u p = true) (hp : (p != 0) = true) (w : World) : Calls Try.prog 43 #[roll c t n, roll d u p] w fun e w' => e = .returned (.tuple #[roll 0 0 0, .int .i64 0, .bool false]) ∧ Below w.heap.size w w' := by
  have Hv := hide hv; clear hv
  have Hd := hide hd; clear hd
  go_enter Try.func43, Try.ntmps43
  go_wp2_with fail
  refine (implValidRoll _ _ _ _).mono ?_; rintro e w1 ⟨rfl, hb1⟩; rw [Hv.out]
  have KA : Bk w1 w.heap.size 24 #[.int .i64 c, .int .i64 t, .int .i64 n] := (((Bk.made _ _ _).alloc _).alloc _).call hb1
  have KC : Bk w1 (w.heap.size + 1) 24 #[.int .i64 d, .int .i64 u, .int .i64 p] := by
    have := (((Bk.made (w.alloc (.cells #[.int .i64 c, .int .i64 t, .int .i64 n] 24)) 24 #[.int .i64 d, .int .i64 u, .int .i64 p]).alloc (.cells #[.int .i64 0, .int .i64 0, .int .i64 0] 24)).call hb1)
    simpa using this
  have KR : Bk w1 (w.heap.size + 1 + 1) 24 #[.int .i64 0, .int .i64 0, .int .i64 0] := by
    have := (Bk.made ((w.alloc (.cells #[.int .i64 c, .int .i64 t, .int .i64 n] 24)).alloc (.cells #[.int .i64 d, .int .i64 u, .int .i64 p] 24)) 24 #[.int .i64 0, .int .i64 0, .int .i64 0]).call hb1
    simpa using this
  have B1 : Below w.heap.size w w1 := below_next (by go_grown) (by go_size) hb1
  have s1 := B1.size
  clear hb1
  obtain ⟨q0, q1, q2, -, -, -⟩ := KA.three
  obtain ⟨p0, p1, p2, -, -, -⟩ := KC.three
  obtain ⟨r0, r1, r2, r3, r4, r5⟩ := KR.three
  go_wp2_with fail
  refine (implValidRoll _ _ _ _).mono ?_; rintro e w2 ⟨rfl, hb2⟩; rw [Hd.out]
  replace KA := KA.call hb2; replace KC := KC.call hb2; replace KR := KR.call hb2
  have B2 : Below w.heap.size w w2 := below_next B1 s1 hb2
  have s2 := B2.size
  clear hb2 q0 q1 q2 p0 p1 p2 r0 r1 r2 r3 r4 r5 B1 s1
  obtain ⟨q0, q1, q2, -, -, -⟩ := KA.three
  obtain ⟨p0, p1, p2, -, -, -⟩ := KC.three
  obtain ⟨r0, r1, r2, r3, r4, r5⟩ := KR.three
  go_wp2_with fail
  have KF := ((KR.put 0 (.int .i64 0)).put 1 (.int .i64 0)).put 2 (.int .i64 0)
  obtain ⟨u0, u1, u2, -, -, -⟩ := Bk.three (a := .int .i64 0) (b := .int .i64 0) (c := .int .i64 0) KF
  refine bodyPost_ret (v := .tuple #[roll 0 0 0, .int .i64 0, .bool false]) (by simp [results, Try.results43, go_sem, u0, u1, u2]) rfl ?_
  exact ⟨rfl, by go_grown⟩
theorem implRewind_no4 (c d t u n p : Int) (hv : vr c t n = true) (hd : vr d u p = true) (hp : (p != 0) = false) (hu : (u != t) = true) (w : World) : Calls Try.prog 43 #[roll c t n, roll d u p] w fun e w' => e = .returned (.tuple #[roll 0 0 0, .int .i64 0, .bool false]) ∧ Below w.heap.size w w' := by
  have Hv := hide hv; clear hv
  have Hd := hide hd; clear hd
  go_enter Try.func43, Try.ntmps43
  go_wp2_with fail
  refine (implValidRoll _ _ _ _).mono ?_; rintro e w1 ⟨rfl, hb1⟩; rw [Hv.out]
  have KA : Bk w1 w.heap.size 24 #[.int .i64 c, .int .i64 t, .int .i64 n] := (((Bk.made _ _ _).alloc _).alloc _).call hb1
  have KC : Bk w1 (w.heap.size + 1) 24 #[.int .i64 d, .int .i64 u, .int .i64 p] := by
    have := (((Bk.made (w.alloc (.cells #[.int .i64 c, .int .i64 t, .int .i64 n] 24)) 24 #[.int .i64 d, .int .i64 u, .int .i64 p]).alloc (.cells #[.int .i64 0, .int .i64 0, .int .i64 0] 24)).call hb1)
    simpa using this
  have KR : Bk w1 (w.heap.size + 1 + 1) 24 #[.int .i64 0, .int .i64 0, .int .i64 0] := by
    have := (Bk.made ((w.alloc (.cells #[.int .i64 c, .int .i64 t, .int .i64 n] 24)).alloc (.cells #[.int .i64 d, .int .i64 u, .int .i64 p] 24)) 24 #[.int .i64 0, .int .i64 0, .int .i64 0]).call hb1
    simpa using this
  have B1 : Below w.heap.size w w1 := below_next (by go_grown) (by go_size) hb1
  have s1 := B1.size
  clear hb1
  obtain ⟨q0, q1, q2, -, -, -⟩ := KA.three
  obtain ⟨p0, p1, p2, -, -, -⟩ := KC.three
  obtain ⟨r0, r1, r2, r3, r4, r5⟩ := KR.three
  go_wp2_with fail
  refine (implValidRoll _ _ _ _).mono ?_; rintro e w2 ⟨rfl, hb2⟩; rw [Hd.out]
  replace KA := KA.call hb2; replace KC := KC.call hb2; replace KR := KR.call hb2
  have B2 : Below w.heap.size w w2 := below_next B1 s1 hb2
  have s2 := B2.size
  clear hb2 q0 q1 q2 p0 p1 p2 r0 r1 r2 r3 r4 r5 B1 s1
  obtain ⟨q0, q1, q2, -, -, -⟩ := KA.three
  obtain ⟨p0, p1, p2, -, -, -⟩ := KC.three
  obtain ⟨r0, r1, r2, r3, r4, r5⟩ := KR.three
  go_wp2_with fail
  have KF := ((KR.put 0 (.int .i64 0)).put 1 (.int .i64 0)).put 2 (.int .i64 0)
  obtain ⟨u0, u1, u2, -, -, -⟩ := Bk.three (a := .int .i64 0) (b := .int .i64 0) (c := .int .i64 0) KF
  refine bodyPost_ret (v := .tuple #[roll 0 0 0, .int .i64 0, .bool false]) (by simp [results, Try.results43, go_sem, u0, u1, u2]) rfl ?_
  exact ⟨rfl, by go_grown⟩
theorem specRewind_no1 (c d t u n p : Int) (hv : vr c t n = false) (w : World) : Calls Try.prog 44 #[roll c t n, roll d u p] w fun e w' => e = .returned (.tuple #[roll 0 0 0, .int .i64 0, .bool false]) ∧ Below w.heap.size w w' := by
  have Hv := hide hv; clear hv
  go_enter Try.func44, Try.ntmps44
  go_wp2_with fail
  refine (specValidRoll0 _ _ _ _).mono ?_; rintro e w1 ⟨rfl, hb1⟩; rw [Hv.out]
  have KA : Bk w1 w.heap.size 24 #[.int .i64 c, .int .i64 t, .int .i64 n] := (((Bk.made _ _ _).alloc _).alloc _).call hb1
  have KC : Bk w1 (w.heap.size + 1) 24 #[.int .i64 d, .int .i64 u, .int .i64 p] := by
    have := (((Bk.made (w.alloc (.cells #[.int .i64 c, .int .i64 t, .int .i64 n] 24)) 24 #[.int .i64 d, .int .i64 u, .int .i64 p]).alloc (.cells #[.int .i64 0, .int .i64 0, .int .i64 0] 24)).call hb1)
    simpa using this
  have KR : Bk w1 (w.heap.size + 1 + 1) 24 #[.int .i64 0, .int .i64 0, .int .i64 0] := by
    have := (Bk.made ((w.alloc (.cells #[.int .i64 c, .int .i64 t, .int .i64 n] 24)).alloc (.cells #[.int .i64 d, .int .i64 u, .int .i64 p] 24)) 24 #[.int .i64 0, .int .i64 0, .int .i64 0]).call hb1
    simpa using this
  have B1 : Below w.heap.size w w1 := below_next (by go_grown) (by go_size) hb1
  have s1 := B1.size
  clear hb1
  obtain ⟨q0, q1, q2, -, -, -⟩ := KA.three
  obtain ⟨p0, p1, p2, -, -, -⟩ := KC.three
  obtain ⟨r0, r1, r2, r3, r4, r5⟩ := KR.three
  go_wp2_with fail
  have KF := ((KR.put 0 (.int .i64 0)).put 1 (.int .i64 0)).put 2 (.int .i64 0)
  obtain ⟨u0, u1, u2, -, -, -⟩ := Bk.three (a := .int .i64 0) (b := .int .i64 0) (c := .int .i64 0) KF
  refine bodyPost_ret (v := .tuple #[roll 0 0 0, .int .i64 0, .bool false]) (by simp [results, Try.results44, go_sem, u0, u1, u2]) rfl ?_
  exact ⟨rfl, by go_grown⟩
theorem specRewind_no2 (c d t u n p : Int) (hv : vr c t n = true) (hd : vr d u p = false) (w : World) : Calls Try.prog 44 #[roll c t n, roll d u p] w fun e w' => e = .returned (.tuple #[roll 0 0 0, .int .i64 0, .bool false]) ∧ Below w.heap.size w w' := by
  have Hv := hide hv; clear hv
  have Hd := hide hd; clear hd
  go_enter Try.func44, Try.ntmps44
  go_wp2_with fail
  refine (specValidRoll0 _ _ _ _).mono ?_; rintro e w1 ⟨rfl, hb1⟩; rw [Hv.out]
  have KA : Bk w1 w.heap.size 24 #[.int .i64 c, .int .i64 t, .int .i64 n] := (((Bk.made _ _ _).alloc _).alloc _).call hb1
  have KC : Bk w1 (w.heap.size + 1) 24 #[.int .i64 d, .int .i64 u, .int .i64 p] := by
    have := (((Bk.made (w.alloc (.cells #[.int .i64 c, .int .i64 t, .int .i64 n] 24)) 24 #[.int .i64 d, .int .i64 u, .int .i64 p]).alloc (.cells #[.int .i64 0, .int .i64 0, .int .i64 0] 24)).call hb1)
    simpa using this
  have KR : Bk w1 (w.heap.size + 1 + 1) 24 #[.int .i64 0, .int .i64 0, .int .i64 0] := by
    have := (Bk.made ((w.alloc (.cells #[.int .i64 c, .int .i64 t, .int .i64 n] 24)).alloc (.cells #[.int .i64 d, .int .i64 u, .int .i64 p] 24)) 24 #[.int .i64 0, .int .i64 0, .int .i64 0]).call hb1
    simpa using this
  have B1 : Below w.heap.size w w1 := below_next (by go_grown) (by go_size) hb1
  have s1 := B1.size
  clear hb1
  obtain ⟨q0, q1, q2, -, -, -⟩ := KA.three
  obtain ⟨p0, p1, p2, -, -, -⟩ := KC.three
  obtain ⟨r0, r1, r2, r3, r4, r5⟩ := KR.three
  go_wp2_with fail
  refine (specValidRoll0 _ _ _ _).mono ?_; rintro e w2 ⟨rfl, hb2⟩; rw [Hd.out]
  replace KA := KA.call hb2; replace KC := KC.call hb2; replace KR := KR.call hb2
  have B2 : Below w.heap.size w w2 := below_next B1 s1 hb2
  have s2 := B2.size
  clear hb2 q0 q1 q2 p0 p1 p2 r0 r1 r2 r3 r4 r5 B1 s1
  obtain ⟨q0, q1, q2, -, -, -⟩ := KA.three
  obtain ⟨p0, p1, p2, -, -, -⟩ := KC.three
  obtain ⟨r0, r1, r2, r3, r4, r5⟩ := KR.three
  go_wp2_with fail
  have KF := ((KR.put 0 (.int .i64 0)).put 1 (.int .i64 0)).put 2 (.int .i64 0)
  obtain ⟨u0, u1, u2, -, -, -⟩ := Bk.three (a := .int .i64 0) (b := .int .i64 0) (c := .int .i64 0) KF
  refine bodyPost_ret (v := .tuple #[roll 0 0 0, .int .i64 0, .bool false]) (by simp [results, Try.results44, go_sem, u0, u1, u2]) rfl ?_
  exact ⟨rfl, by go_grown⟩
theorem specRewind_no3 (c d t u n p : Int) (hv : vr c t n = true) (hd : vr d u p = true) (hp : (p != 0) = true) (w : World) : Calls Try.prog 44 #[roll c t n, roll d u p] w fun e w' => e = .returned (.tuple #[roll 0 0 0, .int .i64 0, .bool false]) ∧ Below w.heap.size w w' := by
  have Hv := hide hv; clear hv
  have Hd := hide hd; clear hd
  go_enter Try.func44, Try.ntmps44
  go_wp2_with fail
  refine (specValidRoll0 _ _ _ _).mono ?_; rintro e w1 ⟨rfl, hb1⟩; rw [Hv.out]
  have KA : Bk w1 w.heap.size 24 #[.int .i64 c, .int .i64 t, .int .i64 n] := (((Bk.made _ _ _).alloc _).alloc _).call hb1
  have KC : Bk w1 (w.heap.size + 1) 24 #[.int .i64 d, .int .i64 u, .int .i64 p] := by
    have := (((Bk.made (w.alloc (.cells #[.int .i64 c, .int .i64 t, .int .i64 n] 24)) 24 #[.int .i64 d, .int .i64 u, .int .i64 p]).alloc (.cells #[.int .i64 0, .int .i64 0, .int .i64 0] 24)).call hb1)
    simpa using this
  have KR : Bk w1 (w.heap.size + 1 + 1) 24 #[.int .i64 0, .int .i64 0, .int .i64 0] := by
    have := (Bk.made ((w.alloc (.cells #[.int .i64 c, .int .i64 t, .int .i64 n] 24)).alloc (.cells #[.int .i64 d, .int .i64 u, .int .i64 p] 24)) 24 #[.int .i64 0, .int .i64 0, .int .i64 0]).call hb1
    simpa using this
  have B1 : Below w.heap.size w w1 := below_next (by go_grown) (by go_size) hb1
  have s1 := B1.size
  clear hb1
  obtain ⟨q0, q1, q2, -, -, -⟩ := KA.three
  obtain ⟨p0, p1, p2, -, -, -⟩ := KC.three
  obtain ⟨r0, r1, r2, r3, r4, r5⟩ := KR.three
  go_wp2_with fail
  refine (specValidRoll0 _ _ _ _).mono ?_; rintro e w2 ⟨rfl, hb2⟩; rw [Hd.out]
  replace KA := KA.call hb2; replace KC := KC.call hb2; replace KR := KR.call hb2
  have B2 : Below w.heap.size w w2 := below_next B1 s1 hb2
  have s2 := B2.size
  clear hb2 q0 q1 q2 p0 p1 p2 r0 r1 r2 r3 r4 r5 B1 s1
  obtain ⟨q0, q1, q2, -, -, -⟩ := KA.three
  obtain ⟨p0, p1, p2, -, -, -⟩ := KC.three
  obtain ⟨r0, r1, r2, r3, r4, r5⟩ := KR.three
  go_wp2_with fail
  have KF := ((KR.put 0 (.int .i64 0)).put 1 (.int .i64 0)).put 2 (.int .i64 0)
  obtain ⟨u0, u1, u2, -, -, -⟩ := Bk.three (a := .int .i64 0) (b := .int .i64 0) (c := .int .i64 0) KF
  refine bodyPost_ret (v := .tuple #[roll 0 0 0, .int .i64 0, .bool false]) (by simp [results, Try.results44, go_sem, u0, u1, u2]) rfl ?_
  exact ⟨rfl, by go_grown⟩
theorem specRewind_no4 (c d t u n p : Int) (hv : vr c t n = true) (hd : vr d u p = true) (hp : (p != 0) = false) (hu : (u != t) = true) (w : World) : Calls Try.prog 44 #[roll c t n, roll d u p] w fun e w' => e = .returned (.tuple #[roll 0 0 0, .int .i64 0, .bool false]) ∧ Below w.heap.size w w' := by
  have Hv := hide hv; clear hv
  have Hd := hide hd; clear hd
  go_enter Try.func44, Try.ntmps44
  go_wp2_with fail
  refine (specValidRoll0 _ _ _ _).mono ?_; rintro e w1 ⟨rfl, hb1⟩; rw [Hv.out]
  have KA : Bk w1 w.heap.size 24 #[.int .i64 c, .int .i64 t, .int .i64 n] := (((Bk.made _ _ _).alloc _).alloc _).call hb1
  have KC : Bk w1 (w.heap.size + 1) 24 #[.int .i64 d, .int .i64 u, .int .i64 p] := by
    have := (((Bk.made (w.alloc (.cells #[.int .i64 c, .int .i64 t, .int .i64 n] 24)) 24 #[.int .i64 d, .int .i64 u, .int .i64 p]).alloc (.cells #[.int .i64 0, .int .i64 0, .int .i64 0] 24)).call hb1)
    simpa using this
  have KR : Bk w1 (w.heap.size + 1 + 1) 24 #[.int .i64 0, .int .i64 0, .int .i64 0] := by
    have := (Bk.made ((w.alloc (.cells #[.int .i64 c, .int .i64 t, .int .i64 n] 24)).alloc (.cells #[.int .i64 d, .int .i64 u, .int .i64 p] 24)) 24 #[.int .i64 0, .int .i64 0, .int .i64 0]).call hb1
    simpa using this
  have B1 : Below w.heap.size w w1 := below_next (by go_grown) (by go_size) hb1
  have s1 := B1.size
  clear hb1
  obtain ⟨q0, q1, q2, -, -, -⟩ := KA.three
  obtain ⟨p0, p1, p2, -, -, -⟩ := KC.three
  obtain ⟨r0, r1, r2, r3, r4, r5⟩ := KR.three
  go_wp2_with fail
  refine (specValidRoll0 _ _ _ _).mono ?_; rintro e w2 ⟨rfl, hb2⟩; rw [Hd.out]
  replace KA := KA.call hb2; replace KC := KC.call hb2; replace KR := KR.call hb2
  have B2 : Below w.heap.size w w2 := below_next B1 s1 hb2
  have s2 := B2.size
  clear hb2 q0 q1 q2 p0 p1 p2 r0 r1 r2 r3 r4 r5 B1 s1
  obtain ⟨q0, q1, q2, -, -, -⟩ := KA.three
  obtain ⟨p0, p1, p2, -, -, -⟩ := KC.three
  obtain ⟨r0, r1, r2, r3, r4, r5⟩ := KR.three
  go_wp2_with fail
  have KF := ((KR.put 0 (.int .i64 0)).put 1 (.int .i64 0)).put 2 (.int .i64 0)
  obtain ⟨u0, u1, u2, -, -, -⟩ := Bk.three (a := .int .i64 0) (b := .int .i64 0) (c := .int .i64 0) KF
  refine bodyPost_ret (v := .tuple #[roll 0 0 0, .int .i64 0, .bool false]) (by simp [results, Try.results44, go_sem, u0, u1, u2]) rfl ?_
  exact ⟨rfl, by go_grown⟩
end Go.Proofs.Ytbmnmdpgkdaiiaa
