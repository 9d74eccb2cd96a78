/- Contracts of chapter 1, sixth part: rewinding. -/
import Derived.Test.YtbmnmdpgkdaiiaaRoll5
namespace Go.Proofs.Ytbmnmdpgkdaiiaa
open Go.RowKit Pl
attribute [local go_sem ↓] Go.wp_at_zero Go.wp_at_succ
set_option linter.unusedVariables false
set_option maxRecDepth 100000

set_option maxHeartbeats 1000000 in
theorem implRewind_yes (c d t n : Int) (hv : vr c t n = true) (hd : vr d t 0 = true) (w : World) : Calls Try.prog 43 #[roll c t n, roll d t 0] w fun e w' =>
    e = .returned (.tuple #[roll d t (tfor d t (lnOf c t n)), .int .i64 (lnOf c t n - ln d t (tfor d t (lnOf c t n))), .bool true]) ∧ Below w.heap.size w w' := by
  obtain ⟨h1, h2, h3, h4, h5, h6⟩ := vr_true hv
  obtain ⟨i1, i2, -, -, -, -⟩ := vr_true hd
  have b1 := lnOf_bd hv
  obtain ⟨L, hL⟩ : ∃ L, L = lnOf c t n := ⟨_, rfl⟩
  have HL := hide hL; clear hL
  rw [← HL.out] at b1 ⊢
  have tb := tfor_le d t L
  obtain ⟨m, hm⟩ : ∃ m, m = tfor d t L := ⟨_, rfl⟩
  have HM := hide hm; clear hm
  rw [← HM.out] at tb ⊢
  have b2 := ln_bd i1 i2 h3 h4 m (by omega)
  have tb' : (m : Int) ≤ 300 := by omega
  have hvm : vr d t m = true := vr_mk (by omega)
  have Hv := hide hv; clear hv
  have Hd := hide hd; clear hd
  have Hm := hide hvm; clear hvm
  go_enter Try.func43, Try.ntmps43
  go_wp2_with fail
  refine (implValidRoll _ _ _ _).mono ?_; rintro e w1 ⟨rfl, hb1⟩; rw [Hv.out]
  have KA : Bk w1 w.heap.size 24 #[.int .i64 c, .int .i64 t, .int .i64 n] := (((Bk.made _ _ _).alloc _).alloc _).call hb1
  have KC : Bk w1 (w.heap.size + 1) 24 #[.int .i64 d, .int .i64 t, .int .i64 0] := by
    have := (((Bk.made (w.alloc (.cells #[.int .i64 c, .int .i64 t, .int .i64 n] 24)) 24 #[.int .i64 d, .int .i64 t, .int .i64 0]).alloc (.cells #[.int .i64 0, .int .i64 0, .int .i64 0] 24)).call hb1)
    simpa using this
  have KR : Bk w1 (w.heap.size + 1 + 1) 24 #[.int .i64 0, .int .i64 0, .int .i64 0] := by
    have := (Bk.made ((w.alloc (.cells #[.int .i64 c, .int .i64 t, .int .i64 n] 24)).alloc (.cells #[.int .i64 d, .int .i64 t, .int .i64 0] 24)) 24 #[.int .i64 0, .int .i64 0, .int .i64 0]).call hb1
    simpa using this
  have B1 : Below w.heap.size w w1 := below_next (by go_grown) (by go_size) hb1
  have s1 := B1.size
  clear hb1
  obtain ⟨q0, q1, q2, -, -, -⟩ := KA.three
  obtain ⟨p0, p1, p2, -, -, -⟩ := KC.three
  go_wp2_with fail
  refine (implValidRoll _ _ _ _).mono ?_; rintro e w2 ⟨rfl, hb2⟩; rw [Hd.out]
  replace KA := KA.call hb2; replace KC := KC.call hb2; replace KR := KR.call hb2
  have B2 : Below w.heap.size w w2 := below_next B1 s1 hb2
  have s2 := B2.size
  clear hb2 q0 q1 q2 p0 p1 p2 B1 s1
  obtain ⟨q0, q1, q2, -, -, -⟩ := KA.three
  obtain ⟨p0, p1, p2, -, -, -⟩ := KC.three
  go_wp2_with fail
  refine (implLengthOf _ _ _ _).mono ?_; rintro e w3 ⟨rfl, hb3⟩; rw [← HL.out]
  replace KA := KA.call hb3; replace KC := KC.call hb3; replace KR := KR.call hb3
  have B3 : Below w.heap.size w w3 := below_next B2 s2 hb3
  have s3 := B3.size
  clear hb3 q0 q1 q2 p0 p1 p2 B2 s2
  obtain ⟨q0, q1, q2, -, -, -⟩ := KA.three
  obtain ⟨p0, p1, p2, -, -, -⟩ := KC.three
  have l1 := KA.lt
  have l2 := KC.lt
  have l3 := KR.lt
  go_upto_region 4 with fail
  go_cut [8] (fun x wr => ∃ g : Nat, x = .pointer (some ⟨g, 0, none⟩) ∧ Bk wr g 24 #[.int .i64 d, .int .i64 t, .int .i64 m] ∧ Bk wr (w.heap.size + 1 + 1) 24 #[.int .i64 0, .int .i64 0, .int .i64 0] ∧ ¬ g = w.heap.size + 1 + 1 ∧ Below w.heap.size w wr)
  case first =>
    go_region_held3 (fun w' => w'.cell? ⟨w.heap.size, 0, none⟩ = some (.int .i64 c) ∧ w'.cell? ⟨w.heap.size, 1, none⟩ = some (.int .i64 t) ∧ w'.cell? ⟨w.heap.size, 2, none⟩ = some (.int .i64 n) ∧ w'.cell? ⟨w.heap.size + 1, 0, none⟩ = some (.int .i64 d) ∧ w'.cell? ⟨w.heap.size + 1, 1, none⟩ = some (.int .i64 t) ∧ w'.cell? ⟨w.heap.size + 1, 2, none⟩ = some (.int .i64 0))
      (((try dsimp only); (repeat' apply And.intro) <;> (first | (with_reducible assumption) | (rw [World.cell?_drew, World.cell?_alloc_lt _ _ _ (by first | exact l1 | exact l2)]; with_reducible assumption) | (rw [World.cell?_alloc_lt _ _ _ (by first | exact l1 | exact l2)]; with_reducible assumption) | (rw [far3 (by omega)]; with_reducible assumption) | (simp [*]; done))))
      (first
        | (go_at_call 34; refine (implTurnsFor _ _ _ _ (by omega) _).mono ?_; rintro e wx ⟨rfl, hbx⟩; have KXx : Bk wx w3.heap.size 24 #[.int .i64 0, .int .i64 0, .int .i64 0] := Bk.call (Bk.made w3 24 #[.int .i64 0, .int .i64 0, .int .i64 0]).drew hbx; have Hw := hide (rfl : w3.heap.size = w3.heap.size); rw [tfOf_yes Hd.out (by omega), ← HM.out]; have BX : Below w.heap.size w wx := below_next (by go_grown) (by go_size) hbx; have sx := BX.size; have KAx : Bk wx w.heap.size 24 #[.int .i64 c, .int .i64 t, .int .i64 n] := (by first | exact Bk.call KA.drew hbx | exact Bk.call KA hbx | exact Bk.call (KA.alloc _).drew hbx); have KCx : Bk wx (w.heap.size + 1) 24 #[.int .i64 d, .int .i64 t, .int .i64 0] := (by first | exact Bk.call KC.drew hbx | exact Bk.call KC hbx | exact Bk.call (KC.alloc _).drew hbx); have KRx : Bk wx (w.heap.size + 1 + 1) 24 #[.int .i64 0, .int .i64 0, .int .i64 0] := (by first | exact Bk.call KR.drew hbx | exact Bk.call KR hbx | exact Bk.call (KR.alloc _).drew hbx); have l1 := KAx.lt; have l2 := KCx.lt; obtain ⟨q0, q1, q2, -, -, -⟩ := KAx.three; obtain ⟨p0, p1, p2, -, -, -⟩ := KCx.three; obtain ⟨x0, x1, x2, x3, x4, x5⟩ := KXx.three)
        | (go_at_call 34; refine (implTurnsFor _ _ _ _ (by omega) _).mono ?_; rintro e wx ⟨rfl, hbx⟩; rw [tfOf_yes Hd.out (by omega), ← HM.out]; have BX : Below w.heap.size w wx := below_next (by go_grown) (by go_size) hbx; have sx := BX.size; have KAx : Bk wx w.heap.size 24 #[.int .i64 c, .int .i64 t, .int .i64 n] := (by first | exact Bk.call KA.drew hbx | exact Bk.call KA hbx | exact Bk.call (KA.alloc _).drew hbx); have KCx : Bk wx (w.heap.size + 1) 24 #[.int .i64 d, .int .i64 t, .int .i64 0] := (by first | exact Bk.call KC.drew hbx | exact Bk.call KC hbx | exact Bk.call (KC.alloc _).drew hbx); have KRx : Bk wx (w.heap.size + 1 + 1) 24 #[.int .i64 0, .int .i64 0, .int .i64 0] := (by first | exact Bk.call KR.drew hbx | exact Bk.call KR hbx | exact Bk.call (KR.alloc _).drew hbx); have l1 := KAx.lt; have l2 := KCx.lt; obtain ⟨q0, q1, q2, -, -, -⟩ := KAx.three; obtain ⟨p0, p1, p2, -, -, -⟩ := KCx.three))
    · go_wp2_with fail
      go_meet
      exact ⟨wx.heap.size, rfl, Bk.made _ _ _, KRx.alloc _, by have := KRx.lt; omega, by go_grown⟩
    · go_wp2_with fail
      go_meet
      exact ⟨w3.heap.size, rfl, ((KXx.put 0 (.int .i64 d)).put 1 (.int .i64 t)).put 2 (.int .i64 m), ((KRx.far (p := ⟨w3.heap.size, 0, none⟩) (by simp; omega) _).far (p := ⟨w3.heap.size, 1, none⟩) (by simp; omega) _).far (p := ⟨w3.heap.size, 2, none⟩) (by simp; omega) _, by omega, by go_grown⟩
  case rest =>
    obtain ⟨g, rfl, KX, KR, hg, BW⟩ := hcut
    clear KA KC q0 q1 q2 p0 p1 p2 l1 l2 l3 B3 s3
    have sW := BW.size
    obtain ⟨x0, x1, x2, -, -, -⟩ := KX.three
    go_wp2_with fail
    go_region_held3 (fun w' => w'.cell? ⟨g, 0, none⟩ = some (.int .i64 d) ∧ w'.cell? ⟨g, 1, none⟩ = some (.int .i64 t) ∧ w'.cell? ⟨g, 2, none⟩ = some (.int .i64 m))
      (((try dsimp only); (repeat' apply And.intro) <;> (first | (with_reducible assumption) | (rw [far3 hg]; with_reducible assumption) | (simp [*]; done))))
      (first
        | (go_at_call 27; refine (implLengthOf _ _ _ _).mono ?_; rintro e wx ⟨rfl, hbx⟩; rw [lnOf_yes Hm.out, Int.toNat_natCast]; have BX : Below w.heap.size w wx := below_next (by go_grown) (by go_size) hbx; have sx := BX.size; have KXx := Bk.call (Bk.drew KX) hbx; have KRx := Bk.call (Bk.drew KR) hbx; obtain ⟨x0, x1, x2, -, -, -⟩ := KXx.three; obtain ⟨r0, r1, r2, r3, r4, r5⟩ := KRx.three))
    go_wp2
    have KF := ((KRx.put 0 (.int .i64 d)).put 1 (.int .i64 t)).put 2 (.int .i64 m)
    obtain ⟨u0, u1, u2, -, -, -⟩ := Bk.three (a := .int .i64 d) (b := .int .i64 t) (c := .int .i64 m) KF
    have ew : IntKind.i64.wrap (L - ln d t m) = L - ln d t m := IntWalk.i64_in _ ⟨by omega, by omega⟩
    refine bodyPost_ret (v := .tuple #[roll d t m, .int .i64 (L - ln d t m), .bool true]) (by simp [results, Try.results43, go_sem, u0, u1, u2, ew]) rfl ?_
    exact ⟨rfl, by go_grown⟩
set_option maxHeartbeats 1000000 in
theorem specRewind_yes (c d t n : Int) (hv : vr c t n = true) (hd : vr d t 0 = true) (w : World) : Calls Try.prog 44 #[roll c t n, roll d t 0] w fun e w' =>
    e = .returned (.tuple #[roll d t (tfor d t (lnOf c t n)), .int .i64 (lnOf c t n - ln d t (tfor d t (lnOf c t n))), .bool true]) ∧ Below w.heap.size w w' := by
  obtain ⟨h1, h2, h3, h4, h5, h6⟩ := vr_true hv
  obtain ⟨i1, i2, -, -, -, -⟩ := vr_true hd
  have b1 := lnOf_bd hv
  obtain ⟨L, hL⟩ : ∃ L, L = lnOf c t n := ⟨_, rfl⟩
  have HL := hide hL; clear hL
  rw [← HL.out] at b1 ⊢
  have tb := tfor_le d t L
  obtain ⟨m, hm⟩ : ∃ m, m = tfor d t L := ⟨_, rfl⟩
  have HM := hide hm; clear hm
  rw [← HM.out] at tb ⊢
  have b2 := ln_bd i1 i2 h3 h4 m (by omega)
  have tb' : (m : Int) ≤ 300 := by omega
  have Hv := hide hv; clear hv
  have Hd := hide hd; clear hd
  go_enter Try.func44, Try.ntmps44
  go_wp2_with fail
  refine (specValidRoll0 _ _ _ _).mono ?_; rintro e w1 ⟨rfl, hb1⟩; rw [Hv.out]
  have KA : Bk w1 w.heap.size 24 #[.int .i64 c, .int .i64 t, .int .i64 n] := (((Bk.made _ _ _).alloc _).alloc _).call hb1
  have KC : Bk w1 (w.heap.size + 1) 24 #[.int .i64 d, .int .i64 t, .int .i64 0] := by
    have := (((Bk.made (w.alloc (.cells #[.int .i64 c, .int .i64 t, .int .i64 n] 24)) 24 #[.int .i64 d, .int .i64 t, .int .i64 0]).alloc (.cells #[.int .i64 0, .int .i64 0, .int .i64 0] 24)).call hb1)
    simpa using this
  have KR : Bk w1 (w.heap.size + 1 + 1) 24 #[.int .i64 0, .int .i64 0, .int .i64 0] := by
    have := (Bk.made ((w.alloc (.cells #[.int .i64 c, .int .i64 t, .int .i64 n] 24)).alloc (.cells #[.int .i64 d, .int .i64 t, .int .i64 0] 24)) 24 #[.int .i64 0, .int .i64 0, .int .i64 0]).call hb1
    simpa using this
  have B1 : Below w.heap.size w w1 := below_next (by go_grown) (by go_size) hb1
  have s1 := B1.size
  clear hb1
  obtain ⟨q0, q1, q2, -, -, -⟩ := KA.three
  obtain ⟨p0, p1, p2, -, -, -⟩ := KC.three
  go_wp2_with fail
  refine (specValidRoll0 _ _ _ _).mono ?_; rintro e w2 ⟨rfl, hb2⟩; rw [Hd.out]
  replace KA := KA.call hb2; replace KC := KC.call hb2; replace KR := KR.call hb2
  have B2 : Below w.heap.size w w2 := below_next B1 s1 hb2
  have s2 := B2.size
  clear hb2 q0 q1 q2 p0 p1 p2 B1 s1
  obtain ⟨q0, q1, q2, -, -, -⟩ := KA.three
  obtain ⟨p0, p1, p2, -, -, -⟩ := KC.three
  go_wp2_with fail
  refine (specLengthOf1 _ _ _ _ h1 h2 h3 h4 h5 h6 _).mono ?_; rintro e w3 ⟨rfl, hb3⟩; rw [← lnOf_yes Hv.out, ← HL.out]
  replace KA := KA.call hb3; replace KC := KC.call hb3; replace KR := KR.call hb3
  have B3 : Below w.heap.size w w3 := below_next B2 s2 hb3
  have s3 := B3.size
  clear hb3 q0 q1 q2 p0 p1 p2 B2 s2
  obtain ⟨p0, p1, p2, -, -, -⟩ := KC.three
  go_wp2_with fail
  refine (specTurnsFor0 _ _ _ _ i1 i2 h3 h4 b1.1 (by omega) _).mono ?_; rintro e w4 ⟨rfl, hb4⟩; rw [← HM.out]
  replace KC := KC.call hb4; replace KR := KR.call hb4
  have B4 : Below w.heap.size w w4 := below_next B3 s3 hb4
  have s4 := B4.size
  clear hb4 p0 p1 p2 B3 s3 KA
  obtain ⟨p0, p1, p2, p3, p4, p5⟩ := KC.three
  have BW : Below w.heap.size w (w4.setCell ⟨w.heap.size + 1, 2, none⟩ (.int .i64 m)) := B4.setCell (by simp) _
  have KX : Bk (w4.setCell ⟨w.heap.size + 1, 2, none⟩ (.int .i64 m)) (w.heap.size + 1) 24 #[.int .i64 d, .int .i64 t, .int .i64 m] := KC.put 2 (.int .i64 m)
  replace KR := KR.far (p := ⟨w.heap.size + 1, 2, none⟩) (by simp) (.int .i64 m)
  go_wp2_with fail
  clear p0 p1 p2 p3 p4 p5 B4 s4 KC
  have hg : ¬ w.heap.size + 1 = w.heap.size + 1 + 1 := by omega
  generalize w4.setCell ⟨w.heap.size + 1, 2, none⟩ (.int .i64 m) = W5 at *
  have sW := BW.size
  obtain ⟨x0, x1, x2, -, -, -⟩ := KX.three
  go_region_held3 (fun w' => w'.cell? ⟨w.heap.size + 1, 0, none⟩ = some (.int .i64 d) ∧ w'.cell? ⟨w.heap.size + 1, 1, none⟩ = some (.int .i64 t) ∧ w'.cell? ⟨w.heap.size + 1, 2, none⟩ = some (.int .i64 m))
    (((try dsimp only); (repeat' apply And.intro) <;> (first | (with_reducible assumption) | (rw [far3 hg]; with_reducible assumption) | (simp [*]; done))))
    (first
      | (go_at_call 53; refine (specLengthOf0 _ _ _ _ i1 i2 h3 h4 tb _).mono ?_; rintro e wx ⟨rfl, hbx⟩; have BX : Below w.heap.size w wx := below_next (by go_grown) (by go_size) hbx; have sx := BX.size; have KXx := Bk.call (Bk.drew KX) hbx; have KRx := Bk.call (Bk.drew KR) hbx; obtain ⟨x0, x1, x2, -, -, -⟩ := KXx.three; obtain ⟨r0, r1, r2, r3, r4, r5⟩ := KRx.three))
  go_wp2
  have KF := ((KRx.put 0 (.int .i64 d)).put 1 (.int .i64 t)).put 2 (.int .i64 m)
  obtain ⟨u0, u1, u2, -, -, -⟩ := Bk.three (a := .int .i64 d) (b := .int .i64 t) (c := .int .i64 m) KF
  have ew : IntKind.i64.wrap (L - ln d t m) = L - ln d t m := IntWalk.i64_in _ ⟨by omega, by omega⟩
  refine bodyPost_ret (v := .tuple #[roll d t m, .int .i64 (L - ln d t m), .bool true]) (by simp [results, Try.results44, go_sem, u0, u1, u2, ew]) rfl ?_
  exact ⟨rfl, by go_grown⟩
end Go.Proofs.Ytbmnmdpgkdaiiaa
