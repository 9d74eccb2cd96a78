/- Contracts of the drawn arguments of TurnAt and Rewind. -/
import Derived.Test.YtbmnmdpgkdaiiaaRdR2
import Derived.Test.YtbmnmdpgkdaiiaaRoll5
import Derived.BigRegion
namespace Go.Proofs.Ytbmnmdpgkdaiiaa
open Go.RowKit Pl
attribute [local go_sem ↓] Go.wp_at_zero Go.wp_at_succ
set_option linter.unusedVariables false
set_option maxRecDepth 100000
set_option maxHeartbeats 2000000 in
theorem drawTurnAt_any (A : Option Addr) (n c : Nat) (bs : List Int) (w : World) (hn : n ≤ 1048576) (hnc : n ≤ c) (h : Byts w A n bs) : Calls Try.prog 39 #[.slice A n c] w (GotRI (-1) 10000000 w) := by
  have h' := h.alloc (.cells #[.int .i64 0, .int .i64 0, .int .i64 0] 24)
  clear h
  go_enter Try.func39, Try.ntmps39
  go_wp2_with fail
  refine (newReader_c A n c bs _ hn hnc h').mono ?_; rintro e w1 ⟨rfl, hR, hb, hz⟩
  have KR1 := hide ((Bk.made w 24 #[.int .i64 0, .int .i64 0, .int .i64 0]).call hb)
  have hz1 : w.heap.size + 1 < w1.heap.size := by simp at hz; omega
  have B1 := hide (((Below.refl w.heap.size w).alloc (Nat.le_refl _) (.cells #[.int .i64 0, .int .i64 0, .int .i64 0] 24)).trans (hb.mono (by simp)))
  have R1 := hide hR; rw [World.size_alloc] at R1
  clear hR hb hz h'
  go_wp2_with fail
  refine (anyRoll_any (w.heap.size + 1) 0 _ (by omega) R1.out).mono ?_
  rintro e w2 ⟨a, t, m, rfl, hP, hR2, hS2⟩
  have KR2 := hide (KR1.out.rsn hS2 (by omega))
  have B2 := hide (B1.out.trans (hS2.below (L := w.heap.size) (by omega) (by omega)))
  have z2 : w.heap.size + 1 < w2.heap.size := by have := hS2.size; omega
  have R2 := hide hR2; have HP := hide hP; clear hP hR2 hS2 KR1 R1 B1
  have ne : ¬ w2.heap.size = w.heap.size := by omega
  have ne' : ¬ w.heap.size = w2.heap.size := by omega
  go_wp2_with fail
  refine (specValidRoll0 _ _ _ _).mono ?_; rintro e w3 ⟨rfl, hb⟩
  have KR3 := hide ((KR2.out.alloc _).call hb)
  have KX3 := hide ((Bk.made w2 24 #[.int .i64 a, .int .i64 t, .int .i64 m]).call hb)
  have R3 := hide ((R2.out.alloc _).call hb)
  have B3 := hide (below_then (B2.out.alloc B2.out.size _) hb)
  clear hb KR2 R2 B2
  obtain ⟨P, hPe⟩ : ∃ P, tl 76 1 0 = P := ⟨_, rfl⟩
  have pb := tl_bd (c := 76) (t := 1) (k := 0) (by omega) (by omega) (by omega) (by omega) (by omega) (by omega)
  rw [hPe] at pb
  have HPE := hide hPe; clear hPe
  obtain ⟨pb1, pb2⟩ := pb
  cases hv : vr a t m
  · have HV := hide hv; clear hv
    have l1 := KX3.out.lt
    obtain ⟨q0, q1, q2, -, -, -⟩ := KX3.out.three
    go_wp2_with fail
    go_region_held3 (fun w' => w'.cell? ⟨w2.heap.size, 0, none⟩ = some (.int .i64 a) ∧ w'.cell? ⟨w2.heap.size, 1, none⟩ = some (.int .i64 t) ∧ w'.cell? ⟨w2.heap.size, 2, none⟩ = some (.int .i64 m))
      (((try dsimp only); (repeat' apply And.intro) <;> (first | (with_reducible assumption) | (rw [World.cell?_drew]; with_reducible assumption) | (rw [World.cell?_alloc_lt _ _ _ (by exact l1)]; with_reducible assumption) | (rw [far3 ne]; with_reducible assumption) | (simp [*]; done))))
      (first
        | (go_at_call 51; refine (specTurnLength0 _ _ _ _ (by omega) (by omega) (by omega) (by omega) (by omega) (by omega) _).mono ?_; rintro e wx ⟨rfl, hbx⟩; rw [HPE.out]; have KXx := hide (KX3.out.drew.call hbx); have KRx := hide (KR3.out.drew.call hbx); have Rx := hide ((R3.out.drewN 1).call hbx); have Bx := hide (below_then (below_drewN B3.out 1) hbx); clear q0 q1 q2 l1 hbx; have l1 := KXx.out.lt; obtain ⟨q0, q1, q2, -, -, -⟩ := KXx.out.three)
        | (go_at_call 47; refine (one_arr (w.heap.size + 1) _ _ _ _ _ _ (by simp) (by rfl) (by simp) (by simp) (by omega) Rx.out).mono ?_; rintro e wy ⟨y, rfl, hy, hR, hS⟩; have HY := hide hy; have KRy := hide (KRx.out.rsn hS (by omega)); have KXy := hide (KXx.out.rsn hS (by omega)); have By := hide (Bx.out.trans (hS.below (L := w.heap.size) (by omega) (Rx.out.lt))); clear q0 q1 q2 l1 hR hS hy; have l1 := KXy.out.lt; obtain ⟨q0, q1, q2, -, -, -⟩ := KXy.out.three; obtain ⟨r0, r1, r2, r3, r4, r5⟩ := KRy.out.three))
    go_wp2_with fail
    have KF := ((KRy.out.put 0 (.int .i64 a)).put 1 (.int .i64 t)).put 2 (.int .i64 m)
    obtain ⟨u0, u1, u2, -, -, -⟩ := Bk.three (a := .int .i64 a) (b := .int .i64 t) (c := .int .i64 m) KF
    refine bodyPost_ret (v := .tuple #[roll a t m, .int .i64 y]) (by simp [results, Try.results39, go_sem, u0, u1, u2]) rfl ?_
    refine ⟨a, t, m, y, rfl, HP.out, ?_, ((By.out.setCell (Nat.le_refl _) _).setCell (Nat.le_refl _) _).setCell (Nat.le_refl _) _⟩
    have hy := HY.out
    simp [show IntKind.i64.wrap 0 = 0 from rfl] at hy
    omega
  · obtain ⟨h1, h2, h3, h4, h5, h6⟩ := vr_true hv
    have lb := lnOf_bd hv
    have HL := hide (lnOf_yes hv); rw [lnOf_yes hv] at lb
    obtain ⟨L, hL⟩ : ∃ L, ln a t m.toNat = L := ⟨_, rfl⟩
    rw [hL] at lb
    obtain ⟨lb1, lb2⟩ := lb
    have HLL := hide hL; clear hL hv
    obtain ⟨q0, q1, q2, -, -, -⟩ := KX3.out.three
    go_wp2_with fail
    refine (specLengthOf1 _ _ _ _ h1 h2 h3 h4 h5 h6 _).mono ?_; rintro e w4 ⟨rfl, hb⟩; rw [HLL.out]
    have KR4 := hide (KR3.out.call hb); have KX4 := hide (KX3.out.call hb); have R4 := hide (R3.out.call hb); have B4 := hide (below_then B3.out hb)
    clear hb KR3 KX3 R3 B3 q0 q1 q2
    have l1 := KX4.out.lt
    obtain ⟨q0, q1, q2, -, -, -⟩ := KX4.out.three
    go_wp2_with fail
    go_region_held3 (fun w' => w'.cell? ⟨w2.heap.size, 0, none⟩ = some (.int .i64 a) ∧ w'.cell? ⟨w2.heap.size, 1, none⟩ = some (.int .i64 t) ∧ w'.cell? ⟨w2.heap.size, 2, none⟩ = some (.int .i64 m))
      (((try dsimp only); (repeat' apply And.intro) <;> (first | (with_reducible assumption) | (rw [World.cell?_drew]; with_reducible assumption) | (rw [World.cell?_alloc_lt _ _ _ (by exact l1)]; with_reducible assumption) | (rw [far3 ne]; with_reducible assumption) | (simp [*]; done))))
      (first
        | (go_at_call 51; refine (specTurnLength0 _ _ _ _ (by omega) (by omega) (by omega) (by omega) (by omega) (by omega) _).mono ?_; rintro e wx ⟨rfl, hbx⟩; rw [HPE.out]; have KXx := hide (KX4.out.drew.call hbx); have KRx := hide (KR4.out.drew.call hbx); have Rx := hide ((R4.out.drewN 1).call hbx); have Bx := hide (below_then (below_drewN B4.out 1) hbx); clear q0 q1 q2 l1 hbx; have l1 := KXx.out.lt; obtain ⟨q0, q1, q2, -, -, -⟩ := KXx.out.three)
        | (go_at_call 47; refine (one_arr (w.heap.size + 1) _ _ _ _ _ _ (by simp) (by rfl) (by simp) (by simp) (by omega) Rx.out).mono ?_; rintro e wy ⟨y, rfl, hy, hR, hS⟩; have HY := hide hy; have KRy := hide (KRx.out.rsn hS (by omega)); have KXy := hide (KXx.out.rsn hS (by omega)); have By := hide (Bx.out.trans (hS.below (L := w.heap.size) (by omega) (Rx.out.lt))); clear q0 q1 q2 l1 hR hS hy; have l1 := KXy.out.lt; obtain ⟨q0, q1, q2, -, -, -⟩ := KXy.out.three; obtain ⟨r0, r1, r2, r3, r4, r5⟩ := KRy.out.three))
    go_wp2_with fail
    have KF := ((KRy.out.put 0 (.int .i64 a)).put 1 (.int .i64 t)).put 2 (.int .i64 m)
    obtain ⟨u0, u1, u2, -, -, -⟩ := Bk.three (a := .int .i64 a) (b := .int .i64 t) (c := .int .i64 m) KF
    refine bodyPost_ret (v := .tuple #[roll a t m, .int .i64 y]) (by simp [results, Try.results39, go_sem, u0, u1, u2]) rfl ?_
    refine ⟨a, t, m, y, rfl, HP.out, ?_, ((By.out.setCell (Nat.le_refl _) _).setCell (Nat.le_refl _) _).setCell (Nat.le_refl _) _⟩
    have hy := HY.out
    simp only [List.mem_cons, List.not_mem_nil, or_false, Value.int.injEq, true_and] at hy
    have e1 : IntKind.i64.wrap (L - 1) = L - 1 := IntWalk.i64_in _ ⟨by omega, by omega⟩
    have e2 : L.tdiv 2 = L / 2 := Int.tdiv_eq_ediv_of_nonneg (by omega)
    have e3 : L.tdiv 3 = L / 3 := Int.tdiv_eq_ediv_of_nonneg (by omega)
    have e4 : IntKind.i64.wrap (L / 2) = L / 2 := IntWalk.i64_in _ ⟨by omega, by omega⟩
    have e5 : IntKind.i64.wrap (L / 3) = L / 3 := IntWalk.i64_in _ ⟨by omega, by omega⟩
    simp only [e1, e2, e3, e4, e5] at hy
    omega
def GotRR (w : World) (e : Ending) (w' : World) : Prop := ∃ c t n d u p, e = .returned (.tuple #[roll c t n, roll d u p]) ∧ (RolP c t n ∧ RolP d u p) ∧ Below w.heap.size w w'
set_option maxHeartbeats 2000000 in
theorem drawRewind_any (A : Option Addr) (n c : Nat) (bs : List Int) (w : World) (hn : n ≤ 1048576) (hnc : n ≤ c) (h : Byts w A n bs) : Calls Try.prog 42 #[.slice A n c] w (GotRR w) := by
  have h' := (h.alloc (.cells #[.int .i64 0, .int .i64 0, .int .i64 0] 24)).alloc (.cells #[.int .i64 0, .int .i64 0, .int .i64 0] 24)
  clear h
  go_enter Try.func42, Try.ntmps42
  go_wp2_with fail
  refine (newReader_c A n c bs _ hn hnc h').mono ?_; rintro e w1 ⟨rfl, hR, hb, hz⟩
  have KR1 := hide (((Bk.made w 24 #[.int .i64 0, .int .i64 0, .int .i64 0]).alloc _).call hb)
  have KS0 : Bk w1 (w.heap.size + 1) 24 #[.int .i64 0, .int .i64 0, .int .i64 0] := (by have := (Bk.made (w.alloc (.cells #[.int .i64 0, .int .i64 0, .int .i64 0] 24)) 24 #[.int .i64 0, .int .i64 0, .int .i64 0]).call hb; simpa using this)
  have KS1 := hide KS0; clear KS0
  have hz1 : w.heap.size + 2 < w1.heap.size := by simp at hz; omega
  have B1 := hide ((((Below.refl w.heap.size w).alloc (Nat.le_refl _) (.cells #[.int .i64 0, .int .i64 0, .int .i64 0] 24)).alloc (by simp) (.cells #[.int .i64 0, .int .i64 0, .int .i64 0] 24)).trans (hb.mono (by simp; omega)))
  have R1 := hide hR; rw [World.size_alloc, World.size_alloc] at R1
  clear hR hb hz h'
  go_wp2_with fail
  refine (anyRoll_any (w.heap.size + 1 + 1) 0 _ (by omega) R1.out).mono ?_
  rintro e w2 ⟨a, t, m, rfl, hP, hR2, hS2⟩
  have KR2 := hide (KR1.out.rsn hS2 (by omega)); have KS2 := hide (KS1.out.rsn hS2 (by omega))
  have B2 := hide (B1.out.trans (hS2.below (L := w.heap.size) (by omega) (by omega)))
  have z2 : w.heap.size + 2 < w2.heap.size := by have := hS2.size; omega
  have R2 := hide hR2; have HP := hide hP; clear hP hR2 hS2 KR1 KS1 R1 B1
  go_wp2_with fail
  refine (anyRoll_any (w.heap.size + 1 + 1) (0 + 7) _ (by omega) (R2.out.alloc _)).mono ?_
  rintro e w3 ⟨d, u, p, rfl, hQ, hR3, hS3⟩
  have KR3 := hide ((KR2.out.alloc _).rsn hS3 (by omega)); have KS3 := hide ((KS2.out.alloc _).rsn hS3 (by omega))
  have KX3 := hide ((Bk.made w2 24 #[.int .i64 a, .int .i64 t, .int .i64 m]).rsn hS3 (by omega))
  have B3 := hide ((B2.out.alloc B2.out.size _).trans (hS3.below (L := w.heap.size) (by omega) (by simp; omega)))
  have z3 : w2.heap.size < w3.heap.size := KX3.out.lt
  have R3 := hide hR3; have HQ := hide hQ; clear hQ hR3 hS3 KR2 KS2 R2 B2
  go_wp2_with fail
  refine (pick_any (w.heap.size + 1 + 1) (0 + 7 + 7) 6 _ (by omega) (R3.out.alloc _)).mono ?_
  rintro e w4 ⟨v, rfl, hv, hR4, hS4⟩
  obtain ⟨v0, v1⟩ := hv.2 (by omega)
  have KR4 := hide ((KR3.out.alloc _).rsn hS4 (by omega)); have KS4 := hide ((KS3.out.alloc _).rsn hS4 (by omega)); have KX4 := hide ((KX3.out.alloc _).rsn hS4 (by omega))
  have KY4 := hide ((Bk.made w3 24 #[.int .i64 d, .int .i64 u, .int .i64 p]).rsn hS4 (by omega))
  have B4 := hide ((B3.out.alloc B3.out.size _).trans (hS4.below (L := w.heap.size) (by omega) (by simp; omega)))
  clear hv hR4 hS4 KR3 KS3 KX3 R3 B3
  have n1 : ¬ w2.heap.size = w.heap.size := by omega
  have n2 : ¬ w2.heap.size = w.heap.size + 1 := by omega
  have n3 : ¬ w3.heap.size = w.heap.size := by omega
  have n4 : ¬ w3.heap.size = w.heap.size + 1 := by omega
  have n5 : ¬ w3.heap.size = w2.heap.size := by omega
  have n1' : ¬ w.heap.size = w2.heap.size := by omega
  have n2' : ¬ w.heap.size + 1 = w2.heap.size := by omega
  have n3' : ¬ w.heap.size = w3.heap.size := by omega
  have n4' : ¬ w.heap.size + 1 = w3.heap.size := by omega
  have n5' : ¬ w2.heap.size = w3.heap.size := by omega
  have hu' := HP.out.2.1; have hp' := HP.out.2.2
  by_cases g : 0 < v
  · have KZ := hide ((KY4.out.put 2 (.int .i64 0)).put 1 (.int .i64 t))
    obtain ⟨y0, y1, y2, y3, y4, y5⟩ := KY4.out.three
    obtain ⟨x0, x1, x2, x3, x4, x5⟩ := KX4.out.three
    go_wp2_with fail
    have KXz := hide ((KX4.out.far (p := ⟨w3.heap.size, 2, none⟩) n5' (.int .i64 0)).far (p := ⟨w3.heap.size, 1, none⟩) n5' (.int .i64 t))
    have KRz := hide ((KR4.out.far (p := ⟨w3.heap.size, 2, none⟩) n3' (.int .i64 0)).far (p := ⟨w3.heap.size, 1, none⟩) n3' (.int .i64 t))
    have KSz := hide ((KS4.out.far (p := ⟨w3.heap.size, 2, none⟩) n4' (.int .i64 0)).far (p := ⟨w3.heap.size, 1, none⟩) n4' (.int .i64 t))
    have Bz := hide ((B4.out.setCell (p := ⟨w3.heap.size, 2, none⟩) (by simp; omega) (.int .i64 0)).setCell (p := ⟨w3.heap.size, 1, none⟩) (by simp; omega) (.int .i64 t))
    clear x0 x1 x2 x3 x4 x5 y0 y1 y2 y3 y4 y5 KR4 KS4 KX4 KY4 B4
    generalize (w4.setCell ⟨w3.heap.size, 2, none⟩ (.int .i64 0)).setCell ⟨w3.heap.size, 1, none⟩ (.int .i64 t) = W at *
    obtain ⟨y0, y1, y2, -, -, -⟩ := Bk.three (a := .int .i64 d) (b := .int .i64 t) (c := .int .i64 0) KZ.out
    obtain ⟨x0, x1, x2, -, -, -⟩ := KXz.out.three
    obtain ⟨r0, r1, r2, r3, r4, r5⟩ := KRz.out.three
    obtain ⟨s0, s1, s2, s3, s4, s5⟩ := KSz.out.three
    go_region
    all_goals go_wp2_with fail
    have ns : ¬ w.heap.size = w.heap.size + 1 := by omega
    have ns' : ¬ w.heap.size + 1 = w.heap.size := by omega
    have KRf := ((((((KRz.out.put 0 (.int .i64 a)).put 1 (.int .i64 t)).put 2 (.int .i64 m)).far (p := ⟨w.heap.size + 1, 0, none⟩) ns (.int .i64 d)).far (p := ⟨w.heap.size + 1, 1, none⟩) ns (.int .i64 t)).far (p := ⟨w.heap.size + 1, 2, none⟩) ns (.int .i64 0)).drew
    have KSf := ((((((KSz.out.far (p := ⟨w.heap.size, 0, none⟩) ns' (.int .i64 a)).far (p := ⟨w.heap.size, 1, none⟩) ns' (.int .i64 t)).far (p := ⟨w.heap.size, 2, none⟩) ns' (.int .i64 m)).put 0 (.int .i64 d)).put 1 (.int .i64 t)).put 2 (.int .i64 0)).drew
    obtain ⟨u0, u1, u2, -, -, -⟩ := Bk.three (a := .int .i64 a) (b := .int .i64 t) (c := .int .i64 m) KRf
    obtain ⟨t0, t1, t2, -, -, -⟩ := Bk.three (a := .int .i64 d) (b := .int .i64 t) (c := .int .i64 0) KSf
    refine bodyPost_ret (v := .tuple #[roll a t m, roll d t 0]) (by simp [results, Try.results42, go_sem, u0, u1, u2, t0, t1, t2]) rfl ?_
    refine ⟨a, t, m, d, t, 0, rfl, ⟨HP.out, ⟨HQ.out.1, HP.out.2.1, by omega⟩⟩, ?_⟩
    exact below_drewN ((((((Bz.out.setCell (Nat.le_refl _) _).setCell (Nat.le_refl _) _).setCell (Nat.le_refl _) _).setCell (by simp) _).setCell (by simp) _).setCell (by simp) _) 1
  · have KRz := KR4; have KSz := KS4; have Bz := B4
    clear KR4 KS4 B4
    obtain ⟨y0, y1, y2, -, -, -⟩ := KY4.out.three
    obtain ⟨x0, x1, x2, -, -, -⟩ := KX4.out.three
    obtain ⟨r0, r1, r2, r3, r4, r5⟩ := KRz.out.three
    obtain ⟨s0, s1, s2, s3, s4, s5⟩ := KSz.out.three
    go_wp2_with fail
    go_region
    all_goals go_wp2_with fail
    have ns : ¬ w.heap.size = w.heap.size + 1 := by omega
    have ns' : ¬ w.heap.size + 1 = w.heap.size := by omega
    have KRf := ((((((KRz.out.put 0 (.int .i64 a)).put 1 (.int .i64 t)).put 2 (.int .i64 m)).far (p := ⟨w.heap.size + 1, 0, none⟩) ns (.int .i64 d)).far (p := ⟨w.heap.size + 1, 1, none⟩) ns (.int .i64 u)).far (p := ⟨w.heap.size + 1, 2, none⟩) ns (.int .i64 p)).drew
    have KSf := ((((((KSz.out.far (p := ⟨w.heap.size, 0, none⟩) ns' (.int .i64 a)).far (p := ⟨w.heap.size, 1, none⟩) ns' (.int .i64 t)).far (p := ⟨w.heap.size, 2, none⟩) ns' (.int .i64 m)).put 0 (.int .i64 d)).put 1 (.int .i64 u)).put 2 (.int .i64 p)).drew
    obtain ⟨u0, u1, u2, -, -, -⟩ := Bk.three (a := .int .i64 a) (b := .int .i64 t) (c := .int .i64 m) KRf
    obtain ⟨t0, t1, t2, -, -, -⟩ := Bk.three (a := .int .i64 d) (b := .int .i64 u) (c := .int .i64 p) KSf
    refine bodyPost_ret (v := .tuple #[roll a t m, roll d u p]) (by simp [results, Try.results42, go_sem, u0, u1, u2, t0, t1, t2]) rfl ?_
    refine ⟨a, t, m, d, u, p, rfl, ⟨HP.out, HQ.out⟩, ?_⟩
    exact below_drewN ((((((Bz.out.setCell (Nat.le_refl _) _).setCell (Nat.le_refl _) _).setCell (Nat.le_refl _) _).setCell (by simp) _).setCell (by simp) _).setCell (by simp) _) 1
end Go.Proofs.Ytbmnmdpgkdaiiaa
