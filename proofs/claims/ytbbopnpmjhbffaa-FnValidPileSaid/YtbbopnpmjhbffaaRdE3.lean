/- Contracts of drawn arguments of chapter 2. -/
import Derived.Test.YtbbopnpmjhbffaaRdE2
namespace Go.Proofs.Ytbbopnpmjhbffaa
open Go.RowKit
attribute [local go_sem ↓] Go.wp_at_zero Go.wp_at_succ
set_option linter.unusedVariables false
set_option maxRecDepth 100000
set_option maxHeartbeats 4000000 in
theorem anyReel_any (rb N : Nat) (w : World) (hN : N ≤ 1000) (h : Rdr w rb N) :
    Calls Try.prog 20 #[.pointer (some ⟨rb, 0, none⟩)] w (DrewE rb (N + 30) w) := by
  have hrb := h.lt
  go_enter Try.func20, Try.ntmps20
  go_wp2_with fail
  refine (someReel_any rb N _ (by omega) (h.alloc _)).mono ?_
  rintro e w1 ⟨W, L, v, ds, rfl, ⟨⟨hW1, hW2⟩, ⟨hL1, hL2⟩, hdl⟩, ho, hR1, hS1⟩
  obtain ⟨Av, cv, hv, -, -⟩ := dfs_of_own ho
  subst hv
  have KZ1 := hide ((Bk.made w 25 #[.int .i64 0, .int .i64 0, .slice none 0 0]).rs hS1 (by omega))
  have O1 := hide (own_base (b' := w.heap.size) ho (by simp))
  have S1 := hide (((RS.refl rb w).alloc _).trans hS1); have R1 := hide hR1; clear ho hR1 hS1 h
  have l1 : w.heap.size < w1.heap.size := KZ1.out.lt
  go_wp2_with fail
  refine (pick_any rb (N + 28) 20 _ (by omega) (R1.out.alloc _)).mono ?_
  rintro e w2 ⟨v, rfl, hv, hR2, hS2⟩
  have hrb1 : rb < w1.heap.size := by omega
  have KZ2 := hide ((KZ1.out.alloc (.cells #[.int .i64 W, .int .i64 L, .slice Av ds.length cv] 25)).rs hS2 (by omega))
  have KT2 := hide ((Bk.made w1 25 #[.int .i64 W, .int .i64 L, .slice Av ds.length cv]).rs hS2 (by omega))
  have O2 := hide (ownsRow_rs (O1.out.alloc (.cells #[.int .i64 W, .int .i64 L, .slice Av ds.length cv] 25)) hS2 hrb)
  have S2 := hide ((S1.out.alloc (.cells #[.int .i64 W, .int .i64 L, .slice Av ds.length cv] 25)).trans hS2); have R2 := hide hR2; clear hR2 hS2 hv KZ1 R1 O1 S1
  obtain ⟨t0, t1, t2, f0, f1, f2⟩ := KT2.out.three
  have HDN := hide (show ds.length ≤ 1048576 by omega)
  have hb2 : w.heap.size ≤ w2.heap.size := S2.out.size
  rcases (show v = 0 ∨ v = 1 ∨ v = 2 ∨ v = 3 ∨ ((v == 0) = false ∧ (v == 1) = false ∧ (v == 2) = false ∧ (v == 3) = false) by
    by_cases e0 : v = 0
    · exact .inl e0
    · by_cases e1 : v = 1
      · exact .inr (.inl e1)
      · by_cases e2 : v = 2
        · exact .inr (.inr (.inl e2))
        · by_cases e3 : v = 3
          · exact .inr (.inr (.inr (.inl e3)))
          · exact .inr (.inr (.inr (.inr ⟨by simpa using e0, by simpa using e1, by simpa using e2, by simpa using e3⟩)))) with rfl | rfl | rfl | rfl | ⟨e0, e1, e2, e3⟩
  · clear t0 t1 t2 f0 f1 f2
    go_wp2_with fail
    refine (one_arr rb (N + 28 + 1) _ _ _ _ _ (by simp) (by rfl) (by simp) (by simp) (by omega) R2.out).mono ?_
    rintro e w3 ⟨y, rfl, hy, hR3, hS3⟩
    have hy2 : 0 ≤ y ∧ y ≤ 61 := by simp at hy; omega
    obtain ⟨y0, y1⟩ := hy2
    have KZ3 := hide (KZ2.out.rs hS3 (by omega)); have KT3 := hide (KT2.out.rs hS3 (by omega)); have O3 := hide (ownsRow_rs O2.out hS3 hrb)
    have S3 := hide (S2.out.trans hS3); have R3 := hide hR3; clear hy hR3 hS3 KZ2 KT2 O2 S2 R2
    have KTf := hide (KT3.out.put 0 (.int .i64 y))
    have KZf := hide (KZ3.out.far (p := ⟨w1.heap.size, 0, none⟩) (by simp; omega) (.int .i64 y))
    have Of := hide (own_put O3.out (p := ⟨w1.heap.size, 0, none⟩) KT3.out (by decide) (.int .i64 y))
    have Sf := hide (S3.out.set (q := ⟨w1.heap.size, 0, none⟩) (by simp; omega) (.int .i64 y)); have Rf := hide (R3.out.set (q := ⟨w1.heap.size, 0, none⟩) hrb1 (.int .i64 y))
    obtain ⟨t0, t1, t2, f0, f1, f2⟩ := KT3.out.three
    obtain ⟨z0, z1, z2, x0, x1, x2⟩ := KZ3.out.three
    go_wp2_with fail
    have ne : ¬ w1.heap.size = w.heap.size := by omega
    have KF := ((KZf.out.put 0 (.int .i64 y)).put 1 (.int .i64 L)).put 2 (.slice Av ds.length cv)
    obtain ⟨u0, u1, u2, -, -, -⟩ := Bk.three (a := .int .i64 y) (b := .int .i64 L) (c := .slice Av ds.length cv) KF
    refine bodyPost_ret (v := .agg #[.int .i64 y, .int .i64 L, .slice Av ds.length cv]) (by simp [results, Try.results20, go_sem, u0, u1, u2]) rfl ?_
    have K1 := KZf.out.put 0 (.int .i64 y)
    have K2 := K1.put 1 (.int .i64 L)
    exact ⟨y, L, _, ds, rfl, ⟨by omega, by omega, by first | omega | (simp; omega)⟩, own_put (own_put (own_put Of.out (p := ⟨w.heap.size, 0, none⟩) KZf.out (by decide) _) (p := ⟨w.heap.size, 1, none⟩) K1 (by decide) _) (p := ⟨w.heap.size, 2, none⟩) K2 (by decide) _, (((Rf.out.mono (by omega)).set hrb _).set hrb _).set hrb _, ((Sf.out.set (Nat.le_refl _) _).set (Nat.le_refl _) _).set (Nat.le_refl _) _⟩
  · clear t0 t1 t2 f0 f1 f2
    go_wp2_with fail
    refine (one_arr rb (N + 28 + 1) _ _ _ _ _ (by simp) (by rfl) (by simp) (by simp) (by omega) R2.out).mono ?_
    rintro e w3 ⟨y, rfl, hy, hR3, hS3⟩
    have hy2 : 0 ≤ y ∧ y ≤ 401 := by simp at hy; omega
    obtain ⟨y0, y1⟩ := hy2
    have KZ3 := hide (KZ2.out.rs hS3 (by omega)); have KT3 := hide (KT2.out.rs hS3 (by omega)); have O3 := hide (ownsRow_rs O2.out hS3 hrb)
    have S3 := hide (S2.out.trans hS3); have R3 := hide hR3; clear hy hR3 hS3 KZ2 KT2 O2 S2 R2
    have KZf := hide (KZ3.out.far (p := ⟨w1.heap.size, 1, none⟩) (by simp; omega) (.int .i64 y))
    have Of := hide (own_put O3.out (p := ⟨w1.heap.size, 1, none⟩) KT3.out (by decide) (.int .i64 y))
    have Sf := hide (S3.out.set (q := ⟨w1.heap.size, 1, none⟩) (by simp; omega) (.int .i64 y)); have Rf := hide (R3.out.set (q := ⟨w1.heap.size, 1, none⟩) hrb1 (.int .i64 y))
    obtain ⟨t0, t1, t2, f0, f1, f2⟩ := KT3.out.three
    obtain ⟨z0, z1, z2, x0, x1, x2⟩ := KZ3.out.three
    go_wp2_with fail
    have ne : ¬ w1.heap.size = w.heap.size := by omega
    have KF := ((KZf.out.put 0 (.int .i64 W)).put 1 (.int .i64 y)).put 2 (.slice Av ds.length cv)
    obtain ⟨u0, u1, u2, -, -, -⟩ := Bk.three (a := .int .i64 W) (b := .int .i64 y) (c := .slice Av ds.length cv) KF
    refine bodyPost_ret (v := .agg #[.int .i64 W, .int .i64 y, .slice Av ds.length cv]) (by simp [results, Try.results20, go_sem, u0, u1, u2]) rfl ?_
    have K1 := KZf.out.put 0 (.int .i64 W)
    have K2 := K1.put 1 (.int .i64 y)
    exact ⟨W, y, _, ds, rfl, ⟨by omega, by omega, by first | omega | (simp; omega)⟩, own_put (own_put (own_put Of.out (p := ⟨w.heap.size, 0, none⟩) KZf.out (by decide) _) (p := ⟨w.heap.size, 1, none⟩) K1 (by decide) _) (p := ⟨w.heap.size, 2, none⟩) K2 (by decide) _, (((Rf.out.mono (by omega)).set hrb _).set hrb _).set hrb _, ((Sf.out.set (Nat.le_refl _) _).set (Nat.le_refl _) _).set (Nat.le_refl _) _⟩
  · have hbw : w.heap.size ≤ w2.heap.size := S2.out.size
    have ewL : IntKind.i64.wrap (L + 1) = L + 1 := IntWalk.i64_in _ ⟨by omega, by omega⟩
    go_wp2_with (at_builtin; refine wpList_app5 rfl _ _ rfl w.heap.size _ ds.length ds 0 1 0 (L + 1) 1 w2 (by rfl) (by rfl) O2.out HDN.out hbw ?_; rintro v' w8 ⟨ho8, hb8, hk8⟩; obtain ⟨A8, c8, hv8, -, -⟩ := dfs_of_own ho8; subst hv8; have KZ8 := hide (KZ2.out.keepT hk8 (by decide)); have KT8 := hide (KT2.out.keepT hk8 (by decide)); have O8 := hide ho8; have S8 := hide (S2.out.from_ hb8); have R8 := hide (R2.out.below hb8 hrb); clear t0 t1 t2 f0 f1 f2 ho8 hb8 hk8; obtain ⟨t0, t1, t2, f0, f1, f2⟩ := KT8.out.three; obtain ⟨z0, z1, z2, x0, x1, x2⟩ := KZ8.out.three)
    have KZf := hide (KZ8.out.far (p := ⟨w1.heap.size, 2, none⟩) (by simp; omega) (.slice A8 (ds.length + 1) c8))
    have Of := hide (own_put O8.out (p := ⟨w1.heap.size, 2, none⟩) KT8.out (by decide) (.slice A8 (ds.length + 1) c8))
    have Sf := hide (S8.out.set (q := ⟨w1.heap.size, 2, none⟩) (by simp; omega) (.slice A8 (ds.length + 1) c8)); have Rf := hide (R8.out.set (q := ⟨w1.heap.size, 2, none⟩) hrb1 (.slice A8 (ds.length + 1) c8))
    go_wp2_with fail
    have ne : ¬ w1.heap.size = w.heap.size := by omega
    have KF := ((KZf.out.put 0 (.int .i64 W)).put 1 (.int .i64 L)).put 2 (.slice A8 (ds.length + 1) c8)
    obtain ⟨u0, u1, u2, -, -, -⟩ := Bk.three (a := .int .i64 W) (b := .int .i64 L) (c := .slice A8 (ds.length + 1) c8) KF
    refine bodyPost_ret (v := .agg #[.int .i64 W, .int .i64 L, .slice A8 (ds.length + 1) c8]) (by simp [results, Try.results20, go_sem, u0, u1, u2]) rfl ?_
    have K1 := KZf.out.put 0 (.int .i64 W)
    have K2 := K1.put 1 (.int .i64 L)
    exact ⟨W, L, _, (ds ++ [⟨0, 1, 0, L + 1, 1⟩]), rfl, ⟨by omega, by omega, by first | omega | (simp; omega)⟩, by rw [List.length_append]; exact own_put (own_put (own_put Of.out (p := ⟨w.heap.size, 0, none⟩) KZf.out (by decide) _) (p := ⟨w.heap.size, 1, none⟩) K1 (by decide) _) (p := ⟨w.heap.size, 2, none⟩) K2 (by decide) _, (((Rf.out.mono (by omega)).set hrb _).set hrb _).set hrb _, ((Sf.out.set (Nat.le_refl _) _).set (Nat.le_refl _) _).set (Nat.le_refl _) _⟩
  · have hbw : w.heap.size ≤ w2.heap.size := S2.out.size
    have ewL : IntKind.i64.wrap (L + 1) = L + 1 := IntWalk.i64_in _ ⟨by omega, by omega⟩
    go_wp2_with (at_builtin; refine wpList_app5 rfl _ _ rfl w.heap.size _ ds.length ds 0 1 0 1 0 w2 (by rfl) (by rfl) O2.out HDN.out hbw ?_; rintro v' w8 ⟨ho8, hb8, hk8⟩; obtain ⟨A8, c8, hv8, -, -⟩ := dfs_of_own ho8; subst hv8; have KZ8 := hide (KZ2.out.keepT hk8 (by decide)); have KT8 := hide (KT2.out.keepT hk8 (by decide)); have O8 := hide ho8; have S8 := hide (S2.out.from_ hb8); have R8 := hide (R2.out.below hb8 hrb); clear t0 t1 t2 f0 f1 f2 ho8 hb8 hk8; obtain ⟨t0, t1, t2, f0, f1, f2⟩ := KT8.out.three; obtain ⟨z0, z1, z2, x0, x1, x2⟩ := KZ8.out.three)
    have KZf := hide (KZ8.out.far (p := ⟨w1.heap.size, 2, none⟩) (by simp; omega) (.slice A8 (ds.length + 1) c8))
    have Of := hide (own_put O8.out (p := ⟨w1.heap.size, 2, none⟩) KT8.out (by decide) (.slice A8 (ds.length + 1) c8))
    have Sf := hide (S8.out.set (q := ⟨w1.heap.size, 2, none⟩) (by simp; omega) (.slice A8 (ds.length + 1) c8)); have Rf := hide (R8.out.set (q := ⟨w1.heap.size, 2, none⟩) hrb1 (.slice A8 (ds.length + 1) c8))
    go_wp2_with fail
    have ne : ¬ w1.heap.size = w.heap.size := by omega
    have KF := ((KZf.out.put 0 (.int .i64 W)).put 1 (.int .i64 L)).put 2 (.slice A8 (ds.length + 1) c8)
    obtain ⟨u0, u1, u2, -, -, -⟩ := Bk.three (a := .int .i64 W) (b := .int .i64 L) (c := .slice A8 (ds.length + 1) c8) KF
    refine bodyPost_ret (v := .agg #[.int .i64 W, .int .i64 L, .slice A8 (ds.length + 1) c8]) (by simp [results, Try.results20, go_sem, u0, u1, u2]) rfl ?_
    have K1 := KZf.out.put 0 (.int .i64 W)
    have K2 := K1.put 1 (.int .i64 L)
    exact ⟨W, L, _, (ds ++ [⟨0, 1, 0, 1, 0⟩]), rfl, ⟨by omega, by omega, by first | omega | (simp; omega)⟩, by rw [List.length_append]; exact own_put (own_put (own_put Of.out (p := ⟨w.heap.size, 0, none⟩) KZf.out (by decide) _) (p := ⟨w.heap.size, 1, none⟩) K1 (by decide) _) (p := ⟨w.heap.size, 2, none⟩) K2 (by decide) _, (((Rf.out.mono (by omega)).set hrb _).set hrb _).set hrb _, ((Sf.out.set (Nat.le_refl _) _).set (Nat.le_refl _) _).set (Nat.le_refl _) _⟩
  · have KZf := KZ2; have Of := O2; have Sf := S2; have Rf := R2
    obtain ⟨z0, z1, z2, x0, x1, x2⟩ := KZ2.out.three
    go_wp2_with fail
    have ne : ¬ w1.heap.size = w.heap.size := by omega
    have KF := ((KZf.out.put 0 (.int .i64 W)).put 1 (.int .i64 L)).put 2 (.slice Av ds.length cv)
    obtain ⟨u0, u1, u2, -, -, -⟩ := Bk.three (a := .int .i64 W) (b := .int .i64 L) (c := .slice Av ds.length cv) KF
    refine bodyPost_ret (v := .agg #[.int .i64 W, .int .i64 L, .slice Av ds.length cv]) (by simp [results, Try.results20, go_sem, u0, u1, u2]) rfl ?_
    have K1 := KZf.out.put 0 (.int .i64 W)
    have K2 := K1.put 1 (.int .i64 L)
    exact ⟨W, L, _, ds, rfl, ⟨by omega, by omega, by first | omega | (simp; omega)⟩, own_put (own_put (own_put Of.out (p := ⟨w.heap.size, 0, none⟩) KZf.out (by decide) _) (p := ⟨w.heap.size, 1, none⟩) K1 (by decide) _) (p := ⟨w.heap.size, 2, none⟩) K2 (by decide) _, (((Rf.out.mono (by omega)).set hrb _).set hrb _).set hrb _, ((Sf.out.set (Nat.le_refl _) _).set (Nat.le_refl _) _).set (Nat.le_refl _) _⟩
/-- a drawn reel and a part -/
def DrewEP (rb : Nat) (w : World) (e : Ending) (w' : World) : Prop := ∃ (W L : Int) (v : Value) (ds : List D5) (l r f t : Int), e = .returned (.tuple #[.agg #[.int .i64 W, .int .i64 L, v], part l r f t]) ∧ ((0 ≤ W ∧ W ≤ 61) ∧ (0 ≤ L ∧ L ≤ 401) ∧ ds.length ≤ 6) ∧
  ((0 ≤ l ∧ l ≤ 100) ∧ (0 ≤ r ∧ r ≤ 1000) ∧ (0 ≤ f ∧ f ≤ 1000) ∧ (0 ≤ t ∧ t ≤ 2000)) ∧ w'.ownsRow w.heap.size 43 5 v ds.length (flat ds) ∧ RS rb w w'
set_option maxHeartbeats 8000000 in
theorem partOf_any (rb N : Nat) (w : World) (hN : N ≤ 100) (h : Rdr w rb N) :
    Calls Try.prog 25 #[.pointer (some ⟨rb, 0, none⟩)] w (DrewEP rb w) := by
  have hrb := h.lt
  go_enter Try.func25, Try.ntmps25
  go_wp2_with fail
  refine (anyReel_any rb N _ (by omega) ((h.alloc _).alloc _)).mono ?_
  rintro e w1 ⟨W, L, v, ds, rfl, ⟨⟨hW1, hW2⟩, ⟨hL1, hL2⟩, hdl⟩, ho, hR1, hS1⟩
  obtain ⟨Av, cv, hv, -, -⟩ := dfs_of_own ho
  subst hv
  have KZ1 := hide (Bk.rs (Bk.alloc (Bk.made w 25 #[.int .i64 0, .int .i64 0, .slice none 0 0]) (.cells #[.int .i64 0, .int .i64 0, .int .i64 0, .int .i64 0] 30)) hS1 (by omega))
  have KQ1 : Hid (Bk w1 (w.heap.size + 1) 30 #[.int .i64 0, .int .i64 0, .int .i64 0, .int .i64 0]) := hide (by
    have := Bk.rs (Bk.made (w.alloc (.cells #[.int .i64 0, .int .i64 0, .slice none 0 0] 25)) 30 #[.int .i64 0, .int .i64 0, .int .i64 0, .int .i64 0]) hS1 (by simp; omega)
    simpa using this)
  have O1 := hide (own_base (b' := w.heap.size) ho (by simp; omega))
  have S1 := hide ((((RS.refl rb w).alloc _).alloc _).trans hS1); have R1 := hide hR1; clear ho hR1 hS1 h
  have l1 : w.heap.size + 1 < w1.heap.size := KQ1.out.lt
  go_wp2_with fail
  have KZ2 := hide (KZ1.out.alloc (.cells #[.int .i64 W, .int .i64 L, .slice Av ds.length cv] 25)); have KQ2 := hide (KQ1.out.alloc (.cells #[.int .i64 W, .int .i64 L, .slice Av ds.length cv] 25)); have KT2 := hide (Bk.made w1 25 #[.int .i64 W, .int .i64 L, .slice Av ds.length cv])
  have O2 := hide (O1.out.alloc (.cells #[.int .i64 W, .int .i64 L, .slice Av ds.length cv] 25)); have S2 := hide (S1.out.alloc (.cells #[.int .i64 W, .int .i64 L, .slice Av ds.length cv] 25)); have R2 := hide (R1.out.alloc (.cells #[.int .i64 W, .int .i64 L, .slice Av ds.length cv] 25))
  clear KZ1 KQ1 O1 S1 R1
  obtain ⟨A0, c0', e0, hD2, -⟩ := dfs_of_own O2.out
  injection e0 with e0 e1 e2
  subst e0 e2
  have HDN := hide (show ds.length ≤ 1048576 by omega)
  have hbadOrGood : True := trivial
  clear hbadOrGood
  cases hv : vRe W L ds
  · have HV := hide hv; clear hv
    refine (specValidReel0 W L Av ds.length cv ds _ HDN.out hD2).mono ?_; rintro e w3 ⟨rfl, hb⟩; rw [HV.out]
    have KZ3 := hide (KZ2.out.call hb); have KQ3 := hide (KQ2.out.call hb); have KT3 := hide (KT2.out.call hb); have O3 := hide (ownsRow_call O2.out hb)
    have S3 := hide (S2.out.then hb); have R3 := hide (R2.out.call hb); clear hb KZ2 KQ2 KT2 O2 S2 R2 hD2
    obtain ⟨t0, t1, t2, -, -, -⟩ := KT3.out.three
    obtain ⟨z0, z1, z2, x0, x1, x2⟩ := KZ3.out.three
    obtain ⟨q0, q1, q2, q3⟩ := KQ3.out.four
    have x3 := KQ3.out.free 0; have x4 := KQ3.out.free 1; have x5 := KQ3.out.free 2; have x6 := KQ3.out.free 3
    go_wp2_with fail
    refine wp_region_held_drew (S := fun w' => w'.cell? ⟨w1.heap.size, 0, none⟩ = some (.int .i64 W) ∧ w'.cell? ⟨w1.heap.size, 1, none⟩ = some (.int .i64 L) ∧ w'.cell? ⟨w1.heap.size, 2, none⟩ = some (.slice Av ds.length cv)) (by kernel_rfl) ?hS14 (fun hHeld => ?_)
    case hS14 => ((try dsimp only); (repeat' apply And.intro) <;> (first | (with_reducible assumption) | (rw [World.cell?_drew]; with_reducible assumption) | (rw [World.cell?_setCell_other _ _ _ _ (fun e => by injection e with _ e; cases e)]; with_reducible assumption) | (simp [*]; done)))
    refine wpAnyH_take (i := 0) (v := ?v15) (by simp only [List.getElem?_toArray, List.getElem?_cons_zero]; rfl) (by kernel_rfl) (by kernel_rfl) (by kernel_rfl) (by exact fun _ _ _ h => h) (Or.inl ⟨by rfl, ?hy15⟩) (by assumption) ?rest15
    case hy15 => (intro w hSw; (try dsimp only at hSw); go_simp; (try with_reducible rfl))
    (try simp only [Act.put, List.setIfInBounds_toArray, List.set_cons_zero, List.set_cons_succ])
    refine wpAnyH_take (i := 1) (v := ?v16) (by simp only [List.getElem?_toArray, List.getElem?_cons_succ, List.getElem?_cons_zero]; rfl) (by kernel_rfl) (by kernel_rfl) (by kernel_rfl) (by exact fun _ _ _ h => h) (Or.inl ⟨by rfl, ?hy16⟩) (by assumption) ?rest16
    case hy16 => (intro w hSw; (try dsimp only at hSw); go_simp; (try with_reducible rfl))
    (try simp only [Act.put, List.setIfInBounds_toArray, List.set_cons_zero, List.set_cons_succ])
    refine wpAnyH_take (i := 3) (v := ?v17) (by simp only [List.getElem?_toArray, List.getElem?_cons_succ, List.getElem?_cons_zero]; rfl) (by kernel_rfl) (by kernel_rfl) (by kernel_rfl) (by exact fun _ _ _ h => h) (Or.inl ⟨by rfl, ?hy17⟩) (by assumption) ?rest17
    case hy17 => (intro w hSw; (try dsimp only at hSw); go_simp; (try with_reducible rfl))
    (try simp only [Act.put, List.setIfInBounds_toArray, List.set_cons_zero, List.set_cons_succ])
    refine wpAnyH_take (i := 5) (v := ?v18) (by simp only [List.getElem?_toArray, List.getElem?_cons_succ, List.getElem?_cons_zero]; rfl) (by kernel_rfl) (by kernel_rfl) (by kernel_rfl) (by exact fun _ _ _ h => h) (Or.inl ⟨by rfl, ?hy18⟩) (by assumption) ?rest18
    case hy18 => (intro w hSw; (try dsimp only at hSw); go_simp; (try with_reducible rfl))
    (try simp only [Act.put, List.setIfInBounds_toArray, List.set_cons_zero, List.set_cons_succ])
    refine wpAnyH_take (i := 7) (v := ?v19) (by simp only [List.getElem?_toArray, List.getElem?_cons_succ, List.getElem?_cons_zero]; rfl) (by kernel_rfl) (by kernel_rfl) (by kernel_rfl) (by exact fun _ _ _ h => h) (Or.inl ⟨by rfl, ?hy19⟩) (by assumption) ?rest19
    case hy19 => (intro w hSw; (try dsimp only at hSw); go_simp; (try with_reducible rfl))
    (try simp only [Act.put, List.setIfInBounds_toArray, List.set_cons_zero, List.set_cons_succ])
    refine wpAnyH_ready (rs := [2]) (by kernel_rfl) (by simp) (AllReadyH.cons (by simp only [List.getElem?_toArray, List.getElem?_cons_succ, List.getElem?_cons_zero]; rfl) (fun K hK => ?_) AllReadyH.nil)
    go_simp
    refine (pick_any rb (N + 30) 3 _ (by omega) (R3.out.drewN 1)).mono ?_
    rintro e w10 ⟨pa, rfl, hc, hRx, hSx⟩
    obtain ⟨pa0, pa1⟩ := hc.2 (by omega)
    have KZ10 := hide (Bk.rs (Bk.drew KZ3.out) hSx (by omega)); have KQ10 := hide (Bk.rs (Bk.drew KQ3.out) hSx (by omega)); have KT10 := hide (Bk.rs (Bk.drew KT3.out) hSx (by omega))
    have O10 := hide (ownsRow_rs (w := w3.drew) O3.out hSx hrb); have S10 := hide ((S3.out.drewN 1).trans hSx); have R10 := hide hRx
    clear hc hRx hSx t0 t1 t2 z0 z1 z2 x0 x1 x2 q0 q1 q2 q3 x3 x4 x5 x6
    obtain ⟨t0, t1, t2, -, -, -⟩ := KT10.out.three
    obtain ⟨z0, z1, z2, x0, x1, x2⟩ := KZ10.out.three
    obtain ⟨q0, q1, q2, q3⟩ := KQ10.out.four
    have x3 := KQ10.out.free 0; have x4 := KQ10.out.free 1; have x5 := KQ10.out.free 2; have x6 := KQ10.out.free 3
    (try go_wp2_with fail)
    clear hHeld
    refine hK.out _ _ ?hS20 (fun hHeld => ?_)
    case hS20 => ((try dsimp only); (repeat' apply And.intro) <;> (first | (with_reducible assumption) | (rw [World.cell?_drew]; with_reducible assumption) | ((repeat rw [World.cell?_setCell_other _ _ _ _ (fun e => by injection e with e; omega)]); with_reducible assumption) | (simp [*]; done)))
    clear hK K
    (try simp only [Act.put, List.setIfInBounds_toArray, List.set_cons_zero, List.set_cons_succ])
    refine wpAnyH_ready (rs := [4]) (by kernel_rfl) (by simp) (AllReadyH.cons (by simp only [List.getElem?_toArray, List.getElem?_cons_succ, List.getElem?_cons_zero]; rfl) (fun K hK => ?_) AllReadyH.nil)
    go_simp
    refine (pick_any rb (N + 30 + 1) 30 _ (by omega) (R10.out)).mono ?_
    rintro e w11 ⟨pb, rfl, hc, hRx, hSx⟩
    obtain ⟨pb0, pb1⟩ := hc.2 (by omega)
    have KZ11 := hide (Bk.rs KZ10.out hSx (by omega)); have KQ11 := hide (Bk.rs KQ10.out hSx (by omega)); have KT11 := hide (Bk.rs KT10.out hSx (by omega))
    have O11 := hide (ownsRow_rs O10.out hSx hrb); have S11 := hide (S10.out.trans hSx); have R11 := hide hRx
    clear hc hRx hSx t0 t1 t2 z0 z1 z2 x0 x1 x2 q0 q1 q2 q3 x3 x4 x5 x6
    obtain ⟨t0, t1, t2, -, -, -⟩ := KT11.out.three
    obtain ⟨z0, z1, z2, x0, x1, x2⟩ := KZ11.out.three
    obtain ⟨q0, q1, q2, q3⟩ := KQ11.out.four
    have x3 := KQ11.out.free 0; have x4 := KQ11.out.free 1; have x5 := KQ11.out.free 2; have x6 := KQ11.out.free 3
    (try go_wp2_with fail)
    clear hHeld
    refine hK.out _ _ ?hS21 (fun hHeld => ?_)
    case hS21 => ((try dsimp only); (repeat' apply And.intro) <;> (first | (with_reducible assumption) | (rw [World.cell?_drew]; with_reducible assumption) | ((repeat rw [World.cell?_setCell_other _ _ _ _ (fun e => by injection e with e; omega)]); with_reducible assumption) | (simp [*]; done)))
    clear hK K
    (try simp only [Act.put, List.setIfInBounds_toArray, List.set_cons_zero, List.set_cons_succ])
    refine wpAnyH_ready (rs := [6]) (by kernel_rfl) (by simp) (AllReadyH.cons (by simp only [List.getElem?_toArray, List.getElem?_cons_succ, List.getElem?_cons_zero]; rfl) (fun K hK => ?_) AllReadyH.nil)
    go_simp
    refine (pick_any rb (N + 30 + 1 + 1) 3 _ (by omega) (R11.out)).mono ?_
    rintro e w12 ⟨pc, rfl, hc, hRx, hSx⟩
    obtain ⟨pc0, pc1⟩ := hc.2 (by omega)
    have KZ12 := hide (Bk.rs KZ11.out hSx (by omega)); have KQ12 := hide (Bk.rs KQ11.out hSx (by omega)); have KT12 := hide (Bk.rs KT11.out hSx (by omega))
    have O12 := hide (ownsRow_rs O11.out hSx hrb); have S12 := hide (S11.out.trans hSx); have R12 := hide hRx
    clear hc hRx hSx t0 t1 t2 z0 z1 z2 x0 x1 x2 q0 q1 q2 q3 x3 x4 x5 x6
    obtain ⟨t0, t1, t2, -, -, -⟩ := KT12.out.three
    obtain ⟨z0, z1, z2, x0, x1, x2⟩ := KZ12.out.three
    obtain ⟨q0, q1, q2, q3⟩ := KQ12.out.four
    have x3 := KQ12.out.free 0; have x4 := KQ12.out.free 1; have x5 := KQ12.out.free 2; have x6 := KQ12.out.free 3
    (try go_wp2_with fail)
    clear hHeld
    refine hK.out _ _ ?hS22 (fun hHeld => ?_)
    case hS22 => ((try dsimp only); (repeat' apply And.intro) <;> (first | (with_reducible assumption) | (rw [World.cell?_drew]; with_reducible assumption) | ((repeat rw [World.cell?_setCell_other _ _ _ _ (fun e => by injection e with e; omega)]); with_reducible assumption) | (simp [*]; done)))
    clear hK K
    (try simp only [Act.put, List.setIfInBounds_toArray, List.set_cons_zero, List.set_cons_succ])
    refine wpAnyH_ready (rs := [8]) (by kernel_rfl) (by simp) (AllReadyH.cons (by simp only [List.getElem?_toArray, List.getElem?_cons_succ, List.getElem?_cons_zero]; rfl) (fun K hK => ?_) AllReadyH.nil)
    go_simp
    refine (pick_any rb (N + 30 + 1 + 1 + 1) 60 _ (by omega) (R12.out)).mono ?_
    rintro e w13 ⟨pd, rfl, hc, hRx, hSx⟩
    obtain ⟨pd0, pd1⟩ := hc.2 (by omega)
    have KZ13 := hide (Bk.rs KZ12.out hSx (by omega)); have KQ13 := hide (Bk.rs KQ12.out hSx (by omega)); have KT13 := hide (Bk.rs KT12.out hSx (by omega))
    have O13 := hide (ownsRow_rs O12.out hSx hrb); have S13 := hide (S12.out.trans hSx); have R13 := hide hRx
    clear hc hRx hSx t0 t1 t2 z0 z1 z2 x0 x1 x2 q0 q1 q2 q3 x3 x4 x5 x6
    obtain ⟨t0, t1, t2, -, -, -⟩ := KT13.out.three
    obtain ⟨z0, z1, z2, x0, x1, x2⟩ := KZ13.out.three
    obtain ⟨q0, q1, q2, q3⟩ := KQ13.out.four
    have x3 := KQ13.out.free 0; have x4 := KQ13.out.free 1; have x5 := KQ13.out.free 2; have x6 := KQ13.out.free 3
    (try go_wp2_with fail)
    clear hHeld
    refine hK.out _ _ ?hS23 (fun hHeld => ?_)
    case hS23 => ((try dsimp only); (repeat' apply And.intro) <;> (first | (with_reducible assumption) | (rw [World.cell?_drew]; with_reducible assumption) | ((repeat rw [World.cell?_setCell_other _ _ _ _ (fun e => by injection e with e; omega)]); with_reducible assumption) | (simp [*]; done)))
    clear hK K
    (try simp only [Act.put, List.setIfInBounds_toArray, List.set_cons_zero, List.set_cons_succ])
    refine wpAnyH_take (i := 9) (v := ?v24) (by simp only [List.getElem?_toArray, List.getElem?_cons_succ, List.getElem?_cons_zero]; rfl) (by kernel_rfl) (by kernel_rfl) (by kernel_rfl) (by exact fun _ _ _ h => h) (Or.inl ⟨by rfl, ?hy24⟩) (by assumption) ?rest24
    case hy24 => (intro w hSw; (try dsimp only at hSw); go_simp; (try with_reducible rfl))
    (try simp only [Act.put, List.setIfInBounds_toArray, List.set_cons_zero, List.set_cons_succ])
    refine wpAnyH_ready (rs := [10]) (by kernel_rfl) (by simp) (AllReadyH.cons (by simp only [List.getElem?_toArray, List.getElem?_cons_succ, List.getElem?_cons_zero]; rfl) (fun K hK => ?_) AllReadyH.nil)
    go_simp
    clear hHeld
    refine hK.out _ _ ?hS25 (fun hHeld => ?_)
    case hS25 => ((try dsimp only); (repeat' apply And.intro) <;> (first | (with_reducible assumption) | (rw [World.cell?_drew]; with_reducible assumption) | ((repeat rw [World.cell?_setCell_other _ _ _ _ (fun e => by injection e with e; omega)]); with_reducible assumption) | (simp [*]; done)))
    clear hK K
    (try simp only [Act.put, List.setIfInBounds_toArray, List.set_cons_zero, List.set_cons_succ])
    refine wpAnyH_ready (rs := [11]) (by kernel_rfl) (by simp) (AllReadyH.cons (by simp only [List.getElem?_toArray, List.getElem?_cons_succ, List.getElem?_cons_zero]; rfl) (fun K hK => ?_) AllReadyH.nil)
    go_simp
    clear hHeld
    refine hK.out _ _ ?hS26 (fun hHeld => ?_)
    case hS26 => ((try dsimp only); (repeat' apply And.intro) <;> (first | (with_reducible assumption) | (rw [World.cell?_drew]; with_reducible assumption) | ((repeat rw [World.cell?_setCell_other _ _ _ _ (fun e => by injection e with e; omega)]); with_reducible assumption) | (simp [*]; done)))
    clear hK K
    (try simp only [Act.put, List.setIfInBounds_toArray, List.set_cons_zero, List.set_cons_succ])
    refine wpAnyH_done (by kernel_rfl) ?_ _
    go_wp2_with fail
    have K1 := KZ13.out.put 0 (.int .i64 W)
    have K2 := K1.put 1 (.int .i64 L)
    have K3 := K2.put 2 (.slice Av ds.length cv)
    have Q0 := ((KQ13.out.far (p := ⟨w.heap.size, 0, none⟩) (by simp) (.int .i64 W)).far (p := ⟨w.heap.size, 1, none⟩) (by simp) (.int .i64 L)).far (p := ⟨w.heap.size, 2, none⟩) (by simp) (.slice Av ds.length cv)
    have Q1 := Q0.put 0 (.int .i64 pa)
    have Q2 := Q1.put 1 (.int .i64 pb)
    have Q3 := Q2.put 2 (.int .i64 pc)
    have Q4 := Q3.put 3 (.int .i64 pd)
    have K4 := (((K3.far (p := ⟨w.heap.size + 1, 0, none⟩) (by simp) (.int .i64 pa)).far (p := ⟨w.heap.size + 1, 1, none⟩) (by simp) (.int .i64 pb)).far (p := ⟨w.heap.size + 1, 2, none⟩) (by simp) (.int .i64 pc)).far (p := ⟨w.heap.size + 1, 3, none⟩) (by simp) (.int .i64 pd)
    obtain ⟨u0, u1, u2, -, -, -⟩ := Bk.three (a := .int .i64 W) (b := .int .i64 L) (c := .slice Av ds.length cv) K4
    obtain ⟨u3, u4, u5, u6⟩ := Bk.four (a := .int .i64 pa) (b := .int .i64 pb) (c := .int .i64 pc) (d := .int .i64 pd) Q4
    refine bodyPost_ret (v := .tuple #[.agg #[.int .i64 W, .int .i64 L, .slice Av ds.length cv], part pa pb pc pd]) (by simp [results, Try.results25, go_sem, u0, u1, u2, u3, u4, u5, u6]) rfl ?_
    refine ⟨W, L, _, ds, pa, pb, pc, pd, rfl, ⟨⟨hW1, hW2⟩, ⟨hL1, hL2⟩, hdl⟩, ⟨by omega, by omega, by omega, by omega⟩, ?_, ?_⟩
    · exact own_put (own_put (own_put (own_put (own_put (own_put (own_put O13.out (p := ⟨w.heap.size, 0, none⟩) KZ13.out (by decide) _) (p := ⟨w.heap.size, 1, none⟩) K1 (by decide) _) (p := ⟨w.heap.size, 2, none⟩) K2 (by decide) _) (p := ⟨w.heap.size + 1, 0, none⟩) Q0 (by decide) _) (p := ⟨w.heap.size + 1, 1, none⟩) Q1 (by decide) _) (p := ⟨w.heap.size + 1, 2, none⟩) Q2 (by decide) _) (p := ⟨w.heap.size + 1, 3, none⟩) Q3 (by decide) _
    · exact ((((((S13.out.set (by simp) _).set (by simp) _).set (by simp) _).set (by simp) _).set (by simp) _).set (by simp) _).set (by simp) _
  · obtain ⟨hW, hL, -, -⟩ := vRe_out hv
    have HV := hide hv; clear hv
    refine (specValidReel0 W L Av ds.length cv ds _ HDN.out hD2).mono ?_; rintro e w3 ⟨rfl, hb⟩; rw [HV.out]
    have KZ3 := hide (KZ2.out.call hb); have KQ3 := hide (KQ2.out.call hb); have KT3 := hide (KT2.out.call hb); have O3 := hide (ownsRow_call O2.out hb)
    have S3 := hide (S2.out.then hb); have R3 := hide (R2.out.call hb); clear hb KZ2 KQ2 KT2 O2 S2 R2 hD2
    go_wp2_with fail
    refine (pick_any rb (N + 30) 10 _ (by omega) R3.out).mono ?_
    rintro e w4 ⟨y, rfl, hy, hR4, hS4⟩
    have KZ4 := hide (KZ3.out.rs hS4 (by omega)); have KQ4 := hide (KQ3.out.rs hS4 (by omega)); have KT4 := hide (KT3.out.rs hS4 (by omega)); have O4 := hide (ownsRow_rs O3.out hS4 hrb)
    have S4 := hide (S3.out.trans hS4); have R4 := hide (hR4.mono (by omega : N + 30 + 1 ≤ N + 31)); clear hR4 hS4 hy KZ3 KQ3 KT3 O3 S3 R3
    by_cases hy0 : y = 0
    · have hd : (y == 0) = true := by simpa using hy0
      clear hy0
      have KZ3 := KZ4; have KQ3 := KQ4; have KT3 := KT4; have O3 := O4; have S3 := S4; have R3 := R4
      clear KZ4 KQ4 KT4 O4 S4 R4
      obtain ⟨w33, hw33⟩ : ∃ w33 : World, w33 = w4 := ⟨_, rfl⟩
      subst hw33
      obtain ⟨t0, t1, t2, -, -, -⟩ := KT3.out.three
      obtain ⟨z0, z1, z2, x0, x1, x2⟩ := KZ3.out.three
      obtain ⟨q0, q1, q2, q3⟩ := KQ3.out.four
      have x3 := KQ3.out.free 0; have x4 := KQ3.out.free 1; have x5 := KQ3.out.free 2; have x6 := KQ3.out.free 3
      go_wp2_with fail
      refine wp_region_held_drew (S := fun w' => w'.cell? ⟨w1.heap.size, 0, none⟩ = some (.int .i64 W) ∧ w'.cell? ⟨w1.heap.size, 1, none⟩ = some (.int .i64 L) ∧ w'.cell? ⟨w1.heap.size, 2, none⟩ = some (.slice Av ds.length cv)) (by kernel_rfl) ?hS1 (fun hHeld => ?_)
      case hS1 => ((try dsimp only); (repeat' apply And.intro) <;> (first | (with_reducible assumption) | (rw [World.cell?_drew]; with_reducible assumption) | (rw [World.cell?_setCell_other _ _ _ _ (fun e => by injection e with _ e; cases e)]; with_reducible assumption) | (simp [*]; done)))
      refine wpAnyH_take (i := 0) (v := ?v2) (by simp only [List.getElem?_toArray, List.getElem?_cons_zero]; rfl) (by kernel_rfl) (by kernel_rfl) (by kernel_rfl) (by exact fun _ _ _ h => h) (Or.inl ⟨by rfl, ?hy2⟩) (by assumption) ?rest2
      case hy2 => (intro w hSw; (try dsimp only at hSw); go_simp; (try with_reducible rfl))
      (try simp only [Act.put, List.setIfInBounds_toArray, List.set_cons_zero, List.set_cons_succ])
      refine wpAnyH_take (i := 1) (v := ?v3) (by simp only [List.getElem?_toArray, List.getElem?_cons_succ, List.getElem?_cons_zero]; rfl) (by kernel_rfl) (by kernel_rfl) (by kernel_rfl) (by exact fun _ _ _ h => h) (Or.inl ⟨by rfl, ?hy3⟩) (by assumption) ?rest3
      case hy3 => (intro w hSw; (try dsimp only at hSw); go_simp; (try with_reducible rfl))
      (try simp only [Act.put, List.setIfInBounds_toArray, List.set_cons_zero, List.set_cons_succ])
      refine wpAnyH_take (i := 3) (v := ?v4) (by simp only [List.getElem?_toArray, List.getElem?_cons_succ, List.getElem?_cons_zero]; rfl) (by kernel_rfl) (by kernel_rfl) (by kernel_rfl) (by exact fun _ _ _ h => h) (Or.inl ⟨by rfl, ?hy4⟩) (by assumption) ?rest4
      case hy4 => (intro w hSw; (try dsimp only at hSw); go_simp; (try with_reducible rfl))
      (try simp only [Act.put, List.setIfInBounds_toArray, List.set_cons_zero, List.set_cons_succ])
      refine wpAnyH_take (i := 5) (v := ?v5) (by simp only [List.getElem?_toArray, List.getElem?_cons_succ, List.getElem?_cons_zero]; rfl) (by kernel_rfl) (by kernel_rfl) (by kernel_rfl) (by exact fun _ _ _ h => h) (Or.inl ⟨by rfl, ?hy5⟩) (by assumption) ?rest5
      case hy5 => (intro w hSw; (try dsimp only at hSw); go_simp; (try with_reducible rfl))
      (try simp only [Act.put, List.setIfInBounds_toArray, List.set_cons_zero, List.set_cons_succ])
      refine wpAnyH_take (i := 7) (v := ?v6) (by simp only [List.getElem?_toArray, List.getElem?_cons_succ, List.getElem?_cons_zero]; rfl) (by kernel_rfl) (by kernel_rfl) (by kernel_rfl) (by exact fun _ _ _ h => h) (Or.inl ⟨by rfl, ?hy6⟩) (by assumption) ?rest6
      case hy6 => (intro w hSw; (try dsimp only at hSw); go_simp; (try with_reducible rfl))
      (try simp only [Act.put, List.setIfInBounds_toArray, List.set_cons_zero, List.set_cons_succ])
      refine wpAnyH_ready (rs := [2]) (by kernel_rfl) (by simp) (AllReadyH.cons (by simp only [List.getElem?_toArray, List.getElem?_cons_succ, List.getElem?_cons_zero]; rfl) (fun K hK => ?_) AllReadyH.nil)
      go_simp
      refine (pick_any rb (N + 31) 3 _ (by omega) (R3.out.drewN 1)).mono ?_
      rintro e w10 ⟨pa, rfl, hc, hRx, hSx⟩
      obtain ⟨pa0, pa1⟩ := hc.2 (by omega)
      have KZ10 := hide (Bk.rs (Bk.drew KZ3.out) hSx (by omega)); have KQ10 := hide (Bk.rs (Bk.drew KQ3.out) hSx (by omega)); have KT10 := hide (Bk.rs (Bk.drew KT3.out) hSx (by omega))
      have O10 := hide (ownsRow_rs (w := w33.drew) O3.out hSx hrb); have S10 := hide ((S3.out.drewN 1).trans hSx); have R10 := hide hRx
      clear hc hRx hSx t0 t1 t2 z0 z1 z2 x0 x1 x2 q0 q1 q2 q3 x3 x4 x5 x6
      obtain ⟨t0, t1, t2, -, -, -⟩ := KT10.out.three
      obtain ⟨z0, z1, z2, x0, x1, x2⟩ := KZ10.out.three
      obtain ⟨q0, q1, q2, q3⟩ := KQ10.out.four
      have x3 := KQ10.out.free 0; have x4 := KQ10.out.free 1; have x5 := KQ10.out.free 2; have x6 := KQ10.out.free 3
      (try go_wp2_with fail)
      clear hHeld
      refine hK.out _ _ ?hS7 (fun hHeld => ?_)
      case hS7 => ((try dsimp only); (repeat' apply And.intro) <;> (first | (with_reducible assumption) | (rw [World.cell?_drew]; with_reducible assumption) | ((repeat rw [World.cell?_setCell_other _ _ _ _ (fun e => by injection e with e; omega)]); with_reducible assumption) | (simp [*]; done)))
      clear hK K
      (try simp only [Act.put, List.setIfInBounds_toArray, List.set_cons_zero, List.set_cons_succ])
      refine wpAnyH_ready (rs := [4]) (by kernel_rfl) (by simp) (AllReadyH.cons (by simp only [List.getElem?_toArray, List.getElem?_cons_succ, List.getElem?_cons_zero]; rfl) (fun K hK => ?_) AllReadyH.nil)
      go_simp
      refine (pick_any rb (N + 31 + 1) 30 _ (by omega) (R10.out)).mono ?_
      rintro e w11 ⟨pb, rfl, hc, hRx, hSx⟩
      obtain ⟨pb0, pb1⟩ := hc.2 (by omega)
      have KZ11 := hide (Bk.rs KZ10.out hSx (by omega)); have KQ11 := hide (Bk.rs KQ10.out hSx (by omega)); have KT11 := hide (Bk.rs KT10.out hSx (by omega))
      have O11 := hide (ownsRow_rs O10.out hSx hrb); have S11 := hide (S10.out.trans hSx); have R11 := hide hRx
      clear hc hRx hSx t0 t1 t2 z0 z1 z2 x0 x1 x2 q0 q1 q2 q3 x3 x4 x5 x6
      obtain ⟨t0, t1, t2, -, -, -⟩ := KT11.out.three
      obtain ⟨z0, z1, z2, x0, x1, x2⟩ := KZ11.out.three
      obtain ⟨q0, q1, q2, q3⟩ := KQ11.out.four
      have x3 := KQ11.out.free 0; have x4 := KQ11.out.free 1; have x5 := KQ11.out.free 2; have x6 := KQ11.out.free 3
      (try go_wp2_with fail)
      clear hHeld
      refine hK.out _ _ ?hS8 (fun hHeld => ?_)
      case hS8 => ((try dsimp only); (repeat' apply And.intro) <;> (first | (with_reducible assumption) | (rw [World.cell?_drew]; with_reducible assumption) | ((repeat rw [World.cell?_setCell_other _ _ _ _ (fun e => by injection e with e; omega)]); with_reducible assumption) | (simp [*]; done)))
      clear hK K
      (try simp only [Act.put, List.setIfInBounds_toArray, List.set_cons_zero, List.set_cons_succ])
      refine wpAnyH_ready (rs := [6]) (by kernel_rfl) (by simp) (AllReadyH.cons (by simp only [List.getElem?_toArray, List.getElem?_cons_succ, List.getElem?_cons_zero]; rfl) (fun K hK => ?_) AllReadyH.nil)
      go_simp
      refine (pick_any rb (N + 31 + 1 + 1) 3 _ (by omega) (R11.out)).mono ?_
      rintro e w12 ⟨pc, rfl, hc, hRx, hSx⟩
      obtain ⟨pc0, pc1⟩ := hc.2 (by omega)
      have KZ12 := hide (Bk.rs KZ11.out hSx (by omega)); have KQ12 := hide (Bk.rs KQ11.out hSx (by omega)); have KT12 := hide (Bk.rs KT11.out hSx (by omega))
      have O12 := hide (ownsRow_rs O11.out hSx hrb); have S12 := hide (S11.out.trans hSx); have R12 := hide hRx
      clear hc hRx hSx t0 t1 t2 z0 z1 z2 x0 x1 x2 q0 q1 q2 q3 x3 x4 x5 x6
      obtain ⟨t0, t1, t2, -, -, -⟩ := KT12.out.three
      obtain ⟨z0, z1, z2, x0, x1, x2⟩ := KZ12.out.three
      obtain ⟨q0, q1, q2, q3⟩ := KQ12.out.four
      have x3 := KQ12.out.free 0; have x4 := KQ12.out.free 1; have x5 := KQ12.out.free 2; have x6 := KQ12.out.free 3
      (try go_wp2_with fail)
      clear hHeld
      refine hK.out _ _ ?hS9 (fun hHeld => ?_)
      case hS9 => ((try dsimp only); (repeat' apply And.intro) <;> (first | (with_reducible assumption) | (rw [World.cell?_drew]; with_reducible assumption) | ((repeat rw [World.cell?_setCell_other _ _ _ _ (fun e => by injection e with e; omega)]); with_reducible assumption) | (simp [*]; done)))
      clear hK K
      (try simp only [Act.put, List.setIfInBounds_toArray, List.set_cons_zero, List.set_cons_succ])
      refine wpAnyH_ready (rs := [8]) (by kernel_rfl) (by simp) (AllReadyH.cons (by simp only [List.getElem?_toArray, List.getElem?_cons_succ, List.getElem?_cons_zero]; rfl) (fun K hK => ?_) AllReadyH.nil)
      go_simp
      refine (pick_any rb (N + 31 + 1 + 1 + 1) 60 _ (by omega) (R12.out)).mono ?_
      rintro e w13 ⟨pd, rfl, hc, hRx, hSx⟩
      obtain ⟨pd0, pd1⟩ := hc.2 (by omega)
      have KZ13 := hide (Bk.rs KZ12.out hSx (by omega)); have KQ13 := hide (Bk.rs KQ12.out hSx (by omega)); have KT13 := hide (Bk.rs KT12.out hSx (by omega))
      have O13 := hide (ownsRow_rs O12.out hSx hrb); have S13 := hide (S12.out.trans hSx); have R13 := hide hRx
      clear hc hRx hSx t0 t1 t2 z0 z1 z2 x0 x1 x2 q0 q1 q2 q3 x3 x4 x5 x6
      obtain ⟨t0, t1, t2, -, -, -⟩ := KT13.out.three
      obtain ⟨z0, z1, z2, x0, x1, x2⟩ := KZ13.out.three
      obtain ⟨q0, q1, q2, q3⟩ := KQ13.out.four
      have x3 := KQ13.out.free 0; have x4 := KQ13.out.free 1; have x5 := KQ13.out.free 2; have x6 := KQ13.out.free 3
      (try go_wp2_with fail)
      clear hHeld
      refine hK.out _ _ ?hS10 (fun hHeld => ?_)
      case hS10 => ((try dsimp only); (repeat' apply And.intro) <;> (first | (with_reducible assumption) | (rw [World.cell?_drew]; with_reducible assumption) | ((repeat rw [World.cell?_setCell_other _ _ _ _ (fun e => by injection e with e; omega)]); with_reducible assumption) | (simp [*]; done)))
      clear hK K
      (try simp only [Act.put, List.setIfInBounds_toArray, List.set_cons_zero, List.set_cons_succ])
      refine wpAnyH_take (i := 9) (v := ?v11) (by simp only [List.getElem?_toArray, List.getElem?_cons_succ, List.getElem?_cons_zero]; rfl) (by kernel_rfl) (by kernel_rfl) (by kernel_rfl) (by exact fun _ _ _ h => h) (Or.inl ⟨by rfl, ?hy11⟩) (by assumption) ?rest11
      case hy11 => (intro w hSw; (try dsimp only at hSw); go_simp; (try with_reducible rfl))
      (try simp only [Act.put, List.setIfInBounds_toArray, List.set_cons_zero, List.set_cons_succ])
      refine wpAnyH_ready (rs := [10]) (by kernel_rfl) (by simp) (AllReadyH.cons (by simp only [List.getElem?_toArray, List.getElem?_cons_succ, List.getElem?_cons_zero]; rfl) (fun K hK => ?_) AllReadyH.nil)
      go_simp
      clear hHeld
      refine hK.out _ _ ?hS12 (fun hHeld => ?_)
      case hS12 => ((try dsimp only); (repeat' apply And.intro) <;> (first | (with_reducible assumption) | (rw [World.cell?_drew]; with_reducible assumption) | ((repeat rw [World.cell?_setCell_other _ _ _ _ (fun e => by injection e with e; omega)]); with_reducible assumption) | (simp [*]; done)))
      clear hK K
      (try simp only [Act.put, List.setIfInBounds_toArray, List.set_cons_zero, List.set_cons_succ])
      refine wpAnyH_ready (rs := [11]) (by kernel_rfl) (by simp) (AllReadyH.cons (by simp only [List.getElem?_toArray, List.getElem?_cons_succ, List.getElem?_cons_zero]; rfl) (fun K hK => ?_) AllReadyH.nil)
      go_simp
      clear hHeld
      refine hK.out _ _ ?hS13 (fun hHeld => ?_)
      case hS13 => ((try dsimp only); (repeat' apply And.intro) <;> (first | (with_reducible assumption) | (rw [World.cell?_drew]; with_reducible assumption) | ((repeat rw [World.cell?_setCell_other _ _ _ _ (fun e => by injection e with e; omega)]); with_reducible assumption) | (simp [*]; done)))
      clear hK K
      (try simp only [Act.put, List.setIfInBounds_toArray, List.set_cons_zero, List.set_cons_succ])
      refine wpAnyH_done (by kernel_rfl) ?_ _
      go_wp2_with fail
      have K1 := KZ13.out.put 0 (.int .i64 W)
      have K2 := K1.put 1 (.int .i64 L)
      have K3 := K2.put 2 (.slice Av ds.length cv)
      have Q0 := ((KQ13.out.far (p := ⟨w.heap.size, 0, none⟩) (by simp) (.int .i64 W)).far (p := ⟨w.heap.size, 1, none⟩) (by simp) (.int .i64 L)).far (p := ⟨w.heap.size, 2, none⟩) (by simp) (.slice Av ds.length cv)
      have Q1 := Q0.put 0 (.int .i64 pa)
      have Q2 := Q1.put 1 (.int .i64 pb)
      have Q3 := Q2.put 2 (.int .i64 pc)
      have Q4 := Q3.put 3 (.int .i64 pd)
      have K4 := (((K3.far (p := ⟨w.heap.size + 1, 0, none⟩) (by simp) (.int .i64 pa)).far (p := ⟨w.heap.size + 1, 1, none⟩) (by simp) (.int .i64 pb)).far (p := ⟨w.heap.size + 1, 2, none⟩) (by simp) (.int .i64 pc)).far (p := ⟨w.heap.size + 1, 3, none⟩) (by simp) (.int .i64 pd)
      obtain ⟨u0, u1, u2, -, -, -⟩ := Bk.three (a := .int .i64 W) (b := .int .i64 L) (c := .slice Av ds.length cv) K4
      obtain ⟨u3, u4, u5, u6⟩ := Bk.four (a := .int .i64 pa) (b := .int .i64 pb) (c := .int .i64 pc) (d := .int .i64 pd) Q4
      refine bodyPost_ret (v := .tuple #[.agg #[.int .i64 W, .int .i64 L, .slice Av ds.length cv], part pa pb pc pd]) (by simp [results, Try.results25, go_sem, u0, u1, u2, u3, u4, u5, u6]) rfl ?_
      refine ⟨W, L, _, ds, pa, pb, pc, pd, rfl, ⟨⟨hW1, hW2⟩, ⟨hL1, hL2⟩, hdl⟩, ⟨by omega, by omega, by omega, by omega⟩, ?_, ?_⟩
      · exact own_put (own_put (own_put (own_put (own_put (own_put (own_put O13.out (p := ⟨w.heap.size, 0, none⟩) KZ13.out (by decide) _) (p := ⟨w.heap.size, 1, none⟩) K1 (by decide) _) (p := ⟨w.heap.size, 2, none⟩) K2 (by decide) _) (p := ⟨w.heap.size + 1, 0, none⟩) Q0 (by decide) _) (p := ⟨w.heap.size + 1, 1, none⟩) Q1 (by decide) _) (p := ⟨w.heap.size + 1, 2, none⟩) Q2 (by decide) _) (p := ⟨w.heap.size + 1, 3, none⟩) Q3 (by decide) _
      · exact ((((((S13.out.set (by simp) _).set (by simp) _).set (by simp) _).set (by simp) _).set (by simp) _).set (by simp) _).set (by simp) _
    · have hd : (y == 0) = false := by simpa using hy0
      clear hy0
      obtain ⟨t0, t1, t2, -, -, -⟩ := KT4.out.three
      obtain ⟨z0, z1, z2, x0, x1, x2⟩ := KZ4.out.three
      obtain ⟨q0, q1, q2, q3⟩ := KQ4.out.four
      have x3 := KQ4.out.free 0; have x4 := KQ4.out.free 1; have x5 := KQ4.out.free 2; have x6 := KQ4.out.free 3
      go_wp2_with fail
      refine wp_region_held_drew (S := fun w' => w'.cell? ⟨w1.heap.size, 0, none⟩ = some (.int .i64 W) ∧ w'.cell? ⟨w1.heap.size, 1, none⟩ = some (.int .i64 L) ∧ w'.cell? ⟨w1.heap.size, 2, none⟩ = some (.slice Av ds.length cv)) (by kernel_rfl) ?hS27 (fun hHeld => ?_)
      case hS27 => ((try dsimp only); (repeat' apply And.intro) <;> (first | (with_reducible assumption) | (rw [World.cell?_drew]; with_reducible assumption) | (rw [World.cell?_setCell_other _ _ _ _ (fun e => by injection e with _ e; cases e)]; with_reducible assumption) | (simp [*]; done)))
      refine wpAnyH_take (i := 0) (v := ?v28) (by simp only [List.getElem?_toArray, List.getElem?_cons_zero]; rfl) (by kernel_rfl) (by kernel_rfl) (by kernel_rfl) (by exact fun _ _ _ h => h) (Or.inl ⟨by rfl, ?hy28⟩) (by assumption) ?rest28
      case hy28 => (intro w hSw; (try dsimp only at hSw); go_simp; (try with_reducible rfl))
      (try simp only [Act.put, List.setIfInBounds_toArray, List.set_cons_zero, List.set_cons_succ])
      refine wpAnyH_take (i := 1) (v := ?v29) (by simp only [List.getElem?_toArray, List.getElem?_cons_succ, List.getElem?_cons_zero]; rfl) (by kernel_rfl) (by kernel_rfl) (by kernel_rfl) (by exact fun _ _ _ h => h) (Or.inl ⟨by rfl, ?hy29⟩) (by assumption) ?rest29
      case hy29 => (intro w hSw; (try dsimp only at hSw); go_simp; (try with_reducible rfl))
      (try simp only [Act.put, List.setIfInBounds_toArray, List.set_cons_zero, List.set_cons_succ])
      refine wpAnyH_take (i := 2) (v := ?v30) (by simp only [List.getElem?_toArray, List.getElem?_cons_succ, List.getElem?_cons_zero]; rfl) (by kernel_rfl) (by kernel_rfl) (by kernel_rfl) (by exact fun _ _ _ h => h) (Or.inl ⟨by rfl, ?hy30⟩) (by assumption) ?rest30
      case hy30 => (intro w hSw; (try dsimp only at hSw); go_simp; (try with_reducible rfl))
      (try simp only [Act.put, List.setIfInBounds_toArray, List.set_cons_zero, List.set_cons_succ])
      refine wpAnyH_take (i := 3) (v := ?v31) (by simp only [List.getElem?_toArray, List.getElem?_cons_succ, List.getElem?_cons_zero]; rfl) (by kernel_rfl) (by kernel_rfl) (by kernel_rfl) (by exact fun _ _ _ h => h) (Or.inl ⟨by rfl, ?hy31⟩) (by assumption) ?rest31
      case hy31 => (intro w hSw; (try dsimp only at hSw); go_simp; (try with_reducible rfl))
      (try simp only [Act.put, List.setIfInBounds_toArray, List.set_cons_zero, List.set_cons_succ])
      refine wpAnyH_take (i := 4) (v := ?v32) (by simp only [List.getElem?_toArray, List.getElem?_cons_succ, List.getElem?_cons_zero]; rfl) (by kernel_rfl) (by kernel_rfl) (by kernel_rfl) (by exact fun _ _ _ h => h) (Or.inl ⟨by rfl, ?hy32⟩) (by assumption) ?rest32
      case hy32 => (intro w hSw; (try dsimp only at hSw); go_simp; (try with_reducible rfl))
      (try simp only [Act.put, List.setIfInBounds_toArray, List.set_cons_zero, List.set_cons_succ])
      refine wpAnyH_take (i := 5) (v := ?v33) (by simp only [List.getElem?_toArray, List.getElem?_cons_succ, List.getElem?_cons_zero]; rfl) (by kernel_rfl) (by kernel_rfl) (by kernel_rfl) (by exact fun _ _ _ h => h) (Or.inl ⟨by rfl, ?hy33⟩) (by assumption) ?rest33
      case hy33 => (intro w hSw; (try dsimp only at hSw); go_simp; (try with_reducible rfl))
      (try simp only [Act.put, List.setIfInBounds_toArray, List.set_cons_zero, List.set_cons_succ])
      refine wpAnyH_ready (rs := [6]) (by kernel_rfl) (by simp) (AllReadyH.cons (by simp only [List.getElem?_toArray, List.getElem?_cons_succ, List.getElem?_cons_zero]; rfl) (fun K hK => ?_) AllReadyH.nil)
      go_simp
      refine (somePart_any rb (N + 31) W L _ (by omega) hW hL (R4.out.drewN 1)).mono ?_
      rintro e w13 ⟨pa, pb, pc, pd, rfl, ⟨⟨pa0, pa1⟩, ⟨pb0, pb1⟩, ⟨pc0, pc1⟩, ⟨pd0, pd1⟩⟩, hRx, hSx⟩
      have KZ13 := hide (Bk.rs (Bk.drew KZ4.out) hSx (by omega)); have KQ13 := hide (Bk.rs (Bk.drew KQ4.out) hSx (by omega)); have KT13 := hide (Bk.rs (Bk.drew KT4.out) hSx (by omega))
      have O13 := hide (ownsRow_rs (w := w4.drew) O4.out hSx hrb); have S13 := hide ((S4.out.drewN 1).trans hSx)
      clear hRx hSx t0 t1 t2 z0 z1 z2 x0 x1 x2 q0 q1 q2 q3 x3 x4 x5 x6
      obtain ⟨t0, t1, t2, -, -, -⟩ := KT13.out.three
      obtain ⟨z0, z1, z2, x0, x1, x2⟩ := KZ13.out.three
      obtain ⟨q0, q1, q2, q3⟩ := KQ13.out.four
      have x3 := KQ13.out.free 0; have x4 := KQ13.out.free 1; have x5 := KQ13.out.free 2; have x6 := KQ13.out.free 3
      (try go_wp2_with fail)
      clear hHeld
      refine hK.out _ _ ?hS34 (fun hHeld => ?_)
      case hS34 => ((try dsimp only); (repeat' apply And.intro) <;> (first | (with_reducible assumption) | (rw [World.cell?_drew]; with_reducible assumption) | ((repeat rw [World.cell?_setCell_other _ _ _ _ (fun e => by injection e with e; omega)]); with_reducible assumption) | (simp [*]; done)))
      clear hK K
      (try simp only [Act.put, List.setIfInBounds_toArray, List.set_cons_zero, List.set_cons_succ])
      refine wpAnyH_ready (rs := [7]) (by kernel_rfl) (by simp) (AllReadyH.cons (by simp only [List.getElem?_toArray, List.getElem?_cons_succ, List.getElem?_cons_zero]; rfl) (fun K hK => ?_) AllReadyH.nil)
      go_simp
      clear hHeld
      refine hK.out _ _ ?hS35 (fun hHeld => ?_)
      case hS35 => ((try dsimp only); (repeat' apply And.intro) <;> (first | (with_reducible assumption) | (rw [World.cell?_drew]; with_reducible assumption) | ((repeat rw [World.cell?_setCell_other _ _ _ _ (fun e => by injection e with e; omega)]); with_reducible assumption) | (simp [*]; done)))
      clear hK K
      (try simp only [Act.put, List.setIfInBounds_toArray, List.set_cons_zero, List.set_cons_succ])
      refine wpAnyH_ready (rs := [8]) (by kernel_rfl) (by simp) (AllReadyH.cons (by simp only [List.getElem?_toArray, List.getElem?_cons_succ, List.getElem?_cons_zero]; rfl) (fun K hK => ?_) AllReadyH.nil)
      go_simp
      clear hHeld
      refine hK.out _ _ ?hS36 (fun hHeld => ?_)
      case hS36 => ((try dsimp only); (repeat' apply And.intro) <;> (first | (with_reducible assumption) | (rw [World.cell?_drew]; with_reducible assumption) | ((repeat rw [World.cell?_setCell_other _ _ _ _ (fun e => by injection e with e; omega)]); with_reducible assumption) | (simp [*]; done)))
      clear hK K
      (try simp only [Act.put, List.setIfInBounds_toArray, List.set_cons_zero, List.set_cons_succ])
      refine wpAnyH_done (by kernel_rfl) ?_ _
      go_wp2_with fail
      have K1 := KZ13.out.put 0 (.int .i64 W)
      have K2 := K1.put 1 (.int .i64 L)
      have K3 := K2.put 2 (.slice Av ds.length cv)
      have Q0 := ((KQ13.out.far (p := ⟨w.heap.size, 0, none⟩) (by simp) (.int .i64 W)).far (p := ⟨w.heap.size, 1, none⟩) (by simp) (.int .i64 L)).far (p := ⟨w.heap.size, 2, none⟩) (by simp) (.slice Av ds.length cv)
      have Q1 := Q0.put 0 (.int .i64 pa)
      have Q2 := Q1.put 1 (.int .i64 pb)
      have Q3 := Q2.put 2 (.int .i64 pc)
      have Q4 := Q3.put 3 (.int .i64 pd)
      have K4 := (((K3.far (p := ⟨w.heap.size + 1, 0, none⟩) (by simp) (.int .i64 pa)).far (p := ⟨w.heap.size + 1, 1, none⟩) (by simp) (.int .i64 pb)).far (p := ⟨w.heap.size + 1, 2, none⟩) (by simp) (.int .i64 pc)).far (p := ⟨w.heap.size + 1, 3, none⟩) (by simp) (.int .i64 pd)
      obtain ⟨u0, u1, u2, -, -, -⟩ := Bk.three (a := .int .i64 W) (b := .int .i64 L) (c := .slice Av ds.length cv) K4
      obtain ⟨u3, u4, u5, u6⟩ := Bk.four (a := .int .i64 pa) (b := .int .i64 pb) (c := .int .i64 pc) (d := .int .i64 pd) Q4
      refine bodyPost_ret (v := .tuple #[.agg #[.int .i64 W, .int .i64 L, .slice Av ds.length cv], part pa pb pc pd]) (by simp [results, Try.results25, go_sem, u0, u1, u2, u3, u4, u5, u6]) rfl ?_
      refine ⟨W, L, _, ds, pa, pb, pc, pd, rfl, ⟨⟨hW1, hW2⟩, ⟨hL1, hL2⟩, hdl⟩, ⟨by omega, by omega, by omega, by omega⟩, ?_, ?_⟩
      · exact own_put (own_put (own_put (own_put (own_put (own_put (own_put O13.out (p := ⟨w.heap.size, 0, none⟩) KZ13.out (by decide) _) (p := ⟨w.heap.size, 1, none⟩) K1 (by decide) _) (p := ⟨w.heap.size, 2, none⟩) K2 (by decide) _) (p := ⟨w.heap.size + 1, 0, none⟩) Q0 (by decide) _) (p := ⟨w.heap.size + 1, 1, none⟩) Q1 (by decide) _) (p := ⟨w.heap.size + 1, 2, none⟩) Q2 (by decide) _) (p := ⟨w.heap.size + 1, 3, none⟩) Q3 (by decide) _
      · exact ((((((S13.out.set (by simp) _).set (by simp) _).set (by simp) _).set (by simp) _).set (by simp) _).set (by simp) _).set (by simp) _
/-- what the Draw functions give -/
def GotE (w : World) (e : Ending) (w' : World) : Prop := ∃ (W L : Int) (A : Option Addr) (n c : Nat) (ds : List D5), e = .returned (reel W L A n c) ∧ ((0 ≤ W ∧ W ≤ 61) ∧ (0 ≤ L ∧ L ≤ 401) ∧ n ≤ 6 ∧ n ≤ c) ∧ Dfs w' A n ds ∧ Below w.heap.size w w'
def GotEP (w : World) (e : Ending) (w' : World) : Prop := ∃ (W L : Int) (A : Option Addr) (n c : Nat) (ds : List D5) (l r f t : Int), e = .returned (.tuple #[reel W L A n c, part l r f t]) ∧ ((0 ≤ W ∧ W ≤ 61) ∧ (0 ≤ L ∧ L ≤ 401) ∧ n ≤ 6 ∧ n ≤ c) ∧
  ((0 ≤ l ∧ l ≤ 100) ∧ (0 ≤ r ∧ r ≤ 1000) ∧ (0 ≤ f ∧ f ≤ 1000) ∧ (0 ≤ t ∧ t ≤ 2000)) ∧ Dfs w' A n ds ∧ Below w.heap.size w w'
end Go.Proofs.Ytbbopnpmjhbffaa
