/- Contracts of the functions that draw the arguments of chapter 2. -/
import Derived.Test.YtbbopnpmjhbffaaRdE3
namespace Go.Proofs.Ytbbopnpmjhbffaa
open Go.RowKit
attribute [local go_sem ↓] Go.wp_at_zero Go.wp_at_succ
set_option linter.unusedVariables false
set_option maxRecDepth 100000
theorem newReader_c (A : Option Addr) (n c : Nat) (bs : List Int) (w : World) (hn : n ≤ 1048576) (hnc : n ≤ c) (h : Byts w A n bs) :
    Calls Try.prog 21 #[.slice A n c] w fun e w' => e = .returned (.pointer (some ⟨w.heap.size, 0, none⟩)) ∧ Rdr w' w.heap.size 0 ∧ Below w.heap.size w w' ∧ w'.heap.size = w.heap.size + 1 :=
  newReader_any A n c bs w hn hnc h.1 h.2.1 h.2.2
theorem Byts.alloc {w : World} {A : Option Addr} {n : Nat} {bs : List Int} (h : Byts w A n bs) (o : Obj) : Byts (w.alloc o) A n bs := by
  obtain ⟨h1, h2, h3⟩ := h
  refine ⟨h1, fun k hk => ?_, h3⟩
  obtain ⟨ad, e, hlt, hc⟩ := h2 k hk
  exact ⟨ad, e, by simp; omega, by rw [World.cell?_alloc_lt _ _ _ (by rw [block_add]; exact hlt)]; exact hc⟩
set_option maxHeartbeats 2000000 in
theorem drawValidReel_any (A : Option Addr) (n c : Nat) (bs : List Int) (w : World) (hn : n ≤ 1048576) (hnc : n ≤ c) (h : Byts w A n bs) : Calls Try.prog 7 #[.slice A n c] w (GotE w) := by
  have h' := h.alloc (.cells #[.int .i64 0, .int .i64 0, .slice none 0 0] 25)
  clear h
  go_enter Try.func7, Try.ntmps7
  go_wp2_with fail
  refine (newReader_c A n c bs _ hn hnc h').mono ?_; rintro e w1 ⟨rfl, hR, hb, hz⟩
  have KR1 := hide ((Bk.made w 25 #[.int .i64 0, .int .i64 0, .slice none 0 0]).call hb)
  have hz1 : w.heap.size + 1 < w1.heap.size := by simp at hz; omega
  have B1 := hide (((Below.refl w.heap.size w).alloc (Nat.le_refl _) (.cells #[.int .i64 0, .int .i64 0, .slice none 0 0] 25)).trans (hb.mono (by simp)))
  have R1 := hide hR; rw [World.size_alloc] at R1
  clear hR hb hz h'
  go_wp2_with fail
  refine (anyReel_any (w.heap.size + 1) 0 _ (by omega) R1.out).mono ?_
  rintro e w2 ⟨W, L, v, ds, rfl, ⟨hW, hL, hd⟩, ho, hR2, hS2⟩
  obtain ⟨Av, cv, hv, -, hcv⟩ := dfs_of_own ho; subst hv
  have KR2 := hide (KR1.out.rs hS2 (by omega))
  have O2 := hide ho
  have B2 := hide (B1.out.trans (hS2.below (L := w.heap.size) (by omega) (by omega)))
  clear ho hR2 hS2 KR1 R1 B1
  obtain ⟨r0, r1, r2, r3, r4, r5⟩ := KR2.out.three
  go_wp2_with fail
  have K1 := KR2.out.put 0 (.int .i64 W)
  have K2 := K1.put 1 (.int .i64 L)
  have KF := K2.put 2 (.slice Av ds.length cv)
  obtain ⟨u0, u1, u2, -, -, -⟩ := Bk.three (a := .int .i64 W) (b := .int .i64 L) (c := .slice Av ds.length cv) KF
  have OF := own_put (own_put (own_put O2.out (p := ⟨w.heap.size, 0, none⟩) KR2.out (by decide) (.int .i64 W)) (p := ⟨w.heap.size, 1, none⟩) K1 (by decide) (.int .i64 L)) (p := ⟨w.heap.size, 2, none⟩) K2 (by decide) (.slice Av ds.length cv)
  obtain ⟨A', c', e', hD, -⟩ := dfs_of_own OF
  injection e' with e1 _ e3
  subst e1 e3
  refine bodyPost_ret (v := reel W L Av ds.length cv) (by simp [results, Try.results7, go_sem, u0, u1, u2]) rfl ?_
  exact ⟨W, L, _, _, _, ds, rfl, ⟨hW, hL, hd, hcv⟩, hD, ((B2.out.setCell (Nat.le_refl _) _).setCell (Nat.le_refl _) _).setCell (Nat.le_refl _) _⟩
set_option maxHeartbeats 4000000 in
theorem drawValidPart_any (A : Option Addr) (n c : Nat) (bs : List Int) (w : World) (hn : n ≤ 1048576) (hnc : n ≤ c) (h : Byts w A n bs) : Calls Try.prog 12 #[.slice A n c] w (GotEP w) := by
  have h' := (h.alloc (.cells #[.int .i64 0, .int .i64 0, .slice none 0 0] 25)).alloc (.cells #[.int .i64 0, .int .i64 0, .int .i64 0, .int .i64 0] 30)
  clear h
  go_enter Try.func12, Try.ntmps12
  go_wp2_with fail
  refine (newReader_c A n c bs _ hn hnc h').mono ?_; rintro e w1 ⟨rfl, hR, hb, hz⟩
  have KR1 := hide ((Bk.alloc (Bk.made w 25 #[.int .i64 0, .int .i64 0, .slice none 0 0]) _).call hb)
  have KQ1 : Hid (Bk w1 (w.heap.size + 1) 30 #[.int .i64 0, .int .i64 0, .int .i64 0, .int .i64 0]) := hide (by
    have := Bk.call (Bk.made (w.alloc (.cells #[.int .i64 0, .int .i64 0, .slice none 0 0] 25)) 30 #[.int .i64 0, .int .i64 0, .int .i64 0, .int .i64 0]) hb
    simpa using this)
  have hz1 : w.heap.size + 2 < w1.heap.size := by simp at hz; omega
  have B1 := hide ((((Below.refl w.heap.size w).alloc (Nat.le_refl _) (.cells #[.int .i64 0, .int .i64 0, .slice none 0 0] 25)).alloc (by simp) (.cells #[.int .i64 0, .int .i64 0, .int .i64 0, .int .i64 0] 30)).trans (hb.mono (by simp; omega)))
  have R1 := hide hR; rw [World.size_alloc, World.size_alloc] at R1
  clear hR hb hz h'
  go_wp2_with fail
  refine (partOf_any (w.heap.size + 1 + 1) 0 _ (by omega) R1.out).mono ?_
  rintro e w2 ⟨W, L, v, ds, l, r, f, t, rfl, ⟨hW, hL, hd⟩, hP, ho, hS2⟩
  obtain ⟨Av, cv, hv, -, hcv⟩ := dfs_of_own ho; subst hv
  have KR2 := hide (KR1.out.rs hS2 (by omega)); have KQ2 := hide (KQ1.out.rs hS2 (by omega))
  have O2 := hide ho
  have B2 := hide (B1.out.trans (hS2.below (L := w.heap.size) (by omega) (by omega)))
  have HP := hide hP
  clear ho hS2 KR1 KQ1 R1 B1 hP
  obtain ⟨r0, r1, r2, r3, r4, r5⟩ := KR2.out.three
  obtain ⟨q0, q1, q2, q3⟩ := KQ2.out.four
  have x3 := KQ2.out.free 0; have x4 := KQ2.out.free 1; have x5 := KQ2.out.free 2; have x6 := KQ2.out.free 3
  go_wp2_with fail
  have K1 := KR2.out.put 0 (.int .i64 W)
  have K2 := K1.put 1 (.int .i64 L)
  have K3 := K2.put 2 (.slice Av ds.length cv)
  have Q0 := ((KQ2.out.far (p := ⟨w.heap.size, 0, none⟩) (by simp) (.int .i64 W)).far (p := ⟨w.heap.size, 1, none⟩) (by simp) (.int .i64 L)).far (p := ⟨w.heap.size, 2, none⟩) (by simp) (.slice Av ds.length cv)
  have Q1 := Q0.put 0 (.int .i64 l)
  have Q2 := Q1.put 1 (.int .i64 r)
  have Q3 := Q2.put 2 (.int .i64 f)
  have Q4 := Q3.put 3 (.int .i64 t)
  have K4 := (((K3.far (p := ⟨w.heap.size + 1, 0, none⟩) (by simp) (.int .i64 l)).far (p := ⟨w.heap.size + 1, 1, none⟩) (by simp) (.int .i64 r)).far (p := ⟨w.heap.size + 1, 2, none⟩) (by simp) (.int .i64 f)).far (p := ⟨w.heap.size + 1, 3, none⟩) (by simp) (.int .i64 t)
  obtain ⟨u0, u1, u2, -, -, -⟩ := Bk.three (a := .int .i64 W) (b := .int .i64 L) (c := .slice Av ds.length cv) K4
  obtain ⟨u3, u4, u5, u6⟩ := Bk.four (a := .int .i64 l) (b := .int .i64 r) (c := .int .i64 f) (d := .int .i64 t) Q4
  have OF := own_put (own_put (own_put (own_put (own_put (own_put (own_put O2.out (p := ⟨w.heap.size, 0, none⟩) KR2.out (by decide) (.int .i64 W)) (p := ⟨w.heap.size, 1, none⟩) K1 (by decide) (.int .i64 L)) (p := ⟨w.heap.size, 2, none⟩) K2 (by decide) (.slice Av ds.length cv)) (p := ⟨w.heap.size + 1, 0, none⟩) Q0 (by decide) (.int .i64 l)) (p := ⟨w.heap.size + 1, 1, none⟩) Q1 (by decide) (.int .i64 r)) (p := ⟨w.heap.size + 1, 2, none⟩) Q2 (by decide) (.int .i64 f)) (p := ⟨w.heap.size + 1, 3, none⟩) Q3 (by decide) (.int .i64 t)
  obtain ⟨A', c', e', hD, -⟩ := dfs_of_own OF
  injection e' with e1 _ e3
  subst e1 e3
  refine bodyPost_ret (v := .tuple #[reel W L Av ds.length cv, part l r f t]) (by simp [results, Try.results12, go_sem, u0, u1, u2, u3, u4, u5, u6]) rfl ?_
  exact ⟨W, L, _, _, _, ds, l, r, f, t, rfl, ⟨hW, hL, hd, hcv⟩, HP.out, hD, ((((((B2.out.setCell (by simp) _).setCell (by simp) _).setCell (by simp) _).setCell (by simp) _).setCell (by simp) _).setCell (by simp) _).setCell (by simp) _⟩
set_option maxHeartbeats 4000000 in
theorem drawWorstOf_any (A : Option Addr) (n c : Nat) (bs : List Int) (w : World) (hn : n ≤ 1048576) (hnc : n ≤ c) (h : Byts w A n bs) : Calls Try.prog 14 #[.slice A n c] w (GotEP w) := by
  have h' := (h.alloc (.cells #[.int .i64 0, .int .i64 0, .slice none 0 0] 25)).alloc (.cells #[.int .i64 0, .int .i64 0, .int .i64 0, .int .i64 0] 30)
  clear h
  go_enter Try.func14, Try.ntmps14
  go_wp2_with fail
  refine (newReader_c A n c bs _ hn hnc h').mono ?_; rintro e w1 ⟨rfl, hR, hb, hz⟩
  have KR1 := hide ((Bk.alloc (Bk.made w 25 #[.int .i64 0, .int .i64 0, .slice none 0 0]) _).call hb)
  have KQ1 : Hid (Bk w1 (w.heap.size + 1) 30 #[.int .i64 0, .int .i64 0, .int .i64 0, .int .i64 0]) := hide (by
    have := Bk.call (Bk.made (w.alloc (.cells #[.int .i64 0, .int .i64 0, .slice none 0 0] 25)) 30 #[.int .i64 0, .int .i64 0, .int .i64 0, .int .i64 0]) hb
    simpa using this)
  have hz1 : w.heap.size + 2 < w1.heap.size := by simp at hz; omega
  have B1 := hide ((((Below.refl w.heap.size w).alloc (Nat.le_refl _) (.cells #[.int .i64 0, .int .i64 0, .slice none 0 0] 25)).alloc (by simp) (.cells #[.int .i64 0, .int .i64 0, .int .i64 0, .int .i64 0] 30)).trans (hb.mono (by simp; omega)))
  have R1 := hide hR; rw [World.size_alloc, World.size_alloc] at R1
  clear hR hb hz h'
  go_wp2_with fail
  refine (partOf_any (w.heap.size + 1 + 1) 0 _ (by omega) R1.out).mono ?_
  rintro e w2 ⟨W, L, v, ds, l, r, f, t, rfl, ⟨hW, hL, hd⟩, hP, ho, hS2⟩
  obtain ⟨Av, cv, hv, -, hcv⟩ := dfs_of_own ho; subst hv
  have KR2 := hide (KR1.out.rs hS2 (by omega)); have KQ2 := hide (KQ1.out.rs hS2 (by omega))
  have O2 := hide ho
  have B2 := hide (B1.out.trans (hS2.below (L := w.heap.size) (by omega) (by omega)))
  have HP := hide hP
  clear ho hS2 KR1 KQ1 R1 B1 hP
  obtain ⟨r0, r1, r2, r3, r4, r5⟩ := KR2.out.three
  obtain ⟨q0, q1, q2, q3⟩ := KQ2.out.four
  have x3 := KQ2.out.free 0; have x4 := KQ2.out.free 1; have x5 := KQ2.out.free 2; have x6 := KQ2.out.free 3
  go_wp2_with fail
  have K1 := KR2.out.put 0 (.int .i64 W)
  have K2 := K1.put 1 (.int .i64 L)
  have K3 := K2.put 2 (.slice Av ds.length cv)
  have Q0 := ((KQ2.out.far (p := ⟨w.heap.size, 0, none⟩) (by simp) (.int .i64 W)).far (p := ⟨w.heap.size, 1, none⟩) (by simp) (.int .i64 L)).far (p := ⟨w.heap.size, 2, none⟩) (by simp) (.slice Av ds.length cv)
  have Q1 := Q0.put 0 (.int .i64 l)
  have Q2 := Q1.put 1 (.int .i64 r)
  have Q3 := Q2.put 2 (.int .i64 f)
  have Q4 := Q3.put 3 (.int .i64 t)
  have K4 := (((K3.far (p := ⟨w.heap.size + 1, 0, none⟩) (by simp) (.int .i64 l)).far (p := ⟨w.heap.size + 1, 1, none⟩) (by simp) (.int .i64 r)).far (p := ⟨w.heap.size + 1, 2, none⟩) (by simp) (.int .i64 f)).far (p := ⟨w.heap.size + 1, 3, none⟩) (by simp) (.int .i64 t)
  obtain ⟨u0, u1, u2, -, -, -⟩ := Bk.three (a := .int .i64 W) (b := .int .i64 L) (c := .slice Av ds.length cv) K4
  obtain ⟨u3, u4, u5, u6⟩ := Bk.four (a := .int .i64 l) (b := .int .i64 r) (c := .int .i64 f) (d := .int .i64 t) Q4
  have OF := own_put (own_put (own_put (own_put (own_put (own_put (own_put O2.out (p := ⟨w.heap.size, 0, none⟩) KR2.out (by decide) (.int .i64 W)) (p := ⟨w.heap.size, 1, none⟩) K1 (by decide) (.int .i64 L)) (p := ⟨w.heap.size, 2, none⟩) K2 (by decide) (.slice Av ds.length cv)) (p := ⟨w.heap.size + 1, 0, none⟩) Q0 (by decide) (.int .i64 l)) (p := ⟨w.heap.size + 1, 1, none⟩) Q1 (by decide) (.int .i64 r)) (p := ⟨w.heap.size + 1, 2, none⟩) Q2 (by decide) (.int .i64 f)) (p := ⟨w.heap.size + 1, 3, none⟩) Q3 (by decide) (.int .i64 t)
  obtain ⟨A', c', e', hD, -⟩ := dfs_of_own OF
  injection e' with e1 _ e3
  subst e1 e3
  refine bodyPost_ret (v := .tuple #[reel W L Av ds.length cv, part l r f t]) (by simp [results, Try.results14, go_sem, u0, u1, u2, u3, u4, u5, u6]) rfl ?_
  exact ⟨W, L, _, _, _, ds, l, r, f, t, rfl, ⟨hW, hL, hd, hcv⟩, HP.out, hD, ((((((B2.out.setCell (by simp) _).setCell (by simp) _).setCell (by simp) _).setCell (by simp) _).setCell (by simp) _).setCell (by simp) _).setCell (by simp) _⟩
theorem part_first {W L l r f t : Int} (h : vPa W L l r f t = true) : vPa W L l (l + 1) f (f + 1) = true := by
  obtain ⟨⟨a, b, c⟩, d, e, g⟩ := vPa_out h
  exact vPa_yes ⟨⟨by omega, by omega, by omega⟩, by omega, by omega, by omega⟩
theorem part_last {W L l r f t : Int} (h : vPa W L l r f t = true) : vPa W L (r - 1) r (t - 1) t = true := by
  obtain ⟨⟨a, b, c⟩, d, e, g⟩ := vPa_out h
  exact vPa_yes ⟨⟨by omega, by omega, by omega⟩, by omega, by omega, by omega⟩
set_option maxHeartbeats 4000000 in
theorem lawFnValidPart (A : Option Addr) (n c : Nat) (bs : List Int) (w : World) (h : Byts w A n bs) (hnc : n ≤ c) :
    Calls Try.prog 4 #[.slice A n c] w fun e w' => e = .returned (.bool true) ∧ Below w.heap.size w w' := by
  by_cases g : (1048576 : Int) < n
  · go_enter Try.func4, Try.ntmps4
    go_wp2
    go_ret
    exact ⟨rfl, Below.refl _ _⟩
  have g' : (n : Int) ≤ 1048576 := by omega
  clear g
  go_enter Try.func4, Try.ntmps4
  go_wp2_with fail
  refine (drawValidPart_any A n c bs _ (by omega) hnc h).mono ?_; rintro e w1 ⟨W, L, Av, m, cv, ds, l, r, f, t, rfl, ⟨hW, hL, hm, -⟩, ⟨⟨l0, l1⟩, ⟨r0, r1⟩, ⟨f0, f1⟩, ⟨t0, t1⟩⟩, hD, hb⟩
  have hm' : m ≤ 1048576 := by omega
  have B1 := hide hb; have D1 := hide hD; clear hb hD h
  have BOX := True.intro
  clear BOX
  go_wp2_with fail
  have D2 := hide ((D1.out.alloc (.cells #[.int .i64 W, .int .i64 L, .slice Av m cv] 25)).alloc (.cells #[.int .i64 l, .int .i64 r, .int .i64 f, .int .i64 t] 30))
  have B2 := hide (Below.alloc (Below.alloc B1.out B1.out.size (.cells #[.int .i64 W, .int .i64 L, .slice Av m cv] 25)) (Below.size (Below.alloc B1.out B1.out.size (.cells #[.int .i64 W, .int .i64 L, .slice Av m cv] 25))) (.cells #[.int .i64 l, .int .i64 r, .int .i64 f, .int .i64 t] 30))
  have KX2 := hide (Bk.alloc (Bk.made w1 25 #[.int .i64 W, .int .i64 L, .slice Av m cv]) (.cells #[.int .i64 l, .int .i64 r, .int .i64 f, .int .i64 t] 30))
  have KP2 : Hid (Bk ((w1.alloc (.cells #[.int .i64 W, .int .i64 L, .slice Av m cv] 25)).alloc (.cells #[.int .i64 l, .int .i64 r, .int .i64 f, .int .i64 t] 30)) (w1.heap.size + 1) 30 #[.int .i64 l, .int .i64 r, .int .i64 f, .int .i64 t]) := hide (by have := Bk.made (w1.alloc (.cells #[.int .i64 W, .int .i64 L, .slice Av m cv] 25)) 30 #[.int .i64 l, .int .i64 r, .int .i64 f, .int .i64 t]; simpa using this)
  generalize (w1.alloc (.cells #[.int .i64 W, .int .i64 L, .slice Av m cv] 25)).alloc (.cells #[.int .i64 l, .int .i64 r, .int .i64 f, .int .i64 t] 30) = w2 at *
  clear B1 D1
  cases hv : (vRe W L ds && vPa W L l r f t)
  · have HV := hide hv; clear hv
    refine (implValidPart W L Av m cv ds _ _ _ _ _ hm' D2.out).mono ?_; rintro e w3 ⟨rfl, hb⟩; rw [HV.out]
    have KX3 := hide (KX2.out.call hb); have KP3 := hide (KP2.out.call hb); have D3 := hide (D2.out.below hb); have B3 := hide (below_then B2.out hb)
    clear hb KX2 KP2 D2 B2
    obtain ⟨x0, x1, x2, -, -, -⟩ := KX3.out.three
    obtain ⟨p0, p1, p2, p3⟩ := KP3.out.four
    go_wp2_with fail
    clear x0 x1 x2 p0 p1 p2 p3
    refine (specValidPart W L Av m cv ds _ _ _ _ _ hm' D3.out).mono ?_; rintro e w4 ⟨rfl, hb⟩; rw [HV.out]
    have KX4 := hide (KX3.out.call hb); have KP4 := hide (KP3.out.call hb); have D4 := hide (D3.out.below hb); have B4 := hide (below_then B3.out hb)
    clear hb KX3 KP3 D3 B3
    obtain ⟨x0, x1, x2, -, -, -⟩ := KX4.out.three
    obtain ⟨p0, p1, p2, p3⟩ := KP4.out.four
    go_wp2_with fail
    clear x0 x1 x2 p0 p1 p2 p3
    refine (specValidPart W L Av m cv ds _ _ _ _ _ hm' D4.out).mono ?_; rintro e w5 ⟨rfl, hb⟩; rw [HV.out]
    have KX5 := hide (KX4.out.call hb); have KP5 := hide (KP4.out.call hb); have D5 := hide (D4.out.below hb); have B5 := hide (below_then B4.out hb)
    clear hb KX4 KP4 D4 B4
    obtain ⟨x0, x1, x2, -, -, -⟩ := KX5.out.three
    obtain ⟨p0, p1, p2, p3⟩ := KP5.out.four
    go_wp2_with fail
    go_ret
    exact ⟨rfl, B5.out⟩
  · have hvr : vRe W L ds = true := by simp only [Bool.and_eq_true] at hv; exact hv.1
    have hvp : vPa W L l r f t = true := by simp only [Bool.and_eq_true] at hv; exact hv.2
    have HV1 := hide (show (vRe W L ds && vPa W L l (l + 1) f (f + 1)) = true by rw [hvr, part_first hvp]; rfl)
    have HV2 := hide (show (vRe W L ds && vPa W L (r - 1) r (t - 1) t) = true by rw [hvr, part_last hvp]; rfl)
    have hr1 : 1 ≤ r := by have := vPa_out hvp; omega
    have ht1 : 1 ≤ t := by have := vPa_out hvp; omega
    have HV := hide hv; clear hv hvr hvp
    refine (implValidPart W L Av m cv ds _ _ _ _ _ hm' D2.out).mono ?_; rintro e w3 ⟨rfl, hb⟩; rw [HV.out]
    have KX3 := hide (KX2.out.call hb); have KP3 := hide (KP2.out.call hb); have D3 := hide (D2.out.below hb); have B3 := hide (below_then B2.out hb)
    clear hb KX2 KP2 D2 B2
    obtain ⟨x0, x1, x2, -, -, -⟩ := KX3.out.three
    obtain ⟨p0, p1, p2, p3⟩ := KP3.out.four
    go_wp2_with fail
    clear x0 x1 x2 p0 p1 p2 p3
    refine (specValidPart W L Av m cv ds _ _ _ _ _ hm' D3.out).mono ?_; rintro e w4 ⟨rfl, hb⟩; rw [HV.out]
    have KX4 := hide (KX3.out.call hb); have KP4 := hide (KP3.out.call hb); have D4 := hide (D3.out.below hb); have B4 := hide (below_then B3.out hb)
    clear hb KX3 KP3 D3 B3
    obtain ⟨x0, x1, x2, -, -, -⟩ := KX4.out.three
    obtain ⟨p0, p1, p2, p3⟩ := KP4.out.four
    go_wp2_with fail
    clear x0 x1 x2 p0 p1 p2 p3
    refine (implValidPart W L Av m cv ds _ _ _ _ _ hm' D4.out).mono ?_; rintro e w5 ⟨rfl, hb⟩; rw [HV1.out]
    have KX5 := hide (KX4.out.call hb); have KP5 := hide (KP4.out.call hb); have D5 := hide (D4.out.below hb); have B5 := hide (below_then B4.out hb)
    clear hb KX4 KP4 D4 B4
    obtain ⟨x0, x1, x2, -, -, -⟩ := KX5.out.three
    obtain ⟨p0, p1, p2, p3⟩ := KP5.out.four
    go_wp2_with fail
    clear x0 x1 x2 p0 p1 p2 p3
    refine (implValidPart W L Av m cv ds _ _ _ _ _ hm' D5.out).mono ?_; rintro e w6 ⟨rfl, hb⟩; rw [HV2.out]
    have KX6 := hide (KX5.out.call hb); have KP6 := hide (KP5.out.call hb); have D6 := hide (D5.out.below hb); have B6 := hide (below_then B5.out hb)
    clear hb KX5 KP5 D5 B5
    obtain ⟨x0, x1, x2, -, -, -⟩ := KX6.out.three
    obtain ⟨p0, p1, p2, p3⟩ := KP6.out.four
    go_wp2_with fail
    go_ret
    exact ⟨rfl, B6.out⟩
end Go.Proofs.Ytbbopnpmjhbffaa
