/- Contracts of the drawn arguments of chapter 1. -/
import Derived.Test.YtbmnmdpgkdaiiaaRdR
namespace Go.Proofs.Ytbmnmdpgkdaiiaa
open Go.RowKit Pl
set_option linter.unusedVariables false
set_option maxRecDepth 100000
theorem Bk.rsn {w w' : World} {g rb : Nat} {T : TypeId} {cs : Array Value} (h : Bk w g T cs) (hs : RS rb w w') (hg : ¬ g = rb) : Bk w' g T cs :=
  (hs.block g h.lt (fun e => by injection e with e; omega)).trans h
theorem drawValidRoll_any (A : Option Addr) (n c : Nat) (bs : List Int) (w : World) (hn : n ≤ 1048576) (hnc : n ≤ c) (h : Byts w A n bs) : Calls Try.prog 24 #[.slice A n c] w (GotR w) := by
  have h' := h.alloc (.cells #[.int .i64 0, .int .i64 0, .int .i64 0] 24)
  clear h
  go_enter Try.func24, Try.ntmps24
  go_wp2_with fail
  refine (newReader_c A n c bs _ hn hnc h').mono ?_; rintro e w1 ⟨rfl, hR, hb, hz⟩
  have KR1 := hide ((Bk.made w 24 #[.int .i64 0, .int .i64 0, .int .i64 0]).call hb)
  have hz1 : w.heap.size + 1 < w1.heap.size := by simp at hz; omega
  have B1 := hide (((Below.refl w.heap.size w).alloc (Nat.le_refl _) (.cells #[.int .i64 0, .int .i64 0, .int .i64 0] 24)).trans (hb.mono (by simp)))
  have R1 := hide hR; rw [World.size_alloc] at R1
  clear hR hb hz h'
  go_wp2_with fail
  refine (anyRoll_any (w.heap.size + 1) 0 _ (by omega) R1.out).mono ?_
  rintro e w2 ⟨a, t, m, rfl, hP, hR2, hS2⟩
  have KR2 := hide (KR1.out.rsn hS2 (by omega))
  have B2 := hide (B1.out.trans (hS2.below (L := w.heap.size) (by omega) (by omega)))
  have z2 : w.heap.size + 1 < w2.heap.size := by have := hS2.size; omega
  have R2 := hide hR2; have HP := hide hP; clear hP hR2 hS2 KR1 R1 B1
  obtain ⟨r0, r1, r2, r3, r4, r5⟩ := KR2.out.three
  go_wp2_with fail
  have KF := ((KR2.out.put 0 (.int .i64 a)).put 1 (.int .i64 t)).put 2 (.int .i64 m)
  obtain ⟨u0, u1, u2, -, -, -⟩ := Bk.three (a := .int .i64 a) (b := .int .i64 t) (c := .int .i64 m) KF
  refine bodyPost_ret (v := roll a t m) (by simp [results, Try.results24, go_sem, u0, u1, u2]) rfl ?_
  exact ⟨a, t, m, rfl, HP.out, ((B2.out.setCell (Nat.le_refl _) _).setCell (Nat.le_refl _) _).setCell (Nat.le_refl _) _⟩
theorem drawDiameterOf_any (A : Option Addr) (n c : Nat) (bs : List Int) (w : World) (hn : n ≤ 1048576) (hnc : n ≤ c) (h : Byts w A n bs) : Calls Try.prog 17 #[.slice A n c] w (GotR w) := by
  have h' := h.alloc (.cells #[.int .i64 0, .int .i64 0, .int .i64 0] 24)
  clear h
  go_enter Try.func17, Try.ntmps17
  go_wp2_with fail
  refine (newReader_c A n c bs _ hn hnc h').mono ?_; rintro e w1 ⟨rfl, hR, hb, hz⟩
  have KR1 := hide ((Bk.made w 24 #[.int .i64 0, .int .i64 0, .int .i64 0]).call hb)
  have hz1 : w.heap.size + 1 < w1.heap.size := by simp at hz; omega
  have B1 := hide (((Below.refl w.heap.size w).alloc (Nat.le_refl _) (.cells #[.int .i64 0, .int .i64 0, .int .i64 0] 24)).trans (hb.mono (by simp)))
  have R1 := hide hR; rw [World.size_alloc] at R1
  clear hR hb hz h'
  go_wp2_with fail
  refine (anyRoll_any (w.heap.size + 1) 0 _ (by omega) R1.out).mono ?_
  rintro e w2 ⟨a, t, m, rfl, hP, hR2, hS2⟩
  have KR2 := hide (KR1.out.rsn hS2 (by omega))
  have B2 := hide (B1.out.trans (hS2.below (L := w.heap.size) (by omega) (by omega)))
  have z2 : w.heap.size + 1 < w2.heap.size := by have := hS2.size; omega
  have R2 := hide hR2; have HP := hide hP; clear hP hR2 hS2 KR1 R1 B1
  obtain ⟨r0, r1, r2, r3, r4, r5⟩ := KR2.out.three
  go_wp2_with fail
  have KF := ((KR2.out.put 0 (.int .i64 a)).put 1 (.int .i64 t)).put 2 (.int .i64 m)
  obtain ⟨u0, u1, u2, -, -, -⟩ := Bk.three (a := .int .i64 a) (b := .int .i64 t) (c := .int .i64 m) KF
  refine bodyPost_ret (v := roll a t m) (by simp [results, Try.results17, go_sem, u0, u1, u2]) rfl ?_
  exact ⟨a, t, m, rfl, HP.out, ((B2.out.setCell (Nat.le_refl _) _).setCell (Nat.le_refl _) _).setCell (Nat.le_refl _) _⟩
theorem drawLengthOf_any (A : Option Addr) (n c : Nat) (bs : List Int) (w : World) (hn : n ≤ 1048576) (hnc : n ≤ c) (h : Byts w A n bs) : Calls Try.prog 32 #[.slice A n c] w (GotR w) := by
  have h' := h.alloc (.cells #[.int .i64 0, .int .i64 0, .int .i64 0] 24)
  clear h
  go_enter Try.func32, Try.ntmps32
  go_wp2_with fail
  refine (newReader_c A n c bs _ hn hnc h').mono ?_; rintro e w1 ⟨rfl, hR, hb, hz⟩
  have KR1 := hide ((Bk.made w 24 #[.int .i64 0, .int .i64 0, .int .i64 0]).call hb)
  have hz1 : w.heap.size + 1 < w1.heap.size := by simp at hz; omega
  have B1 := hide (((Below.refl w.heap.size w).alloc (Nat.le_refl _) (.cells #[.int .i64 0, .int .i64 0, .int .i64 0] 24)).trans (hb.mono (by simp)))
  have R1 := hide hR; rw [World.size_alloc] at R1
  clear hR hb hz h'
  go_wp2_with fail
  refine (anyRoll_any (w.heap.size + 1) 0 _ (by omega) R1.out).mono ?_
  rintro e w2 ⟨a, t, m, rfl, hP, hR2, hS2⟩
  have KR2 := hide (KR1.out.rsn hS2 (by omega))
  have B2 := hide (B1.out.trans (hS2.below (L := w.heap.size) (by omega) (by omega)))
  have z2 : w.heap.size + 1 < w2.heap.size := by have := hS2.size; omega
  have R2 := hide hR2; have HP := hide hP; clear hP hR2 hS2 KR1 R1 B1
  obtain ⟨r0, r1, r2, r3, r4, r5⟩ := KR2.out.three
  go_wp2_with fail
  have KF := ((KR2.out.put 0 (.int .i64 a)).put 1 (.int .i64 t)).put 2 (.int .i64 m)
  obtain ⟨u0, u1, u2, -, -, -⟩ := Bk.three (a := .int .i64 a) (b := .int .i64 t) (c := .int .i64 m) KF
  refine bodyPost_ret (v := roll a t m) (by simp [results, Try.results32, go_sem, u0, u1, u2]) rfl ?_
  exact ⟨a, t, m, rfl, HP.out, ((B2.out.setCell (Nat.le_refl _) _).setCell (Nat.le_refl _) _).setCell (Nat.le_refl _) _⟩
set_option maxHeartbeats 1000000 in
theorem drawTurnLength_any (A : Option Addr) (n c : Nat) (bs : List Int) (w : World) (hn : n ≤ 1048576) (hnc : n ≤ c) (h : Byts w A n bs) : Calls Try.prog 14 #[.slice A n c] w (GotRI (-1) 300 w) := by
  have h' := h.alloc (.cells #[.int .i64 0, .int .i64 0, .int .i64 0] 24)
  clear h
  go_enter Try.func14, Try.ntmps14
  go_wp2_with fail
  refine (newReader_c A n c bs _ hn hnc h').mono ?_; rintro e w1 ⟨rfl, hR, hb, hz⟩
  have KR1 := hide ((Bk.made w 24 #[.int .i64 0, .int .i64 0, .int .i64 0]).call hb)
  have hz1 : w.heap.size + 1 < w1.heap.size := by simp at hz; omega
  have B1 := hide (((Below.refl w.heap.size w).alloc (Nat.le_refl _) (.cells #[.int .i64 0, .int .i64 0, .int .i64 0] 24)).trans (hb.mono (by simp)))
  have R1 := hide hR; rw [World.size_alloc] at R1
  clear hR hb hz h'
  go_wp2_with fail
  refine (anyRoll_any (w.heap.size + 1) 0 _ (by omega) R1.out).mono ?_
  rintro e w2 ⟨a, t, m, rfl, hP, hR2, hS2⟩
  have KR2 := hide (KR1.out.rsn hS2 (by omega))
  have B2 := hide (B1.out.trans (hS2.below (L := w.heap.size) (by omega) (by omega)))
  have z2 : w.heap.size + 1 < w2.heap.size := by have := hS2.size; omega
  have R2 := hide hR2; have HP := hide hP; clear hP hR2 hS2 KR1 R1 B1
  go_wp2_with fail
  refine (pick_any (w.heap.size + 1) _ 100 _ (by omega) R2.out).mono ?_
  rintro e w3 ⟨p0, rfl, hp, hR, hS⟩
  obtain ⟨p00, p01⟩ := hp.2 (by omega)
  have KR3 := hide (KR2.out.rsn hS (by omega))
  have B3 := hide (B2.out.trans (hS.below (L := w.heap.size) (by omega) (by omega)))
  have z3 : w.heap.size + 1 < w3.heap.size := by have := hS.size; omega
  have R3 := hide hR; clear hp hR hS KR2 R2 B2
  go_wp2_with fail
  refine (one_arr (w.heap.size + 1) _ _ _ _ _ _ (by simp) (by rfl) (by simp) (by simp) (by omega) R3.out).mono ?_
  rintro e wz ⟨y, rfl, hy, hR, hS⟩
  have hy2 : -1 ≤ y ∧ y ≤ 300 := by simp at hy; omega
  have KRz := hide (KR3.out.rsn hS (by omega))
  have Bz := hide (B3.out.trans (hS.below (L := w.heap.size) (by omega) (by omega)))
  have HY := hide hy2; clear hy hy2 hR hS KR3 R3 B3
  obtain ⟨r0, r1, r2, r3, r4, r5⟩ := KRz.out.three
  go_wp2_with fail
  have KF := ((KRz.out.put 0 (.int .i64 a)).put 1 (.int .i64 t)).put 2 (.int .i64 m)
  obtain ⟨u0, u1, u2, -, -, -⟩ := Bk.three (a := .int .i64 a) (b := .int .i64 t) (c := .int .i64 m) KF
  refine bodyPost_ret (v := .tuple #[roll a t m, .int .i64 y]) (by simp [results, Try.results14, go_sem, u0, u1, u2]) rfl ?_
  exact ⟨a, t, m, y, rfl, HP.out, HY.out, ((Bz.out.setCell (Nat.le_refl _) _).setCell (Nat.le_refl _) _).setCell (Nat.le_refl _) _⟩
set_option maxHeartbeats 1000000 in
theorem drawTurnsFor_any (A : Option Addr) (n c : Nat) (bs : List Int) (w : World) (hn : n ≤ 1048576) (hnc : n ≤ c) (h : Byts w A n bs) : Calls Try.prog 35 #[.slice A n c] w (GotRI (-1) 90000000 w) := by
  have h' := h.alloc (.cells #[.int .i64 0, .int .i64 0, .int .i64 0] 24)
  clear h
  go_enter Try.func35, Try.ntmps35
  go_wp2_with fail
  refine (newReader_c A n c bs _ hn hnc h').mono ?_; rintro e w1 ⟨rfl, hR, hb, hz⟩
  have KR1 := hide ((Bk.made w 24 #[.int .i64 0, .int .i64 0, .int .i64 0]).call hb)
  have hz1 : w.heap.size + 1 < w1.heap.size := by simp at hz; omega
  have B1 := hide (((Below.refl w.heap.size w).alloc (Nat.le_refl _) (.cells #[.int .i64 0, .int .i64 0, .int .i64 0] 24)).trans (hb.mono (by simp)))
  have R1 := hide hR; rw [World.size_alloc] at R1
  clear hR hb hz h'
  go_wp2_with fail
  refine (anyRoll_any (w.heap.size + 1) 0 _ (by omega) R1.out).mono ?_
  rintro e w2 ⟨a, t, m, rfl, hP, hR2, hS2⟩
  have KR2 := hide (KR1.out.rsn hS2 (by omega))
  have B2 := hide (B1.out.trans (hS2.below (L := w.heap.size) (by omega) (by omega)))
  have z2 : w.heap.size + 1 < w2.heap.size := by have := hS2.size; omega
  have R2 := hide hR2; have HP := hide hP; clear hP hR2 hS2 KR1 R1 B1
  go_wp2_with fail
  refine (pick_any (w.heap.size + 1) _ 200 _ (by omega) R2.out).mono ?_
  rintro e w3 ⟨p0, rfl, hp, hR, hS⟩
  obtain ⟨p00, p01⟩ := hp.2 (by omega)
  have KR3 := hide (KR2.out.rsn hS (by omega))
  have B3 := hide (B2.out.trans (hS.below (L := w.heap.size) (by omega) (by omega)))
  have z3 : w.heap.size + 1 < w3.heap.size := by have := hS.size; omega
  have R3 := hide hR; clear hp hR hS KR2 R2 B2
  go_wp2_with fail
  refine (pick_any (w.heap.size + 1) _ 250 _ (by omega) R3.out).mono ?_
  rintro e w4 ⟨p1, rfl, hp, hR, hS⟩
  obtain ⟨p10, p11⟩ := hp.2 (by omega)
  have KR4 := hide (KR3.out.rsn hS (by omega))
  have B4 := hide (B3.out.trans (hS.below (L := w.heap.size) (by omega) (by omega)))
  have z4 : w.heap.size + 1 < w4.heap.size := by have := hS.size; omega
  have R4 := hide hR; clear hp hR hS KR3 R3 B3
  go_wp2_with fail
  refine (one_arr (w.heap.size + 1) _ _ _ _ _ _ (by simp) (by rfl) (by simp) (by simp) (by omega) R4.out).mono ?_
  rintro e wz ⟨y, rfl, hy, hR, hS⟩
  have hy2 : -1 ≤ y ∧ y ≤ 90000000 := by simp at hy; omega
  have KRz := hide (KR4.out.rsn hS (by omega))
  have Bz := hide (B4.out.trans (hS.below (L := w.heap.size) (by omega) (by omega)))
  have HY := hide hy2; clear hy hy2 hR hS KR4 R4 B4
  obtain ⟨r0, r1, r2, r3, r4, r5⟩ := KRz.out.three
  go_wp2_with fail
  have KF := ((KRz.out.put 0 (.int .i64 a)).put 1 (.int .i64 t)).put 2 (.int .i64 m)
  obtain ⟨u0, u1, u2, -, -, -⟩ := Bk.three (a := .int .i64 a) (b := .int .i64 t) (c := .int .i64 m) KF
  refine bodyPost_ret (v := .tuple #[roll a t m, .int .i64 y]) (by simp [results, Try.results35, go_sem, u0, u1, u2]) rfl ?_
  exact ⟨a, t, m, y, rfl, HP.out, HY.out, ((Bz.out.setCell (Nat.le_refl _) _).setCell (Nat.le_refl _) _).setCell (Nat.le_refl _) _⟩
set_option maxHeartbeats 1000000 in
theorem drawWindRoll_any (A : Option Addr) (n c : Nat) (bs : List Int) (w : World) (hn : n ≤ 1048576) (hnc : n ≤ c) (h : Byts w A n bs) : Calls Try.prog 28 #[.slice A n c] w (GotRI (-1) 300 w) := by
  have h' := h.alloc (.cells #[.int .i64 0, .int .i64 0, .int .i64 0] 24)
  clear h
  go_enter Try.func28, Try.ntmps28
  go_wp2_with fail
  refine (newReader_c A n c bs _ hn hnc h').mono ?_; rintro e w1 ⟨rfl, hR, hb, hz⟩
  have KR1 := hide ((Bk.made w 24 #[.int .i64 0, .int .i64 0, .int .i64 0]).call hb)
  have hz1 : w.heap.size + 1 < w1.heap.size := by simp at hz; omega
  have B1 := hide (((Below.refl w.heap.size w).alloc (Nat.le_refl _) (.cells #[.int .i64 0, .int .i64 0, .int .i64 0] 24)).trans (hb.mono (by simp)))
  have R1 := hide hR; rw [World.size_alloc] at R1
  clear hR hb hz h'
  go_wp2_with fail
  refine (anyRoll_any (w.heap.size + 1) 0 _ (by omega) R1.out).mono ?_
  rintro e w2 ⟨a, t, m, rfl, hP, hR2, hS2⟩
  have KR2 := hide (KR1.out.rsn hS2 (by omega))
  have B2 := hide (B1.out.trans (hS2.below (L := w.heap.size) (by omega) (by omega)))
  have z2 : w.heap.size + 1 < w2.heap.size := by have := hS2.size; omega
  have R2 := hide hR2; have HP := hide hP; clear hP hR2 hS2 KR1 R1 B1
  go_wp2_with fail
  refine (pick_any (w.heap.size + 1) _ 60 _ (by omega) R2.out).mono ?_
  rintro e w3 ⟨p0, rfl, hp, hR, hS⟩
  obtain ⟨p00, p01⟩ := hp.2 (by omega)
  have KR3 := hide (KR2.out.rsn hS (by omega))
  have B3 := hide (B2.out.trans (hS.below (L := w.heap.size) (by omega) (by omega)))
  have z3 : w.heap.size + 1 < w3.heap.size := by have := hS.size; omega
  have R3 := hide hR; clear hp hR hS KR2 R2 B2
  go_wp2_with fail
  refine (one_arr (w.heap.size + 1) _ _ _ _ _ _ (by simp) (by rfl) (by simp) (by simp) (by omega) R3.out).mono ?_
  rintro e wz ⟨y, rfl, hy, hR, hS⟩
  have hy2 : -1 ≤ y ∧ y ≤ 300 := by simp at hy; omega
  have KRz := hide (KR3.out.rsn hS (by omega))
  have Bz := hide (B3.out.trans (hS.below (L := w.heap.size) (by omega) (by omega)))
  have HY := hide hy2; clear hy hy2 hR hS KR3 R3 B3
  obtain ⟨r0, r1, r2, r3, r4, r5⟩ := KRz.out.three
  go_wp2_with fail
  have KF := ((KRz.out.put 0 (.int .i64 a)).put 1 (.int .i64 t)).put 2 (.int .i64 m)
  obtain ⟨u0, u1, u2, -, -, -⟩ := Bk.three (a := .int .i64 a) (b := .int .i64 t) (c := .int .i64 m) KF
  refine bodyPost_ret (v := .tuple #[roll a t m, .int .i64 y]) (by simp [results, Try.results28, go_sem, u0, u1, u2]) rfl ?_
  exact ⟨a, t, m, y, rfl, HP.out, HY.out, ((Bz.out.setCell (Nat.le_refl _) _).setCell (Nat.le_refl _) _).setCell (Nat.le_refl _) _⟩
set_option maxHeartbeats 1000000 in
theorem drawUnwindRoll_any (A : Option Addr) (n c : Nat) (bs : List Int) (w : World) (hn : n ≤ 1048576) (hnc : n ≤ c) (h : Byts w A n bs) : Calls Try.prog 37 #[.slice A n c] w (GotRI (-1) 300 w) := by
  have h' := h.alloc (.cells #[.int .i64 0, .int .i64 0, .int .i64 0] 24)
  clear h
  go_enter Try.func37, Try.ntmps37
  go_wp2_with fail
  refine (newReader_c A n c bs _ hn hnc h').mono ?_; rintro e w1 ⟨rfl, hR, hb, hz⟩
  have KR1 := hide ((Bk.made w 24 #[.int .i64 0, .int .i64 0, .int .i64 0]).call hb)
  have hz1 : w.heap.size + 1 < w1.heap.size := by simp at hz; omega
  have B1 := hide (((Below.refl w.heap.size w).alloc (Nat.le_refl _) (.cells #[.int .i64 0, .int .i64 0, .int .i64 0] 24)).trans (hb.mono (by simp)))
  have R1 := hide hR; rw [World.size_alloc] at R1
  clear hR hb hz h'
  go_wp2_with fail
  refine (anyRoll_any (w.heap.size + 1) 0 _ (by omega) R1.out).mono ?_
  rintro e w2 ⟨a, t, m, rfl, hP, hR2, hS2⟩
  have KR2 := hide (KR1.out.rsn hS2 (by omega))
  have B2 := hide (B1.out.trans (hS2.below (L := w.heap.size) (by omega) (by omega)))
  have z2 : w.heap.size + 1 < w2.heap.size := by have := hS2.size; omega
  have R2 := hide hR2; have HP := hide hP; clear hP hR2 hS2 KR1 R1 B1
  go_wp2_with fail
  refine (pick_any (w.heap.size + 1) _ 60 _ (by omega) R2.out).mono ?_
  rintro e w3 ⟨p0, rfl, hp, hR, hS⟩
  obtain ⟨p00, p01⟩ := hp.2 (by omega)
  have KR3 := hide (KR2.out.rsn hS (by omega))
  have B3 := hide (B2.out.trans (hS.below (L := w.heap.size) (by omega) (by omega)))
  have z3 : w.heap.size + 1 < w3.heap.size := by have := hS.size; omega
  have R3 := hide hR; clear hp hR hS KR2 R2 B2
  go_wp2_with fail
  refine (one_arr (w.heap.size + 1) _ _ _ _ _ _ (by simp) (by rfl) (by simp) (by simp) (by omega) R3.out).mono ?_
  rintro e wz ⟨y, rfl, hy, hR, hS⟩
  have hy2 : -1 ≤ y ∧ y ≤ 300 := by simp at hy; omega
  have KRz := hide (KR3.out.rsn hS (by omega))
  have Bz := hide (B3.out.trans (hS.below (L := w.heap.size) (by omega) (by omega)))
  have HY := hide hy2; clear hy hy2 hR hS KR3 R3 B3
  obtain ⟨r0, r1, r2, r3, r4, r5⟩ := KRz.out.three
  go_wp2_with fail
  have KF := ((KRz.out.put 0 (.int .i64 a)).put 1 (.int .i64 t)).put 2 (.int .i64 m)
  obtain ⟨u0, u1, u2, -, -, -⟩ := Bk.three (a := .int .i64 a) (b := .int .i64 t) (c := .int .i64 m) KF
  refine bodyPost_ret (v := .tuple #[roll a t m, .int .i64 y]) (by simp [results, Try.results37, go_sem, u0, u1, u2]) rfl ?_
  exact ⟨a, t, m, y, rfl, HP.out, HY.out, ((Bz.out.setCell (Nat.le_refl _) _).setCell (Nat.le_refl _) _).setCell (Nat.le_refl _) _⟩
set_option maxHeartbeats 1000000 in
theorem drawTurnsUnder_any (A : Option Addr) (n c : Nat) (bs : List Int) (w : World) (hn : n ≤ 1048576) (hnc : n ≤ c) (h : Byts w A n bs) : Calls Try.prog 21 #[.slice A n c] w (GotRI (-1) 9000 w) := by
  have h' := h.alloc (.cells #[.int .i64 0, .int .i64 0, .int .i64 0] 24)
  clear h
  go_enter Try.func21, Try.ntmps21
  go_wp2_with fail
  refine (newReader_c A n c bs _ hn hnc h').mono ?_; rintro e w1 ⟨rfl, hR, hb, hz⟩
  have KR1 := hide ((Bk.made w 24 #[.int .i64 0, .int .i64 0, .int .i64 0]).call hb)
  have hz1 : w.heap.size + 1 < w1.heap.size := by simp at hz; omega
  have B1 := hide (((Below.refl w.heap.size w).alloc (Nat.le_refl _) (.cells #[.int .i64 0, .int .i64 0, .int .i64 0] 24)).trans (hb.mono (by simp)))
  have R1 := hide hR; rw [World.size_alloc] at R1
  clear hR hb hz h'
  go_wp2_with fail
  refine (anyRoll_any (w.heap.size + 1) 0 _ (by omega) R1.out).mono ?_
  rintro e w2 ⟨a, t, m, rfl, hP, hR2, hS2⟩
  have KR2 := hide (KR1.out.rsn hS2 (by omega))
  have B2 := hide (B1.out.trans (hS2.below (L := w.heap.size) (by omega) (by omega)))
  have z2 : w.heap.size + 1 < w2.heap.size := by have := hS2.size; omega
  have R2 := hide hR2; have HP := hide hP; clear hP hR2 hS2 KR1 R1 B1
  go_wp2_with fail
  refine (pick_any (w.heap.size + 1) _ 100 _ (by omega) R2.out).mono ?_
  rintro e w3 ⟨p0, rfl, hp, hR, hS⟩
  obtain ⟨p00, p01⟩ := hp.2 (by omega)
  have KR3 := hide (KR2.out.rsn hS (by omega))
  have B3 := hide (B2.out.trans (hS.below (L := w.heap.size) (by omega) (by omega)))
  have z3 : w.heap.size + 1 < w3.heap.size := by have := hS.size; omega
  have R3 := hide hR; clear hp hR hS KR2 R2 B2
  go_wp2_with fail
  refine (one_arr (w.heap.size + 1) _ _ _ _ _ _ (by simp) (by rfl) (by simp) (by simp) (by omega) R3.out).mono ?_
  rintro e wz ⟨y, rfl, hy, hR, hS⟩
  have hy2 : -1 ≤ y ∧ y ≤ 9000 := by simp at hy; omega
  have KRz := hide (KR3.out.rsn hS (by omega))
  have Bz := hide (B3.out.trans (hS.below (L := w.heap.size) (by omega) (by omega)))
  have HY := hide hy2; clear hy hy2 hR hS KR3 R3 B3
  obtain ⟨r0, r1, r2, r3, r4, r5⟩ := KRz.out.three
  go_wp2_with fail
  have KF := ((KRz.out.put 0 (.int .i64 a)).put 1 (.int .i64 t)).put 2 (.int .i64 m)
  obtain ⟨u0, u1, u2, -, -, -⟩ := Bk.three (a := .int .i64 a) (b := .int .i64 t) (c := .int .i64 m) KF
  refine bodyPost_ret (v := .tuple #[roll a t m, .int .i64 y]) (by simp [results, Try.results21, go_sem, u0, u1, u2]) rfl ?_
  exact ⟨a, t, m, y, rfl, HP.out, HY.out, ((Bz.out.setCell (Nat.le_refl _) _).setCell (Nat.le_refl _) _).setCell (Nat.le_refl _) _⟩
end Go.Proofs.Ytbmnmdpgkdaiiaa
