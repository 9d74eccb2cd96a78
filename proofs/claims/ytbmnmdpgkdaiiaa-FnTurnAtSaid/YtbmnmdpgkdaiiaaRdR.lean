/- Contracts of drawn rolls. -/
import Derived.Test.YtbmnmdpgkdaiiaaRoll
import Derived.Test.YtbmnmdpgkdaiiaaKit2
import Derived.Test.YtbmnmdpgkdaiiaaRd1
namespace Go.Proofs.Ytbmnmdpgkdaiiaa
open Go.RowKit Pl
set_option linter.unusedVariables false
set_option maxRecDepth 100000
theorem Bk.rs {w w' : World} {g rb : Nat} {T : TypeId} {cs : Array Value} (h : Bk w g T cs) (hs : RS rb w w') (hg : rb < g) : Bk w' g T cs :=
  (hs.block g h.lt (fun e => by injection e with e; omega)).trans h
/-- what a drawn roll may be -/
def RolP (c t n : Int) : Prop := (49 ≤ c ∧ c ≤ 401) ∧ (0 ≤ t ∧ t ≤ 10) ∧ (-1 ≤ n ∧ n ≤ 301)
def DrewR (rb N : Nat) (w : World) (e : Ending) (w' : World) : Prop := ∃ c t n, e = .returned (roll c t n) ∧ RolP c t n ∧ Rdr w' rb N ∧ RS rb w w'
set_option maxHeartbeats 1000000 in
theorem someRoll_any (rb N : Nat) (w : World) (hN : N ≤ 100000) (h : Rdr w rb N) :
    Calls Try.prog 55 #[.pointer (some ⟨rb, 0, none⟩)] w (DrewR rb (N + 5) w) := by
  have hrb := h.lt
  go_enter Try.func55, Try.ntmps55
  go_wp2_with fail
  refine (pick_any rb N 100 _ (by omega) (h.alloc _)).mono ?_
  rintro e w1 ⟨a, rfl, ha, hR1, hS1⟩
  have KR := hide ((Bk.made w 24 #[.int .i64 0, .int .i64 0, .int .i64 0]).rs hS1 hrb)
  obtain ⟨a0, a1⟩ := ha.2 (by omega)
  have S1 := hide (((RS.refl rb w).alloc _).trans hS1); have R1 := hide hR1; clear ha hR1 hS1 h
  go_wp2_with fail
  refine (one_arr rb (N + 1) _ _ _ _ _ (by simp) (by rfl) (by simp) (by simp) (by omega) R1.out).mono ?_
  rintro e w2 ⟨b, rfl, hb, hR2, hS2⟩
  have hb2 : 50 ≤ b ∧ b ≤ 400 := by simp at hb; omega
  obtain ⟨b0, b1⟩ := hb2
  have KR2 := hide (KR.out.rs hS2 hrb)
  have S2 := hide (S1.out.trans hS2); have R2 := hide hR2; clear hb hR2 hS2 KR
  go_wp2_with fail
  refine (pick_any rb (N + 1 + 1) 9 _ (by omega) R2.out).mono ?_
  rintro e w3 ⟨t, rfl, ht, hR3, hS3⟩
  obtain ⟨t0, t1⟩ := ht.2 (by omega)
  have KR3 := hide (KR2.out.rs hS3 hrb)
  have S3 := hide (S2.out.trans hS3); have R3 := hide hR3; clear ht hR3 hS3 KR2
  go_wp2_with fail
  refine (pick_any rb (N + 1 + 1 + 1) 100 _ (by omega) R3.out).mono ?_
  rintro e w4 ⟨d, rfl, hd, hR4, hS4⟩
  obtain ⟨d0, d1⟩ := hd.2 (by omega)
  have KR4 := hide (KR3.out.rs hS4 hrb)
  have S4 := hide (S3.out.trans hS4); have R4 := hide hR4; clear hd hR4 hS4 KR3
  go_wp2_with fail
  refine (one_arr rb (N + 1 + 1 + 1 + 1) _ _ _ _ _ (by simp) (by rfl) (by simp) (by simp) (by omega) R4.out).mono ?_
  rintro e w5 ⟨n, rfl, hn, hR5, hS5⟩
  have hn2 : 0 ≤ n ∧ n ≤ 300 := by simp at hn; omega
  obtain ⟨n0, n1⟩ := hn2
  have KR5 := hide (KR4.out.rs hS5 hrb)
  have S5 := hide (S4.out.trans hS5); have R5 := hide hR5; clear hn hR5 hS5 KR4
  obtain ⟨r0, r1, r2, r3, r4, r5⟩ := KR5.out.three
  go_wp2_with fail
  have KF := ((KR5.out.put 0 (.int .i64 b)).put 1 (.int .i64 (1 + t))).put 2 (.int .i64 n)
  obtain ⟨u0, u1, u2, -, -, -⟩ := Bk.three (a := .int .i64 b) (b := .int .i64 (1 + t)) (c := .int .i64 n) KF
  refine bodyPost_ret (v := roll b (1 + t) n) (by simp [results, Try.results55, go_sem, u0, u1, u2]) rfl ?_
  exact ⟨b, 1 + t, n, rfl, ⟨by omega, by omega, by omega⟩, ((R5.out.set hrb _).set hrb _).set hrb _, ((S5.out.set (Nat.le_refl _) _).set (Nat.le_refl _) _).set (Nat.le_refl _) _⟩
set_option maxHeartbeats 1000000 in
theorem anyRoll_any (rb N : Nat) (w : World) (hN : N ≤ 10000) (h : Rdr w rb N) :
    Calls Try.prog 46 #[.pointer (some ⟨rb, 0, none⟩)] w (DrewR rb (N + 7) w) := by
  have hrb := h.lt
  go_enter Try.func46, Try.ntmps46
  go_wp2_with fail
  refine (someRoll_any rb N _ (by omega) (h.alloc _)).mono ?_
  rintro e w1 ⟨c, t, n, rfl, ⟨⟨c0, c1⟩, ⟨t0, t1⟩, n0, n1⟩, hR1, hS1⟩
  have KR1 := hide ((Bk.made w 24 #[.int .i64 0, .int .i64 0, .int .i64 0]).rs hS1 hrb)
  have S1 := hide (((RS.refl rb w).alloc _).trans hS1); have R1 := hide hR1; clear hR1 hS1 h
  go_wp2_with fail
  refine (pick_any rb (N + 5) 16 _ (by omega) (R1.out.alloc _)).mono ?_
  rintro e w2 ⟨v, rfl, hv, hR2, hS2⟩
  have l1 : w.heap.size < w1.heap.size := KR1.out.lt
  have hrb1 : rb < w1.heap.size := by omega
  have KR2 := hide ((KR1.out.alloc (.cells #[.int .i64 c, .int .i64 t, .int .i64 n] 24)).rs hS2 hrb)
  have KX2 := hide ((Bk.made w1 24 #[.int .i64 c, .int .i64 t, .int .i64 n]).rs hS2 hrb1)
  have S2 := hide ((S1.out.alloc _).trans hS2); have R2 := hide hR2; clear hR2 hS2 hv KR1 R1
  have ne : ¬ w1.heap.size = w.heap.size := by omega
  have ne' : ¬ w.heap.size = w1.heap.size := by omega
  obtain ⟨r0, r1, r2, r3, r4, r5⟩ := KR2.out.three
  obtain ⟨x0, x1, x2, x3, x4, x5⟩ := KX2.out.three
  rcases (show v = 0 ∨ v = 1 ∨ v = 2 ∨ ((v == 0) = false ∧ (v == 1) = false ∧ (v == 2) = false) by
    by_cases e0 : v = 0
    · exact .inl e0
    · by_cases e1 : v = 1
      · exact .inr (.inl e1)
      · by_cases e2 : v = 2
        · exact .inr (.inr (.inl e2))
        · exact .inr (.inr (.inr ⟨by simpa using e0, by simpa using e1, by simpa using e2⟩))) with rfl | rfl | rfl | ⟨e0, e1, e2⟩
  · clear r0 r1 r2 r3 r4 r5 x0 x1 x2 x3 x4 x5
    go_wp2_with fail
    refine (one_arr rb (N + 5 + 1) _ _ _ _ _ (by simp) (by rfl) (by simp) (by simp) (by omega) R2.out).mono ?_
    rintro e w3 ⟨y, rfl, hy, hR3, hS3⟩
    have hy2 : 49 ≤ y ∧ y ≤ 401 := by simp at hy; omega
    obtain ⟨y0, y1⟩ := hy2
    have KR3 := hide ((KR2.out.rs hS3 hrb)); have KX3 := hide (KX2.out.rs hS3 hrb1)
    have S3 := hide (S2.out.trans hS3); have R3 := hide hR3; clear hy hR3 hS3 KR2 KX2
    obtain ⟨r0, r1, r2, r3, r4, r5⟩ := KR3.out.three
    obtain ⟨x0, x1, x2, x3, x4, x5⟩ := KX3.out.three
    go_wp2_with fail
    have KF := (((KR3.out.far (p := ⟨w1.heap.size, 0, none⟩) ne' (.int .i64 y)).put 0 (.int .i64 y)).put 1 (.int .i64 t)).put 2 (.int .i64 n)
    obtain ⟨u0, u1, u2, -, -, -⟩ := Bk.three (a := .int .i64 y) (b := .int .i64 t) (c := .int .i64 n) KF
    refine bodyPost_ret (v := roll y t n) (by simp [results, Try.results46, go_sem, u0, u1, u2]) rfl ?_
    exact ⟨y, t, n, rfl, ⟨by omega, by omega, by omega⟩, (((R3.out.set hrb1 _).set hrb _).set hrb _).set hrb _, (((S3.out.set (Nat.le_of_lt l1) _).set (Nat.le_refl _) _).set (Nat.le_refl _) _).set (Nat.le_refl _) _⟩
  · clear r0 r1 r2 r3 r4 r5 x0 x1 x2 x3 x4 x5
    go_wp2_with fail
    refine (one_arr rb (N + 5 + 1) _ _ _ _ _ (by simp) (by rfl) (by simp) (by simp) (by omega) R2.out).mono ?_
    rintro e w3 ⟨y, rfl, hy, hR3, hS3⟩
    have hy2 : 0 ≤ y ∧ y ≤ 10 := by simp at hy; omega
    obtain ⟨y0, y1⟩ := hy2
    have KR3 := hide ((KR2.out.rs hS3 hrb)); have KX3 := hide (KX2.out.rs hS3 hrb1)
    have S3 := hide (S2.out.trans hS3); have R3 := hide hR3; clear hy hR3 hS3 KR2 KX2
    obtain ⟨r0, r1, r2, r3, r4, r5⟩ := KR3.out.three
    obtain ⟨x0, x1, x2, x3, x4, x5⟩ := KX3.out.three
    go_wp2_with fail
    have KF := (((KR3.out.far (p := ⟨w1.heap.size, 1, none⟩) ne' (.int .i64 y)).put 0 (.int .i64 c)).put 1 (.int .i64 y)).put 2 (.int .i64 n)
    obtain ⟨u0, u1, u2, -, -, -⟩ := Bk.three (a := .int .i64 c) (b := .int .i64 y) (c := .int .i64 n) KF
    refine bodyPost_ret (v := roll c y n) (by simp [results, Try.results46, go_sem, u0, u1, u2]) rfl ?_
    exact ⟨c, y, n, rfl, ⟨by omega, by omega, by omega⟩, (((R3.out.set hrb1 _).set hrb _).set hrb _).set hrb _, (((S3.out.set (Nat.le_of_lt l1) _).set (Nat.le_refl _) _).set (Nat.le_refl _) _).set (Nat.le_refl _) _⟩
  · clear r0 r1 r2 r3 r4 r5 x0 x1 x2 x3 x4 x5
    go_wp2_with fail
    refine (one_arr rb (N + 5 + 1) _ _ _ _ _ (by simp) (by rfl) (by simp) (by simp) (by omega) R2.out).mono ?_
    rintro e w3 ⟨y, rfl, hy, hR3, hS3⟩
    have hy2 : -1 ≤ y ∧ y ≤ 301 := by simp at hy; omega
    obtain ⟨y0, y1⟩ := hy2
    have KR3 := hide ((KR2.out.rs hS3 hrb)); have KX3 := hide (KX2.out.rs hS3 hrb1)
    have S3 := hide (S2.out.trans hS3); have R3 := hide hR3; clear hy hR3 hS3 KR2 KX2
    obtain ⟨r0, r1, r2, r3, r4, r5⟩ := KR3.out.three
    obtain ⟨x0, x1, x2, x3, x4, x5⟩ := KX3.out.three
    go_wp2_with fail
    have KF := (((KR3.out.far (p := ⟨w1.heap.size, 2, none⟩) ne' (.int .i64 y)).put 0 (.int .i64 c)).put 1 (.int .i64 t)).put 2 (.int .i64 y)
    obtain ⟨u0, u1, u2, -, -, -⟩ := Bk.three (a := .int .i64 c) (b := .int .i64 t) (c := .int .i64 y) KF
    refine bodyPost_ret (v := roll c t y) (by simp [results, Try.results46, go_sem, u0, u1, u2]) rfl ?_
    exact ⟨c, t, y, rfl, ⟨by omega, by omega, by omega⟩, (((R3.out.set hrb1 _).set hrb _).set hrb _).set hrb _, (((S3.out.set (Nat.le_of_lt l1) _).set (Nat.le_refl _) _).set (Nat.le_refl _) _).set (Nat.le_refl _) _⟩
  · go_wp2_with fail
    have KF := ((KR2.out.put 0 (.int .i64 c)).put 1 (.int .i64 t)).put 2 (.int .i64 n)
    obtain ⟨u0, u1, u2, -, -, -⟩ := Bk.three (a := .int .i64 c) (b := .int .i64 t) (c := .int .i64 n) KF
    refine bodyPost_ret (v := roll c t n) (by simp [results, Try.results46, go_sem, u0, u1, u2]) rfl ?_
    exact ⟨c, t, n, rfl, ⟨by omega, by omega, by omega⟩, (((R2.out.mono (by omega)).set hrb _).set hrb _).set hrb _, ((S2.out.set (Nat.le_refl _) _).set (Nat.le_refl _) _).set (Nat.le_refl _) _⟩
/-- what the Draw functions give -/
def GotR (w : World) (e : Ending) (w' : World) : Prop := ∃ c t n, e = .returned (roll c t n) ∧ RolP c t n ∧ Below w.heap.size w w'
def GotRI (lo hi : Int) (w : World) (e : Ending) (w' : World) : Prop := ∃ c t n k, e = .returned (.tuple #[roll c t n, .int .i64 k]) ∧ RolP c t n ∧ (lo ≤ k ∧ k ≤ hi) ∧ Below w.heap.size w w'
theorem newReader_c (A : Option Addr) (n c : Nat) (bs : List Int) (w : World) (hn : n ≤ 1048576) (hnc : n ≤ c) (h : Byts w A n bs) :
    Calls Try.prog 45 #[.slice A n c] w fun e w' => e = .returned (.pointer (some ⟨w.heap.size, 0, none⟩)) ∧ Rdr w' w.heap.size 0 ∧ Below w.heap.size w w' ∧ w'.heap.size = w.heap.size + 1 :=
  newReader_any A n c bs w hn hnc h.1 h.2.1 h.2.2
theorem Byts.alloc {w : World} {A : Option Addr} {n : Nat} {bs : List Int} (h : Byts w A n bs) (o : Obj) : Byts (w.alloc o) A n bs := by
  obtain ⟨h1, h2, h3⟩ := h
  refine ⟨h1, fun k hk => ?_, h3⟩
  obtain ⟨ad, e, hlt, hc⟩ := h2 k hk
  exact ⟨ad, e, by simp; omega, by rw [World.cell?_alloc_lt _ _ _ (by rw [block_add]; exact hlt)]; exact hc⟩
end Go.Proofs.Ytbmnmdpgkdaiiaa
