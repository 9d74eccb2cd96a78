/- The law FnMirrorKnives. -/
import Derived.Test.YtkmogpeiolkpbaaMov3
import Derived.Test.YtkmogpeiolkpbaaInt8
import Derived.Test.YtkmogpeiolkpbaaRd4
import Derived.Test.YtkmogpeiolkpbaaPl7
namespace Go.Proofs.Ytkmogpeiolkpbaa
open Go.RowKit
set_option linter.unusedVariables false
set_option maxRecDepth 100000
theorem nth_eq {xs ys : List Int} (hl : xs.length = ys.length) (h : ∀ k, k < xs.length → nth xs k = nth ys k) : xs = ys := by
  refine List.ext_getElem hl fun k h1 h2 => ?_
  have := h k h1
  rwa [nth_lt h1, nth_lt h2] at this
theorem mir_mir (xs : List Int) (w : Int) : mir (mir xs w) w = xs := by
  refine nth_eq (by simp [mir_len]) fun k hk => ?_
  rw [mir_len, mir_len] at hk
  rw [mir_nth (by rw [mir_len]; exact hk), mir_len, mir_nth (by omega), show xs.length - 1 - (xs.length - 1 - k) = k by omega]
  omega
theorem mir_mem {xs : List Int} {w x : Int} (h : x ∈ mir xs w) : ∃ k, k < xs.length ∧ x = w - nth xs k := by
  simp only [mir, List.mem_map, List.mem_range] at h
  obtain ⟨a, ha, rfl⟩ := h
  exact ⟨xs.length - 1 - a, by omega, rfl⟩
theorem mir_kn {xs : List Int} {w : Int} (h : vKn xs = true) (h60 : w ≤ 60) (hx : ∀ x ∈ xs, 0 ≤ x ∧ x ≤ w) : vKn (mir xs w) = true ∧ ∀ x ∈ mir xs w, 0 ≤ x ∧ x ≤ w := by
  obtain ⟨h1, h2, h3⟩ := vKn_true h
  have hm : ∀ x ∈ mir xs w, 0 ≤ x ∧ x ≤ w := fun x hx' => by
    obtain ⟨k, hk, rfl⟩ := mir_mem hx'
    have := hx _ (nth_mem hk); omega
  refine ⟨vKn_mk (by rw [mir_len]; exact h1) (allB_iff.2 fun x hx' => by have := hm x hx'; omega) ?_, hm⟩
  intro j hj
  rw [mir_len] at hj
  rw [mir_nth (by omega), mir_nth (by omega)]
  have := h3.lt (i := xs.length - 1 - (j + 1)) (j := xs.length - 1 - j) (by omega) (by omega)
  omega
theorem mOf_pos {xs : List Int} {w : Int} (h : 0 < (mOf xs w).length) : vKn xs = true ∧ 0 ≤ w ∧ w ≤ 60 ∧ (∀ x ∈ xs, 0 ≤ x ∧ x ≤ w) ∧ mOf xs w = mir xs w := by
  unfold mOf at *
  split
  · rename_i g
    exact ⟨g.1, g.2.1.1, g.2.1.2, allB_iff.1 g.2.2, rfl⟩
  · rename_i g
    rw [if_neg g] at h; simp at h
theorem mOf_mir {xs : List Int} {w : Int} (h : vKn xs = true) (h0 : 0 ≤ w) (h60 : w ≤ 60) (hx : ∀ x ∈ xs, 0 ≤ x ∧ x ≤ w) : mOf (mir xs w) w = xs := by
  obtain ⟨h1, h2⟩ := mir_kn h h60 hx
  rw [mOf, if_pos ⟨h1, ⟨h0, h60⟩, allB_iff.2 h2⟩, mir_mir]
theorem edge_kn {w : Int} (h : 0 < w) (h60 : w ≤ 60) : vKn [0, w] = true := by
  refine vKn_mk (by simp) (allB_iff.2 fun x hx => by simp at hx; omega) ?_
  intro j hj
  obtain rfl : j = 0 := by simp at hj; omega
  simpa [nth] using h
theorem mvS_none (b d : Int) : mvS b (-1) d = b := by rw [mvS, if_neg (by omega)]
theorem mvS_new {p d : Int} (h : 0 ≤ p) : mvS (-1) p d = p + d := by rw [mvS, if_pos h, if_pos (Or.inl (by omega))]
theorem edge1 {xs : List Int} {w : Int} (hx : ∀ x ∈ xs, 0 ≤ x ∧ x ≤ w) (ha : Asc xs xs.length) (k : Nat) (hk : k < xs.length) : mv [0, w] xs 1 (k + 1) = nth xs 0 := by
  induction k with
  | zero =>
    have := hx _ (nth_mem hk)
    rw [mv_succ, mv_succ_zero, mv_zero, mvS, if_pos (by omega), if_pos (Or.inl (by omega))]
    simp only [nth, List.getD_cons_zero] at *
    unfold dst; omega
  | succ k ih =>
    have h0 := hx _ (nth_mem (show 0 < xs.length by omega))
    have h1 := ha.lt (i := 0) (j := k + 1) (by omega) hk
    rw [mv_succ, ih (by omega), mv_zero, mvS, if_pos (by omega), if_neg]
    have : nth [0, w] 0 = 0 := rfl
    rw [this]; unfold dst; omega
theorem edge2 {xs : List Int} {w : Int} (hx : ∀ x ∈ xs, 0 ≤ x ∧ x ≤ w) (ha : Asc xs xs.length) (k : Nat) (hk : k + 1 < xs.length) : mv [0, w] xs 2 (k + 2) = nth xs 0 + w - nth xs (k + 1) := by
  have e1 : nth [0, w] 1 = w := rfl
  have h0 := hx _ (nth_mem (show 0 < xs.length by omega))
  induction k with
  | zero =>
    have h1 := hx _ (nth_mem hk)
    rw [mv_succ, mv_succ, mv_succ_zero, mv_succ_zero, edge1 hx ha 0 (by omega), e1]
    have : dst w (nth xs 1) = w - nth xs 1 := by simp only [Nat.zero_add] at h1; unfold dst; omega
    simp only [Nat.zero_add]
    rw [this, mvS_none, mvS_new h0.1]
    omega
  | succ k ih =>
    have h1 := hx _ (nth_mem hk)
    have h2 := ha.lt (i := k + 1) (j := k + 1 + 1) (by omega) hk
    have h3 := hx _ (nth_mem (show k + 1 < xs.length by omega))
    rw [mv_succ, ih (by omega), edge1 hx ha (k + 1) (by omega), e1]
    have : dst w (nth xs (k + 1 + 1)) = w - nth xs (k + 1 + 1) := by unfold dst; omega
    rw [this, mvS, if_pos (by omega), if_pos (Or.inr (by omega))]
    omega
theorem edge_one {x w : Int} (hx : 0 ≤ x ∧ x ≤ w) : mv [x] [0, w] 1 2 = min x (w - x) := by
  rw [mv_succ, mv_succ, mv_succ_zero, mv_zero, mv_zero]
  have e1 : dst (nth [x] 0) (nth [0, w] 0) = x := by simp [nth]; unfold dst; omega
  have e2 : dst (nth [x] 0) (nth [0, w] 1) = w - x := by simp [nth]; unfold dst; omega
  rw [e1, e2, mvS_new (by omega), mvS, if_pos (by omega)]
  split <;> omega
theorem mk_edge {xs : List Int} {w : Int} (h : vKn xs = true) (h0 : 0 < w) (h60 : w ≤ 60) (hx : ∀ x ∈ xs, 0 ≤ x ∧ x ≤ w) (hl : 0 < xs.length) :
    mkOf [0, w] xs = if xs.length = 1 then min (nth xs 0) (w - nth xs 0) else nth xs 0 + w - nth xs (xs.length - 1) := by
  obtain ⟨_, _, h3⟩ := vKn_true h
  rw [mkOf, if_pos ⟨edge_kn h0 h60, h⟩]
  by_cases e : xs.length = 1
  · rw [if_pos (by simp; omega), if_pos e]
    obtain ⟨x, rfl⟩ := List.length_eq_one_iff.1 e
    exact edge_one (hx x (by simp))
  · rw [if_neg (by simp; omega), if_neg e]
    have := edge2 hx h3 (xs.length - 2) (by omega)
    rwa [show xs.length - 2 + 2 = xs.length by omega, show xs.length - 2 + 1 = xs.length - 1 by omega] at this
theorem mk_edge_mir {xs : List Int} {w : Int} (h : vKn xs = true) (h0 : 0 < w) (h60 : w ≤ 60) (hx : ∀ x ∈ xs, 0 ≤ x ∧ x ≤ w) (hl : 0 < xs.length) :
    mkOf [0, w] (mir xs w) = mkOf [0, w] xs := by
  obtain ⟨h1, h2⟩ := mir_kn h h60 hx
  rw [mk_edge h h0 h60 hx hl, mk_edge h1 h0 h60 h2 (by rw [mir_len]; exact hl), mir_len, mir_nth hl, mir_nth (by omega), show xs.length - 1 - (xs.length - 1) = 0 by omega, show xs.length - 1 - 0 = xs.length - 1 by omega]
  split
  · rename_i e; rw [e, show 1 - 1 = 0 by omega]; omega
  · omega
set_option maxHeartbeats 2000000 in
theorem lawFnMirrorKnives (A : Option Addr) (n c : Nat) (bs : List Int) (w : World) (h : Byts w A n bs) (hnc : n ≤ c) :
    Calls Try.prog 11 #[.slice A n c] w fun e w' => e = .returned (.bool true) ∧ Below w.heap.size w w' := by
  by_cases g : (1048576 : Int) < n
  · go_enter Try.func11, Try.ntmps11
    go_wp2
    go_ret
    exact ⟨rfl, Below.refl _ _⟩
  have g' : (n : Int) ≤ 1048576 := by omega
  clear g
  go_enter Try.func11, Try.ntmps11
  go_wp2_with fail
  refine (drawMirrorKnives_any A n c bs _ (by omega) hnc h).mono ?_; rintro e w1 ⟨v, ys, s, rfl, hP, hs1, hs2, hO, hb⟩
  obtain ⟨A1, c1, rfl, hO1, hc1⟩ := own_of_row hO
  obtain ⟨K, hK⟩ : ∃ K, ys.length = K := ⟨_, rfl⟩
  rw [hK] at hO1 hc1
  have hK7 : K ≤ 7 := by have := hP.1; omega
  have HI := hide hO1.ints; have HB := hide hb; have HK := hide hK
  rw [hK]
  clear hO hO1 hb hP hK h
  go_wp2_with fail
  refine (implMirrorKnives A1 K c1 ys s _ (by omega) HI.out).mono ?_; rintro e w2 ⟨B2, k2, d2, rfl, hO2, hb2, -⟩
  have hk2 : k2 ≤ 7 := by have h1 := hO2.1; have h2 := mOf_len ys s; rw [HK.out] at h2; omega
  have HI2 := hide (HI.out.below hb2); have HO2 := hide hO2; have Hb2 := hide (below_then HB.out hb2); clear hO2 hb2
  go_wp2_with fail
  refine (specMirrorKnives A1 K c1 ys s _ (by omega) HI2.out).mono ?_; rintro e w3 ⟨B3, k3, d3, rfl, hO3, hb3, -⟩
  obtain rfl : k2 = k3 := HO2.out.1.symm.trans hO3.1
  have HI3 := hide (HI2.out.below hb3); have HO3 := hide hO3; have HO23 := hide (HO2.out.below hb3); have Hb3 := hide (below_then Hb2.out hb3); clear hO3 hb3
  go_wp2_with fail
  refine (equalInts_same B2 B3 k2 d2 d3 (mOf ys s) _ (by omega) HO23.out.ints HO3.out.ints).mono ?_; rintro e w4 ⟨rfl, hb4⟩
  have HI4 := hide (HI3.out.below hb4); have HO4 := hide (HO23.out.below hb4); have Hb4 := hide (below_then Hb3.out hb4); clear hb4
  by_cases hk0 : k2 = 0
  · have hd : ((k2 : Int) == 0) = true := by simp [hk0]
    clear hk0
    go_wp2_with fail
    refine (specMirrorKnives A1 K c1 ys s _ (by omega) HI4.out).mono ?_; rintro e w5 ⟨B5, k5, d5, rfl, hO5, hb5, -⟩
    obtain rfl : k2 = k5 := HO2.out.1.symm.trans hO5.1
    have HO5 := hide hO5; have HO45 := hide (HO4.out.below hb5); have Hb5 := hide (below_then Hb4.out hb5); clear hO5 hb5
    go_wp2_with fail
    refine (equalInts_same B2 B5 k2 d2 d5 (mOf ys s) _ (by omega) HO45.out.ints HO5.out.ints).mono ?_; rintro e w6 ⟨rfl, hb6⟩
    go_wp2_with fail
    go_ret
    exact ⟨rfl, below_then Hb5.out hb6⟩
  have hd : ((k2 : Int) == 0) = false := by simpa using hk0
  have hk0' : 0 < k2 := by omega
  clear hk0
  obtain ⟨v1, v2, v3, v4, v5⟩ := mOf_pos (by rw [HO2.out.1]; exact hk0')
  have hkK : k2 = K := by rw [← HO2.out.1, v5, mir_len, HK.out]
  subst hkK
  have HE := hide (by rw [v5] at HO4; exact HO4.out.ints : Ints w4 B2 k2 (mir ys s))
  have HV := hide (mir_kn v1 v3 v4).1
  have HM := hide (mOf_mir v1 v2 v3 v4)
  have HD := hide (fun h => mk_edge_mir v1 h v3 v4 (by rw [HK.out]; exact hk0') : 0 < s → mkOf [0, s] (mir ys s) = mkOf [0, s] ys)
  clear v1 v4 v5
  clear HO2 HO3 HO23 HO4
  go_wp2_with fail
  have hbA : Below w4.heap.size w4 (w4.alloc (.cells #[.int .i64 0, .int .i64 s] 3)) := (Below.refl _ _).alloc (Nat.le_refl _) _
  have hIE : Ints (w4.alloc (.cells #[.int .i64 0, .int .i64 s] 3)) (some ⟨w4.heap.size, 0, none⟩) 2 [0, s] := ints_lit (xs := [0, s])
  have HI5 := hide (HI4.out.below hbA); have HE5 := hide (HE.out.below hbA); have HG5 := hide hIE; have Hb5 := hide (below_then Hb4.out hbA); clear hbA hIE
  refine (implMirrorKnives B2 k2 d2 (mir ys s) s _ (by omega) HE5.out).mono ?_; rintro e w6 ⟨B6, k6, d6, rfl, hO6, hb6, -⟩
  rw [HM.out] at hO6
  obtain rfl : k2 = k6 := HK.out.symm.trans hO6.1
  have HI6 := hide (HI5.out.below hb6); have HE6 := hide (HE5.out.below hb6); have HG6 := hide (HG5.out.below hb6); have Hb6 := hide (below_then Hb5.out hb6); have HO6 := hide hO6.ints; clear hb6 hO6
  go_wp2_with fail
  refine (equalInts_same B6 A1 k2 d6 c1 ys _ (by omega) HO6.out HI6.out).mono ?_; rintro e w7 ⟨rfl, hb7⟩
  have HI7 := hide (HI6.out.below hb7); have HE7 := hide (HE6.out.below hb7); have HG7 := hide (HG6.out.below hb7); have Hb7 := hide (below_then Hb6.out hb7); clear hb7
  go_wp2_with fail
  refine (implValidKnives B2 k2 d2 (mir ys s) _ (by omega) HE7.out).mono ?_; rintro e w' ⟨rfl, rfl⟩; rw [HV.out]
  by_cases hz : s = 0
  · have hdz : (s == 0) = true := by simp [hz]
    clear hz
    go_wp2_with fail
    go_ret
    exact ⟨rfl, Hb7.out⟩
  · have hdz : (s == 0) = false := by simpa using hz
    have hs0 : 0 < s := by omega
    clear hz
    go_wp2_with fail
    refine (implMoveKnives _ A1 2 2 k2 c1 [0, s] ys _ (by omega) (by omega) HG7.out HI7.out).mono ?_; rintro e w8 ⟨rfl, hb8⟩
    have HE8 := hide (HE7.out.below hb8); have HG8 := hide (HG7.out.below hb8); have Hb8 := hide (below_then Hb7.out hb8); clear hb8
    go_wp2_with fail
    refine (implMoveKnives _ B2 2 2 k2 d2 [0, s] (mir ys s) _ (by omega) (by omega) HG8.out HE8.out).mono ?_; rintro e w9 ⟨rfl, hb9⟩; rw [HD.out hs0]
    have Hb9 := hide (below_then Hb8.out hb9); clear hb9
    go_wp2_with fail
    go_ret
    exact ⟨by simp, Hb9.out⟩
end Go.Proofs.Ytkmogpeiolkpbaa
