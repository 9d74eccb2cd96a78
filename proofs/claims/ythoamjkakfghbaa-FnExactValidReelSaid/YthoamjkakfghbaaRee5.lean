/- The exact laws of reels and their parts. -/
import Derived.Test.YthoamjkakfghbaaRee4
namespace Go.Proofs.Ythoamjkakfghbaa
open Go.RowKit
attribute [local go_sem ↓] Go.wp_at_zero Go.wp_at_succ
set_option linter.unusedVariables false
set_option maxRecDepth 100000
/-- what the copy of a reel gives -/
def RetR (W L : Int) (n : Nat) (ds : List D5) (w : World) (e : Ending) (w' : World) : Prop := ∃ B d, e = .returned (reel W L B n d) ∧ Dfs w' B n ds ∧ Below w.heap.size w w'
theorem toReel_ret (W L : Int) (A : Option Addr) (n c : Nat) (ds : List D5) (w : World) (hn : n ≤ 1048576) (h : DfA w A n ds) : Calls Try.prog 23 #[reel W L A n c] w (RetR W L n ds w) := by
  have HL := hide h.1
  have HH := hide h; clear h
  go_enter Try.func23, Try.ntmps23
  go_wp2_with fail
  refine (toDefectS_ret A n c ds _ hn (HH.out.below (by go_grown))).mono ?_
  rintro e w1 ⟨B, k, d, rfl, ⟨hD, hlow⟩, hb⟩
  obtain rfl : n = k := HL.out.symm.trans hD.1
  have HB : Below w.heap.size w w1 := below_next (by go_grown) (by go_size) hb
  have hz1 : w.heap.size + 1 + 1 < w1.heap.size := by have := hb.size; simp at this; omega
  have KZ : Hid (Bk w1 (w.heap.size + 1) 35 #[.int .i64 0, .int .i64 0, .slice none 0 0]) := hide (by
    have := Bk.call (Bk.alloc (Bk.made (w.alloc (.cells #[.int .i64 W, .int .i64 L, .slice A n c] 30)) 35 #[.int .i64 0, .int .i64 0, .slice none 0 0]) _) hb
    simpa using this)
  have KT : Hid (Bk w1 (w.heap.size + 1 + 1) 35 #[.int .i64 W, .int .i64 L, .slice none 0 0]) := hide (by
    have := Bk.call (Bk.made ((w.alloc (.cells #[.int .i64 W, .int .i64 L, .slice A n c] 30)).alloc (.cells #[.int .i64 0, .int .i64 0, .slice none 0 0] 35)) 35 #[.int .i64 W, .int .i64 L, .slice none 0 0]) hb
    simpa using this)
  have HD := hide hD; have HBB := hide HB
  have HG : Hid (∀ g, B = some ⟨g, 0, none⟩ → 0 < n → w.heap.size + 1 + 1 < g) := hide (fun g e h0 => by have := hlow g e; simp at this; omega)
  clear hD hb HB hlow
  obtain ⟨q0, q1, q2, q3, q4, q5⟩ := KZ.out.three
  obtain ⟨p0, p1, p2, p3, p4, p5⟩ := KT.out.three
  go_wp2_with fail
  have ne : ¬ w.heap.size + 1 = w.heap.size + 1 + 1 := by omega
  have KF := (((KZ.out.far (p := ⟨w.heap.size + 1 + 1, 2, none⟩) ne (.slice B n d)).put 0 (.int .i64 W)).put 1 (.int .i64 L)).put 2 (.slice B n d)
  obtain ⟨u0, u1, u2, -, -, -⟩ := Bk.three (a := .int .i64 W) (b := .int .i64 L) (c := .slice B n d) KF
  refine bodyPost_ret (v := reel W L B n d) (by simp [results, Try.results23, go_sem, u0, u1, u2]) rfl ?_
  refine ⟨B, d, rfl, ?_, (((HBB.out.setCell (by simp; omega) _).setCell (by simp) _).setCell (by simp) _).setCell (by simp) _⟩
  refine ⟨HD.out.1, fun h0 => ?_⟩
  obtain ⟨g, e, hg⟩ := HD.out.2 h0
  have hlow := HG.out g e h0
  refine ⟨g, e, hg.keep (by simp [World.setCell]) ?_⟩
  rw [Below.heap_setCell _ _ _ _ (by simp; omega), Below.heap_setCell _ _ _ _ (by simp; omega), Below.heap_setCell _ _ _ _ (by simp; omega), Below.heap_setCell _ _ _ _ (by simp; omega)]
theorem szDefectS_any (A : Option Addr) (n c : Nat) (w : World) (hn : (n : Int) ≤ 9223372036854775807) : Calls Try.prog 54 #[.slice A n c, .int .i64 1048576] w fun e w' => e = .returned (.int .i64 (if (n : Int) ≤ 1048576 then 1048576 - (n : Int) else -1)) ∧ w = w' := by
  by_cases h : (n : Int) ≤ 1048576
  · rw [if_pos h]
    go_enter Try.func54, Try.ntmps54
    go_wp2
    go_ret
    exact ⟨rfl, rfl⟩
  · rw [if_neg h]
    have h' : (1048576 : Int) < n := by omega
    have h2 : IntKind.i64.wrap (1048576 - (n : Int)) = 1048576 - (n : Int) := IntWalk.i64_in _ ⟨by omega, by omega⟩
    have h3 : 1048576 - (n : Int) < 0 := by omega
    go_enter Try.func54, Try.ntmps54
    go_wp2
    go_ret
    exact ⟨rfl, rfl⟩
theorem szReel_any (W L : Int) (A : Option Addr) (n c : Nat) (w : World) (hn : (n : Int) ≤ 9223372036854775807) : Calls Try.prog 21 #[reel W L A n c, .int .i64 1048576] w fun e w' => e = .returned (.int .i64 (if (n : Int) ≤ 1048576 then 1048576 - (n : Int) else -1)) ∧ Below w.heap.size w w' := by
  by_cases h : (n : Int) ≤ 1048576
  · have hs := fun W => szDefectS_any A n c W hn
    rw [if_pos h] at hs ⊢
    have HS := hide hs; clear hs
    go_enter Try.func21, Try.ntmps21
    go_wp2_with (go_at_call 54; refine (HS.out _).mono ?_; rintro e w' ⟨rfl, rfl⟩)
    go_ret
    exact ⟨rfl, by go_grown⟩
  · have hs := fun W => szDefectS_any A n c W hn
    rw [if_neg h] at hs ⊢
    have HS := hide hs; clear hs h
    go_enter Try.func21, Try.ntmps21
    go_wp2_with (go_at_call 54; refine (HS.out _).mono ?_; rintro e w' ⟨rfl, rfl⟩)
    go_ret
    exact ⟨rfl, by go_grown⟩
theorem eqDefect_same (l r f t g : Int) (w : World) : Calls Try.prog 74 #[dfc l r f t g, dfc l r f t g] w fun e w' => e = .returned (.bool true) ∧ Below w.heap.size w w' := by
  go_enter Try.func74, Try.ntmps74
  go_wp2
  go_ret
  exact ⟨rfl, by go_grown⟩
set_option maxHeartbeats 1000000 in
theorem eqDefectS_same (A B : Option Addr) (n c d : Nat) (ds : List D5) (w : World) (hn : n ≤ 1048576) (h : Dfs w A n ds) (h' : Dfs w B n ds) :
    Calls Try.prog 59 #[.slice A n c, .slice B n d] w fun e w' => e = .returned (.bool true) ∧ Below w.heap.size w w' := by
  have HL := hide h.1
  have HH := hide h; have HK := hide h'; clear h h'
  go_enter Try.func59, Try.ntmps59
  go_wp2
  go_loopw [5] (fun i wr => ∃ k : Nat, k ≤ n ∧ i = .int .i64 k ∧ Hid (Below w.heap.size w wr)) (fun i _ => n - (intOf i).toNat)
  case atStart => exact ⟨0, by omega, rfl, hide (Below.refl _ _)⟩
  case round =>
    obtain ⟨k, hk, rfl, hB⟩ := hrel
    by_cases hlt : k < n
    · have HKL := hide (show k < ds.length by rw [HL.out]; exact hlt)
      obtain ⟨g0, rfl, hgb, hc⟩ := (HH.out.below hB.out).2 (by omega)
      obtain ⟨g1, rfl, hgb1, hc1⟩ := (HK.out.below hB.out).2 (by omega)
      obtain ⟨c0, c1, c2, c3, c4⟩ := hc k HKL.out
      obtain ⟨d0, d1, d2, d3, d4⟩ := hc1 k HKL.out
      generalize nthD ds k = dd at c0 c1 c2 c3 c4 d0 d1 d2 d3 d4
      clear hc hc1
      obtain ⟨l, r, f, t, g⟩ := dd
      dsimp only at c0 c1 c2 c3 c4 d0 d1 d2 d3 d4
      go_wp2_with fail
      first | (go_region_with (first | (go_at_call 74; refine (eqDefect_same _ _ _ _ _ _).mono ?_; rintro e wx ⟨rfl, hbx⟩; have Bx : Hid (Below w.heap.size w wx) := (by first | exact below_then (below_drewN hB.out 1) hbx | exact below_then hB.out hbx); clear c0 c1 c2 c3 c4 d0 d1 d2 d3 d4 hbx))) | fail
      go_wp2_with fail
      all_goals go_roundw
      all_goals first
        | (case rel => exact ⟨k + 1, by omega, by go_num, Bx⟩)
        | (case measure => simp [intOf]; omega)
    · have : k = n := by omega
      subst this
      go_wp2
      go_ret
      exact ⟨rfl, hB.out⟩
theorem eqReel_same (W L : Int) (A B : Option Addr) (n c d : Nat) (ds : List D5) (w : World) (hn : n ≤ 1048576) (h : Dfs w A n ds) (h' : Dfs w B n ds) :
    Calls Try.prog 25 #[reel W L A n c, reel W L B n d] w fun e w' => e = .returned (.bool true) ∧ Below w.heap.size w w' := by
  have HH := hide h; have HK := hide h'; clear h h'
  go_enter Try.func25, Try.ntmps25
  go_wp2_with (go_at_call 59; refine (eqDefectS_same _ _ n _ _ ds _ hn (HH.out.below (by go_grown)) (HK.out.below (by go_grown))).mono ?_; rintro e w1 ⟨rfl, hb⟩; have HB : Below w.heap.size w w1 := below_next (by go_grown) (by go_size) hb; have hz := HB.size)
  go_ret
  exact ⟨rfl, by go_grown⟩
end Go.Proofs.Ythoamjkakfghbaa
