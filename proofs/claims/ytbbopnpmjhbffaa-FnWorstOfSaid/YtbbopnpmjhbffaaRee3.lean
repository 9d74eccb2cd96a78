/- Contracts of chapter 2: the worst defect of a part. -/
import Derived.Test.YtbbopnpmjhbffaaRee2
namespace Go.Proofs.Ytbbopnpmjhbffaa
open Go.RowKit
attribute [local go_sem ↓] Go.wp_at_zero Go.wp_at_succ
set_option linter.unusedVariables false
set_option maxRecDepth 100000
theorem m_cases (a b c d l r f t : Int) : (r ≤ a) ∨ (a < r ∧ b ≤ l) ∨ (a < r ∧ l < b ∧ t ≤ c) ∨ (a < r ∧ l < b ∧ c < t ∧ d ≤ f) ∨ (a < r ∧ l < b ∧ c < t ∧ f < d) := by
  by_cases x1 : a < r
  case neg => exact .inl (by omega)
  by_cases x2 : l < b
  case neg => exact .inr (.inl ⟨x1, by omega⟩)
  by_cases x3 : c < t
  case neg => exact .inr (.inr (.inl ⟨x1, x2, by omega⟩))
  by_cases x4 : f < d
  case neg => exact .inr (.inr (.inr (.inl ⟨x1, x2, x3, by omega⟩)))
  exact .inr (.inr (.inr (.inr ⟨x1, x2, x3, x4⟩)))
/-- what WorstOf gives -/
def woOf (W L : Int) (ds : List D5) (l r f t : Int) : Int := if (vRe W L ds && vPa W L l r f t) = true then wst ds l r f t ds.length else -1
theorem woOf_yes {W L : Int} {ds : List D5} {l r f t : Int} (h : (vRe W L ds && vPa W L l r f t) = true) : woOf W L ds l r f t = wst ds l r f t ds.length := if_pos h
theorem woOf_no {W L : Int} {ds : List D5} {l r f t : Int} (h : (vRe W L ds && vPa W L l r f t) = false) : woOf W L ds l r f t = -1 := if_neg (by rw [h]; exact fun h => by cases h)
theorem mt_yes {d : D5} {l r f t : Int} (h : (d.l < r ∧ l < d.r) ∧ (d.f < t ∧ f < d.t)) : mt d l r f t = true := by unfold mt; exact decide_eq_true h
theorem mt_no {d : D5} {l r f t : Int} (h : ¬ ((d.l < r ∧ l < d.r) ∧ (d.f < t ∧ f < d.t))) : mt d l r f t = false := by unfold mt; exact decide_eq_false h
theorem wst_in {ds : List D5} {l r f t : Int} {k : Nat} (h : mt (nthD ds k) l r f t = true) : wst ds l r f t (k + 1) = max (wst ds l r f t k) (nthD ds k).g := if_pos h
theorem wst_out {ds : List D5} {l r f t : Int} {k : Nat} (h : mt (nthD ds k) l r f t = false) : wst ds l r f t (k + 1) = wst ds l r f t k := if_neg (by rw [h]; exact fun h => by cases h)
theorem implMeet (a b c d g l r f t : Int) (w : World) : Calls Try.prog 27 #[part a b c d, part l r f t] w fun e w' => e = .returned (.bool (mt ⟨a, b, c, d, g⟩ l r f t)) ∧ Below w.heap.size w w' := by
  rcases m_cases a b c d l r f t with h1 | ⟨h1, h2⟩ | ⟨h1, h2, h3⟩ | ⟨h1, h2, h3, h4⟩ | ⟨h1, h2, h3, h4⟩
  all_goals
    have HD : Hid (mt ⟨a, b, c, d, g⟩ l r f t = _) := (by first | exact mt_yes (by dsimp only; omega) | exact mt_no (by dsimp only; omega))
    go_enter Try.func27, Try.ntmps27
    go_wp2
    go_ret
    exact ⟨ret_bool (by first | exact HD.out.symm | (rw [HD.out]; simp; done) | (rw [HD.out]; simp; omega)), by go_grown⟩
theorem specMeets (a b c d g l r f t : Int) (w : World) : Calls Try.prog 39 #[dfc a b c d g, part l r f t] w fun e w' => e = .returned (.bool (mt ⟨a, b, c, d, g⟩ l r f t)) ∧ Below w.heap.size w w' := by
  rcases m_cases a b c d l r f t with h1 | ⟨h1, h2⟩ | ⟨h1, h2, h3⟩ | ⟨h1, h2, h3, h4⟩ | ⟨h1, h2, h3, h4⟩
  all_goals
    have HD : Hid (mt ⟨a, b, c, d, g⟩ l r f t = _) := (by first | exact mt_yes (by dsimp only; omega) | exact mt_no (by dsimp only; omega))
    go_enter Try.func39, Try.ntmps39
    go_wp2
    go_ret
    exact ⟨ret_bool (by first | exact HD.out.symm | (rw [HD.out]; simp; done) | (rw [HD.out]; simp; omega)), by go_grown⟩
set_option maxHeartbeats 4000000 in
theorem implWorstOf (W L : Int) (A : Option Addr) (n c : Nat) (ds : List D5) (l r f t : Int) (w : World) (hn : n ≤ 1048576) (h : Dfs w A n ds) :
    Calls Try.prog 15 #[reel W L A n c, part l r f t] w fun e w' => e = .returned (.int .i64 (woOf W L ds l r f t)) ∧ Below w.heap.size w w' := by
  have HL := hide h.1
  have HH := hide h; clear h
  cases hv : (vRe W L ds && vPa W L l r f t)
  · have HW := hide (woOf_no hv)
    have HV := hide hv; clear hv
    go_enter Try.func15, Try.ntmps15
    go_wp2_with (go_at_call 10; refine (implValidPart _ _ _ _ _ ds _ _ _ _ _ hn ((HH.out.alloc _).alloc _)).mono ?_; rintro e w' ⟨rfl, hb⟩; rw [HV.out]; have HB : Below w.heap.size w w' := below_next (by go_grown) (by go_size) hb; have hz := HB.size)
    go_ret
    exact ⟨ret_int HW.out.symm, by go_grown⟩
  have HW := hide (woOf_yes hv)
  have hg : Hid (∀ k, k < ds.length → dOk W L (nthD ds k) = true) := (vRe_out (by simpa using (Bool.and_eq_true _ _ ▸ hv : _ ∧ _).1)).2.2.2
  have HV := hide hv; clear hv
  go_enter Try.func15, Try.ntmps15
  go_wp2_with fail
  refine (implValidPart _ _ _ _ _ ds _ _ _ _ _ hn ((HH.out.alloc _).alloc _)).mono ?_; rintro e w1 ⟨rfl, hb⟩; rw [HV.out]
  have KR1 : Hid (Bk w1 w.heap.size 25 #[.int .i64 W, .int .i64 L, .slice A n c]) := hide ((Bk.alloc (Bk.made w 25 #[.int .i64 W, .int .i64 L, .slice A n c]) _).call hb)
  have KP1 : Hid (Bk w1 (w.heap.size + 1) 30 #[.int .i64 l, .int .i64 r, .int .i64 f, .int .i64 t]) := hide (by have := Bk.call (Bk.made (w.alloc (.cells #[.int .i64 W, .int .i64 L, .slice A n c] 25)) 30 #[.int .i64 l, .int .i64 r, .int .i64 f, .int .i64 t]) hb; simpa using this)
  have B1 : Hid (Below w.heap.size w w1) := hide (below_next (by go_grown) (by go_size) hb)
  clear hb
  obtain ⟨q0, q1, q2, -, -, -⟩ := KR1.out.three
  obtain ⟨p0, p1, p2, p3⟩ := KP1.out.four
  go_wp2
  clear q0 q1 q2 p0 p1 p2 p3
  go_loopw [5, 15] (fun v i wr => ∃ k : Nat, k ≤ n ∧ i = .int .i64 k ∧ v = .int .i64 (wst ds l r f t k) ∧ Hid (Bk wr w.heap.size 25 #[.int .i64 W, .int .i64 L, .slice A n c]) ∧ Hid (Bk wr (w.heap.size + 1) 30 #[.int .i64 l, .int .i64 r, .int .i64 f, .int .i64 t]) ∧ Hid (Below w.heap.size w wr)) (fun _ i _ => n - (intOf i).toNat)
  case atStart => exact ⟨0, by omega, rfl, rfl, KR1, KP1, B1⟩
  case round =>
    clear KR1 KP1 B1
    obtain ⟨k, hk, rfl, rfl, hK, hP, hB⟩ := hrel
    obtain ⟨q0, q1, q2, -, -, -⟩ := hK.out.three
    obtain ⟨p0, p1, p2, p3⟩ := hP.out.four
    have lR := hK.out.lt
    have lP := hP.out.lt
    by_cases hlt : k < n
    · obtain ⟨g0, rfl, hgb, hc⟩ := (HH.out.below hB.out).2 (by omega)
      have HKL := hide (show k < ds.length by rw [HL.out]; exact hlt)
      obtain ⟨c0, c1, c2, c3, c4⟩ := hc k HKL.out
      obtain ⟨wb0, wb1⟩ := wst_bd (l := l) (r := r) (f := f) (t := t) (ds := ds) (k := k) (fun i hi => (dOk_out (hg.out i (by have := HL.out; omega))).2.2.2)
      have hgk := (dOk_out (hg.out k HKL.out)).2.2
      obtain ⟨wv, hwv⟩ : ∃ x, wst ds l r f t k = x := ⟨_, rfl⟩
      have HWV := hide hwv
      rw [hwv] at wb0 wb1
      rw [hwv]
      have HI := hide (fun h => (wst_in (ds := ds) (l := l) (r := r) (f := f) (t := t) (k := k) h))
      have HO := hide (fun h => (wst_out (ds := ds) (l := l) (r := r) (f := f) (t := t) (k := k) h))
      rw [hwv] at HI HO
      obtain ⟨d, hd⟩ : ∃ d, nthD ds k = d := ⟨_, rfl⟩
      rw [hd] at c0 c1 c2 c3 c4 hgk HI HO
      clear hd hc hwv
      obtain ⟨dl, dr, df, dt, dg⟩ := d
      dsimp only at c0 c1 c2 c3 c4 hgk HI HO
      obtain ⟨hg1, hg9⟩ := hgk
      go_wp2
      have KR := hide (Bk.alloc hK.out (.cells #[.int .i64 dl, .int .i64 dr, .int .i64 df, .int .i64 dt, .int .i64 dg] 43))
      have KP := hide (Bk.alloc hP.out (.cells #[.int .i64 dl, .int .i64 dr, .int .i64 df, .int .i64 dt, .int .i64 dg] 43))
      have KD := hide (Bk.made wr 43 #[.int .i64 dl, .int .i64 dr, .int .i64 df, .int .i64 dt, .int .i64 dg])
      have BV := hide (Below.alloc hB.out hB.out.size (.cells #[.int .i64 dl, .int .i64 dr, .int .i64 df, .int .i64 dt, .int .i64 dg] 43))
      clear q0 q1 q2 p0 p1 p2 p3 c0 c1 c2 c3 c4
      generalize hV : wr.alloc (.cells #[.int .i64 dl, .int .i64 dr, .int .i64 df, .int .i64 dt, .int .i64 dg] 43) = V at *
      clear hV
      obtain ⟨q0, q1, q2, -, -, -⟩ := KR.out.three
      obtain ⟨p0, p1, p2, p3⟩ := KP.out.four
      obtain ⟨u0, u1, u2, u3, u4⟩ := KD.out.five
      cases hm : mt ⟨dl, dr, df, dt, dg⟩ l r f t
      · have HM := hide hm; have HS := hide (HO.out hm); clear hm HI HO
        first | (go_region_held3 (fun w' => w'.cell? ⟨w.heap.size + 1, 0, none⟩ = some (.int .i64 l) ∧ w'.cell? ⟨w.heap.size + 1, 1, none⟩ = some (.int .i64 r) ∧ w'.cell? ⟨w.heap.size + 1, 2, none⟩ = some (.int .i64 f) ∧ w'.cell? ⟨w.heap.size + 1, 3, none⟩ = some (.int .i64 t) ∧ w'.cell? ⟨wr.heap.size, 0, none⟩ = some (.int .i64 dl) ∧ w'.cell? ⟨wr.heap.size, 1, none⟩ = some (.int .i64 dr) ∧ w'.cell? ⟨wr.heap.size, 2, none⟩ = some (.int .i64 df) ∧ w'.cell? ⟨wr.heap.size, 3, none⟩ = some (.int .i64 dt) ∧ w'.cell? ⟨wr.heap.size, 4, none⟩ = some (.int .i64 dg))
          (((try dsimp only); (repeat' apply And.intro) <;> (first | (with_reducible assumption) | (rw [World.cell?_drew]; with_reducible assumption) | (simp [*]; done))))
          (first | (go_at_call 23; refine (implPartOf _ _ _ _ _ _).mono ?_; rintro e wx ⟨rfl, hbx⟩; have Bx : Hid (Below w.heap.size w wx) := (by first | exact below_then Bx.out hbx | exact below_then (below_drewN BV.out 1) hbx | exact below_then BV.out hbx); clear q0 q1 q2 p0 p1 p2 p3 u0 u1 u2 u3 u4; have KRx : Hid (Bk wx w.heap.size 25 #[.int .i64 W, .int .i64 L, .slice (some ⟨g0, 0, none⟩) n c]) := (by first | exact Bk.call KRx.out hbx | exact Bk.call KR.out.drew hbx | exact Bk.call KR.out hbx); obtain ⟨q0, q1, q2, -, -, -⟩ := KRx.out.three; have KPx : Hid (Bk wx (w.heap.size + 1) 30 #[.int .i64 l, .int .i64 r, .int .i64 f, .int .i64 t]) := (by first | exact Bk.call KPx.out hbx | exact Bk.call KP.out.drew hbx | exact Bk.call KP.out hbx); obtain ⟨p0, p1, p2, p3⟩ := KPx.out.four; have KDx : Hid (Bk wx wr.heap.size 43 #[.int .i64 dl, .int .i64 dr, .int .i64 df, .int .i64 dt, .int .i64 dg]) := (by first | exact Bk.call KDx.out hbx | exact Bk.call KD.out.drew hbx | exact Bk.call KD.out hbx); obtain ⟨u0, u1, u2, u3, u4⟩ := KDx.out.five; clear hbx) | (go_at_call 27; refine (implMeet _ _ _ _ dg _ _ _ _ _).mono ?_; rintro e wx ⟨rfl, hbx⟩; rw [HM.out]; have Bx : Hid (Below w.heap.size w wx) := (by first | exact below_then Bx.out hbx | exact below_then (below_drewN BV.out 1) hbx | exact below_then BV.out hbx); clear q0 q1 q2 p0 p1 p2 p3 u0 u1 u2 u3 u4; have KRx : Hid (Bk wx w.heap.size 25 #[.int .i64 W, .int .i64 L, .slice (some ⟨g0, 0, none⟩) n c]) := (by first | exact Bk.call KRx.out hbx | exact Bk.call KR.out.drew hbx | exact Bk.call KR.out hbx); obtain ⟨q0, q1, q2, -, -, -⟩ := KRx.out.three; have KPx : Hid (Bk wx (w.heap.size + 1) 30 #[.int .i64 l, .int .i64 r, .int .i64 f, .int .i64 t]) := (by first | exact Bk.call KPx.out hbx | exact Bk.call KP.out.drew hbx | exact Bk.call KP.out hbx); obtain ⟨p0, p1, p2, p3⟩ := KPx.out.four; have KDx : Hid (Bk wx wr.heap.size 43 #[.int .i64 dl, .int .i64 dr, .int .i64 df, .int .i64 dt, .int .i64 dg]) := (by first | exact Bk.call KDx.out hbx | exact Bk.call KD.out.drew hbx | exact Bk.call KD.out hbx); obtain ⟨u0, u1, u2, u3, u4⟩ := KDx.out.five; clear hbx))) | fail
        all_goals go_wp2_with fail
        all_goals go_roundw
        all_goals first
          | (case rel => exact ⟨k + 1, by omega, by go_num, by rw [HS.out], KRx, KPx, Bx⟩)
          | (case measure => simp [intOf]; omega)
      · have HM := hide hm; have HS := hide (HI.out hm); clear hm HI HO
        first | (go_region_held3 (fun w' => w'.cell? ⟨w.heap.size + 1, 0, none⟩ = some (.int .i64 l) ∧ w'.cell? ⟨w.heap.size + 1, 1, none⟩ = some (.int .i64 r) ∧ w'.cell? ⟨w.heap.size + 1, 2, none⟩ = some (.int .i64 f) ∧ w'.cell? ⟨w.heap.size + 1, 3, none⟩ = some (.int .i64 t) ∧ w'.cell? ⟨wr.heap.size, 0, none⟩ = some (.int .i64 dl) ∧ w'.cell? ⟨wr.heap.size, 1, none⟩ = some (.int .i64 dr) ∧ w'.cell? ⟨wr.heap.size, 2, none⟩ = some (.int .i64 df) ∧ w'.cell? ⟨wr.heap.size, 3, none⟩ = some (.int .i64 dt) ∧ w'.cell? ⟨wr.heap.size, 4, none⟩ = some (.int .i64 dg))
          (((try dsimp only); (repeat' apply And.intro) <;> (first | (with_reducible assumption) | (rw [World.cell?_drew]; with_reducible assumption) | (simp [*]; done))))
          (first | (go_at_call 23; refine (implPartOf _ _ _ _ _ _).mono ?_; rintro e wx ⟨rfl, hbx⟩; have Bx : Hid (Below w.heap.size w wx) := (by first | exact below_then Bx.out hbx | exact below_then (below_drewN BV.out 1) hbx | exact below_then BV.out hbx); clear q0 q1 q2 p0 p1 p2 p3 u0 u1 u2 u3 u4; have KRx : Hid (Bk wx w.heap.size 25 #[.int .i64 W, .int .i64 L, .slice (some ⟨g0, 0, none⟩) n c]) := (by first | exact Bk.call KRx.out hbx | exact Bk.call KR.out.drew hbx | exact Bk.call KR.out hbx); obtain ⟨q0, q1, q2, -, -, -⟩ := KRx.out.three; have KPx : Hid (Bk wx (w.heap.size + 1) 30 #[.int .i64 l, .int .i64 r, .int .i64 f, .int .i64 t]) := (by first | exact Bk.call KPx.out hbx | exact Bk.call KP.out.drew hbx | exact Bk.call KP.out hbx); obtain ⟨p0, p1, p2, p3⟩ := KPx.out.four; have KDx : Hid (Bk wx wr.heap.size 43 #[.int .i64 dl, .int .i64 dr, .int .i64 df, .int .i64 dt, .int .i64 dg]) := (by first | exact Bk.call KDx.out hbx | exact Bk.call KD.out.drew hbx | exact Bk.call KD.out hbx); obtain ⟨u0, u1, u2, u3, u4⟩ := KDx.out.five; clear hbx) | (go_at_call 27; refine (implMeet _ _ _ _ dg _ _ _ _ _).mono ?_; rintro e wx ⟨rfl, hbx⟩; rw [HM.out]; have Bx : Hid (Below w.heap.size w wx) := (by first | exact below_then Bx.out hbx | exact below_then (below_drewN BV.out 1) hbx | exact below_then BV.out hbx); clear q0 q1 q2 p0 p1 p2 p3 u0 u1 u2 u3 u4; have KRx : Hid (Bk wx w.heap.size 25 #[.int .i64 W, .int .i64 L, .slice (some ⟨g0, 0, none⟩) n c]) := (by first | exact Bk.call KRx.out hbx | exact Bk.call KR.out.drew hbx | exact Bk.call KR.out hbx); obtain ⟨q0, q1, q2, -, -, -⟩ := KRx.out.three; have KPx : Hid (Bk wx (w.heap.size + 1) 30 #[.int .i64 l, .int .i64 r, .int .i64 f, .int .i64 t]) := (by first | exact Bk.call KPx.out hbx | exact Bk.call KP.out.drew hbx | exact Bk.call KP.out hbx); obtain ⟨p0, p1, p2, p3⟩ := KPx.out.four; have KDx : Hid (Bk wx wr.heap.size 43 #[.int .i64 dl, .int .i64 dr, .int .i64 df, .int .i64 dt, .int .i64 dg]) := (by first | exact Bk.call KDx.out hbx | exact Bk.call KD.out.drew hbx | exact Bk.call KD.out hbx); obtain ⟨u0, u1, u2, u3, u4⟩ := KDx.out.five; clear hbx))) | fail
        all_goals go_wp2_with fail
        all_goals go_roundw
        all_goals first
          | (case rel => exact ⟨k + 1, by omega, by go_num, by rw [HS.out]; congr 1; (try split) <;> omega, KRx, KPx, Bx⟩)
          | (case measure => simp [intOf]; omega)
    · have : k = n := by omega
      subst this
      go_wp2
      go_ret
      exact ⟨ret_int (by rw [HW.out, HL.out]), hB.out⟩
set_option maxHeartbeats 4000000 in
theorem specWorst (W L : Int) (A : Option Addr) (n c : Nat) (ds : List D5) (l r f t : Int) (w : World) (hn : n ≤ 1048576) (h : Dfs w A n ds) (hgr : ∀ k, k < ds.length → 1 ≤ (nthD ds k).g ∧ (nthD ds k).g ≤ 9) :
    Calls Try.prog 28 #[reel W L A n c, part l r f t] w fun e w' => e = .returned (.int .i64 (wst ds l r f t ds.length)) ∧ Below w.heap.size w w' := by
  have HL := hide h.1
  have HH := hide h; clear h
  have hg := hide hgr; clear hgr
  go_enter Try.func28, Try.ntmps28
  go_wp2
  go_loopw [5, 6] (fun v i wr => ∃ k : Nat, k ≤ n ∧ i = .int .i64 k ∧ v = .int .i64 (wst ds l r f t k) ∧ Hid (Bk wr w.heap.size 25 #[.int .i64 W, .int .i64 L, .slice A n c]) ∧ Hid (Bk wr (w.heap.size + 1) 30 #[.int .i64 l, .int .i64 r, .int .i64 f, .int .i64 t]) ∧ Hid (Below w.heap.size w wr)) (fun _ i _ => n - (intOf i).toNat)
  case atStart => exact ⟨0, by omega, rfl, rfl, hide (Bk.alloc (Bk.made w 25 #[.int .i64 W, .int .i64 L, .slice A n c]) _), hide (by have := Bk.made (w.alloc (.cells #[.int .i64 W, .int .i64 L, .slice A n c] 25)) 30 #[.int .i64 l, .int .i64 r, .int .i64 f, .int .i64 t]; simpa using this), hide (by go_grown)⟩
  case round =>
    obtain ⟨k, hk, rfl, rfl, hK, hP, hB⟩ := hrel
    obtain ⟨q0, q1, q2, -, -, -⟩ := hK.out.three
    obtain ⟨p0, p1, p2, p3⟩ := hP.out.four
    have lR := hK.out.lt
    have lP := hP.out.lt
    by_cases hlt : k < n
    · obtain ⟨g0, rfl, hgb, hc⟩ := (HH.out.below hB.out).2 (by omega)
      have HKL := hide (show k < ds.length by rw [HL.out]; exact hlt)
      have HC := hide (hc k HKL.out)
      have HGB := hide hgb
      obtain ⟨wb0, wb1⟩ := wst_bd (l := l) (r := r) (f := f) (t := t) (ds := ds) (k := k) (fun i hi => (hg.out i (by have := HL.out; omega)).2)
      have hgk := hg.out k HKL.out
      obtain ⟨wv, hwv⟩ : ∃ x, wst ds l r f t k = x := ⟨_, rfl⟩
      rw [hwv] at wb0 wb1
      rw [hwv]
      have HI := hide (fun h => (wst_in (ds := ds) (l := l) (r := r) (f := f) (t := t) (k := k) h))
      have HO := hide (fun h => (wst_out (ds := ds) (l := l) (r := r) (f := f) (t := t) (k := k) h))
      rw [hwv] at HI HO
      obtain ⟨d, hd⟩ : ∃ d, nthD ds k = d := ⟨_, rfl⟩
      rw [hd] at HC hgk HI HO
      clear hd hc hwv hgb
      obtain ⟨dl, dr, df, dt, dg⟩ := d
      dsimp only at HC hgk HI HO
      obtain ⟨hg1, hg9⟩ := hgk
      obtain ⟨c0, c1, c2, c3, c4⟩ := HC.out
      have KR := hK; have KP := hP; have BV := hB
      cases hm : mt ⟨dl, dr, df, dt, dg⟩ l r f t
      · have HM := hide hm; have HS := hide (HO.out hm); clear hm HI HO
        go_wp2_with fail
        first | (go_region_with (first | (go_at_call 39; refine (specMeets _ _ _ _ _ _ _ _ _ _).mono ?_; rintro e wx ⟨rfl, hbx⟩; rw [HM.out]; have Bx : Hid (Below w.heap.size w wx) := (by first | exact below_then Bx.out hbx | exact below_then (below_drewN BV.out 1) hbx | exact below_then BV.out hbx); clear q0 q1 q2 p0 p1 p2 p3; have KRx : Hid (Bk wx w.heap.size 25 #[.int .i64 W, .int .i64 L, .slice (some ⟨g0, 0, none⟩) n c]) := (by first | exact Bk.call KRx.out hbx | exact Bk.call KR.out.drew hbx | exact Bk.call KR.out hbx); obtain ⟨q0, q1, q2, -, -, -⟩ := KRx.out.three; have KPx : Hid (Bk wx (w.heap.size + 1) 30 #[.int .i64 l, .int .i64 r, .int .i64 f, .int .i64 t]) := (by first | exact Bk.call KPx.out hbx | exact Bk.call KP.out.drew hbx | exact Bk.call KP.out hbx); obtain ⟨p0, p1, p2, p3⟩ := KPx.out.four; have c4' : wx.cell? ⟨g0, k * 5 + 4, none⟩ = some (.int .i64 dg) := (hbx.cell (by simpa using HGB.out)).trans c4; clear hbx c0 c1 c2 c3 c4))) | fail
        go_wp2_with fail
        all_goals go_roundw
        all_goals first
          | (case rel => exact ⟨k + 1, by omega, by go_num, by rw [HS.out], KRx, KPx, Bx⟩)
          | (case measure => simp [intOf]; omega)
      · have HM := hide hm; have HS := hide (HI.out hm); clear hm HI HO
        go_wp2_with fail
        first | (go_region_with (first | (go_at_call 39; refine (specMeets _ _ _ _ _ _ _ _ _ _).mono ?_; rintro e wx ⟨rfl, hbx⟩; rw [HM.out]; have Bx : Hid (Below w.heap.size w wx) := (by first | exact below_then Bx.out hbx | exact below_then (below_drewN BV.out 1) hbx | exact below_then BV.out hbx); clear q0 q1 q2 p0 p1 p2 p3; have KRx : Hid (Bk wx w.heap.size 25 #[.int .i64 W, .int .i64 L, .slice (some ⟨g0, 0, none⟩) n c]) := (by first | exact Bk.call KRx.out hbx | exact Bk.call KR.out.drew hbx | exact Bk.call KR.out hbx); obtain ⟨q0, q1, q2, -, -, -⟩ := KRx.out.three; have KPx : Hid (Bk wx (w.heap.size + 1) 30 #[.int .i64 l, .int .i64 r, .int .i64 f, .int .i64 t]) := (by first | exact Bk.call KPx.out hbx | exact Bk.call KP.out.drew hbx | exact Bk.call KP.out hbx); obtain ⟨p0, p1, p2, p3⟩ := KPx.out.four; have c4' : wx.cell? ⟨g0, k * 5 + 4, none⟩ = some (.int .i64 dg) := (hbx.cell (by simpa using HGB.out)).trans c4; clear hbx c0 c1 c2 c3 c4))) | fail
        go_wp2_with fail
        all_goals go_roundw
        all_goals first
          | (case rel => exact ⟨k + 1, by omega, by go_num, by rw [HS.out]; congr 1; (try split) <;> omega, KRx, KPx, Bx⟩)
          | (case measure => simp [intOf]; omega)
    · have : k = n := by omega
      subst this
      go_wp2
      go_ret
      exact ⟨ret_int (by rw [HL.out]), hB.out⟩
theorem specWorstOf (W L : Int) (A : Option Addr) (n c : Nat) (ds : List D5) (l r f t : Int) (w : World) (hn : n ≤ 1048576) (h : Dfs w A n ds) :
    Calls Try.prog 16 #[reel W L A n c, part l r f t] w fun e w' => e = .returned (.int .i64 (woOf W L ds l r f t)) ∧ Below w.heap.size w w' := by
  have HH := hide h; clear h
  cases hv : vRe W L ds
  · have HW := hide (woOf_no (l := l) (r := r) (f := f) (t := t) (show (vRe W L ds && vPa W L l r f t) = false by rw [hv]; rfl))
    have HV := hide hv; clear hv
    go_enter Try.func16, Try.ntmps16
    go_wp2_with (go_at_call 24; refine (specValidReel0 _ _ _ _ _ ds _ hn ((HH.out.alloc _).alloc _)).mono ?_; rintro e w' ⟨rfl, hb⟩; rw [HV.out]; have HB : Below w.heap.size w w' := below_next (by go_grown) (by go_size) hb; have hz := HB.size; obtain ⟨hcel, hfro⟩ := bcell hb)
    go_ret
    exact ⟨ret_int HW.out.symm, by go_grown⟩
  · obtain ⟨hW, hL, -, hds⟩ := vRe_out hv
    cases hp : vPa W L l r f t
    · have HW := hide (woOf_no (show (vRe W L ds && vPa W L l r f t) = false by rw [hp]; simp))
      have HV := hide hv; have HP := hide hp; clear hv hp hds
      go_enter Try.func16, Try.ntmps16
      go_wp2_with (first
        | (go_at_call 24; refine (specValidReel0 _ _ _ _ _ ds _ hn ((HH.out.alloc _).alloc _)).mono ?_; rintro e w' ⟨rfl, hb⟩; rw [HV.out]; have HB : Below w.heap.size w w' := below_next (by go_grown) (by go_size) hb; have hz := HB.size; obtain ⟨hcel, hfro⟩ := bcell hb)
        | (go_at_call 26; refine (specValidPart0 _ _ _ _ _ _ _ _ _ hW hL _).mono ?_; rintro e w2 ⟨rfl, hb2⟩; rw [HP.out]; have HB2 : Below w.heap.size w w2 := below_next (by go_grown) (by go_size) hb2; have hz2 := HB2.size))
      go_ret
      exact ⟨ret_int HW.out.symm, by go_grown⟩
    · have HW := hide (woOf_yes (show (vRe W L ds && vPa W L l r f t) = true by rw [hv, hp]; rfl))
      have HG := hide (fun k (hk : k < ds.length) => (dOk_out (hds k hk)).2.2)
      have HV := hide hv; have HP := hide hp; clear hv hp hds
      go_enter Try.func16, Try.ntmps16
      go_wp2_with fail
      refine (specValidReel0 _ _ _ _ _ ds _ hn ((HH.out.alloc _).alloc _)).mono ?_; rintro e w1 ⟨rfl, hb⟩; rw [HV.out]
      have KR1 : Hid (Bk w1 w.heap.size 25 #[.int .i64 W, .int .i64 L, .slice A n c]) := hide ((Bk.alloc (Bk.made w 25 #[.int .i64 W, .int .i64 L, .slice A n c]) _).call hb)
      have KP1 : Hid (Bk w1 (w.heap.size + 1) 30 #[.int .i64 l, .int .i64 r, .int .i64 f, .int .i64 t]) := hide (by have := Bk.call (Bk.made (w.alloc (.cells #[.int .i64 W, .int .i64 L, .slice A n c] 25)) 30 #[.int .i64 l, .int .i64 r, .int .i64 f, .int .i64 t]) hb; simpa using this)
      have B1 : Hid (Below w.heap.size w w1) := hide (below_next (by go_grown) (by go_size) hb)
      clear hb
      obtain ⟨q0, q1, q2, -, -, -⟩ := KR1.out.three
      obtain ⟨p0, p1, p2, p3⟩ := KP1.out.four
      go_wp2_with fail
      refine (specValidPart0 _ _ _ _ _ _ _ _ _ hW hL _).mono ?_; rintro e w2 ⟨rfl, hb⟩; rw [HP.out]
      have KR2 := hide (KR1.out.call hb)
      have KP2 := hide (KP1.out.call hb)
      have B2 := hide (below_then B1.out hb)
      clear hb q0 q1 q2 p0 p1 p2 p3
      obtain ⟨q0, q1, q2, -, -, -⟩ := KR2.out.three
      obtain ⟨p0, p1, p2, p3⟩ := KP2.out.four
      go_wp2_with fail
      refine (specWorst _ _ _ _ _ ds _ _ _ _ _ hn (HH.out.below B2.out) HG.out).mono ?_; rintro e w3 ⟨rfl, hb⟩
      have B3 := hide (below_then B2.out hb); clear hb
      go_wp2_with fail
      go_ret
      exact ⟨ret_int HW.out.symm, B3.out⟩
end Go.Proofs.Ytbbopnpmjhbffaa
