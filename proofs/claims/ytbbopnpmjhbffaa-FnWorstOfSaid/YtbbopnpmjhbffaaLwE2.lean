/- The law of the worst defect of a part. -/
import Derived.Test.YtbbopnpmjhbffaaRdE4
import Derived.Test.YtbbopnpmjhbffaaRee3
namespace Go.Proofs.Ytbbopnpmjhbffaa
open Go.RowKit
attribute [local go_sem ↓] Go.wp_at_zero Go.wp_at_succ
set_option linter.unusedVariables false
set_option maxRecDepth 100000
theorem Dfs.put1 {w : World} {A : Option Addr} {n : Nat} {ds : List D5} (h : Dfs w A n ds) {p : Addr} (hD : ∀ b, A = some ⟨b, 0, none⟩ → 0 < n → b ≠ p.block) (u : Value) : Dfs (w.setCell p u) A n ds :=
  ⟨h.1, fun h0 => by
    obtain ⟨b, e, hb⟩ := h.2 h0
    exact ⟨b, e, hb.keep (by simp [World.setCell]) (Below.heap_setCell _ _ _ _ (hD b e h0))⟩⟩
theorem woOf_cases (W L : Int) (ds : List D5) (l r f t : Int) : (woOf W L ds l r f t = -1) ∨ (vRe W L ds = true ∧ vPa W L l r f t = true ∧ woOf W L ds l r f t = wst ds l r f t ds.length ∧ 0 ≤ wst ds l r f t ds.length ∧ wst ds l r f t ds.length ≤ 9) := by
  cases hv : (vRe W L ds && vPa W L l r f t)
  · exact .inl (woOf_no hv)
  · have h := hv
    simp only [Bool.and_eq_true] at h
    have hb := wst_bd (l := l) (r := r) (f := f) (t := t) (ds := ds) (k := ds.length) fun i hi => (dOk_out ((vRe_out h.1).2.2.2 i hi)).2.2.2
    exact .inr ⟨h.1, h.2, woOf_yes hv, hb.1, hb.2⟩
theorem half_facts {W L : Int} {ds : List D5} {l r f t m : Int} (hv : vRe W L ds = true) (hp : vPa W L l r f t = true) (h1 : l < m) (h2 : m < r) :
    woOf W L ds l m f t = wst ds l m f t ds.length ∧ woOf W L ds m r f t = wst ds m r f t ds.length ∧ max (wst ds l m f t ds.length) (wst ds m r f t ds.length) = wst ds l r f t ds.length := by
  obtain ⟨⟨a, b, c⟩, d⟩ := vPa_out hp
  refine ⟨woOf_yes ?_, woOf_yes ?_, wst_lanes (W := W) (L := L) (fun i hi => (vRe_out hv).2.2.2 i hi) h1 h2⟩
  · rw [hv, vPa_yes ⟨⟨by omega, by omega, by omega⟩, d⟩]; rfl
  · rw [hv, vPa_yes ⟨⟨by omega, by omega, by omega⟩, d⟩]; rfl
theorem half_facts2 {W L : Int} {ds : List D5} {l r f t m : Int} (hv : vRe W L ds = true) (hp : vPa W L l r f t = true) (h1 : f < m) (h2 : m < t) :
    woOf W L ds l r f m = wst ds l r f m ds.length ∧ woOf W L ds l r m t = wst ds l r m t ds.length ∧ max (wst ds l r f m ds.length) (wst ds l r m t ds.length) = wst ds l r f t ds.length := by
  obtain ⟨d, ⟨a, b, c⟩⟩ := vPa_out hp
  refine ⟨woOf_yes ?_, woOf_yes ?_, wst_places (W := W) (L := L) (fun i hi => (vRe_out hv).2.2.2 i hi) h1 h2⟩
  · rw [hv, vPa_yes ⟨d, by omega, by omega, by omega⟩]; rfl
  · rw [hv, vPa_yes ⟨d, by omega, by omega, by omega⟩]; rfl
theorem max_ite {a b m : Int} (h : max a b = m) : (if b < a then a else b) = m := by rw [← h]; omega
theorem max_ite2 {a b m : Int} (h : max a b = m) : (if a < b then b else a) = m := by rw [← h]; omega
set_option maxHeartbeats 8000000 in
theorem lawFnWorstOf (A : Option Addr) (n c : Nat) (bs : List Int) (w : World) (h : Byts w A n bs) (hnc : n ≤ c) :
    Calls Try.prog 5 #[.slice A n c] w fun e w' => e = .returned (.bool true) ∧ Below w.heap.size w w' := by
  by_cases g : (1048576 : Int) < n
  · go_enter Try.func5, Try.ntmps5
    go_wp2
    go_ret
    exact ⟨rfl, Below.refl _ _⟩
  have g' : (n : Int) ≤ 1048576 := by omega
  clear g
  go_enter Try.func5, Try.ntmps5
  go_wp2_with fail
  refine (drawWorstOf_any A n c bs _ (by omega) hnc h).mono ?_; rintro e w1 ⟨W, L, Av, m, cv, ds, l, r, f, t, rfl, ⟨hW, hL, hm, -⟩, ⟨⟨l0, l1⟩, ⟨r0, r1⟩, ⟨f0, f1⟩, ⟨t0, t1⟩⟩, hD, hb⟩
  have hm' : m ≤ 1048576 := by omega
  have HAB : Hid (∀ b, Av = some ⟨b, 0, none⟩ → 0 < m → b < w1.heap.size) := hide (fun b e h0 => by
    obtain ⟨b', e', hb'⟩ := hD.2 h0
    rw [e] at e'
    injection e' with e'
    injection e' with e'
    rw [e']; exact hb'.1)
  have B1 := hide hb; have D1 := hide hD; clear hb hD h
  go_wp2_with fail
  have D2 := hide ((D1.out.alloc (.cells #[.int .i64 W, .int .i64 L, .slice Av m cv] 25)).alloc (.cells #[.int .i64 l, .int .i64 r, .int .i64 f, .int .i64 t] 30))
  have B2 := hide (Below.alloc (Below.alloc B1.out B1.out.size (.cells #[.int .i64 W, .int .i64 L, .slice Av m cv] 25)) (Below.size (Below.alloc B1.out B1.out.size (.cells #[.int .i64 W, .int .i64 L, .slice Av m cv] 25))) (.cells #[.int .i64 l, .int .i64 r, .int .i64 f, .int .i64 t] 30))
  have KX2 := hide (Bk.alloc (Bk.made w1 25 #[.int .i64 W, .int .i64 L, .slice Av m cv]) (.cells #[.int .i64 l, .int .i64 r, .int .i64 f, .int .i64 t] 30))
  have KP2 : Hid (Bk ((w1.alloc (.cells #[.int .i64 W, .int .i64 L, .slice Av m cv] 25)).alloc (.cells #[.int .i64 l, .int .i64 r, .int .i64 f, .int .i64 t] 30)) (w1.heap.size + 1) 30 #[.int .i64 l, .int .i64 r, .int .i64 f, .int .i64 t]) := hide (by have := Bk.made (w1.alloc (.cells #[.int .i64 W, .int .i64 L, .slice Av m cv] 25)) 30 #[.int .i64 l, .int .i64 r, .int .i64 f, .int .i64 t]; simpa using this)
  generalize (w1.alloc (.cells #[.int .i64 W, .int .i64 L, .slice Av m cv] 25)).alloc (.cells #[.int .i64 l, .int .i64 r, .int .i64 f, .int .i64 t] 30) = w2 at *
  clear B1 D1
  rcases woOf_cases W L ds l r f t with hv | ⟨hvr, hvp, hv, hb0, hb9⟩
  · have HV := hide hv; clear hv
    refine (implWorstOf W L Av m cv ds _ _ _ _ _ hm' D2.out).mono ?_; rintro e w3 ⟨rfl, hb⟩; rw [HV.out]
    have KX3 := hide (KX2.out.call hb); have KP3 := hide (KP2.out.call hb); have D3 := hide (D2.out.below hb); have B3 := hide (below_then B2.out hb)
    clear hb KX2 KP2 D2 B2
    obtain ⟨x0, x1, x2, -, -, -⟩ := KX3.out.three
    obtain ⟨p0, p1, p2, p3⟩ := KP3.out.four
    go_wp2_with fail
    clear x0 x1 x2 p0 p1 p2 p3
    refine (specWorstOf W L Av m cv ds _ _ _ _ _ hm' D3.out).mono ?_; rintro e w4 ⟨rfl, hb⟩; rw [HV.out]
    have KX4 := hide (KX3.out.call hb); have KP4 := hide (KP3.out.call hb); have D4 := hide (D3.out.below hb); have B4 := hide (below_then B3.out hb)
    clear hb KX3 KP3 D3 B3
    obtain ⟨x0, x1, x2, -, -, -⟩ := KX4.out.three
    obtain ⟨p0, p1, p2, p3⟩ := KP4.out.four
    go_wp2_with fail
    clear x0 x1 x2 p0 p1 p2 p3
    refine (specWorstOf W L Av m cv ds _ _ _ _ _ hm' D4.out).mono ?_; rintro e w5 ⟨rfl, hb⟩; rw [HV.out]
    have KX5 := hide (KX4.out.call hb); have KP5 := hide (KP4.out.call hb); have D5 := hide (D4.out.below hb); have B5 := hide (below_then B4.out hb)
    clear hb KX4 KP4 D4 B4
    obtain ⟨x0, x1, x2, -, -, -⟩ := KX5.out.three
    obtain ⟨p0, p1, p2, p3⟩ := KP5.out.four
    go_wp2_with fail
    go_ret
    exact ⟨rfl, B5.out⟩
  · obtain ⟨⟨a1, a2, a3⟩, a4, a5, a6⟩ := vPa_out hvp
    obtain ⟨X, hX⟩ : ∃ X, wst ds l r f t ds.length = X := ⟨_, rfl⟩
    have HX := hide hX
    rw [hX] at hv hb0 hb9
    have HV := hide hv; have HVR := hide hvr; have HVP := hide hvp; clear hv hvr hvp hX
    refine (implWorstOf W L Av m cv ds _ _ _ _ _ hm' D2.out).mono ?_; rintro e w3 ⟨rfl, hb⟩; rw [HV.out]
    have KX3 := hide (KX2.out.call hb); have KP3 := hide (KP2.out.call hb); have D3 := hide (D2.out.below hb); have B3 := hide (below_then B2.out hb)
    clear hb KX2 KP2 D2 B2
    obtain ⟨x0, x1, x2, -, -, -⟩ := KX3.out.three
    obtain ⟨p0, p1, p2, p3⟩ := KP3.out.four
    go_wp2_with fail
    clear x0 x1 x2 p0 p1 p2 p3
    refine (specWorstOf W L Av m cv ds _ _ _ _ _ hm' D3.out).mono ?_; rintro e w4 ⟨rfl, hb⟩; rw [HV.out]
    have KX4 := hide (KX3.out.call hb); have KP4 := hide (KP3.out.call hb); have D4 := hide (D3.out.below hb); have B4 := hide (below_then B3.out hb)
    clear hb KX3 KP3 D3 B3
    obtain ⟨x0, x1, x2, -, -, -⟩ := KX4.out.three
    obtain ⟨p0, p1, p2, p3⟩ := KP4.out.four
    obtain ⟨M, hM⟩ : ∃ M : Int, (l + r) / 2 = M := ⟨_, rfl⟩
    obtain ⟨O, hO⟩ : ∃ O : Int, (f + t) / 2 = O := ⟨_, rfl⟩
    have HM := hide hM; have HO := hide hO
    have lX := KX4.out.lt
    have lP := KP4.out.lt
    go_upto_region 9 with fail
    have KX5 := hide (Bk.alloc (Bk.alloc KX4.out (.cells #[.int .i64 l, .int .i64 r, .int .i64 f, .int .i64 t] 30)) (.cells #[.int .i64 l, .int .i64 r, .int .i64 f, .int .i64 t] 30))
    have KP5 := hide (Bk.alloc (Bk.alloc KP4.out (.cells #[.int .i64 l, .int .i64 r, .int .i64 f, .int .i64 t] 30)) (.cells #[.int .i64 l, .int .i64 r, .int .i64 f, .int .i64 t] 30))
    have KA5 := hide (Bk.alloc (Bk.made w4 30 #[.int .i64 l, .int .i64 r, .int .i64 f, .int .i64 t]) (.cells #[.int .i64 l, .int .i64 r, .int .i64 f, .int .i64 t] 30))
    have KC5 : Hid (Bk ((w4.alloc (.cells #[.int .i64 l, .int .i64 r, .int .i64 f, .int .i64 t] 30)).alloc (.cells #[.int .i64 l, .int .i64 r, .int .i64 f, .int .i64 t] 30)) (w4.heap.size + 1) 30 #[.int .i64 l, .int .i64 r, .int .i64 f, .int .i64 t]) := hide (by have := Bk.made (w4.alloc (.cells #[.int .i64 l, .int .i64 r, .int .i64 f, .int .i64 t] 30)) 30 #[.int .i64 l, .int .i64 r, .int .i64 f, .int .i64 t]; simpa using this)
    have D5 := hide ((D4.out.alloc (.cells #[.int .i64 l, .int .i64 r, .int .i64 f, .int .i64 t] 30)).alloc (.cells #[.int .i64 l, .int .i64 r, .int .i64 f, .int .i64 t] 30))
    have B5 := hide (Below.alloc (Below.alloc B4.out B4.out.size (.cells #[.int .i64 l, .int .i64 r, .int .i64 f, .int .i64 t] 30)) (Below.size (Below.alloc B4.out B4.out.size (.cells #[.int .i64 l, .int .i64 r, .int .i64 f, .int .i64 t] 30))) (.cells #[.int .i64 l, .int .i64 r, .int .i64 f, .int .i64 t] 30))
    have z4 : w1.heap.size + 1 < w4.heap.size := lP
    clear x0 x1 x2 p0 p1 p2 p3 lX lP KX4 KP4 D4
    generalize hw5 : (w4.alloc (.cells #[.int .i64 l, .int .i64 r, .int .i64 f, .int .i64 t] 30)).alloc (.cells #[.int .i64 l, .int .i64 r, .int .i64 f, .int .i64 t] 30) = w5 at *
    clear hw5
    obtain ⟨p0, p1, p2, p3⟩ := KP5.out.four
    obtain ⟨a0', a1', a2', a3'⟩ := KA5.out.four
    obtain ⟨c0', c1', c2', c3'⟩ := KC5.out.four
    have fa := KA5.out.free 1
    have fc := KC5.out.free 0
    have ew1 : IntKind.i64.wrap (l + r) = l + r := IntWalk.i64_in _ ⟨by omega, by omega⟩
    have ew2 : IntKind.i64.wrap (f + t) = f + t := IntWalk.i64_in _ ⟨by omega, by omega⟩
    go_upto_region 11 with fail
    have KA6 := hide ((KA5.out.put 1 (.int .i64 M)).far (p := ⟨w4.heap.size + 1, 0, none⟩) (by simp) (.int .i64 M))
    have KC6 := hide ((KC5.out.far (p := ⟨w4.heap.size, 1, none⟩) (by simp) (.int .i64 M)).put 0 (.int .i64 M))
    have KX6 := hide ((KX5.out.far (p := ⟨w4.heap.size, 1, none⟩) (by simp; omega) (.int .i64 M)).far (p := ⟨w4.heap.size + 1, 0, none⟩) (by simp; omega) (.int .i64 M))
    have KP6 := hide ((KP5.out.far (p := ⟨w4.heap.size, 1, none⟩) (by simp; omega) (.int .i64 M)).far (p := ⟨w4.heap.size + 1, 0, none⟩) (by simp; omega) (.int .i64 M))
    have B6 := hide ((B5.out.setCell (p := ⟨w4.heap.size, 1, none⟩) (by simpa using B4.out.size) (.int .i64 M)).setCell (p := ⟨w4.heap.size + 1, 0, none⟩) (by have := B4.out.size; simp; omega) (.int .i64 M))
    have D6 := hide (Dfs.put1 (Dfs.put1 D5.out (p := ⟨w4.heap.size, 1, none⟩) (fun b e h0 => by have := HAB.out b e h0; simp; omega) (.int .i64 M)) (p := ⟨w4.heap.size + 1, 0, none⟩) (fun b e h0 => by have := HAB.out b e h0; simp; omega) (.int .i64 M))
    clear p0 p1 p2 p3 a0' a1' a2' a3' c0' c1' c2' c3' fa fc KA5 KC5 KX5 KP5 B5 D5
    generalize hw6 : (w5.setCell ⟨w4.heap.size, 1, none⟩ (.int .i64 M)).setCell ⟨w4.heap.size + 1, 0, none⟩ (.int .i64 M) = w6 at *
    clear hw6
    obtain ⟨p0, p1, p2, p3⟩ := KP6.out.four
    have lP := KP6.out.lt
    go_upto_region 13 with fail
    have KX7 := hide (Bk.alloc (Bk.alloc KX6.out (.cells #[.int .i64 l, .int .i64 r, .int .i64 f, .int .i64 t] 30)) (.cells #[.int .i64 l, .int .i64 r, .int .i64 f, .int .i64 t] 30))
    have KP7 := hide (Bk.alloc (Bk.alloc KP6.out (.cells #[.int .i64 l, .int .i64 r, .int .i64 f, .int .i64 t] 30)) (.cells #[.int .i64 l, .int .i64 r, .int .i64 f, .int .i64 t] 30))
    have KA7 := hide (Bk.alloc (Bk.alloc KA6.out (.cells #[.int .i64 l, .int .i64 r, .int .i64 f, .int .i64 t] 30)) (.cells #[.int .i64 l, .int .i64 r, .int .i64 f, .int .i64 t] 30))
    have KC7 := hide (Bk.alloc (Bk.alloc KC6.out (.cells #[.int .i64 l, .int .i64 r, .int .i64 f, .int .i64 t] 30)) (.cells #[.int .i64 l, .int .i64 r, .int .i64 f, .int .i64 t] 30))
    have KE7 := hide (Bk.alloc (Bk.made w6 30 #[.int .i64 l, .int .i64 r, .int .i64 f, .int .i64 t]) (.cells #[.int .i64 l, .int .i64 r, .int .i64 f, .int .i64 t] 30))
    have KF7 : Hid (Bk ((w6.alloc (.cells #[.int .i64 l, .int .i64 r, .int .i64 f, .int .i64 t] 30)).alloc (.cells #[.int .i64 l, .int .i64 r, .int .i64 f, .int .i64 t] 30)) (w6.heap.size + 1) 30 #[.int .i64 l, .int .i64 r, .int .i64 f, .int .i64 t]) := hide (by have := Bk.made (w6.alloc (.cells #[.int .i64 l, .int .i64 r, .int .i64 f, .int .i64 t] 30)) 30 #[.int .i64 l, .int .i64 r, .int .i64 f, .int .i64 t]; simpa using this)
    have D7 := hide ((D6.out.alloc (.cells #[.int .i64 l, .int .i64 r, .int .i64 f, .int .i64 t] 30)).alloc (.cells #[.int .i64 l, .int .i64 r, .int .i64 f, .int .i64 t] 30))
    have B7 := hide (Below.alloc (Below.alloc B6.out B6.out.size (.cells #[.int .i64 l, .int .i64 r, .int .i64 f, .int .i64 t] 30)) (Below.size (Below.alloc B6.out B6.out.size (.cells #[.int .i64 l, .int .i64 r, .int .i64 f, .int .i64 t] 30))) (.cells #[.int .i64 l, .int .i64 r, .int .i64 f, .int .i64 t] 30))
    have z6 : w4.heap.size + 1 < w6.heap.size := KC6.out.lt
    clear p0 p1 p2 p3 lP KX6 KP6 KA6 KC6 D6
    generalize hw7 : (w6.alloc (.cells #[.int .i64 l, .int .i64 r, .int .i64 f, .int .i64 t] 30)).alloc (.cells #[.int .i64 l, .int .i64 r, .int .i64 f, .int .i64 t] 30) = w7 at *
    clear hw7
    obtain ⟨p0, p1, p2, p3⟩ := KP7.out.four
    obtain ⟨a0', a1', a2', a3'⟩ := KE7.out.four
    obtain ⟨c0', c1', c2', c3'⟩ := KF7.out.four
    have fa := KE7.out.free 3
    have fc := KF7.out.free 2
    go_upto_region 15 with fail
    have KE8 := hide ((KE7.out.put 3 (.int .i64 O)).far (p := ⟨w6.heap.size + 1, 2, none⟩) (by simp) (.int .i64 O))
    have KF8 := hide ((KF7.out.far (p := ⟨w6.heap.size, 3, none⟩) (by simp) (.int .i64 O)).put 2 (.int .i64 O))
    have KX8 := hide ((KX7.out.far (p := ⟨w6.heap.size, 3, none⟩) (by simp; omega) (.int .i64 O)).far (p := ⟨w6.heap.size + 1, 2, none⟩) (by simp; omega) (.int .i64 O))
    have KP8 := hide ((KP7.out.far (p := ⟨w6.heap.size, 3, none⟩) (by simp; omega) (.int .i64 O)).far (p := ⟨w6.heap.size + 1, 2, none⟩) (by simp; omega) (.int .i64 O))
    have KA8 := hide ((KA7.out.far (p := ⟨w6.heap.size, 3, none⟩) (by simp; omega) (.int .i64 O)).far (p := ⟨w6.heap.size + 1, 2, none⟩) (by simp; omega) (.int .i64 O))
    have KC8 := hide ((KC7.out.far (p := ⟨w6.heap.size, 3, none⟩) (by simp; omega) (.int .i64 O)).far (p := ⟨w6.heap.size + 1, 2, none⟩) (by simp; omega) (.int .i64 O))
    have B8 := hide ((B7.out.setCell (p := ⟨w6.heap.size, 3, none⟩) (by simpa using B6.out.size) (.int .i64 O)).setCell (p := ⟨w6.heap.size + 1, 2, none⟩) (by have := B6.out.size; simp; omega) (.int .i64 O))
    have D8 := hide (Dfs.put1 (Dfs.put1 D7.out (p := ⟨w6.heap.size, 3, none⟩) (fun b e h0 => by have := HAB.out b e h0; simp; omega) (.int .i64 O)) (p := ⟨w6.heap.size + 1, 2, none⟩) (fun b e h0 => by have := HAB.out b e h0; simp; omega) (.int .i64 O))
    clear p0 p1 p2 p3 a0' a1' a2' a3' c0' c1' c2' c3' fa fc KA7 KC7 KX7 KP7 KE7 KF7 B7 D7 ew1 ew2 hM hO B4 B6
    generalize hw8 : (w7.setCell ⟨w6.heap.size, 3, none⟩ (.int .i64 O)).setCell ⟨w6.heap.size + 1, 2, none⟩ (.int .i64 O) = w8 at *
    clear hw8
    obtain ⟨x0, x1, x2, -, -, -⟩ := KX8.out.three
    obtain ⟨p0, p1, p2, p3⟩ := Bk.four (a := .int .i64 l) (b := .int .i64 r) (c := .int .i64 f) (d := .int .i64 t) KP8.out
    obtain ⟨a0, a1, a2, a3⟩ := Bk.four (a := .int .i64 l) (b := .int .i64 M) (c := .int .i64 f) (d := .int .i64 t) KA8.out
    obtain ⟨c0, c1, c2, c3⟩ := Bk.four (a := .int .i64 M) (b := .int .i64 r) (c := .int .i64 f) (d := .int .i64 t) KC8.out
    obtain ⟨e0, e1, e2, e3⟩ := Bk.four (a := .int .i64 l) (b := .int .i64 r) (c := .int .i64 f) (d := .int .i64 O) KE8.out
    obtain ⟨f0, f1, f2, f3⟩ := Bk.four (a := .int .i64 l) (b := .int .i64 r) (c := .int .i64 O) (d := .int .i64 t) KF8.out
    have ew1 : IntKind.i64.wrap (r - l) = r - l := IntWalk.i64_in _ ⟨by omega, by omega⟩
    have ew2 : IntKind.i64.wrap (t - f) = t - f := IntWalk.i64_in _ ⟨by omega, by omega⟩
    by_cases q1 : r - l < 2
    · have hd1 : decide (r - l < 2) = true := decide_eq_true q1
      by_cases q2 : t - f < 2
      · have hd2 : decide (t - f < 2) = true := decide_eq_true q2
        clear q1 q2
        refine wp_region_held_drew (S := fun w' => w'.cell? ⟨w1.heap.size, 0, none⟩ = some (.int .i64 W) ∧ w'.cell? ⟨w1.heap.size, 1, none⟩ = some (.int .i64 L) ∧ w'.cell? ⟨w1.heap.size, 2, none⟩ = some (.slice Av m cv) ∧ w'.cell? ⟨w1.heap.size + 1, 0, none⟩ = some (.int .i64 l) ∧ w'.cell? ⟨w1.heap.size + 1, 1, none⟩ = some (.int .i64 r) ∧ w'.cell? ⟨w1.heap.size + 1, 2, none⟩ = some (.int .i64 f) ∧ w'.cell? ⟨w1.heap.size + 1, 3, none⟩ = some (.int .i64 t) ∧ w'.cell? ⟨w4.heap.size, 0, none⟩ = some (.int .i64 l) ∧ w'.cell? ⟨w4.heap.size, 1, none⟩ = some (.int .i64 M) ∧ w'.cell? ⟨w4.heap.size, 2, none⟩ = some (.int .i64 f) ∧ w'.cell? ⟨w4.heap.size, 3, none⟩ = some (.int .i64 t) ∧ w'.cell? ⟨w4.heap.size + 1, 0, none⟩ = some (.int .i64 M) ∧ w'.cell? ⟨w4.heap.size + 1, 1, none⟩ = some (.int .i64 r) ∧ w'.cell? ⟨w4.heap.size + 1, 2, none⟩ = some (.int .i64 f) ∧ w'.cell? ⟨w4.heap.size + 1, 3, none⟩ = some (.int .i64 t) ∧ w'.cell? ⟨w6.heap.size, 0, none⟩ = some (.int .i64 l) ∧ w'.cell? ⟨w6.heap.size, 1, none⟩ = some (.int .i64 r) ∧ w'.cell? ⟨w6.heap.size, 2, none⟩ = some (.int .i64 f) ∧ w'.cell? ⟨w6.heap.size, 3, none⟩ = some (.int .i64 O) ∧ w'.cell? ⟨w6.heap.size + 1, 0, none⟩ = some (.int .i64 l) ∧ w'.cell? ⟨w6.heap.size + 1, 1, none⟩ = some (.int .i64 r) ∧ w'.cell? ⟨w6.heap.size + 1, 2, none⟩ = some (.int .i64 O) ∧ w'.cell? ⟨w6.heap.size + 1, 3, none⟩ = some (.int .i64 t)) (by kernel_rfl) ?hS1 (fun hHeld => ?_)
        case hS1 => ((try dsimp only); (repeat' apply And.intro) <;> (first | (with_reducible assumption) | (rw [World.cell?_drew]; with_reducible assumption) | (rw [World.cell?_setCell_other _ _ _ _ (fun e => by injection e with _ e; cases e)]; with_reducible assumption) | (simp [*]; done)))
        refine wpAnyH_take (i := 0) (v := ?v2) (by simp only [List.getElem?_toArray, List.getElem?_cons_zero]; rfl) (by kernel_rfl) (by kernel_rfl) (by kernel_rfl) (by exact fun _ _ _ h => h) (Or.inl ⟨by rfl, ?hy2⟩) (by assumption) ?rest2
        case hy2 => (intro w hSw; (try dsimp only at hSw); go_simp; (try with_reducible rfl))
        (try simp only [Act.put, List.setIfInBounds_toArray, List.set_cons_zero, List.set_cons_succ])
        refine wpAnyH_take (i := 1) (v := ?v3) (by simp only [List.getElem?_toArray, List.getElem?_cons_succ, List.getElem?_cons_zero]; rfl) (by kernel_rfl) (by kernel_rfl) (by kernel_rfl) (by exact fun _ _ _ h => h) (Or.inl ⟨by rfl, ?hy3⟩) (by assumption) ?rest3
        case hy3 => (intro w hSw; (try dsimp only at hSw); go_simp; (try with_reducible rfl))
        (try simp only [Act.put, List.setIfInBounds_toArray, List.set_cons_zero, List.set_cons_succ])
        refine wpAnyH_take (i := 2) (v := ?v4) (by simp only [List.getElem?_toArray, List.getElem?_cons_succ, List.getElem?_cons_zero]; rfl) (by kernel_rfl) (by kernel_rfl) (by kernel_rfl) (by exact fun _ _ _ h => h) (Or.inl ⟨by rfl, ?hy4⟩) (by assumption) ?rest4
        case hy4 => (intro w hSw; (try dsimp only at hSw); go_simp; (try with_reducible rfl))
        (try simp only [Act.put, List.setIfInBounds_toArray, List.set_cons_zero, List.set_cons_succ])
        refine wpAnyH_take (i := 3) (v := ?v5) (by simp only [List.getElem?_toArray, List.getElem?_cons_succ, List.getElem?_cons_zero]; rfl) (by kernel_rfl) (by kernel_rfl) (by kernel_rfl) (by exact fun _ _ _ h => h) (Or.inl ⟨by rfl, ?hy5⟩) (by assumption) ?rest5
        case hy5 => (intro w hSw; (try dsimp only at hSw); go_simp; (try with_reducible rfl))
        (try simp only [Act.put, List.setIfInBounds_toArray, List.set_cons_zero, List.set_cons_succ])
        refine wpAnyH_take (i := 4) (v := ?v6) (by simp only [List.getElem?_toArray, List.getElem?_cons_succ, List.getElem?_cons_zero]; rfl) (by kernel_rfl) (by kernel_rfl) (by kernel_rfl) (by exact fun _ _ _ h => h) (Or.inl ⟨by rfl, ?hy6⟩) (by assumption) ?rest6
        case hy6 => (intro w hSw; (try dsimp only at hSw); go_simp; (try with_reducible rfl))
        (try simp only [Act.put, List.setIfInBounds_toArray, List.set_cons_zero, List.set_cons_succ])
        refine wpAnyH_take (i := 5) (v := ?v7) (by simp only [List.getElem?_toArray, List.getElem?_cons_succ, List.getElem?_cons_zero]; rfl) (by kernel_rfl) (by kernel_rfl) (by kernel_rfl) (by exact fun _ _ _ h => h) (Or.inl ⟨by rfl, ?hy7⟩) (by assumption) ?rest7
        case hy7 => (intro w hSw; (try dsimp only at hSw); go_simp; (try with_reducible rfl))
        (try simp only [Act.put, List.setIfInBounds_toArray, List.set_cons_zero, List.set_cons_succ])
        (try simp only [hd1])
        refine wpAnyH_take (i := 6) (v := ?v8) (by simp only [List.getElem?_toArray, List.getElem?_cons_succ, List.getElem?_cons_zero]; rfl) (by kernel_rfl) (by kernel_rfl) (by kernel_rfl) (by exact fun _ _ _ h => h) (Or.inl ⟨by rfl, ?hy8⟩) (by assumption) ?rest8
        case hy8 => (intro w hSw; (try dsimp only at hSw); go_simp; (try with_reducible rfl))
        (try simp only [Act.put, List.setIfInBounds_toArray, List.set_cons_zero, List.set_cons_succ])
        (try simp only [hd1])
        refine wpAnyH_take (i := 7) (v := undef) (by simp only [List.getElem?_toArray, List.getElem?_cons_succ, List.getElem?_cons_zero]; rfl) (by kernel_rfl) (by kernel_rfl) (by kernel_rfl) (by exact fun _ _ _ h => h) (Or.inr ⟨by rfl, rfl⟩) (by assumption) ?_
        (try simp only [Act.put, List.setIfInBounds_toArray, List.set_cons_zero, List.set_cons_succ])
        refine wpAnyH_take (i := 8) (v := undef) (by simp only [List.getElem?_toArray, List.getElem?_cons_succ, List.getElem?_cons_zero]; rfl) (by kernel_rfl) (by kernel_rfl) (by kernel_rfl) (by exact fun _ _ _ h => h) (Or.inr ⟨by rfl, rfl⟩) (by assumption) ?_
        (try simp only [Act.put, List.setIfInBounds_toArray, List.set_cons_zero, List.set_cons_succ])
        refine wpAnyH_take (i := 9) (v := undef) (by simp only [List.getElem?_toArray, List.getElem?_cons_succ, List.getElem?_cons_zero]; rfl) (by kernel_rfl) (by kernel_rfl) (by kernel_rfl) (by exact fun _ _ _ h => h) (Or.inr ⟨by rfl, rfl⟩) (by assumption) ?_
        (try simp only [Act.put, List.setIfInBounds_toArray, List.set_cons_zero, List.set_cons_succ])
        refine wpAnyH_take (i := 10) (v := undef) (by simp only [List.getElem?_toArray, List.getElem?_cons_succ, List.getElem?_cons_zero]; rfl) (by kernel_rfl) (by kernel_rfl) (by kernel_rfl) (by exact fun _ _ _ h => h) (Or.inr ⟨by rfl, rfl⟩) (by assumption) ?_
        (try simp only [Act.put, List.setIfInBounds_toArray, List.set_cons_zero, List.set_cons_succ])
        refine wpAnyH_take (i := 11) (v := undef) (by simp only [List.getElem?_toArray, List.getElem?_cons_succ, List.getElem?_cons_zero]; rfl) (by kernel_rfl) (by kernel_rfl) (by kernel_rfl) (by exact fun _ _ _ h => h) (Or.inr ⟨by rfl, rfl⟩) (by assumption) ?_
        (try simp only [Act.put, List.setIfInBounds_toArray, List.set_cons_zero, List.set_cons_succ])
        refine wpAnyH_take (i := 12) (v := undef) (by simp only [List.getElem?_toArray, List.getElem?_cons_succ, List.getElem?_cons_zero]; rfl) (by kernel_rfl) (by kernel_rfl) (by kernel_rfl) (by exact fun _ _ _ h => h) (Or.inr ⟨by rfl, rfl⟩) (by assumption) ?_
        (try simp only [Act.put, List.setIfInBounds_toArray, List.set_cons_zero, List.set_cons_succ])
        refine wpAnyH_take (i := 13) (v := undef) (by simp only [List.getElem?_toArray, List.getElem?_cons_succ, List.getElem?_cons_zero]; rfl) (by kernel_rfl) (by kernel_rfl) (by kernel_rfl) (by exact fun _ _ _ h => h) (Or.inr ⟨by rfl, rfl⟩) (by assumption) ?_
        (try simp only [Act.put, List.setIfInBounds_toArray, List.set_cons_zero, List.set_cons_succ])
        refine wpAnyH_take (i := 14) (v := undef) (by simp only [List.getElem?_toArray, List.getElem?_cons_succ, List.getElem?_cons_zero]; rfl) (by kernel_rfl) (by kernel_rfl) (by kernel_rfl) (by exact fun _ _ _ h => h) (Or.inr ⟨by rfl, rfl⟩) (by assumption) ?_
        (try simp only [Act.put, List.setIfInBounds_toArray, List.set_cons_zero, List.set_cons_succ])
        refine wpAnyH_take (i := 15) (v := undef) (by simp only [List.getElem?_toArray, List.getElem?_cons_succ, List.getElem?_cons_zero]; rfl) (by kernel_rfl) (by kernel_rfl) (by kernel_rfl) (by exact fun _ _ _ h => h) (Or.inr ⟨by rfl, rfl⟩) (by assumption) ?_
        (try simp only [Act.put, List.setIfInBounds_toArray, List.set_cons_zero, List.set_cons_succ])
        refine wpAnyH_take (i := 16) (v := ?v18) (by simp only [List.getElem?_toArray, List.getElem?_cons_succ, List.getElem?_cons_zero]; rfl) (by kernel_rfl) (by kernel_rfl) (by kernel_rfl) (by exact fun _ _ _ h => h) (Or.inl ⟨by rfl, ?hy18⟩) (by assumption) ?rest18
        case hy18 => (intro w hSw; (try dsimp only at hSw); go_simp; (try with_reducible rfl))
        (try simp only [Act.put, List.setIfInBounds_toArray, List.set_cons_zero, List.set_cons_succ])
        refine wpAnyH_take (i := 17) (v := ?v19) (by simp only [List.getElem?_toArray, List.getElem?_cons_succ, List.getElem?_cons_zero]; rfl) (by kernel_rfl) (by kernel_rfl) (by kernel_rfl) (by exact fun _ _ _ h => h) (Or.inl ⟨by rfl, ?hy19⟩) (by assumption) ?rest19
        case hy19 => (intro w hSw; (try dsimp only at hSw); go_simp; (try with_reducible rfl))
        (try simp only [Act.put, List.setIfInBounds_toArray, List.set_cons_zero, List.set_cons_succ])
        refine wpAnyH_take (i := 18) (v := ?v20) (by simp only [List.getElem?_toArray, List.getElem?_cons_succ, List.getElem?_cons_zero]; rfl) (by kernel_rfl) (by kernel_rfl) (by kernel_rfl) (by exact fun _ _ _ h => h) (Or.inl ⟨by rfl, ?hy20⟩) (by assumption) ?rest20
        case hy20 => (intro w hSw; (try dsimp only at hSw); go_simp; (try with_reducible rfl))
        (try simp only [Act.put, List.setIfInBounds_toArray, List.set_cons_zero, List.set_cons_succ])
        refine wpAnyH_take (i := 19) (v := ?v21) (by simp only [List.getElem?_toArray, List.getElem?_cons_succ, List.getElem?_cons_zero]; rfl) (by kernel_rfl) (by kernel_rfl) (by kernel_rfl) (by exact fun _ _ _ h => h) (Or.inl ⟨by rfl, ?hy21⟩) (by assumption) ?rest21
        case hy21 => (intro w hSw; (try dsimp only at hSw); go_simp; (try with_reducible rfl))
        (try simp only [Act.put, List.setIfInBounds_toArray, List.set_cons_zero, List.set_cons_succ])
        refine wpAnyH_take (i := 20) (v := ?v22) (by simp only [List.getElem?_toArray, List.getElem?_cons_succ, List.getElem?_cons_zero]; rfl) (by kernel_rfl) (by kernel_rfl) (by kernel_rfl) (by exact fun _ _ _ h => h) (Or.inl ⟨by rfl, ?hy22⟩) (by assumption) ?rest22
        case hy22 => (intro w hSw; (try dsimp only at hSw); go_simp; (try with_reducible rfl))
        (try simp only [Act.put, List.setIfInBounds_toArray, List.set_cons_zero, List.set_cons_succ])
        refine wpAnyH_take (i := 21) (v := ?v23) (by simp only [List.getElem?_toArray, List.getElem?_cons_succ, List.getElem?_cons_zero]; rfl) (by kernel_rfl) (by kernel_rfl) (by kernel_rfl) (by exact fun _ _ _ h => h) (Or.inl ⟨by rfl, ?hy23⟩) (by assumption) ?rest23
        case hy23 => (intro w hSw; (try dsimp only at hSw); go_simp; (try with_reducible rfl))
        (try simp only [Act.put, List.setIfInBounds_toArray, List.set_cons_zero, List.set_cons_succ])
        refine wpAnyH_take (i := 22) (v := ?v24) (by simp only [List.getElem?_toArray, List.getElem?_cons_succ, List.getElem?_cons_zero]; rfl) (by kernel_rfl) (by kernel_rfl) (by kernel_rfl) (by exact fun _ _ _ h => h) (Or.inl ⟨by rfl, ?hy24⟩) (by assumption) ?rest24
        case hy24 => (intro w hSw; (try dsimp only at hSw); go_simp; (try with_reducible rfl))
        (try simp only [Act.put, List.setIfInBounds_toArray, List.set_cons_zero, List.set_cons_succ])
        refine wpAnyH_take (i := 23) (v := ?v25) (by simp only [List.getElem?_toArray, List.getElem?_cons_succ, List.getElem?_cons_zero]; rfl) (by kernel_rfl) (by kernel_rfl) (by kernel_rfl) (by exact fun _ _ _ h => h) (Or.inl ⟨by rfl, ?hy25⟩) (by assumption) ?rest25
        case hy25 => (intro w hSw; (try dsimp only at hSw); go_simp; (try with_reducible rfl))
        (try simp only [Act.put, List.setIfInBounds_toArray, List.set_cons_zero, List.set_cons_succ])
        (try simp only [hd2])
        refine wpAnyH_take (i := 24) (v := ?v26) (by simp only [List.getElem?_toArray, List.getElem?_cons_succ, List.getElem?_cons_zero]; rfl) (by kernel_rfl) (by kernel_rfl) (by kernel_rfl) (by exact fun _ _ _ h => h) (Or.inl ⟨by rfl, ?hy26⟩) (by assumption) ?rest26
        case hy26 => (intro w hSw; (try dsimp only at hSw); go_simp; (try with_reducible rfl))
        (try simp only [Act.put, List.setIfInBounds_toArray, List.set_cons_zero, List.set_cons_succ])
        (try simp only [hd2])
        refine wpAnyH_take (i := 25) (v := undef) (by simp only [List.getElem?_toArray, List.getElem?_cons_succ, List.getElem?_cons_zero]; rfl) (by kernel_rfl) (by kernel_rfl) (by kernel_rfl) (by exact fun _ _ _ h => h) (Or.inr ⟨by rfl, rfl⟩) (by assumption) ?_
        (try simp only [Act.put, List.setIfInBounds_toArray, List.set_cons_zero, List.set_cons_succ])
        refine wpAnyH_take (i := 26) (v := undef) (by simp only [List.getElem?_toArray, List.getElem?_cons_succ, List.getElem?_cons_zero]; rfl) (by kernel_rfl) (by kernel_rfl) (by kernel_rfl) (by exact fun _ _ _ h => h) (Or.inr ⟨by rfl, rfl⟩) (by assumption) ?_
        (try simp only [Act.put, List.setIfInBounds_toArray, List.set_cons_zero, List.set_cons_succ])
        refine wpAnyH_take (i := 27) (v := undef) (by simp only [List.getElem?_toArray, List.getElem?_cons_succ, List.getElem?_cons_zero]; rfl) (by kernel_rfl) (by kernel_rfl) (by kernel_rfl) (by exact fun _ _ _ h => h) (Or.inr ⟨by rfl, rfl⟩) (by assumption) ?_
        (try simp only [Act.put, List.setIfInBounds_toArray, List.set_cons_zero, List.set_cons_succ])
        refine wpAnyH_take (i := 28) (v := undef) (by simp only [List.getElem?_toArray, List.getElem?_cons_succ, List.getElem?_cons_zero]; rfl) (by kernel_rfl) (by kernel_rfl) (by kernel_rfl) (by exact fun _ _ _ h => h) (Or.inr ⟨by rfl, rfl⟩) (by assumption) ?_
        (try simp only [Act.put, List.setIfInBounds_toArray, List.set_cons_zero, List.set_cons_succ])
        refine wpAnyH_take (i := 29) (v := undef) (by simp only [List.getElem?_toArray, List.getElem?_cons_succ, List.getElem?_cons_zero]; rfl) (by kernel_rfl) (by kernel_rfl) (by kernel_rfl) (by exact fun _ _ _ h => h) (Or.inr ⟨by rfl, rfl⟩) (by assumption) ?_
        (try simp only [Act.put, List.setIfInBounds_toArray, List.set_cons_zero, List.set_cons_succ])
        refine wpAnyH_take (i := 30) (v := undef) (by simp only [List.getElem?_toArray, List.getElem?_cons_succ, List.getElem?_cons_zero]; rfl) (by kernel_rfl) (by kernel_rfl) (by kernel_rfl) (by exact fun _ _ _ h => h) (Or.inr ⟨by rfl, rfl⟩) (by assumption) ?_
        (try simp only [Act.put, List.setIfInBounds_toArray, List.set_cons_zero, List.set_cons_succ])
        refine wpAnyH_take (i := 31) (v := undef) (by simp only [List.getElem?_toArray, List.getElem?_cons_succ, List.getElem?_cons_zero]; rfl) (by kernel_rfl) (by kernel_rfl) (by kernel_rfl) (by exact fun _ _ _ h => h) (Or.inr ⟨by rfl, rfl⟩) (by assumption) ?_
        (try simp only [Act.put, List.setIfInBounds_toArray, List.set_cons_zero, List.set_cons_succ])
        refine wpAnyH_take (i := 32) (v := undef) (by simp only [List.getElem?_toArray, List.getElem?_cons_succ, List.getElem?_cons_zero]; rfl) (by kernel_rfl) (by kernel_rfl) (by kernel_rfl) (by exact fun _ _ _ h => h) (Or.inr ⟨by rfl, rfl⟩) (by assumption) ?_
        (try simp only [Act.put, List.setIfInBounds_toArray, List.set_cons_zero, List.set_cons_succ])
        refine wpAnyH_take (i := 33) (v := undef) (by simp only [List.getElem?_toArray, List.getElem?_cons_succ, List.getElem?_cons_zero]; rfl) (by kernel_rfl) (by kernel_rfl) (by kernel_rfl) (by exact fun _ _ _ h => h) (Or.inr ⟨by rfl, rfl⟩) (by assumption) ?_
        (try simp only [Act.put, List.setIfInBounds_toArray, List.set_cons_zero, List.set_cons_succ])
        refine wpAnyH_take (i := 34) (v := ?v36) (by simp only [List.getElem?_toArray, List.getElem?_cons_succ, List.getElem?_cons_zero]; rfl) (by kernel_rfl) (by kernel_rfl) (by kernel_rfl) (by exact fun _ _ _ h => h) (Or.inl ⟨by rfl, ?hy36⟩) (by assumption) ?rest36
        case hy36 => (intro w hSw; (try dsimp only at hSw); go_simp; (try with_reducible rfl))
        (try simp only [Act.put, List.setIfInBounds_toArray, List.set_cons_zero, List.set_cons_succ])
        refine wpAnyH_take (i := 35) (v := ?v37) (by simp only [List.getElem?_toArray, List.getElem?_cons_succ, List.getElem?_cons_zero]; rfl) (by kernel_rfl) (by kernel_rfl) (by kernel_rfl) (by exact fun _ _ _ h => h) (Or.inl ⟨by rfl, ?hy37⟩) (by assumption) ?rest37
        case hy37 => (intro w hSw; (try dsimp only at hSw); go_simp; (try with_reducible rfl))
        (try simp only [Act.put, List.setIfInBounds_toArray, List.set_cons_zero, List.set_cons_succ])
        refine wpAnyH_take (i := 36) (v := ?v38) (by simp only [List.getElem?_toArray, List.getElem?_cons_succ, List.getElem?_cons_zero]; rfl) (by kernel_rfl) (by kernel_rfl) (by kernel_rfl) (by exact fun _ _ _ h => h) (Or.inl ⟨by rfl, ?hy38⟩) (by assumption) ?rest38
        case hy38 => (intro w hSw; (try dsimp only at hSw); go_simp; (try with_reducible rfl))
        (try simp only [Act.put, List.setIfInBounds_toArray, List.set_cons_zero, List.set_cons_succ])
        refine wpAnyH_done (by kernel_rfl) ?_ _
        go_wp2_with fail
        go_ret
        exact ⟨ret_bool (by first | rfl | simp), below_drewN B8.out 1⟩
      · have hd2 : decide (t - f < 2) = false := decide_eq_false q2
        obtain ⟨ha, hc, hmx⟩ := half_facts2 (m := O) HVR.out HVP.out (by have := HO.out; omega) (by have := HO.out; omega)
        rw [HX.out] at hmx
        generalize wst ds l r f O ds.length = we at ha hmx
        generalize wst ds l r O t ds.length = wf at hc hmx
        have HE := hide ha; have HF := hide hc
        have hy1 := max_ite hmx; have hy2 := max_ite2 hmx
        clear ha hc hmx
        clear q1 q2
        refine wp_region_held_drew (S := fun w' => w'.cell? ⟨w1.heap.size, 0, none⟩ = some (.int .i64 W) ∧ w'.cell? ⟨w1.heap.size, 1, none⟩ = some (.int .i64 L) ∧ w'.cell? ⟨w1.heap.size, 2, none⟩ = some (.slice Av m cv) ∧ w'.cell? ⟨w1.heap.size + 1, 0, none⟩ = some (.int .i64 l) ∧ w'.cell? ⟨w1.heap.size + 1, 1, none⟩ = some (.int .i64 r) ∧ w'.cell? ⟨w1.heap.size + 1, 2, none⟩ = some (.int .i64 f) ∧ w'.cell? ⟨w1.heap.size + 1, 3, none⟩ = some (.int .i64 t) ∧ w'.cell? ⟨w4.heap.size, 0, none⟩ = some (.int .i64 l) ∧ w'.cell? ⟨w4.heap.size, 1, none⟩ = some (.int .i64 M) ∧ w'.cell? ⟨w4.heap.size, 2, none⟩ = some (.int .i64 f) ∧ w'.cell? ⟨w4.heap.size, 3, none⟩ = some (.int .i64 t) ∧ w'.cell? ⟨w4.heap.size + 1, 0, none⟩ = some (.int .i64 M) ∧ w'.cell? ⟨w4.heap.size + 1, 1, none⟩ = some (.int .i64 r) ∧ w'.cell? ⟨w4.heap.size + 1, 2, none⟩ = some (.int .i64 f) ∧ w'.cell? ⟨w4.heap.size + 1, 3, none⟩ = some (.int .i64 t) ∧ w'.cell? ⟨w6.heap.size, 0, none⟩ = some (.int .i64 l) ∧ w'.cell? ⟨w6.heap.size, 1, none⟩ = some (.int .i64 r) ∧ w'.cell? ⟨w6.heap.size, 2, none⟩ = some (.int .i64 f) ∧ w'.cell? ⟨w6.heap.size, 3, none⟩ = some (.int .i64 O) ∧ w'.cell? ⟨w6.heap.size + 1, 0, none⟩ = some (.int .i64 l) ∧ w'.cell? ⟨w6.heap.size + 1, 1, none⟩ = some (.int .i64 r) ∧ w'.cell? ⟨w6.heap.size + 1, 2, none⟩ = some (.int .i64 O) ∧ w'.cell? ⟨w6.heap.size + 1, 3, none⟩ = some (.int .i64 t)) (by kernel_rfl) ?hS39 (fun hHeld => ?_)
        case hS39 => ((try dsimp only); (repeat' apply And.intro) <;> (first | (with_reducible assumption) | (rw [World.cell?_drew]; with_reducible assumption) | (rw [World.cell?_setCell_other _ _ _ _ (fun e => by injection e with _ e; cases e)]; with_reducible assumption) | (simp [*]; done)))
        refine wpAnyH_take (i := 0) (v := ?v40) (by simp only [List.getElem?_toArray, List.getElem?_cons_zero]; rfl) (by kernel_rfl) (by kernel_rfl) (by kernel_rfl) (by exact fun _ _ _ h => h) (Or.inl ⟨by rfl, ?hy40⟩) (by assumption) ?rest40
        case hy40 => (intro w hSw; (try dsimp only at hSw); go_simp; (try with_reducible rfl))
        (try simp only [Act.put, List.setIfInBounds_toArray, List.set_cons_zero, List.set_cons_succ])
        refine wpAnyH_take (i := 1) (v := ?v41) (by simp only [List.getElem?_toArray, List.getElem?_cons_succ, List.getElem?_cons_zero]; rfl) (by kernel_rfl) (by kernel_rfl) (by kernel_rfl) (by exact fun _ _ _ h => h) (Or.inl ⟨by rfl, ?hy41⟩) (by assumption) ?rest41
        case hy41 => (intro w hSw; (try dsimp only at hSw); go_simp; (try with_reducible rfl))
        (try simp only [Act.put, List.setIfInBounds_toArray, List.set_cons_zero, List.set_cons_succ])
        refine wpAnyH_take (i := 2) (v := ?v42) (by simp only [List.getElem?_toArray, List.getElem?_cons_succ, List.getElem?_cons_zero]; rfl) (by kernel_rfl) (by kernel_rfl) (by kernel_rfl) (by exact fun _ _ _ h => h) (Or.inl ⟨by rfl, ?hy42⟩) (by assumption) ?rest42
        case hy42 => (intro w hSw; (try dsimp only at hSw); go_simp; (try with_reducible rfl))
        (try simp only [Act.put, List.setIfInBounds_toArray, List.set_cons_zero, List.set_cons_succ])
        refine wpAnyH_take (i := 3) (v := ?v43) (by simp only [List.getElem?_toArray, List.getElem?_cons_succ, List.getElem?_cons_zero]; rfl) (by kernel_rfl) (by kernel_rfl) (by kernel_rfl) (by exact fun _ _ _ h => h) (Or.inl ⟨by rfl, ?hy43⟩) (by assumption) ?rest43
        case hy43 => (intro w hSw; (try dsimp only at hSw); go_simp; (try with_reducible rfl))
        (try simp only [Act.put, List.setIfInBounds_toArray, List.set_cons_zero, List.set_cons_succ])
        refine wpAnyH_take (i := 4) (v := ?v44) (by simp only [List.getElem?_toArray, List.getElem?_cons_succ, List.getElem?_cons_zero]; rfl) (by kernel_rfl) (by kernel_rfl) (by kernel_rfl) (by exact fun _ _ _ h => h) (Or.inl ⟨by rfl, ?hy44⟩) (by assumption) ?rest44
        case hy44 => (intro w hSw; (try dsimp only at hSw); go_simp; (try with_reducible rfl))
        (try simp only [Act.put, List.setIfInBounds_toArray, List.set_cons_zero, List.set_cons_succ])
        refine wpAnyH_take (i := 5) (v := ?v45) (by simp only [List.getElem?_toArray, List.getElem?_cons_succ, List.getElem?_cons_zero]; rfl) (by kernel_rfl) (by kernel_rfl) (by kernel_rfl) (by exact fun _ _ _ h => h) (Or.inl ⟨by rfl, ?hy45⟩) (by assumption) ?rest45
        case hy45 => (intro w hSw; (try dsimp only at hSw); go_simp; (try with_reducible rfl))
        (try simp only [Act.put, List.setIfInBounds_toArray, List.set_cons_zero, List.set_cons_succ])
        (try simp only [hd1])
        refine wpAnyH_take (i := 6) (v := ?v46) (by simp only [List.getElem?_toArray, List.getElem?_cons_succ, List.getElem?_cons_zero]; rfl) (by kernel_rfl) (by kernel_rfl) (by kernel_rfl) (by exact fun _ _ _ h => h) (Or.inl ⟨by rfl, ?hy46⟩) (by assumption) ?rest46
        case hy46 => (intro w hSw; (try dsimp only at hSw); go_simp; (try with_reducible rfl))
        (try simp only [Act.put, List.setIfInBounds_toArray, List.set_cons_zero, List.set_cons_succ])
        (try simp only [hd1])
        refine wpAnyH_take (i := 7) (v := undef) (by simp only [List.getElem?_toArray, List.getElem?_cons_succ, List.getElem?_cons_zero]; rfl) (by kernel_rfl) (by kernel_rfl) (by kernel_rfl) (by exact fun _ _ _ h => h) (Or.inr ⟨by rfl, rfl⟩) (by assumption) ?_
        (try simp only [Act.put, List.setIfInBounds_toArray, List.set_cons_zero, List.set_cons_succ])
        refine wpAnyH_take (i := 8) (v := undef) (by simp only [List.getElem?_toArray, List.getElem?_cons_succ, List.getElem?_cons_zero]; rfl) (by kernel_rfl) (by kernel_rfl) (by kernel_rfl) (by exact fun _ _ _ h => h) (Or.inr ⟨by rfl, rfl⟩) (by assumption) ?_
        (try simp only [Act.put, List.setIfInBounds_toArray, List.set_cons_zero, List.set_cons_succ])
        refine wpAnyH_take (i := 9) (v := undef) (by simp only [List.getElem?_toArray, List.getElem?_cons_succ, List.getElem?_cons_zero]; rfl) (by kernel_rfl) (by kernel_rfl) (by kernel_rfl) (by exact fun _ _ _ h => h) (Or.inr ⟨by rfl, rfl⟩) (by assumption) ?_
        (try simp only [Act.put, List.setIfInBounds_toArray, List.set_cons_zero, List.set_cons_succ])
        refine wpAnyH_take (i := 10) (v := undef) (by simp only [List.getElem?_toArray, List.getElem?_cons_succ, List.getElem?_cons_zero]; rfl) (by kernel_rfl) (by kernel_rfl) (by kernel_rfl) (by exact fun _ _ _ h => h) (Or.inr ⟨by rfl, rfl⟩) (by assumption) ?_
        (try simp only [Act.put, List.setIfInBounds_toArray, List.set_cons_zero, List.set_cons_succ])
        refine wpAnyH_take (i := 11) (v := undef) (by simp only [List.getElem?_toArray, List.getElem?_cons_succ, List.getElem?_cons_zero]; rfl) (by kernel_rfl) (by kernel_rfl) (by kernel_rfl) (by exact fun _ _ _ h => h) (Or.inr ⟨by rfl, rfl⟩) (by assumption) ?_
        (try simp only [Act.put, List.setIfInBounds_toArray, List.set_cons_zero, List.set_cons_succ])
        refine wpAnyH_take (i := 12) (v := undef) (by simp only [List.getElem?_toArray, List.getElem?_cons_succ, List.getElem?_cons_zero]; rfl) (by kernel_rfl) (by kernel_rfl) (by kernel_rfl) (by exact fun _ _ _ h => h) (Or.inr ⟨by rfl, rfl⟩) (by assumption) ?_
        (try simp only [Act.put, List.setIfInBounds_toArray, List.set_cons_zero, List.set_cons_succ])
        refine wpAnyH_take (i := 13) (v := undef) (by simp only [List.getElem?_toArray, List.getElem?_cons_succ, List.getElem?_cons_zero]; rfl) (by kernel_rfl) (by kernel_rfl) (by kernel_rfl) (by exact fun _ _ _ h => h) (Or.inr ⟨by rfl, rfl⟩) (by assumption) ?_
        (try simp only [Act.put, List.setIfInBounds_toArray, List.set_cons_zero, List.set_cons_succ])
        refine wpAnyH_take (i := 14) (v := undef) (by simp only [List.getElem?_toArray, List.getElem?_cons_succ, List.getElem?_cons_zero]; rfl) (by kernel_rfl) (by kernel_rfl) (by kernel_rfl) (by exact fun _ _ _ h => h) (Or.inr ⟨by rfl, rfl⟩) (by assumption) ?_
        (try simp only [Act.put, List.setIfInBounds_toArray, List.set_cons_zero, List.set_cons_succ])
        refine wpAnyH_take (i := 15) (v := undef) (by simp only [List.getElem?_toArray, List.getElem?_cons_succ, List.getElem?_cons_zero]; rfl) (by kernel_rfl) (by kernel_rfl) (by kernel_rfl) (by exact fun _ _ _ h => h) (Or.inr ⟨by rfl, rfl⟩) (by assumption) ?_
        (try simp only [Act.put, List.setIfInBounds_toArray, List.set_cons_zero, List.set_cons_succ])
        refine wpAnyH_take (i := 16) (v := ?v56) (by simp only [List.getElem?_toArray, List.getElem?_cons_succ, List.getElem?_cons_zero]; rfl) (by kernel_rfl) (by kernel_rfl) (by kernel_rfl) (by exact fun _ _ _ h => h) (Or.inl ⟨by rfl, ?hy56⟩) (by assumption) ?rest56
        case hy56 => (intro w hSw; (try dsimp only at hSw); go_simp; (try with_reducible rfl))
        (try simp only [Act.put, List.setIfInBounds_toArray, List.set_cons_zero, List.set_cons_succ])
        refine wpAnyH_take (i := 17) (v := ?v57) (by simp only [List.getElem?_toArray, List.getElem?_cons_succ, List.getElem?_cons_zero]; rfl) (by kernel_rfl) (by kernel_rfl) (by kernel_rfl) (by exact fun _ _ _ h => h) (Or.inl ⟨by rfl, ?hy57⟩) (by assumption) ?rest57
        case hy57 => (intro w hSw; (try dsimp only at hSw); go_simp; (try with_reducible rfl))
        (try simp only [Act.put, List.setIfInBounds_toArray, List.set_cons_zero, List.set_cons_succ])
        refine wpAnyH_take (i := 18) (v := ?v58) (by simp only [List.getElem?_toArray, List.getElem?_cons_succ, List.getElem?_cons_zero]; rfl) (by kernel_rfl) (by kernel_rfl) (by kernel_rfl) (by exact fun _ _ _ h => h) (Or.inl ⟨by rfl, ?hy58⟩) (by assumption) ?rest58
        case hy58 => (intro w hSw; (try dsimp only at hSw); go_simp; (try with_reducible rfl))
        (try simp only [Act.put, List.setIfInBounds_toArray, List.set_cons_zero, List.set_cons_succ])
        refine wpAnyH_take (i := 19) (v := ?v59) (by simp only [List.getElem?_toArray, List.getElem?_cons_succ, List.getElem?_cons_zero]; rfl) (by kernel_rfl) (by kernel_rfl) (by kernel_rfl) (by exact fun _ _ _ h => h) (Or.inl ⟨by rfl, ?hy59⟩) (by assumption) ?rest59
        case hy59 => (intro w hSw; (try dsimp only at hSw); go_simp; (try with_reducible rfl))
        (try simp only [Act.put, List.setIfInBounds_toArray, List.set_cons_zero, List.set_cons_succ])
        refine wpAnyH_take (i := 20) (v := ?v60) (by simp only [List.getElem?_toArray, List.getElem?_cons_succ, List.getElem?_cons_zero]; rfl) (by kernel_rfl) (by kernel_rfl) (by kernel_rfl) (by exact fun _ _ _ h => h) (Or.inl ⟨by rfl, ?hy60⟩) (by assumption) ?rest60
        case hy60 => (intro w hSw; (try dsimp only at hSw); go_simp; (try with_reducible rfl))
        (try simp only [Act.put, List.setIfInBounds_toArray, List.set_cons_zero, List.set_cons_succ])
        refine wpAnyH_take (i := 21) (v := ?v61) (by simp only [List.getElem?_toArray, List.getElem?_cons_succ, List.getElem?_cons_zero]; rfl) (by kernel_rfl) (by kernel_rfl) (by kernel_rfl) (by exact fun _ _ _ h => h) (Or.inl ⟨by rfl, ?hy61⟩) (by assumption) ?rest61
        case hy61 => (intro w hSw; (try dsimp only at hSw); go_simp; (try with_reducible rfl))
        (try simp only [Act.put, List.setIfInBounds_toArray, List.set_cons_zero, List.set_cons_succ])
        refine wpAnyH_take (i := 22) (v := ?v62) (by simp only [List.getElem?_toArray, List.getElem?_cons_succ, List.getElem?_cons_zero]; rfl) (by kernel_rfl) (by kernel_rfl) (by kernel_rfl) (by exact fun _ _ _ h => h) (Or.inl ⟨by rfl, ?hy62⟩) (by assumption) ?rest62
        case hy62 => (intro w hSw; (try dsimp only at hSw); go_simp; (try with_reducible rfl))
        (try simp only [Act.put, List.setIfInBounds_toArray, List.set_cons_zero, List.set_cons_succ])
        refine wpAnyH_take (i := 23) (v := ?v63) (by simp only [List.getElem?_toArray, List.getElem?_cons_succ, List.getElem?_cons_zero]; rfl) (by kernel_rfl) (by kernel_rfl) (by kernel_rfl) (by exact fun _ _ _ h => h) (Or.inl ⟨by rfl, ?hy63⟩) (by assumption) ?rest63
        case hy63 => (intro w hSw; (try dsimp only at hSw); go_simp; (try with_reducible rfl))
        (try simp only [Act.put, List.setIfInBounds_toArray, List.set_cons_zero, List.set_cons_succ])
        (try simp only [hd2])
        refine wpAnyH_take (i := 24) (v := ?v64) (by simp only [List.getElem?_toArray, List.getElem?_cons_succ, List.getElem?_cons_zero]; rfl) (by kernel_rfl) (by kernel_rfl) (by kernel_rfl) (by exact fun _ _ _ h => h) (Or.inl ⟨by rfl, ?hy64⟩) (by assumption) ?rest64
        case hy64 => (intro w hSw; (try dsimp only at hSw); go_simp; (try with_reducible rfl))
        (try simp only [Act.put, List.setIfInBounds_toArray, List.set_cons_zero, List.set_cons_succ])
        (try simp only [hd2])
        refine wpAnyH_take (i := 25) (v := ?v65) (by simp only [List.getElem?_toArray, List.getElem?_cons_succ, List.getElem?_cons_zero]; rfl) (by kernel_rfl) (by kernel_rfl) (by kernel_rfl) (by exact fun _ _ _ h => h) (Or.inl ⟨by rfl, ?hy65⟩) (by assumption) ?rest65
        case hy65 => (intro w hSw; (try dsimp only at hSw); go_simp; (try with_reducible rfl))
        (try simp only [Act.put, List.setIfInBounds_toArray, List.set_cons_zero, List.set_cons_succ])
        refine wpAnyH_take (i := 26) (v := ?v66) (by simp only [List.getElem?_toArray, List.getElem?_cons_succ, List.getElem?_cons_zero]; rfl) (by kernel_rfl) (by kernel_rfl) (by kernel_rfl) (by exact fun _ _ _ h => h) (Or.inl ⟨by rfl, ?hy66⟩) (by assumption) ?rest66
        case hy66 => (intro w hSw; (try dsimp only at hSw); go_simp; (try with_reducible rfl))
        (try simp only [Act.put, List.setIfInBounds_toArray, List.set_cons_zero, List.set_cons_succ])
        refine wpAnyH_take (i := 28) (v := ?v67) (by simp only [List.getElem?_toArray, List.getElem?_cons_succ, List.getElem?_cons_zero]; rfl) (by kernel_rfl) (by kernel_rfl) (by kernel_rfl) (by exact fun _ _ _ h => h) (Or.inl ⟨by rfl, ?hy67⟩) (by assumption) ?rest67
        case hy67 => (intro w hSw; (try dsimp only at hSw); go_simp; (try with_reducible rfl))
        (try simp only [Act.put, List.setIfInBounds_toArray, List.set_cons_zero, List.set_cons_succ])
        refine wpAnyH_take (i := 29) (v := ?v68) (by simp only [List.getElem?_toArray, List.getElem?_cons_succ, List.getElem?_cons_zero]; rfl) (by kernel_rfl) (by kernel_rfl) (by kernel_rfl) (by exact fun _ _ _ h => h) (Or.inl ⟨by rfl, ?hy68⟩) (by assumption) ?rest68
        case hy68 => (intro w hSw; (try dsimp only at hSw); go_simp; (try with_reducible rfl))
        (try simp only [Act.put, List.setIfInBounds_toArray, List.set_cons_zero, List.set_cons_succ])
        refine wpAnyH_take (i := 32) (v := ?v69) (by simp only [List.getElem?_toArray, List.getElem?_cons_succ, List.getElem?_cons_zero]; rfl) (by kernel_rfl) (by kernel_rfl) (by kernel_rfl) (by exact fun _ _ _ h => h) (Or.inl ⟨by rfl, ?hy69⟩) (by assumption) ?rest69
        case hy69 => (intro w hSw; (try dsimp only at hSw); go_simp; (try with_reducible rfl))
        (try simp only [Act.put, List.setIfInBounds_toArray, List.set_cons_zero, List.set_cons_succ])
        refine wpAnyH_ready (rs := [27]) (by kernel_rfl) (by simp) (AllReadyH.cons (by simp only [List.getElem?_toArray, List.getElem?_cons_succ, List.getElem?_cons_zero]; rfl) (fun K hK => ?_) AllReadyH.nil)
        go_simp
        refine (implWorstOf W L Av m cv ds _ _ _ _ _ hm' (Dfs.drew D8.out)).mono ?_
        rintro e w9 ⟨rfl, hb⟩
        rw [HE.out]
        have KX9 : Hid (Bk w9 w1.heap.size 25 #[.int .i64 W, .int .i64 L, .slice Av m cv]) := hide (Bk.call (Bk.drew KX8.out) hb)
        have KP9 : Hid (Bk w9 (w1.heap.size + 1) 30 #[.int .i64 l, .int .i64 r, .int .i64 f, .int .i64 t]) := hide (Bk.call (Bk.drew KP8.out) hb)
        have KA9 : Hid (Bk w9 w4.heap.size 30 #[.int .i64 l, .int .i64 M, .int .i64 f, .int .i64 t]) := hide (Bk.call (Bk.drew KA8.out) hb)
        have KC9 : Hid (Bk w9 (w4.heap.size + 1) 30 #[.int .i64 M, .int .i64 r, .int .i64 f, .int .i64 t]) := hide (Bk.call (Bk.drew KC8.out) hb)
        have KE9 : Hid (Bk w9 w6.heap.size 30 #[.int .i64 l, .int .i64 r, .int .i64 f, .int .i64 O]) := hide (Bk.call (Bk.drew KE8.out) hb)
        have KF9 : Hid (Bk w9 (w6.heap.size + 1) 30 #[.int .i64 l, .int .i64 r, .int .i64 O, .int .i64 t]) := hide (Bk.call (Bk.drew KF8.out) hb)
        have D9 := hide (Dfs.below (Dfs.drew D8.out) hb)
        have B9 := hide (below_then (below_drewN B8.out 1) hb)
        clear hb x0 x1 x2 p0 p1 p2 p3 a0 a1 a2 a3 c0 c1 c2 c3 e0 e1 e2 e3 f0 f1 f2 f3
        obtain ⟨x0, x1, x2, -, -, -⟩ := KX9.out.three
        obtain ⟨p0, p1, p2, p3⟩ := Bk.four (a := .int .i64 l) (b := .int .i64 r) (c := .int .i64 f) (d := .int .i64 t) KP9.out
        obtain ⟨a0, a1, a2, a3⟩ := Bk.four (a := .int .i64 l) (b := .int .i64 M) (c := .int .i64 f) (d := .int .i64 t) KA9.out
        obtain ⟨c0, c1, c2, c3⟩ := Bk.four (a := .int .i64 M) (b := .int .i64 r) (c := .int .i64 f) (d := .int .i64 t) KC9.out
        obtain ⟨e0, e1, e2, e3⟩ := Bk.four (a := .int .i64 l) (b := .int .i64 r) (c := .int .i64 f) (d := .int .i64 O) KE9.out
        obtain ⟨f0, f1, f2, f3⟩ := Bk.four (a := .int .i64 l) (b := .int .i64 r) (c := .int .i64 O) (d := .int .i64 t) KF9.out
        (try go_wp2_with fail)
        clear hHeld
        refine hK.out _ _ ?hS70 (fun hHeld => ?_)
        case hS70 => ((try dsimp only); (repeat' apply And.intro) <;> (first | (with_reducible assumption) | (rw [World.cell?_drew]; with_reducible assumption) | (rw [World.cell?_setCell_other _ _ _ _ (fun e => by injection e with _ e; cases e)]; with_reducible assumption) | (simp [*]; done)))
        clear hK K
        (try simp only [Act.put, List.setIfInBounds_toArray, List.set_cons_zero, List.set_cons_succ])
        refine wpAnyH_ready (rs := [30]) (by kernel_rfl) (by simp) (AllReadyH.cons (by simp only [List.getElem?_toArray, List.getElem?_cons_succ, List.getElem?_cons_zero]; rfl) (fun K hK => ?_) AllReadyH.nil)
        go_simp
        refine (implWorstOf W L Av m cv ds _ _ _ _ _ hm' (D9.out)).mono ?_
        rintro e w10 ⟨rfl, hb⟩
        rw [HF.out]
        have KX10 : Hid (Bk w10 w1.heap.size 25 #[.int .i64 W, .int .i64 L, .slice Av m cv]) := hide (Bk.call KX9.out hb)
        have KP10 : Hid (Bk w10 (w1.heap.size + 1) 30 #[.int .i64 l, .int .i64 r, .int .i64 f, .int .i64 t]) := hide (Bk.call KP9.out hb)
        have KA10 : Hid (Bk w10 w4.heap.size 30 #[.int .i64 l, .int .i64 M, .int .i64 f, .int .i64 t]) := hide (Bk.call KA9.out hb)
        have KC10 : Hid (Bk w10 (w4.heap.size + 1) 30 #[.int .i64 M, .int .i64 r, .int .i64 f, .int .i64 t]) := hide (Bk.call KC9.out hb)
        have KE10 : Hid (Bk w10 w6.heap.size 30 #[.int .i64 l, .int .i64 r, .int .i64 f, .int .i64 O]) := hide (Bk.call KE9.out hb)
        have KF10 : Hid (Bk w10 (w6.heap.size + 1) 30 #[.int .i64 l, .int .i64 r, .int .i64 O, .int .i64 t]) := hide (Bk.call KF9.out hb)
        have D10 := hide (Dfs.below D9.out hb)
        have B10 := hide (below_then B9.out hb)
        clear hb x0 x1 x2 p0 p1 p2 p3 a0 a1 a2 a3 c0 c1 c2 c3 e0 e1 e2 e3 f0 f1 f2 f3
        obtain ⟨x0, x1, x2, -, -, -⟩ := KX10.out.three
        obtain ⟨p0, p1, p2, p3⟩ := Bk.four (a := .int .i64 l) (b := .int .i64 r) (c := .int .i64 f) (d := .int .i64 t) KP10.out
        obtain ⟨a0, a1, a2, a3⟩ := Bk.four (a := .int .i64 l) (b := .int .i64 M) (c := .int .i64 f) (d := .int .i64 t) KA10.out
        obtain ⟨c0, c1, c2, c3⟩ := Bk.four (a := .int .i64 M) (b := .int .i64 r) (c := .int .i64 f) (d := .int .i64 t) KC10.out
        obtain ⟨e0, e1, e2, e3⟩ := Bk.four (a := .int .i64 l) (b := .int .i64 r) (c := .int .i64 f) (d := .int .i64 O) KE10.out
        obtain ⟨f0, f1, f2, f3⟩ := Bk.four (a := .int .i64 l) (b := .int .i64 r) (c := .int .i64 O) (d := .int .i64 t) KF10.out
        (try go_wp2_with fail)
        clear hHeld
        refine hK.out _ _ ?hS71 (fun hHeld => ?_)
        case hS71 => ((try dsimp only); (repeat' apply And.intro) <;> (first | (with_reducible assumption) | (rw [World.cell?_drew]; with_reducible assumption) | (rw [World.cell?_setCell_other _ _ _ _ (fun e => by injection e with _ e; cases e)]; with_reducible assumption) | (simp [*]; done)))
        clear hK K
        (try simp only [Act.put, List.setIfInBounds_toArray, List.set_cons_zero, List.set_cons_succ])
        refine wpAnyH_take (i := 31) (v := ?v72) (by simp only [List.getElem?_toArray, List.getElem?_cons_succ, List.getElem?_cons_zero]; rfl) (by kernel_rfl) (by kernel_rfl) (by kernel_rfl) (by exact fun _ _ _ h => h) (Or.inl ⟨by rfl, ?hy72⟩) (by assumption) ?rest72
        case hy72 => (intro w hSw; (try dsimp only at hSw); go_simp; (try with_reducible rfl))
        (try simp only [Act.put, List.setIfInBounds_toArray, List.set_cons_zero, List.set_cons_succ])
        (try simp only [hy1])
        (try simp only [hy2])
        refine wpAnyH_take (i := 33) (v := ?v73) (by simp only [List.getElem?_toArray, List.getElem?_cons_succ, List.getElem?_cons_zero]; rfl) (by kernel_rfl) (by kernel_rfl) (by kernel_rfl) (by exact fun _ _ _ h => h) (Or.inl ⟨by rfl, ?hy73⟩) (by assumption) ?rest73
        case hy73 => (intro w hSw; (try dsimp only at hSw); go_simp; (try with_reducible rfl))
        (try simp only [Act.put, List.setIfInBounds_toArray, List.set_cons_zero, List.set_cons_succ])
        refine wpAnyH_take (i := 34) (v := ?v74) (by simp only [List.getElem?_toArray, List.getElem?_cons_succ, List.getElem?_cons_zero]; rfl) (by kernel_rfl) (by kernel_rfl) (by kernel_rfl) (by exact fun _ _ _ h => h) (Or.inl ⟨by rfl, ?hy74⟩) (by assumption) ?rest74
        case hy74 => (intro w hSw; (try dsimp only at hSw); go_simp; (try with_reducible rfl))
        (try simp only [Act.put, List.setIfInBounds_toArray, List.set_cons_zero, List.set_cons_succ])
        refine wpAnyH_take (i := 35) (v := ?v75) (by simp only [List.getElem?_toArray, List.getElem?_cons_succ, List.getElem?_cons_zero]; rfl) (by kernel_rfl) (by kernel_rfl) (by kernel_rfl) (by exact fun _ _ _ h => h) (Or.inl ⟨by rfl, ?hy75⟩) (by assumption) ?rest75
        case hy75 => (intro w hSw; (try dsimp only at hSw); go_simp; (try with_reducible rfl))
        (try simp only [Act.put, List.setIfInBounds_toArray, List.set_cons_zero, List.set_cons_succ])
        refine wpAnyH_take (i := 36) (v := ?v76) (by simp only [List.getElem?_toArray, List.getElem?_cons_succ, List.getElem?_cons_zero]; rfl) (by kernel_rfl) (by kernel_rfl) (by kernel_rfl) (by exact fun _ _ _ h => h) (Or.inl ⟨by rfl, ?hy76⟩) (by assumption) ?rest76
        case hy76 => (intro w hSw; (try dsimp only at hSw); go_simp; (try with_reducible rfl))
        (try simp only [Act.put, List.setIfInBounds_toArray, List.set_cons_zero, List.set_cons_succ])
        refine wpAnyH_done (by kernel_rfl) ?_ _
        go_wp2_with fail
        go_ret
        exact ⟨ret_bool (by first | rfl | simp), B10.out⟩
    · have hd1 : decide (r - l < 2) = false := decide_eq_false q1
      obtain ⟨ha, hc, hmx⟩ := half_facts (m := M) HVR.out HVP.out (by have := HM.out; omega) (by have := HM.out; omega)
      rw [HX.out] at hmx
      generalize wst ds l M f t ds.length = wa at ha hmx
      generalize wst ds M r f t ds.length = wb at hc hmx
      have HA := hide ha; have HC := hide hc
      have hx1 := max_ite hmx; have hx2 := max_ite2 hmx
      clear ha hc hmx
      by_cases q2 : t - f < 2
      · have hd2 : decide (t - f < 2) = true := decide_eq_true q2
        clear q1 q2
        refine wp_region_held_drew (S := fun w' => w'.cell? ⟨w1.heap.size, 0, none⟩ = some (.int .i64 W) ∧ w'.cell? ⟨w1.heap.size, 1, none⟩ = some (.int .i64 L) ∧ w'.cell? ⟨w1.heap.size, 2, none⟩ = some (.slice Av m cv) ∧ w'.cell? ⟨w1.heap.size + 1, 0, none⟩ = some (.int .i64 l) ∧ w'.cell? ⟨w1.heap.size + 1, 1, none⟩ = some (.int .i64 r) ∧ w'.cell? ⟨w1.heap.size + 1, 2, none⟩ = some (.int .i64 f) ∧ w'.cell? ⟨w1.heap.size + 1, 3, none⟩ = some (.int .i64 t) ∧ w'.cell? ⟨w4.heap.size, 0, none⟩ = some (.int .i64 l) ∧ w'.cell? ⟨w4.heap.size, 1, none⟩ = some (.int .i64 M) ∧ w'.cell? ⟨w4.heap.size, 2, none⟩ = some (.int .i64 f) ∧ w'.cell? ⟨w4.heap.size, 3, none⟩ = some (.int .i64 t) ∧ w'.cell? ⟨w4.heap.size + 1, 0, none⟩ = some (.int .i64 M) ∧ w'.cell? ⟨w4.heap.size + 1, 1, none⟩ = some (.int .i64 r) ∧ w'.cell? ⟨w4.heap.size + 1, 2, none⟩ = some (.int .i64 f) ∧ w'.cell? ⟨w4.heap.size + 1, 3, none⟩ = some (.int .i64 t) ∧ w'.cell? ⟨w6.heap.size, 0, none⟩ = some (.int .i64 l) ∧ w'.cell? ⟨w6.heap.size, 1, none⟩ = some (.int .i64 r) ∧ w'.cell? ⟨w6.heap.size, 2, none⟩ = some (.int .i64 f) ∧ w'.cell? ⟨w6.heap.size, 3, none⟩ = some (.int .i64 O) ∧ w'.cell? ⟨w6.heap.size + 1, 0, none⟩ = some (.int .i64 l) ∧ w'.cell? ⟨w6.heap.size + 1, 1, none⟩ = some (.int .i64 r) ∧ w'.cell? ⟨w6.heap.size + 1, 2, none⟩ = some (.int .i64 O) ∧ w'.cell? ⟨w6.heap.size + 1, 3, none⟩ = some (.int .i64 t)) (by kernel_rfl) ?hS77 (fun hHeld => ?_)
        case hS77 => ((try dsimp only); (repeat' apply And.intro) <;> (first | (with_reducible assumption) | (rw [World.cell?_drew]; with_reducible assumption) | (rw [World.cell?_setCell_other _ _ _ _ (fun e => by injection e with _ e; cases e)]; with_reducible assumption) | (simp [*]; done)))
        refine wpAnyH_take (i := 0) (v := ?v78) (by simp only [List.getElem?_toArray, List.getElem?_cons_zero]; rfl) (by kernel_rfl) (by kernel_rfl) (by kernel_rfl) (by exact fun _ _ _ h => h) (Or.inl ⟨by rfl, ?hy78⟩) (by assumption) ?rest78
        case hy78 => (intro w hSw; (try dsimp only at hSw); go_simp; (try with_reducible rfl))
        (try simp only [Act.put, List.setIfInBounds_toArray, List.set_cons_zero, List.set_cons_succ])
        refine wpAnyH_take (i := 1) (v := ?v79) (by simp only [List.getElem?_toArray, List.getElem?_cons_succ, List.getElem?_cons_zero]; rfl) (by kernel_rfl) (by kernel_rfl) (by kernel_rfl) (by exact fun _ _ _ h => h) (Or.inl ⟨by rfl, ?hy79⟩) (by assumption) ?rest79
        case hy79 => (intro w hSw; (try dsimp only at hSw); go_simp; (try with_reducible rfl))
        (try simp only [Act.put, List.setIfInBounds_toArray, List.set_cons_zero, List.set_cons_succ])
        refine wpAnyH_take (i := 2) (v := ?v80) (by simp only [List.getElem?_toArray, List.getElem?_cons_succ, List.getElem?_cons_zero]; rfl) (by kernel_rfl) (by kernel_rfl) (by kernel_rfl) (by exact fun _ _ _ h => h) (Or.inl ⟨by rfl, ?hy80⟩) (by assumption) ?rest80
        case hy80 => (intro w hSw; (try dsimp only at hSw); go_simp; (try with_reducible rfl))
        (try simp only [Act.put, List.setIfInBounds_toArray, List.set_cons_zero, List.set_cons_succ])
        refine wpAnyH_take (i := 3) (v := ?v81) (by simp only [List.getElem?_toArray, List.getElem?_cons_succ, List.getElem?_cons_zero]; rfl) (by kernel_rfl) (by kernel_rfl) (by kernel_rfl) (by exact fun _ _ _ h => h) (Or.inl ⟨by rfl, ?hy81⟩) (by assumption) ?rest81
        case hy81 => (intro w hSw; (try dsimp only at hSw); go_simp; (try with_reducible rfl))
        (try simp only [Act.put, List.setIfInBounds_toArray, List.set_cons_zero, List.set_cons_succ])
        refine wpAnyH_take (i := 4) (v := ?v82) (by simp only [List.getElem?_toArray, List.getElem?_cons_succ, List.getElem?_cons_zero]; rfl) (by kernel_rfl) (by kernel_rfl) (by kernel_rfl) (by exact fun _ _ _ h => h) (Or.inl ⟨by rfl, ?hy82⟩) (by assumption) ?rest82
        case hy82 => (intro w hSw; (try dsimp only at hSw); go_simp; (try with_reducible rfl))
        (try simp only [Act.put, List.setIfInBounds_toArray, List.set_cons_zero, List.set_cons_succ])
        refine wpAnyH_take (i := 5) (v := ?v83) (by simp only [List.getElem?_toArray, List.getElem?_cons_succ, List.getElem?_cons_zero]; rfl) (by kernel_rfl) (by kernel_rfl) (by kernel_rfl) (by exact fun _ _ _ h => h) (Or.inl ⟨by rfl, ?hy83⟩) (by assumption) ?rest83
        case hy83 => (intro w hSw; (try dsimp only at hSw); go_simp; (try with_reducible rfl))
        (try simp only [Act.put, List.setIfInBounds_toArray, List.set_cons_zero, List.set_cons_succ])
        (try simp only [hd1])
        refine wpAnyH_take (i := 6) (v := ?v84) (by simp only [List.getElem?_toArray, List.getElem?_cons_succ, List.getElem?_cons_zero]; rfl) (by kernel_rfl) (by kernel_rfl) (by kernel_rfl) (by exact fun _ _ _ h => h) (Or.inl ⟨by rfl, ?hy84⟩) (by assumption) ?rest84
        case hy84 => (intro w hSw; (try dsimp only at hSw); go_simp; (try with_reducible rfl))
        (try simp only [Act.put, List.setIfInBounds_toArray, List.set_cons_zero, List.set_cons_succ])
        (try simp only [hd1])
        refine wpAnyH_take (i := 7) (v := ?v85) (by simp only [List.getElem?_toArray, List.getElem?_cons_succ, List.getElem?_cons_zero]; rfl) (by kernel_rfl) (by kernel_rfl) (by kernel_rfl) (by exact fun _ _ _ h => h) (Or.inl ⟨by rfl, ?hy85⟩) (by assumption) ?rest85
        case hy85 => (intro w hSw; (try dsimp only at hSw); go_simp; (try with_reducible rfl))
        (try simp only [Act.put, List.setIfInBounds_toArray, List.set_cons_zero, List.set_cons_succ])
        refine wpAnyH_take (i := 8) (v := ?v86) (by simp only [List.getElem?_toArray, List.getElem?_cons_succ, List.getElem?_cons_zero]; rfl) (by kernel_rfl) (by kernel_rfl) (by kernel_rfl) (by exact fun _ _ _ h => h) (Or.inl ⟨by rfl, ?hy86⟩) (by assumption) ?rest86
        case hy86 => (intro w hSw; (try dsimp only at hSw); go_simp; (try with_reducible rfl))
        (try simp only [Act.put, List.setIfInBounds_toArray, List.set_cons_zero, List.set_cons_succ])
        refine wpAnyH_take (i := 10) (v := ?v87) (by simp only [List.getElem?_toArray, List.getElem?_cons_succ, List.getElem?_cons_zero]; rfl) (by kernel_rfl) (by kernel_rfl) (by kernel_rfl) (by exact fun _ _ _ h => h) (Or.inl ⟨by rfl, ?hy87⟩) (by assumption) ?rest87
        case hy87 => (intro w hSw; (try dsimp only at hSw); go_simp; (try with_reducible rfl))
        (try simp only [Act.put, List.setIfInBounds_toArray, List.set_cons_zero, List.set_cons_succ])
        refine wpAnyH_take (i := 11) (v := ?v88) (by simp only [List.getElem?_toArray, List.getElem?_cons_succ, List.getElem?_cons_zero]; rfl) (by kernel_rfl) (by kernel_rfl) (by kernel_rfl) (by exact fun _ _ _ h => h) (Or.inl ⟨by rfl, ?hy88⟩) (by assumption) ?rest88
        case hy88 => (intro w hSw; (try dsimp only at hSw); go_simp; (try with_reducible rfl))
        (try simp only [Act.put, List.setIfInBounds_toArray, List.set_cons_zero, List.set_cons_succ])
        refine wpAnyH_take (i := 14) (v := ?v89) (by simp only [List.getElem?_toArray, List.getElem?_cons_succ, List.getElem?_cons_zero]; rfl) (by kernel_rfl) (by kernel_rfl) (by kernel_rfl) (by exact fun _ _ _ h => h) (Or.inl ⟨by rfl, ?hy89⟩) (by assumption) ?rest89
        case hy89 => (intro w hSw; (try dsimp only at hSw); go_simp; (try with_reducible rfl))
        (try simp only [Act.put, List.setIfInBounds_toArray, List.set_cons_zero, List.set_cons_succ])
        refine wpAnyH_ready (rs := [9]) (by kernel_rfl) (by simp) (AllReadyH.cons (by simp only [List.getElem?_toArray, List.getElem?_cons_succ, List.getElem?_cons_zero]; rfl) (fun K hK => ?_) AllReadyH.nil)
        go_simp
        refine (implWorstOf W L Av m cv ds _ _ _ _ _ hm' (Dfs.drew D8.out)).mono ?_
        rintro e w9 ⟨rfl, hb⟩
        rw [HA.out]
        have KX9 : Hid (Bk w9 w1.heap.size 25 #[.int .i64 W, .int .i64 L, .slice Av m cv]) := hide (Bk.call (Bk.drew KX8.out) hb)
        have KP9 : Hid (Bk w9 (w1.heap.size + 1) 30 #[.int .i64 l, .int .i64 r, .int .i64 f, .int .i64 t]) := hide (Bk.call (Bk.drew KP8.out) hb)
        have KA9 : Hid (Bk w9 w4.heap.size 30 #[.int .i64 l, .int .i64 M, .int .i64 f, .int .i64 t]) := hide (Bk.call (Bk.drew KA8.out) hb)
        have KC9 : Hid (Bk w9 (w4.heap.size + 1) 30 #[.int .i64 M, .int .i64 r, .int .i64 f, .int .i64 t]) := hide (Bk.call (Bk.drew KC8.out) hb)
        have KE9 : Hid (Bk w9 w6.heap.size 30 #[.int .i64 l, .int .i64 r, .int .i64 f, .int .i64 O]) := hide (Bk.call (Bk.drew KE8.out) hb)
        have KF9 : Hid (Bk w9 (w6.heap.size + 1) 30 #[.int .i64 l, .int .i64 r, .int .i64 O, .int .i64 t]) := hide (Bk.call (Bk.drew KF8.out) hb)
        have D9 := hide (Dfs.below (Dfs.drew D8.out) hb)
        have B9 := hide (below_then (below_drewN B8.out 1) hb)
        clear hb x0 x1 x2 p0 p1 p2 p3 a0 a1 a2 a3 c0 c1 c2 c3 e0 e1 e2 e3 f0 f1 f2 f3
        obtain ⟨x0, x1, x2, -, -, -⟩ := KX9.out.three
        obtain ⟨p0, p1, p2, p3⟩ := Bk.four (a := .int .i64 l) (b := .int .i64 r) (c := .int .i64 f) (d := .int .i64 t) KP9.out
        obtain ⟨a0, a1, a2, a3⟩ := Bk.four (a := .int .i64 l) (b := .int .i64 M) (c := .int .i64 f) (d := .int .i64 t) KA9.out
        obtain ⟨c0, c1, c2, c3⟩ := Bk.four (a := .int .i64 M) (b := .int .i64 r) (c := .int .i64 f) (d := .int .i64 t) KC9.out
        obtain ⟨e0, e1, e2, e3⟩ := Bk.four (a := .int .i64 l) (b := .int .i64 r) (c := .int .i64 f) (d := .int .i64 O) KE9.out
        obtain ⟨f0, f1, f2, f3⟩ := Bk.four (a := .int .i64 l) (b := .int .i64 r) (c := .int .i64 O) (d := .int .i64 t) KF9.out
        (try go_wp2_with fail)
        clear hHeld
        refine hK.out _ _ ?hS90 (fun hHeld => ?_)
        case hS90 => ((try dsimp only); (repeat' apply And.intro) <;> (first | (with_reducible assumption) | (rw [World.cell?_drew]; with_reducible assumption) | (rw [World.cell?_setCell_other _ _ _ _ (fun e => by injection e with _ e; cases e)]; with_reducible assumption) | (simp [*]; done)))
        clear hK K
        (try simp only [Act.put, List.setIfInBounds_toArray, List.set_cons_zero, List.set_cons_succ])
        refine wpAnyH_ready (rs := [12]) (by kernel_rfl) (by simp) (AllReadyH.cons (by simp only [List.getElem?_toArray, List.getElem?_cons_succ, List.getElem?_cons_zero]; rfl) (fun K hK => ?_) AllReadyH.nil)
        go_simp
        refine (implWorstOf W L Av m cv ds _ _ _ _ _ hm' (D9.out)).mono ?_
        rintro e w10 ⟨rfl, hb⟩
        rw [HC.out]
        have KX10 : Hid (Bk w10 w1.heap.size 25 #[.int .i64 W, .int .i64 L, .slice Av m cv]) := hide (Bk.call KX9.out hb)
        have KP10 : Hid (Bk w10 (w1.heap.size + 1) 30 #[.int .i64 l, .int .i64 r, .int .i64 f, .int .i64 t]) := hide (Bk.call KP9.out hb)
        have KA10 : Hid (Bk w10 w4.heap.size 30 #[.int .i64 l, .int .i64 M, .int .i64 f, .int .i64 t]) := hide (Bk.call KA9.out hb)
        have KC10 : Hid (Bk w10 (w4.heap.size + 1) 30 #[.int .i64 M, .int .i64 r, .int .i64 f, .int .i64 t]) := hide (Bk.call KC9.out hb)
        have KE10 : Hid (Bk w10 w6.heap.size 30 #[.int .i64 l, .int .i64 r, .int .i64 f, .int .i64 O]) := hide (Bk.call KE9.out hb)
        have KF10 : Hid (Bk w10 (w6.heap.size + 1) 30 #[.int .i64 l, .int .i64 r, .int .i64 O, .int .i64 t]) := hide (Bk.call KF9.out hb)
        have D10 := hide (Dfs.below D9.out hb)
        have B10 := hide (below_then B9.out hb)
        clear hb x0 x1 x2 p0 p1 p2 p3 a0 a1 a2 a3 c0 c1 c2 c3 e0 e1 e2 e3 f0 f1 f2 f3
        obtain ⟨x0, x1, x2, -, -, -⟩ := KX10.out.three
        obtain ⟨p0, p1, p2, p3⟩ := Bk.four (a := .int .i64 l) (b := .int .i64 r) (c := .int .i64 f) (d := .int .i64 t) KP10.out
        obtain ⟨a0, a1, a2, a3⟩ := Bk.four (a := .int .i64 l) (b := .int .i64 M) (c := .int .i64 f) (d := .int .i64 t) KA10.out
        obtain ⟨c0, c1, c2, c3⟩ := Bk.four (a := .int .i64 M) (b := .int .i64 r) (c := .int .i64 f) (d := .int .i64 t) KC10.out
        obtain ⟨e0, e1, e2, e3⟩ := Bk.four (a := .int .i64 l) (b := .int .i64 r) (c := .int .i64 f) (d := .int .i64 O) KE10.out
        obtain ⟨f0, f1, f2, f3⟩ := Bk.four (a := .int .i64 l) (b := .int .i64 r) (c := .int .i64 O) (d := .int .i64 t) KF10.out
        (try go_wp2_with fail)
        clear hHeld
        refine hK.out _ _ ?hS91 (fun hHeld => ?_)
        case hS91 => ((try dsimp only); (repeat' apply And.intro) <;> (first | (with_reducible assumption) | (rw [World.cell?_drew]; with_reducible assumption) | (rw [World.cell?_setCell_other _ _ _ _ (fun e => by injection e with _ e; cases e)]; with_reducible assumption) | (simp [*]; done)))
        clear hK K
        (try simp only [Act.put, List.setIfInBounds_toArray, List.set_cons_zero, List.set_cons_succ])
        refine wpAnyH_take (i := 13) (v := ?v92) (by simp only [List.getElem?_toArray, List.getElem?_cons_succ, List.getElem?_cons_zero]; rfl) (by kernel_rfl) (by kernel_rfl) (by kernel_rfl) (by exact fun _ _ _ h => h) (Or.inl ⟨by rfl, ?hy92⟩) (by assumption) ?rest92
        case hy92 => (intro w hSw; (try dsimp only at hSw); go_simp; (try with_reducible rfl))
        (try simp only [Act.put, List.setIfInBounds_toArray, List.set_cons_zero, List.set_cons_succ])
        (try simp only [hx1])
        (try simp only [hx2])
        refine wpAnyH_take (i := 15) (v := ?v93) (by simp only [List.getElem?_toArray, List.getElem?_cons_succ, List.getElem?_cons_zero]; rfl) (by kernel_rfl) (by kernel_rfl) (by kernel_rfl) (by exact fun _ _ _ h => h) (Or.inl ⟨by rfl, ?hy93⟩) (by assumption) ?rest93
        case hy93 => (intro w hSw; (try dsimp only at hSw); go_simp; (try with_reducible rfl))
        (try simp only [Act.put, List.setIfInBounds_toArray, List.set_cons_zero, List.set_cons_succ])
        refine wpAnyH_take (i := 16) (v := ?v94) (by simp only [List.getElem?_toArray, List.getElem?_cons_succ, List.getElem?_cons_zero]; rfl) (by kernel_rfl) (by kernel_rfl) (by kernel_rfl) (by exact fun _ _ _ h => h) (Or.inl ⟨by rfl, ?hy94⟩) (by assumption) ?rest94
        case hy94 => (intro w hSw; (try dsimp only at hSw); go_simp; (try with_reducible rfl))
        (try simp only [Act.put, List.setIfInBounds_toArray, List.set_cons_zero, List.set_cons_succ])
        refine wpAnyH_take (i := 17) (v := ?v95) (by simp only [List.getElem?_toArray, List.getElem?_cons_succ, List.getElem?_cons_zero]; rfl) (by kernel_rfl) (by kernel_rfl) (by kernel_rfl) (by exact fun _ _ _ h => h) (Or.inl ⟨by rfl, ?hy95⟩) (by assumption) ?rest95
        case hy95 => (intro w hSw; (try dsimp only at hSw); go_simp; (try with_reducible rfl))
        (try simp only [Act.put, List.setIfInBounds_toArray, List.set_cons_zero, List.set_cons_succ])
        refine wpAnyH_take (i := 18) (v := ?v96) (by simp only [List.getElem?_toArray, List.getElem?_cons_succ, List.getElem?_cons_zero]; rfl) (by kernel_rfl) (by kernel_rfl) (by kernel_rfl) (by exact fun _ _ _ h => h) (Or.inl ⟨by rfl, ?hy96⟩) (by assumption) ?rest96
        case hy96 => (intro w hSw; (try dsimp only at hSw); go_simp; (try with_reducible rfl))
        (try simp only [Act.put, List.setIfInBounds_toArray, List.set_cons_zero, List.set_cons_succ])
        refine wpAnyH_take (i := 19) (v := ?v97) (by simp only [List.getElem?_toArray, List.getElem?_cons_succ, List.getElem?_cons_zero]; rfl) (by kernel_rfl) (by kernel_rfl) (by kernel_rfl) (by exact fun _ _ _ h => h) (Or.inl ⟨by rfl, ?hy97⟩) (by assumption) ?rest97
        case hy97 => (intro w hSw; (try dsimp only at hSw); go_simp; (try with_reducible rfl))
        (try simp only [Act.put, List.setIfInBounds_toArray, List.set_cons_zero, List.set_cons_succ])
        refine wpAnyH_take (i := 20) (v := ?v98) (by simp only [List.getElem?_toArray, List.getElem?_cons_succ, List.getElem?_cons_zero]; rfl) (by kernel_rfl) (by kernel_rfl) (by kernel_rfl) (by exact fun _ _ _ h => h) (Or.inl ⟨by rfl, ?hy98⟩) (by assumption) ?rest98
        case hy98 => (intro w hSw; (try dsimp only at hSw); go_simp; (try with_reducible rfl))
        (try simp only [Act.put, List.setIfInBounds_toArray, List.set_cons_zero, List.set_cons_succ])
        refine wpAnyH_take (i := 21) (v := ?v99) (by simp only [List.getElem?_toArray, List.getElem?_cons_succ, List.getElem?_cons_zero]; rfl) (by kernel_rfl) (by kernel_rfl) (by kernel_rfl) (by exact fun _ _ _ h => h) (Or.inl ⟨by rfl, ?hy99⟩) (by assumption) ?rest99
        case hy99 => (intro w hSw; (try dsimp only at hSw); go_simp; (try with_reducible rfl))
        (try simp only [Act.put, List.setIfInBounds_toArray, List.set_cons_zero, List.set_cons_succ])
        refine wpAnyH_take (i := 22) (v := ?v100) (by simp only [List.getElem?_toArray, List.getElem?_cons_succ, List.getElem?_cons_zero]; rfl) (by kernel_rfl) (by kernel_rfl) (by kernel_rfl) (by exact fun _ _ _ h => h) (Or.inl ⟨by rfl, ?hy100⟩) (by assumption) ?rest100
        case hy100 => (intro w hSw; (try dsimp only at hSw); go_simp; (try with_reducible rfl))
        (try simp only [Act.put, List.setIfInBounds_toArray, List.set_cons_zero, List.set_cons_succ])
        refine wpAnyH_take (i := 23) (v := ?v101) (by simp only [List.getElem?_toArray, List.getElem?_cons_succ, List.getElem?_cons_zero]; rfl) (by kernel_rfl) (by kernel_rfl) (by kernel_rfl) (by exact fun _ _ _ h => h) (Or.inl ⟨by rfl, ?hy101⟩) (by assumption) ?rest101
        case hy101 => (intro w hSw; (try dsimp only at hSw); go_simp; (try with_reducible rfl))
        (try simp only [Act.put, List.setIfInBounds_toArray, List.set_cons_zero, List.set_cons_succ])
        (try simp only [hd2])
        refine wpAnyH_take (i := 24) (v := ?v102) (by simp only [List.getElem?_toArray, List.getElem?_cons_succ, List.getElem?_cons_zero]; rfl) (by kernel_rfl) (by kernel_rfl) (by kernel_rfl) (by exact fun _ _ _ h => h) (Or.inl ⟨by rfl, ?hy102⟩) (by assumption) ?rest102
        case hy102 => (intro w hSw; (try dsimp only at hSw); go_simp; (try with_reducible rfl))
        (try simp only [Act.put, List.setIfInBounds_toArray, List.set_cons_zero, List.set_cons_succ])
        (try simp only [hd2])
        refine wpAnyH_take (i := 25) (v := undef) (by simp only [List.getElem?_toArray, List.getElem?_cons_succ, List.getElem?_cons_zero]; rfl) (by kernel_rfl) (by kernel_rfl) (by kernel_rfl) (by exact fun _ _ _ h => h) (Or.inr ⟨by rfl, rfl⟩) (by assumption) ?_
        (try simp only [Act.put, List.setIfInBounds_toArray, List.set_cons_zero, List.set_cons_succ])
        refine wpAnyH_take (i := 26) (v := undef) (by simp only [List.getElem?_toArray, List.getElem?_cons_succ, List.getElem?_cons_zero]; rfl) (by kernel_rfl) (by kernel_rfl) (by kernel_rfl) (by exact fun _ _ _ h => h) (Or.inr ⟨by rfl, rfl⟩) (by assumption) ?_
        (try simp only [Act.put, List.setIfInBounds_toArray, List.set_cons_zero, List.set_cons_succ])
        refine wpAnyH_take (i := 27) (v := undef) (by simp only [List.getElem?_toArray, List.getElem?_cons_succ, List.getElem?_cons_zero]; rfl) (by kernel_rfl) (by kernel_rfl) (by kernel_rfl) (by exact fun _ _ _ h => h) (Or.inr ⟨by rfl, rfl⟩) (by assumption) ?_
        (try simp only [Act.put, List.setIfInBounds_toArray, List.set_cons_zero, List.set_cons_succ])
        refine wpAnyH_take (i := 28) (v := undef) (by simp only [List.getElem?_toArray, List.getElem?_cons_succ, List.getElem?_cons_zero]; rfl) (by kernel_rfl) (by kernel_rfl) (by kernel_rfl) (by exact fun _ _ _ h => h) (Or.inr ⟨by rfl, rfl⟩) (by assumption) ?_
        (try simp only [Act.put, List.setIfInBounds_toArray, List.set_cons_zero, List.set_cons_succ])
        refine wpAnyH_take (i := 29) (v := undef) (by simp only [List.getElem?_toArray, List.getElem?_cons_succ, List.getElem?_cons_zero]; rfl) (by kernel_rfl) (by kernel_rfl) (by kernel_rfl) (by exact fun _ _ _ h => h) (Or.inr ⟨by rfl, rfl⟩) (by assumption) ?_
        (try simp only [Act.put, List.setIfInBounds_toArray, List.set_cons_zero, List.set_cons_succ])
        refine wpAnyH_take (i := 30) (v := undef) (by simp only [List.getElem?_toArray, List.getElem?_cons_succ, List.getElem?_cons_zero]; rfl) (by kernel_rfl) (by kernel_rfl) (by kernel_rfl) (by exact fun _ _ _ h => h) (Or.inr ⟨by rfl, rfl⟩) (by assumption) ?_
        (try simp only [Act.put, List.setIfInBounds_toArray, List.set_cons_zero, List.set_cons_succ])
        refine wpAnyH_take (i := 31) (v := undef) (by simp only [List.getElem?_toArray, List.getElem?_cons_succ, List.getElem?_cons_zero]; rfl) (by kernel_rfl) (by kernel_rfl) (by kernel_rfl) (by exact fun _ _ _ h => h) (Or.inr ⟨by rfl, rfl⟩) (by assumption) ?_
        (try simp only [Act.put, List.setIfInBounds_toArray, List.set_cons_zero, List.set_cons_succ])
        refine wpAnyH_take (i := 32) (v := undef) (by simp only [List.getElem?_toArray, List.getElem?_cons_succ, List.getElem?_cons_zero]; rfl) (by kernel_rfl) (by kernel_rfl) (by kernel_rfl) (by exact fun _ _ _ h => h) (Or.inr ⟨by rfl, rfl⟩) (by assumption) ?_
        (try simp only [Act.put, List.setIfInBounds_toArray, List.set_cons_zero, List.set_cons_succ])
        refine wpAnyH_take (i := 33) (v := undef) (by simp only [List.getElem?_toArray, List.getElem?_cons_succ, List.getElem?_cons_zero]; rfl) (by kernel_rfl) (by kernel_rfl) (by kernel_rfl) (by exact fun _ _ _ h => h) (Or.inr ⟨by rfl, rfl⟩) (by assumption) ?_
        (try simp only [Act.put, List.setIfInBounds_toArray, List.set_cons_zero, List.set_cons_succ])
        refine wpAnyH_take (i := 34) (v := ?v112) (by simp only [List.getElem?_toArray, List.getElem?_cons_succ, List.getElem?_cons_zero]; rfl) (by kernel_rfl) (by kernel_rfl) (by kernel_rfl) (by exact fun _ _ _ h => h) (Or.inl ⟨by rfl, ?hy112⟩) (by assumption) ?rest112
        case hy112 => (intro w hSw; (try dsimp only at hSw); go_simp; (try with_reducible rfl))
        (try simp only [Act.put, List.setIfInBounds_toArray, List.set_cons_zero, List.set_cons_succ])
        refine wpAnyH_take (i := 35) (v := ?v113) (by simp only [List.getElem?_toArray, List.getElem?_cons_succ, List.getElem?_cons_zero]; rfl) (by kernel_rfl) (by kernel_rfl) (by kernel_rfl) (by exact fun _ _ _ h => h) (Or.inl ⟨by rfl, ?hy113⟩) (by assumption) ?rest113
        case hy113 => (intro w hSw; (try dsimp only at hSw); go_simp; (try with_reducible rfl))
        (try simp only [Act.put, List.setIfInBounds_toArray, List.set_cons_zero, List.set_cons_succ])
        refine wpAnyH_take (i := 36) (v := ?v114) (by simp only [List.getElem?_toArray, List.getElem?_cons_succ, List.getElem?_cons_zero]; rfl) (by kernel_rfl) (by kernel_rfl) (by kernel_rfl) (by exact fun _ _ _ h => h) (Or.inl ⟨by rfl, ?hy114⟩) (by assumption) ?rest114
        case hy114 => (intro w hSw; (try dsimp only at hSw); go_simp; (try with_reducible rfl))
        (try simp only [Act.put, List.setIfInBounds_toArray, List.set_cons_zero, List.set_cons_succ])
        refine wpAnyH_done (by kernel_rfl) ?_ _
        go_wp2_with fail
        go_ret
        exact ⟨ret_bool (by first | rfl | simp), B10.out⟩
      · have hd2 : decide (t - f < 2) = false := decide_eq_false q2
        obtain ⟨ha, hc, hmx⟩ := half_facts2 (m := O) HVR.out HVP.out (by have := HO.out; omega) (by have := HO.out; omega)
        rw [HX.out] at hmx
        generalize wst ds l r f O ds.length = we at ha hmx
        generalize wst ds l r O t ds.length = wf at hc hmx
        have HE := hide ha; have HF := hide hc
        have hy1 := max_ite hmx; have hy2 := max_ite2 hmx
        clear ha hc hmx
        clear q1 q2
        refine wp_region_held_drew (S := fun w' => w'.cell? ⟨w1.heap.size, 0, none⟩ = some (.int .i64 W) ∧ w'.cell? ⟨w1.heap.size, 1, none⟩ = some (.int .i64 L) ∧ w'.cell? ⟨w1.heap.size, 2, none⟩ = some (.slice Av m cv) ∧ w'.cell? ⟨w1.heap.size + 1, 0, none⟩ = some (.int .i64 l) ∧ w'.cell? ⟨w1.heap.size + 1, 1, none⟩ = some (.int .i64 r) ∧ w'.cell? ⟨w1.heap.size + 1, 2, none⟩ = some (.int .i64 f) ∧ w'.cell? ⟨w1.heap.size + 1, 3, none⟩ = some (.int .i64 t) ∧ w'.cell? ⟨w4.heap.size, 0, none⟩ = some (.int .i64 l) ∧ w'.cell? ⟨w4.heap.size, 1, none⟩ = some (.int .i64 M) ∧ w'.cell? ⟨w4.heap.size, 2, none⟩ = some (.int .i64 f) ∧ w'.cell? ⟨w4.heap.size, 3, none⟩ = some (.int .i64 t) ∧ w'.cell? ⟨w4.heap.size + 1, 0, none⟩ = some (.int .i64 M) ∧ w'.cell? ⟨w4.heap.size + 1, 1, none⟩ = some (.int .i64 r) ∧ w'.cell? ⟨w4.heap.size + 1, 2, none⟩ = some (.int .i64 f) ∧ w'.cell? ⟨w4.heap.size + 1, 3, none⟩ = some (.int .i64 t) ∧ w'.cell? ⟨w6.heap.size, 0, none⟩ = some (.int .i64 l) ∧ w'.cell? ⟨w6.heap.size, 1, none⟩ = some (.int .i64 r) ∧ w'.cell? ⟨w6.heap.size, 2, none⟩ = some (.int .i64 f) ∧ w'.cell? ⟨w6.heap.size, 3, none⟩ = some (.int .i64 O) ∧ w'.cell? ⟨w6.heap.size + 1, 0, none⟩ = some (.int .i64 l) ∧ w'.cell? ⟨w6.heap.size + 1, 1, none⟩ = some (.int .i64 r) ∧ w'.cell? ⟨w6.heap.size + 1, 2, none⟩ = some (.int .i64 O) ∧ w'.cell? ⟨w6.heap.size + 1, 3, none⟩ = some (.int .i64 t)) (by kernel_rfl) ?hS115 (fun hHeld => ?_)
        case hS115 => ((try dsimp only); (repeat' apply And.intro) <;> (first | (with_reducible assumption) | (rw [World.cell?_drew]; with_reducible assumption) | (rw [World.cell?_setCell_other _ _ _ _ (fun e => by injection e with _ e; cases e)]; with_reducible assumption) | (simp [*]; done)))
        refine wpAnyH_take (i := 0) (v := ?v116) (by simp only [List.getElem?_toArray, List.getElem?_cons_zero]; rfl) (by kernel_rfl) (by kernel_rfl) (by kernel_rfl) (by exact fun _ _ _ h => h) (Or.inl ⟨by rfl, ?hy116⟩) (by assumption) ?rest116
        case hy116 => (intro w hSw; (try dsimp only at hSw); go_simp; (try with_reducible rfl))
        (try simp only [Act.put, List.setIfInBounds_toArray, List.set_cons_zero, List.set_cons_succ])
        refine wpAnyH_take (i := 1) (v := ?v117) (by simp only [List.getElem?_toArray, List.getElem?_cons_succ, List.getElem?_cons_zero]; rfl) (by kernel_rfl) (by kernel_rfl) (by kernel_rfl) (by exact fun _ _ _ h => h) (Or.inl ⟨by rfl, ?hy117⟩) (by assumption) ?rest117
        case hy117 => (intro w hSw; (try dsimp only at hSw); go_simp; (try with_reducible rfl))
        (try simp only [Act.put, List.setIfInBounds_toArray, List.set_cons_zero, List.set_cons_succ])
        refine wpAnyH_take (i := 2) (v := ?v118) (by simp only [List.getElem?_toArray, List.getElem?_cons_succ, List.getElem?_cons_zero]; rfl) (by kernel_rfl) (by kernel_rfl) (by kernel_rfl) (by exact fun _ _ _ h => h) (Or.inl ⟨by rfl, ?hy118⟩) (by assumption) ?rest118
        case hy118 => (intro w hSw; (try dsimp only at hSw); go_simp; (try with_reducible rfl))
        (try simp only [Act.put, List.setIfInBounds_toArray, List.set_cons_zero, List.set_cons_succ])
        refine wpAnyH_take (i := 3) (v := ?v119) (by simp only [List.getElem?_toArray, List.getElem?_cons_succ, List.getElem?_cons_zero]; rfl) (by kernel_rfl) (by kernel_rfl) (by kernel_rfl) (by exact fun _ _ _ h => h) (Or.inl ⟨by rfl, ?hy119⟩) (by assumption) ?rest119
        case hy119 => (intro w hSw; (try dsimp only at hSw); go_simp; (try with_reducible rfl))
        (try simp only [Act.put, List.setIfInBounds_toArray, List.set_cons_zero, List.set_cons_succ])
        refine wpAnyH_take (i := 4) (v := ?v120) (by simp only [List.getElem?_toArray, List.getElem?_cons_succ, List.getElem?_cons_zero]; rfl) (by kernel_rfl) (by kernel_rfl) (by kernel_rfl) (by exact fun _ _ _ h => h) (Or.inl ⟨by rfl, ?hy120⟩) (by assumption) ?rest120
        case hy120 => (intro w hSw; (try dsimp only at hSw); go_simp; (try with_reducible rfl))
        (try simp only [Act.put, List.setIfInBounds_toArray, List.set_cons_zero, List.set_cons_succ])
        refine wpAnyH_take (i := 5) (v := ?v121) (by simp only [List.getElem?_toArray, List.getElem?_cons_succ, List.getElem?_cons_zero]; rfl) (by kernel_rfl) (by kernel_rfl) (by kernel_rfl) (by exact fun _ _ _ h => h) (Or.inl ⟨by rfl, ?hy121⟩) (by assumption) ?rest121
        case hy121 => (intro w hSw; (try dsimp only at hSw); go_simp; (try with_reducible rfl))
        (try simp only [Act.put, List.setIfInBounds_toArray, List.set_cons_zero, List.set_cons_succ])
        (try simp only [hd1])
        refine wpAnyH_take (i := 6) (v := ?v122) (by simp only [List.getElem?_toArray, List.getElem?_cons_succ, List.getElem?_cons_zero]; rfl) (by kernel_rfl) (by kernel_rfl) (by kernel_rfl) (by exact fun _ _ _ h => h) (Or.inl ⟨by rfl, ?hy122⟩) (by assumption) ?rest122
        case hy122 => (intro w hSw; (try dsimp only at hSw); go_simp; (try with_reducible rfl))
        (try simp only [Act.put, List.setIfInBounds_toArray, List.set_cons_zero, List.set_cons_succ])
        (try simp only [hd1])
        refine wpAnyH_take (i := 7) (v := ?v123) (by simp only [List.getElem?_toArray, List.getElem?_cons_succ, List.getElem?_cons_zero]; rfl) (by kernel_rfl) (by kernel_rfl) (by kernel_rfl) (by exact fun _ _ _ h => h) (Or.inl ⟨by rfl, ?hy123⟩) (by assumption) ?rest123
        case hy123 => (intro w hSw; (try dsimp only at hSw); go_simp; (try with_reducible rfl))
        (try simp only [Act.put, List.setIfInBounds_toArray, List.set_cons_zero, List.set_cons_succ])
        refine wpAnyH_take (i := 8) (v := ?v124) (by simp only [List.getElem?_toArray, List.getElem?_cons_succ, List.getElem?_cons_zero]; rfl) (by kernel_rfl) (by kernel_rfl) (by kernel_rfl) (by exact fun _ _ _ h => h) (Or.inl ⟨by rfl, ?hy124⟩) (by assumption) ?rest124
        case hy124 => (intro w hSw; (try dsimp only at hSw); go_simp; (try with_reducible rfl))
        (try simp only [Act.put, List.setIfInBounds_toArray, List.set_cons_zero, List.set_cons_succ])
        refine wpAnyH_take (i := 10) (v := ?v125) (by simp only [List.getElem?_toArray, List.getElem?_cons_succ, List.getElem?_cons_zero]; rfl) (by kernel_rfl) (by kernel_rfl) (by kernel_rfl) (by exact fun _ _ _ h => h) (Or.inl ⟨by rfl, ?hy125⟩) (by assumption) ?rest125
        case hy125 => (intro w hSw; (try dsimp only at hSw); go_simp; (try with_reducible rfl))
        (try simp only [Act.put, List.setIfInBounds_toArray, List.set_cons_zero, List.set_cons_succ])
        refine wpAnyH_take (i := 11) (v := ?v126) (by simp only [List.getElem?_toArray, List.getElem?_cons_succ, List.getElem?_cons_zero]; rfl) (by kernel_rfl) (by kernel_rfl) (by kernel_rfl) (by exact fun _ _ _ h => h) (Or.inl ⟨by rfl, ?hy126⟩) (by assumption) ?rest126
        case hy126 => (intro w hSw; (try dsimp only at hSw); go_simp; (try with_reducible rfl))
        (try simp only [Act.put, List.setIfInBounds_toArray, List.set_cons_zero, List.set_cons_succ])
        refine wpAnyH_take (i := 14) (v := ?v127) (by simp only [List.getElem?_toArray, List.getElem?_cons_succ, List.getElem?_cons_zero]; rfl) (by kernel_rfl) (by kernel_rfl) (by kernel_rfl) (by exact fun _ _ _ h => h) (Or.inl ⟨by rfl, ?hy127⟩) (by assumption) ?rest127
        case hy127 => (intro w hSw; (try dsimp only at hSw); go_simp; (try with_reducible rfl))
        (try simp only [Act.put, List.setIfInBounds_toArray, List.set_cons_zero, List.set_cons_succ])
        refine wpAnyH_ready (rs := [9]) (by kernel_rfl) (by simp) (AllReadyH.cons (by simp only [List.getElem?_toArray, List.getElem?_cons_succ, List.getElem?_cons_zero]; rfl) (fun K hK => ?_) AllReadyH.nil)
        go_simp
        refine (implWorstOf W L Av m cv ds _ _ _ _ _ hm' (Dfs.drew D8.out)).mono ?_
        rintro e w9 ⟨rfl, hb⟩
        rw [HA.out]
        have KX9 : Hid (Bk w9 w1.heap.size 25 #[.int .i64 W, .int .i64 L, .slice Av m cv]) := hide (Bk.call (Bk.drew KX8.out) hb)
        have KP9 : Hid (Bk w9 (w1.heap.size + 1) 30 #[.int .i64 l, .int .i64 r, .int .i64 f, .int .i64 t]) := hide (Bk.call (Bk.drew KP8.out) hb)
        have KA9 : Hid (Bk w9 w4.heap.size 30 #[.int .i64 l, .int .i64 M, .int .i64 f, .int .i64 t]) := hide (Bk.call (Bk.drew KA8.out) hb)
        have KC9 : Hid (Bk w9 (w4.heap.size + 1) 30 #[.int .i64 M, .int .i64 r, .int .i64 f, .int .i64 t]) := hide (Bk.call (Bk.drew KC8.out) hb)
        have KE9 : Hid (Bk w9 w6.heap.size 30 #[.int .i64 l, .int .i64 r, .int .i64 f, .int .i64 O]) := hide (Bk.call (Bk.drew KE8.out) hb)
        have KF9 : Hid (Bk w9 (w6.heap.size + 1) 30 #[.int .i64 l, .int .i64 r, .int .i64 O, .int .i64 t]) := hide (Bk.call (Bk.drew KF8.out) hb)
        have D9 := hide (Dfs.below (Dfs.drew D8.out) hb)
        have B9 := hide (below_then (below_drewN B8.out 1) hb)
        clear hb x0 x1 x2 p0 p1 p2 p3 a0 a1 a2 a3 c0 c1 c2 c3 e0 e1 e2 e3 f0 f1 f2 f3
        obtain ⟨x0, x1, x2, -, -, -⟩ := KX9.out.three
        obtain ⟨p0, p1, p2, p3⟩ := Bk.four (a := .int .i64 l) (b := .int .i64 r) (c := .int .i64 f) (d := .int .i64 t) KP9.out
        obtain ⟨a0, a1, a2, a3⟩ := Bk.four (a := .int .i64 l) (b := .int .i64 M) (c := .int .i64 f) (d := .int .i64 t) KA9.out
        obtain ⟨c0, c1, c2, c3⟩ := Bk.four (a := .int .i64 M) (b := .int .i64 r) (c := .int .i64 f) (d := .int .i64 t) KC9.out
        obtain ⟨e0, e1, e2, e3⟩ := Bk.four (a := .int .i64 l) (b := .int .i64 r) (c := .int .i64 f) (d := .int .i64 O) KE9.out
        obtain ⟨f0, f1, f2, f3⟩ := Bk.four (a := .int .i64 l) (b := .int .i64 r) (c := .int .i64 O) (d := .int .i64 t) KF9.out
        (try go_wp2_with fail)
        clear hHeld
        refine hK.out _ _ ?hS128 (fun hHeld => ?_)
        case hS128 => ((try dsimp only); (repeat' apply And.intro) <;> (first | (with_reducible assumption) | (rw [World.cell?_drew]; with_reducible assumption) | (rw [World.cell?_setCell_other _ _ _ _ (fun e => by injection e with _ e; cases e)]; with_reducible assumption) | (simp [*]; done)))
        clear hK K
        (try simp only [Act.put, List.setIfInBounds_toArray, List.set_cons_zero, List.set_cons_succ])
        refine wpAnyH_ready (rs := [12]) (by kernel_rfl) (by simp) (AllReadyH.cons (by simp only [List.getElem?_toArray, List.getElem?_cons_succ, List.getElem?_cons_zero]; rfl) (fun K hK => ?_) AllReadyH.nil)
        go_simp
        refine (implWorstOf W L Av m cv ds _ _ _ _ _ hm' (D9.out)).mono ?_
        rintro e w10 ⟨rfl, hb⟩
        rw [HC.out]
        have KX10 : Hid (Bk w10 w1.heap.size 25 #[.int .i64 W, .int .i64 L, .slice Av m cv]) := hide (Bk.call KX9.out hb)
        have KP10 : Hid (Bk w10 (w1.heap.size + 1) 30 #[.int .i64 l, .int .i64 r, .int .i64 f, .int .i64 t]) := hide (Bk.call KP9.out hb)
        have KA10 : Hid (Bk w10 w4.heap.size 30 #[.int .i64 l, .int .i64 M, .int .i64 f, .int .i64 t]) := hide (Bk.call KA9.out hb)
        have KC10 : Hid (Bk w10 (w4.heap.size + 1) 30 #[.int .i64 M, .int .i64 r, .int .i64 f, .int .i64 t]) := hide (Bk.call KC9.out hb)
        have KE10 : Hid (Bk w10 w6.heap.size 30 #[.int .i64 l, .int .i64 r, .int .i64 f, .int .i64 O]) := hide (Bk.call KE9.out hb)
        have KF10 : Hid (Bk w10 (w6.heap.size + 1) 30 #[.int .i64 l, .int .i64 r, .int .i64 O, .int .i64 t]) := hide (Bk.call KF9.out hb)
        have D10 := hide (Dfs.below D9.out hb)
        have B10 := hide (below_then B9.out hb)
        clear hb x0 x1 x2 p0 p1 p2 p3 a0 a1 a2 a3 c0 c1 c2 c3 e0 e1 e2 e3 f0 f1 f2 f3
        obtain ⟨x0, x1, x2, -, -, -⟩ := KX10.out.three
        obtain ⟨p0, p1, p2, p3⟩ := Bk.four (a := .int .i64 l) (b := .int .i64 r) (c := .int .i64 f) (d := .int .i64 t) KP10.out
        obtain ⟨a0, a1, a2, a3⟩ := Bk.four (a := .int .i64 l) (b := .int .i64 M) (c := .int .i64 f) (d := .int .i64 t) KA10.out
        obtain ⟨c0, c1, c2, c3⟩ := Bk.four (a := .int .i64 M) (b := .int .i64 r) (c := .int .i64 f) (d := .int .i64 t) KC10.out
        obtain ⟨e0, e1, e2, e3⟩ := Bk.four (a := .int .i64 l) (b := .int .i64 r) (c := .int .i64 f) (d := .int .i64 O) KE10.out
        obtain ⟨f0, f1, f2, f3⟩ := Bk.four (a := .int .i64 l) (b := .int .i64 r) (c := .int .i64 O) (d := .int .i64 t) KF10.out
        (try go_wp2_with fail)
        clear hHeld
        refine hK.out _ _ ?hS129 (fun hHeld => ?_)
        case hS129 => ((try dsimp only); (repeat' apply And.intro) <;> (first | (with_reducible assumption) | (rw [World.cell?_drew]; with_reducible assumption) | (rw [World.cell?_setCell_other _ _ _ _ (fun e => by injection e with _ e; cases e)]; with_reducible assumption) | (simp [*]; done)))
        clear hK K
        (try simp only [Act.put, List.setIfInBounds_toArray, List.set_cons_zero, List.set_cons_succ])
        refine wpAnyH_take (i := 13) (v := ?v130) (by simp only [List.getElem?_toArray, List.getElem?_cons_succ, List.getElem?_cons_zero]; rfl) (by kernel_rfl) (by kernel_rfl) (by kernel_rfl) (by exact fun _ _ _ h => h) (Or.inl ⟨by rfl, ?hy130⟩) (by assumption) ?rest130
        case hy130 => (intro w hSw; (try dsimp only at hSw); go_simp; (try with_reducible rfl))
        (try simp only [Act.put, List.setIfInBounds_toArray, List.set_cons_zero, List.set_cons_succ])
        (try simp only [hx1])
        (try simp only [hx2])
        refine wpAnyH_take (i := 15) (v := ?v131) (by simp only [List.getElem?_toArray, List.getElem?_cons_succ, List.getElem?_cons_zero]; rfl) (by kernel_rfl) (by kernel_rfl) (by kernel_rfl) (by exact fun _ _ _ h => h) (Or.inl ⟨by rfl, ?hy131⟩) (by assumption) ?rest131
        case hy131 => (intro w hSw; (try dsimp only at hSw); go_simp; (try with_reducible rfl))
        (try simp only [Act.put, List.setIfInBounds_toArray, List.set_cons_zero, List.set_cons_succ])
        refine wpAnyH_take (i := 16) (v := ?v132) (by simp only [List.getElem?_toArray, List.getElem?_cons_succ, List.getElem?_cons_zero]; rfl) (by kernel_rfl) (by kernel_rfl) (by kernel_rfl) (by exact fun _ _ _ h => h) (Or.inl ⟨by rfl, ?hy132⟩) (by assumption) ?rest132
        case hy132 => (intro w hSw; (try dsimp only at hSw); go_simp; (try with_reducible rfl))
        (try simp only [Act.put, List.setIfInBounds_toArray, List.set_cons_zero, List.set_cons_succ])
        refine wpAnyH_take (i := 17) (v := ?v133) (by simp only [List.getElem?_toArray, List.getElem?_cons_succ, List.getElem?_cons_zero]; rfl) (by kernel_rfl) (by kernel_rfl) (by kernel_rfl) (by exact fun _ _ _ h => h) (Or.inl ⟨by rfl, ?hy133⟩) (by assumption) ?rest133
        case hy133 => (intro w hSw; (try dsimp only at hSw); go_simp; (try with_reducible rfl))
        (try simp only [Act.put, List.setIfInBounds_toArray, List.set_cons_zero, List.set_cons_succ])
        refine wpAnyH_take (i := 18) (v := ?v134) (by simp only [List.getElem?_toArray, List.getElem?_cons_succ, List.getElem?_cons_zero]; rfl) (by kernel_rfl) (by kernel_rfl) (by kernel_rfl) (by exact fun _ _ _ h => h) (Or.inl ⟨by rfl, ?hy134⟩) (by assumption) ?rest134
        case hy134 => (intro w hSw; (try dsimp only at hSw); go_simp; (try with_reducible rfl))
        (try simp only [Act.put, List.setIfInBounds_toArray, List.set_cons_zero, List.set_cons_succ])
        refine wpAnyH_take (i := 19) (v := ?v135) (by simp only [List.getElem?_toArray, List.getElem?_cons_succ, List.getElem?_cons_zero]; rfl) (by kernel_rfl) (by kernel_rfl) (by kernel_rfl) (by exact fun _ _ _ h => h) (Or.inl ⟨by rfl, ?hy135⟩) (by assumption) ?rest135
        case hy135 => (intro w hSw; (try dsimp only at hSw); go_simp; (try with_reducible rfl))
        (try simp only [Act.put, List.setIfInBounds_toArray, List.set_cons_zero, List.set_cons_succ])
        refine wpAnyH_take (i := 20) (v := ?v136) (by simp only [List.getElem?_toArray, List.getElem?_cons_succ, List.getElem?_cons_zero]; rfl) (by kernel_rfl) (by kernel_rfl) (by kernel_rfl) (by exact fun _ _ _ h => h) (Or.inl ⟨by rfl, ?hy136⟩) (by assumption) ?rest136
        case hy136 => (intro w hSw; (try dsimp only at hSw); go_simp; (try with_reducible rfl))
        (try simp only [Act.put, List.setIfInBounds_toArray, List.set_cons_zero, List.set_cons_succ])
        refine wpAnyH_take (i := 21) (v := ?v137) (by simp only [List.getElem?_toArray, List.getElem?_cons_succ, List.getElem?_cons_zero]; rfl) (by kernel_rfl) (by kernel_rfl) (by kernel_rfl) (by exact fun _ _ _ h => h) (Or.inl ⟨by rfl, ?hy137⟩) (by assumption) ?rest137
        case hy137 => (intro w hSw; (try dsimp only at hSw); go_simp; (try with_reducible rfl))
        (try simp only [Act.put, List.setIfInBounds_toArray, List.set_cons_zero, List.set_cons_succ])
        refine wpAnyH_take (i := 22) (v := ?v138) (by simp only [List.getElem?_toArray, List.getElem?_cons_succ, List.getElem?_cons_zero]; rfl) (by kernel_rfl) (by kernel_rfl) (by kernel_rfl) (by exact fun _ _ _ h => h) (Or.inl ⟨by rfl, ?hy138⟩) (by assumption) ?rest138
        case hy138 => (intro w hSw; (try dsimp only at hSw); go_simp; (try with_reducible rfl))
        (try simp only [Act.put, List.setIfInBounds_toArray, List.set_cons_zero, List.set_cons_succ])
        refine wpAnyH_take (i := 23) (v := ?v139) (by simp only [List.getElem?_toArray, List.getElem?_cons_succ, List.getElem?_cons_zero]; rfl) (by kernel_rfl) (by kernel_rfl) (by kernel_rfl) (by exact fun _ _ _ h => h) (Or.inl ⟨by rfl, ?hy139⟩) (by assumption) ?rest139
        case hy139 => (intro w hSw; (try dsimp only at hSw); go_simp; (try with_reducible rfl))
        (try simp only [Act.put, List.setIfInBounds_toArray, List.set_cons_zero, List.set_cons_succ])
        (try simp only [hd2])
        refine wpAnyH_take (i := 24) (v := ?v140) (by simp only [List.getElem?_toArray, List.getElem?_cons_succ, List.getElem?_cons_zero]; rfl) (by kernel_rfl) (by kernel_rfl) (by kernel_rfl) (by exact fun _ _ _ h => h) (Or.inl ⟨by rfl, ?hy140⟩) (by assumption) ?rest140
        case hy140 => (intro w hSw; (try dsimp only at hSw); go_simp; (try with_reducible rfl))
        (try simp only [Act.put, List.setIfInBounds_toArray, List.set_cons_zero, List.set_cons_succ])
        (try simp only [hd2])
        refine wpAnyH_take (i := 25) (v := ?v141) (by simp only [List.getElem?_toArray, List.getElem?_cons_succ, List.getElem?_cons_zero]; rfl) (by kernel_rfl) (by kernel_rfl) (by kernel_rfl) (by exact fun _ _ _ h => h) (Or.inl ⟨by rfl, ?hy141⟩) (by assumption) ?rest141
        case hy141 => (intro w hSw; (try dsimp only at hSw); go_simp; (try with_reducible rfl))
        (try simp only [Act.put, List.setIfInBounds_toArray, List.set_cons_zero, List.set_cons_succ])
        refine wpAnyH_take (i := 26) (v := ?v142) (by simp only [List.getElem?_toArray, List.getElem?_cons_succ, List.getElem?_cons_zero]; rfl) (by kernel_rfl) (by kernel_rfl) (by kernel_rfl) (by exact fun _ _ _ h => h) (Or.inl ⟨by rfl, ?hy142⟩) (by assumption) ?rest142
        case hy142 => (intro w hSw; (try dsimp only at hSw); go_simp; (try with_reducible rfl))
        (try simp only [Act.put, List.setIfInBounds_toArray, List.set_cons_zero, List.set_cons_succ])
        refine wpAnyH_take (i := 28) (v := ?v143) (by simp only [List.getElem?_toArray, List.getElem?_cons_succ, List.getElem?_cons_zero]; rfl) (by kernel_rfl) (by kernel_rfl) (by kernel_rfl) (by exact fun _ _ _ h => h) (Or.inl ⟨by rfl, ?hy143⟩) (by assumption) ?rest143
        case hy143 => (intro w hSw; (try dsimp only at hSw); go_simp; (try with_reducible rfl))
        (try simp only [Act.put, List.setIfInBounds_toArray, List.set_cons_zero, List.set_cons_succ])
        refine wpAnyH_take (i := 29) (v := ?v144) (by simp only [List.getElem?_toArray, List.getElem?_cons_succ, List.getElem?_cons_zero]; rfl) (by kernel_rfl) (by kernel_rfl) (by kernel_rfl) (by exact fun _ _ _ h => h) (Or.inl ⟨by rfl, ?hy144⟩) (by assumption) ?rest144
        case hy144 => (intro w hSw; (try dsimp only at hSw); go_simp; (try with_reducible rfl))
        (try simp only [Act.put, List.setIfInBounds_toArray, List.set_cons_zero, List.set_cons_succ])
        refine wpAnyH_take (i := 32) (v := ?v145) (by simp only [List.getElem?_toArray, List.getElem?_cons_succ, List.getElem?_cons_zero]; rfl) (by kernel_rfl) (by kernel_rfl) (by kernel_rfl) (by exact fun _ _ _ h => h) (Or.inl ⟨by rfl, ?hy145⟩) (by assumption) ?rest145
        case hy145 => (intro w hSw; (try dsimp only at hSw); go_simp; (try with_reducible rfl))
        (try simp only [Act.put, List.setIfInBounds_toArray, List.set_cons_zero, List.set_cons_succ])
        refine wpAnyH_ready (rs := [27]) (by kernel_rfl) (by simp) (AllReadyH.cons (by simp only [List.getElem?_toArray, List.getElem?_cons_succ, List.getElem?_cons_zero]; rfl) (fun K hK => ?_) AllReadyH.nil)
        go_simp
        refine (implWorstOf W L Av m cv ds _ _ _ _ _ hm' (D10.out)).mono ?_
        rintro e w11 ⟨rfl, hb⟩
        rw [HE.out]
        have KX11 : Hid (Bk w11 w1.heap.size 25 #[.int .i64 W, .int .i64 L, .slice Av m cv]) := hide (Bk.call KX10.out hb)
        have KP11 : Hid (Bk w11 (w1.heap.size + 1) 30 #[.int .i64 l, .int .i64 r, .int .i64 f, .int .i64 t]) := hide (Bk.call KP10.out hb)
        have KA11 : Hid (Bk w11 w4.heap.size 30 #[.int .i64 l, .int .i64 M, .int .i64 f, .int .i64 t]) := hide (Bk.call KA10.out hb)
        have KC11 : Hid (Bk w11 (w4.heap.size + 1) 30 #[.int .i64 M, .int .i64 r, .int .i64 f, .int .i64 t]) := hide (Bk.call KC10.out hb)
        have KE11 : Hid (Bk w11 w6.heap.size 30 #[.int .i64 l, .int .i64 r, .int .i64 f, .int .i64 O]) := hide (Bk.call KE10.out hb)
        have KF11 : Hid (Bk w11 (w6.heap.size + 1) 30 #[.int .i64 l, .int .i64 r, .int .i64 O, .int .i64 t]) := hide (Bk.call KF10.out hb)
        have D11 := hide (Dfs.below D10.out hb)
        have B11 := hide (below_then B10.out hb)
        clear hb x0 x1 x2 p0 p1 p2 p3 a0 a1 a2 a3 c0 c1 c2 c3 e0 e1 e2 e3 f0 f1 f2 f3
        obtain ⟨x0, x1, x2, -, -, -⟩ := KX11.out.three
        obtain ⟨p0, p1, p2, p3⟩ := Bk.four (a := .int .i64 l) (b := .int .i64 r) (c := .int .i64 f) (d := .int .i64 t) KP11.out
        obtain ⟨a0, a1, a2, a3⟩ := Bk.four (a := .int .i64 l) (b := .int .i64 M) (c := .int .i64 f) (d := .int .i64 t) KA11.out
        obtain ⟨c0, c1, c2, c3⟩ := Bk.four (a := .int .i64 M) (b := .int .i64 r) (c := .int .i64 f) (d := .int .i64 t) KC11.out
        obtain ⟨e0, e1, e2, e3⟩ := Bk.four (a := .int .i64 l) (b := .int .i64 r) (c := .int .i64 f) (d := .int .i64 O) KE11.out
        obtain ⟨f0, f1, f2, f3⟩ := Bk.four (a := .int .i64 l) (b := .int .i64 r) (c := .int .i64 O) (d := .int .i64 t) KF11.out
        (try go_wp2_with fail)
        clear hHeld
        refine hK.out _ _ ?hS146 (fun hHeld => ?_)
        case hS146 => ((try dsimp only); (repeat' apply And.intro) <;> (first | (with_reducible assumption) | (rw [World.cell?_drew]; with_reducible assumption) | (rw [World.cell?_setCell_other _ _ _ _ (fun e => by injection e with _ e; cases e)]; with_reducible assumption) | (simp [*]; done)))
        clear hK K
        (try simp only [Act.put, List.setIfInBounds_toArray, List.set_cons_zero, List.set_cons_succ])
        refine wpAnyH_ready (rs := [30]) (by kernel_rfl) (by simp) (AllReadyH.cons (by simp only [List.getElem?_toArray, List.getElem?_cons_succ, List.getElem?_cons_zero]; rfl) (fun K hK => ?_) AllReadyH.nil)
        go_simp
        refine (implWorstOf W L Av m cv ds _ _ _ _ _ hm' (D11.out)).mono ?_
        rintro e w12 ⟨rfl, hb⟩
        rw [HF.out]
        have KX12 : Hid (Bk w12 w1.heap.size 25 #[.int .i64 W, .int .i64 L, .slice Av m cv]) := hide (Bk.call KX11.out hb)
        have KP12 : Hid (Bk w12 (w1.heap.size + 1) 30 #[.int .i64 l, .int .i64 r, .int .i64 f, .int .i64 t]) := hide (Bk.call KP11.out hb)
        have KA12 : Hid (Bk w12 w4.heap.size 30 #[.int .i64 l, .int .i64 M, .int .i64 f, .int .i64 t]) := hide (Bk.call KA11.out hb)
        have KC12 : Hid (Bk w12 (w4.heap.size + 1) 30 #[.int .i64 M, .int .i64 r, .int .i64 f, .int .i64 t]) := hide (Bk.call KC11.out hb)
        have KE12 : Hid (Bk w12 w6.heap.size 30 #[.int .i64 l, .int .i64 r, .int .i64 f, .int .i64 O]) := hide (Bk.call KE11.out hb)
        have KF12 : Hid (Bk w12 (w6.heap.size + 1) 30 #[.int .i64 l, .int .i64 r, .int .i64 O, .int .i64 t]) := hide (Bk.call KF11.out hb)
        have D12 := hide (Dfs.below D11.out hb)
        have B12 := hide (below_then B11.out hb)
        clear hb x0 x1 x2 p0 p1 p2 p3 a0 a1 a2 a3 c0 c1 c2 c3 e0 e1 e2 e3 f0 f1 f2 f3
        obtain ⟨x0, x1, x2, -, -, -⟩ := KX12.out.three
        obtain ⟨p0, p1, p2, p3⟩ := Bk.four (a := .int .i64 l) (b := .int .i64 r) (c := .int .i64 f) (d := .int .i64 t) KP12.out
        obtain ⟨a0, a1, a2, a3⟩ := Bk.four (a := .int .i64 l) (b := .int .i64 M) (c := .int .i64 f) (d := .int .i64 t) KA12.out
        obtain ⟨c0, c1, c2, c3⟩ := Bk.four (a := .int .i64 M) (b := .int .i64 r) (c := .int .i64 f) (d := .int .i64 t) KC12.out
        obtain ⟨e0, e1, e2, e3⟩ := Bk.four (a := .int .i64 l) (b := .int .i64 r) (c := .int .i64 f) (d := .int .i64 O) KE12.out
        obtain ⟨f0, f1, f2, f3⟩ := Bk.four (a := .int .i64 l) (b := .int .i64 r) (c := .int .i64 O) (d := .int .i64 t) KF12.out
        (try go_wp2_with fail)
        clear hHeld
        refine hK.out _ _ ?hS147 (fun hHeld => ?_)
        case hS147 => ((try dsimp only); (repeat' apply And.intro) <;> (first | (with_reducible assumption) | (rw [World.cell?_drew]; with_reducible assumption) | (rw [World.cell?_setCell_other _ _ _ _ (fun e => by injection e with _ e; cases e)]; with_reducible assumption) | (simp [*]; done)))
        clear hK K
        (try simp only [Act.put, List.setIfInBounds_toArray, List.set_cons_zero, List.set_cons_succ])
        refine wpAnyH_take (i := 31) (v := ?v148) (by simp only [List.getElem?_toArray, List.getElem?_cons_succ, List.getElem?_cons_zero]; rfl) (by kernel_rfl) (by kernel_rfl) (by kernel_rfl) (by exact fun _ _ _ h => h) (Or.inl ⟨by rfl, ?hy148⟩) (by assumption) ?rest148
        case hy148 => (intro w hSw; (try dsimp only at hSw); go_simp; (try with_reducible rfl))
        (try simp only [Act.put, List.setIfInBounds_toArray, List.set_cons_zero, List.set_cons_succ])
        (try simp only [hy1])
        (try simp only [hy2])
        refine wpAnyH_take (i := 33) (v := ?v149) (by simp only [List.getElem?_toArray, List.getElem?_cons_succ, List.getElem?_cons_zero]; rfl) (by kernel_rfl) (by kernel_rfl) (by kernel_rfl) (by exact fun _ _ _ h => h) (Or.inl ⟨by rfl, ?hy149⟩) (by assumption) ?rest149
        case hy149 => (intro w hSw; (try dsimp only at hSw); go_simp; (try with_reducible rfl))
        (try simp only [Act.put, List.setIfInBounds_toArray, List.set_cons_zero, List.set_cons_succ])
        refine wpAnyH_take (i := 34) (v := ?v150) (by simp only [List.getElem?_toArray, List.getElem?_cons_succ, List.getElem?_cons_zero]; rfl) (by kernel_rfl) (by kernel_rfl) (by kernel_rfl) (by exact fun _ _ _ h => h) (Or.inl ⟨by rfl, ?hy150⟩) (by assumption) ?rest150
        case hy150 => (intro w hSw; (try dsimp only at hSw); go_simp; (try with_reducible rfl))
        (try simp only [Act.put, List.setIfInBounds_toArray, List.set_cons_zero, List.set_cons_succ])
        refine wpAnyH_take (i := 35) (v := ?v151) (by simp only [List.getElem?_toArray, List.getElem?_cons_succ, List.getElem?_cons_zero]; rfl) (by kernel_rfl) (by kernel_rfl) (by kernel_rfl) (by exact fun _ _ _ h => h) (Or.inl ⟨by rfl, ?hy151⟩) (by assumption) ?rest151
        case hy151 => (intro w hSw; (try dsimp only at hSw); go_simp; (try with_reducible rfl))
        (try simp only [Act.put, List.setIfInBounds_toArray, List.set_cons_zero, List.set_cons_succ])
        refine wpAnyH_take (i := 36) (v := ?v152) (by simp only [List.getElem?_toArray, List.getElem?_cons_succ, List.getElem?_cons_zero]; rfl) (by kernel_rfl) (by kernel_rfl) (by kernel_rfl) (by exact fun _ _ _ h => h) (Or.inl ⟨by rfl, ?hy152⟩) (by assumption) ?rest152
        case hy152 => (intro w hSw; (try dsimp only at hSw); go_simp; (try with_reducible rfl))
        (try simp only [Act.put, List.setIfInBounds_toArray, List.set_cons_zero, List.set_cons_succ])
        refine wpAnyH_done (by kernel_rfl) ?_ _
        go_wp2_with fail
        go_ret
        exact ⟨ret_bool (by first | rfl | simp), B12.out⟩
end Go.Proofs.Ytbbopnpmjhbffaa
