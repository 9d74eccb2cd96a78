/- Contracts of chapter 2: valid reels. -/
import Derived.Test.YtbbopnpmjhbffaaRee1
namespace Go.Proofs.Ytbbopnpmjhbffaa
open Go.RowKit
attribute [local go_sem ↓] Go.wp_at_zero Go.wp_at_succ
set_option linter.unusedVariables false
set_option maxRecDepth 100000
theorem r_cases (W L : Int) (n : Nat) : (W < 1) ∨ (1 ≤ W ∧ 60 < W) ∨ (1 ≤ W ∧ W ≤ 60 ∧ L < 1) ∨ (1 ≤ W ∧ W ≤ 60 ∧ 1 ≤ L ∧ 400 < L) ∨ (1 ≤ W ∧ W ≤ 60 ∧ 1 ≤ L ∧ L ≤ 400 ∧ 16 < (n : Int)) ∨ (1 ≤ W ∧ W ≤ 60 ∧ 1 ≤ L ∧ L ≤ 400 ∧ (n : Int) ≤ 16) := by
  by_cases x1 : 1 ≤ W
  case neg => exact .inl (by omega)
  by_cases x2 : W ≤ 60
  case neg => exact .inr (.inl ⟨x1, by omega⟩)
  by_cases x3 : 1 ≤ L
  case neg => exact .inr (.inr (.inl ⟨x1, x2, by omega⟩))
  by_cases x4 : L ≤ 400
  case neg => exact .inr (.inr (.inr (.inl ⟨x1, x2, x3, by omega⟩)))
  by_cases x5 : (n : Int) ≤ 16
  case neg => exact .inr (.inr (.inr (.inr (.inl ⟨x1, x2, x3, x4, by omega⟩))))
  exact .inr (.inr (.inr (.inr (.inr ⟨x1, x2, x3, x4, x5⟩))))
theorem g_cases (g : Int) : (g < 1) ∨ (1 ≤ g ∧ 9 < g) ∨ (1 ≤ g ∧ g ≤ 9) := by
  by_cases x1 : 1 ≤ g
  case neg => exact .inl (by omega)
  by_cases x2 : g ≤ 9
  case neg => exact .inr (.inl ⟨x1, by omega⟩)
  exact .inr (.inr ⟨x1, x2⟩)
set_option maxHeartbeats 4000000 in
theorem implValidReel (W L : Int) (A : Option Addr) (n c : Nat) (ds : List D5) (w : World) (hn : n ≤ 1048576) (h : Dfs w A n ds) :
    Calls Try.prog 8 #[reel W L A n c] w fun e w' => e = .returned (.bool (vRe W L ds)) ∧ Below w.heap.size w w' := by
  have hl := h.1
  by_cases hbad : ¬ ((1 ≤ W ∧ W ≤ 60) ∧ (1 ≤ L ∧ L ≤ 400) ∧ n ≤ 16)
  · have HD : Hid (vRe W L ds = false) := vRe_no (by rw [hl]; exact hbad)
    clear h hl
    rcases r_cases W L n with h1 | ⟨h1, h2⟩ | ⟨h1, h2, h3⟩ | ⟨h1, h2, h3, h4⟩ | ⟨h1, h2, h3, h4, h5⟩ | ⟨h1, h2, h3, h4, h5⟩
    case inr.inr.inr.inr.inr => exact absurd ⟨⟨h1, h2⟩, ⟨h3, h4⟩, by omega⟩ hbad
    all_goals
      clear hbad
      go_enter Try.func8, Try.ntmps8
      go_wp2
      go_ret
      exact ⟨ret_bool HD.out.symm, by go_grown⟩
  obtain ⟨⟨h1, h2⟩, ⟨h3, h4⟩, h5⟩ : (1 ≤ W ∧ W ≤ 60) ∧ (1 ≤ L ∧ L ≤ 400) ∧ n ≤ 16 := Classical.byContradiction hbad
  clear hbad
  have h5' : (n : Int) ≤ 16 := by omega
  have HL := hide hl; have HH := hide h; clear hl h
  go_enter Try.func8, Try.ntmps8
  go_wp2
  go_loopw [30] (fun i wr => ∃ k : Nat, k ≤ n ∧ i = .int .i64 k ∧ Hid (∀ j, j < k → dOk W L (nthD ds j) = true) ∧ Hid (Bk wr w.heap.size 25 #[.int .i64 W, .int .i64 L, .slice A n c]) ∧ Hid (Below w.heap.size w wr)) (fun i _ => n - (intOf i).toNat)
  case atStart => exact ⟨0, by omega, rfl, hide (fun j hj => by omega), hide (Bk.made _ _ _), hide (by go_grown)⟩
  case round =>
    obtain ⟨k, hk, rfl, hok, hK, hB⟩ := hrel
    by_cases hlt : k < n
    · obtain ⟨g0, rfl, hgb, hc⟩ := (HH.out.below hB.out).2 (by omega)
      have HKL := hide (show k < ds.length by rw [HL.out]; exact hlt)
      obtain ⟨c0, c1, c2, c3, c4⟩ := hc k HKL.out
      obtain ⟨d, hd⟩ : ∃ d, nthD ds k = d := ⟨_, rfl⟩
      rw [hd] at c0 c1 c2 c3 c4
      have HDD := hide hd
      clear hd hc
      obtain ⟨l, r, f, t, g⟩ := d
      dsimp only at c0 c1 c2 c3 c4
      obtain ⟨q0, q1, q2, -, -, -⟩ := hK.out.three
      have lR := hK.out.lt
      go_wp2
      have KR := hide (Bk.alloc hK.out (.cells #[.int .i64 l, .int .i64 r, .int .i64 f, .int .i64 t, .int .i64 g] 43))
      have KD := hide (Bk.made wr 43 #[.int .i64 l, .int .i64 r, .int .i64 f, .int .i64 t, .int .i64 g])
      have BV := hide (Below.alloc hB.out hB.out.size (.cells #[.int .i64 l, .int .i64 r, .int .i64 f, .int .i64 t, .int .i64 g] 43))
      have bR : w.heap.size < wr.heap.size := lR
      clear q0 q1 q2 lR c0 c1 c2 c3 c4
      generalize hW : wr.alloc (.cells #[.int .i64 l, .int .i64 r, .int .i64 f, .int .i64 t, .int .i64 g] 43) = V at *
      clear hW
      obtain ⟨q0, q1, q2, -, -, -⟩ := KR.out.three
      obtain ⟨p0, p1, p2, p3, p4⟩ := KD.out.five
      cases hv : vPa W L l r f t
      · have HV := hide hv; clear hv
        have HD : Hid (vRe W L ds = false) := vRe_bad HKL.out (by rw [HDD.out]; exact dOk_false (.inl HV.out))
        refine wp_region_held_drew (S := fun w' => w'.cell? ⟨w.heap.size, 0, none⟩ = some (.int .i64 W) ∧ w'.cell? ⟨w.heap.size, 1, none⟩ = some (.int .i64 L) ∧ w'.cell? ⟨w.heap.size, 2, none⟩ = some (.slice (some ⟨g0, 0, none⟩) n c) ∧ w'.cell? ⟨wr.heap.size, 0, none⟩ = some (.int .i64 l) ∧ w'.cell? ⟨wr.heap.size, 1, none⟩ = some (.int .i64 r) ∧ w'.cell? ⟨wr.heap.size, 2, none⟩ = some (.int .i64 f) ∧ w'.cell? ⟨wr.heap.size, 3, none⟩ = some (.int .i64 t) ∧ w'.cell? ⟨wr.heap.size, 4, none⟩ = some (.int .i64 g)) (by kernel_rfl) ?hS39 (fun hHeld => ?_)
        case hS39 => ((try dsimp only); (repeat' apply And.intro) <;> (first | (with_reducible assumption) | (rw [World.cell?_drew]; with_reducible assumption) | (simp [*]; done)))
        refine wpAnyH_take (i := 0) (v := ?v40) (by simp only [List.getElem?_toArray, List.getElem?_cons_zero]; rfl) (by kernel_rfl) (by kernel_rfl) (by kernel_rfl) (by exact fun _ _ _ h => h) (Or.inl ⟨by rfl, ?hy40⟩) (by assumption) ?rest40
        case hy40 => (intro w hSw; (try dsimp only at hSw); go_simp; (try with_reducible rfl))
        (try simp only [Act.put, List.setIfInBounds_toArray, List.set_cons_zero, List.set_cons_succ])
        refine wpAnyH_take (i := 2) (v := ?v41) (by simp only [List.getElem?_toArray, List.getElem?_cons_succ, List.getElem?_cons_zero]; rfl) (by kernel_rfl) (by kernel_rfl) (by kernel_rfl) (by exact fun _ _ _ h => h) (Or.inl ⟨by rfl, ?hy41⟩) (by assumption) ?rest41
        case hy41 => (intro w hSw; (try dsimp only at hSw); go_simp; (try with_reducible rfl))
        (try simp only [Act.put, List.setIfInBounds_toArray, List.set_cons_zero, List.set_cons_succ])
        refine wpAnyH_take (i := 3) (v := ?v42) (by simp only [List.getElem?_toArray, List.getElem?_cons_succ, List.getElem?_cons_zero]; rfl) (by kernel_rfl) (by kernel_rfl) (by kernel_rfl) (by exact fun _ _ _ h => h) (Or.inl ⟨by rfl, ?hy42⟩) (by assumption) ?rest42
        case hy42 => (intro w hSw; (try dsimp only at hSw); go_simp; (try with_reducible rfl))
        (try simp only [Act.put, List.setIfInBounds_toArray, List.set_cons_zero, List.set_cons_succ])
        refine wpAnyH_take (i := 4) (v := ?v43) (by simp only [List.getElem?_toArray, List.getElem?_cons_succ, List.getElem?_cons_zero]; rfl) (by kernel_rfl) (by kernel_rfl) (by kernel_rfl) (by exact fun _ _ _ h => h) (Or.inl ⟨by rfl, ?hy43⟩) (by assumption) ?rest43
        case hy43 => (intro w hSw; (try dsimp only at hSw); go_simp; (try with_reducible rfl))
        (try simp only [Act.put, List.setIfInBounds_toArray, List.set_cons_zero, List.set_cons_succ])
        refine wpAnyH_take (i := 5) (v := ?v44) (by simp only [List.getElem?_toArray, List.getElem?_cons_succ, List.getElem?_cons_zero]; rfl) (by kernel_rfl) (by kernel_rfl) (by kernel_rfl) (by exact fun _ _ _ h => h) (Or.inl ⟨by rfl, ?hy44⟩) (by assumption) ?rest44
        case hy44 => (intro w hSw; (try dsimp only at hSw); go_simp; (try with_reducible rfl))
        (try simp only [Act.put, List.setIfInBounds_toArray, List.set_cons_zero, List.set_cons_succ])
        refine wpAnyH_ready (rs := [1]) (by kernel_rfl) (by simp) (AllReadyH.cons (by simp only [List.getElem?_toArray, List.getElem?_cons_succ, List.getElem?_cons_zero]; rfl) (fun K hK => ?_) AllReadyH.nil)
        go_simp
        refine (implPartOf _ _ _ _ _ _).mono ?_; rintro e wx ⟨rfl, hbx⟩; have Bx : Hid (Below w.heap.size w wx) := (by first | exact below_then Bx.out hbx | exact below_then (below_drewN BV.out 1) hbx | exact below_then BV.out hbx); clear q0 q1 q2 p0 p1 p2 p3 p4; have KRx : Hid (Bk wx w.heap.size 25 #[.int .i64 W, .int .i64 L, .slice (some ⟨g0, 0, none⟩) n c]) := (by first | exact Bk.call KRx.out hbx | exact Bk.call KR.out.drew hbx | exact Bk.call KR.out hbx); obtain ⟨q0, q1, q2, -, -, -⟩ := KRx.out.three; have KDx : Hid (Bk wx wr.heap.size 43 #[.int .i64 l, .int .i64 r, .int .i64 f, .int .i64 t, .int .i64 g]) := (by first | exact Bk.call KDx.out hbx | exact Bk.call KD.out.drew hbx | exact Bk.call KD.out hbx); obtain ⟨p0, p1, p2, p3, p4⟩ := KDx.out.five; clear hbx
        (try go_wp2_with fail)
        clear hHeld
        refine hK.out _ _ ?hS45 (fun hHeld => ?_)
        case hS45 => ((try dsimp only); (repeat' apply And.intro) <;> (first | (with_reducible assumption) | (rw [World.cell?_drew]; with_reducible assumption) | (simp [*]; done)))
        clear hK K
        (try simp only [Act.put, List.setIfInBounds_toArray, List.set_cons_zero, List.set_cons_succ])
        refine wpAnyH_ready (rs := [6]) (by kernel_rfl) (by simp) (AllReadyH.cons (by simp only [List.getElem?_toArray, List.getElem?_cons_succ, List.getElem?_cons_zero]; rfl) (fun K hK => ?_) AllReadyH.nil)
        go_simp
        refine (implInside _ _ _ _ _ _ _).mono ?_; rintro e wx ⟨rfl, hbx⟩; rw [HV.out]; have Bx : Hid (Below w.heap.size w wx) := (by first | exact below_then Bx.out hbx | exact below_then (below_drewN BV.out 1) hbx | exact below_then BV.out hbx); clear q0 q1 q2 p0 p1 p2 p3 p4; have KRx : Hid (Bk wx w.heap.size 25 #[.int .i64 W, .int .i64 L, .slice (some ⟨g0, 0, none⟩) n c]) := (by first | exact Bk.call KRx.out hbx | exact Bk.call KR.out.drew hbx | exact Bk.call KR.out hbx); obtain ⟨q0, q1, q2, -, -, -⟩ := KRx.out.three; have KDx : Hid (Bk wx wr.heap.size 43 #[.int .i64 l, .int .i64 r, .int .i64 f, .int .i64 t, .int .i64 g]) := (by first | exact Bk.call KDx.out hbx | exact Bk.call KD.out.drew hbx | exact Bk.call KD.out hbx); obtain ⟨p0, p1, p2, p3, p4⟩ := KDx.out.five; clear hbx
        (try go_wp2_with fail)
        clear hHeld
        refine hK.out _ _ ?hS46 (fun hHeld => ?_)
        case hS46 => ((try dsimp only); (repeat' apply And.intro) <;> (first | (with_reducible assumption) | (rw [World.cell?_drew]; with_reducible assumption) | (simp [*]; done)))
        clear hK K
        (try simp only [Act.put, List.setIfInBounds_toArray, List.set_cons_zero, List.set_cons_succ])
        refine wpAnyH_take (i := 7) (v := ?v47) (by simp only [List.getElem?_toArray, List.getElem?_cons_succ, List.getElem?_cons_zero]; rfl) (by kernel_rfl) (by kernel_rfl) (by kernel_rfl) (by exact fun _ _ _ h => h) (Or.inl ⟨by rfl, ?hy47⟩) (by assumption) ?rest47
        case hy47 => (intro w hSw; (try dsimp only at hSw); go_simp; (try with_reducible rfl))
        (try simp only [Act.put, List.setIfInBounds_toArray, List.set_cons_zero, List.set_cons_succ])
        refine wpAnyH_take (i := 8) (v := ?v48) (by simp only [List.getElem?_toArray, List.getElem?_cons_succ, List.getElem?_cons_zero]; rfl) (by kernel_rfl) (by kernel_rfl) (by kernel_rfl) (by exact fun _ _ _ h => h) (Or.inl ⟨by rfl, ?hy48⟩) (by assumption) ?rest48
        case hy48 => (intro w hSw; (try dsimp only at hSw); go_simp; (try with_reducible rfl))
        (try simp only [Act.put, List.setIfInBounds_toArray, List.set_cons_zero, List.set_cons_succ])
        refine wpAnyH_take (i := 9) (v := undef) (by simp only [List.getElem?_toArray, List.getElem?_cons_succ, List.getElem?_cons_zero]; rfl) (by kernel_rfl) (by kernel_rfl) (by kernel_rfl) (by exact fun _ _ _ h => h) (Or.inr ⟨by rfl, rfl⟩) (by assumption) ?_
        (try simp only [Act.put, List.setIfInBounds_toArray, List.set_cons_zero, List.set_cons_succ])
        refine wpAnyH_take (i := 10) (v := undef) (by simp only [List.getElem?_toArray, List.getElem?_cons_succ, List.getElem?_cons_zero]; rfl) (by kernel_rfl) (by kernel_rfl) (by kernel_rfl) (by exact fun _ _ _ h => h) (Or.inr ⟨by rfl, rfl⟩) (by assumption) ?_
        (try simp only [Act.put, List.setIfInBounds_toArray, List.set_cons_zero, List.set_cons_succ])
        refine wpAnyH_take (i := 11) (v := undef) (by simp only [List.getElem?_toArray, List.getElem?_cons_succ, List.getElem?_cons_zero]; rfl) (by kernel_rfl) (by kernel_rfl) (by kernel_rfl) (by exact fun _ _ _ h => h) (Or.inr ⟨by rfl, rfl⟩) (by assumption) ?_
        (try simp only [Act.put, List.setIfInBounds_toArray, List.set_cons_zero, List.set_cons_succ])
        refine wpAnyH_take (i := 12) (v := ?v52) (by simp only [List.getElem?_toArray, List.getElem?_cons_succ, List.getElem?_cons_zero]; rfl) (by kernel_rfl) (by kernel_rfl) (by kernel_rfl) (by exact fun _ _ _ h => h) (Or.inl ⟨by rfl, ?hy52⟩) (by assumption) ?rest52
        case hy52 => (intro w hSw; (try dsimp only at hSw); go_simp; (try with_reducible rfl))
        (try simp only [Act.put, List.setIfInBounds_toArray, List.set_cons_zero, List.set_cons_succ])
        refine wpAnyH_take (i := 13) (v := ?v53) (by simp only [List.getElem?_toArray, List.getElem?_cons_succ, List.getElem?_cons_zero]; rfl) (by kernel_rfl) (by kernel_rfl) (by kernel_rfl) (by exact fun _ _ _ h => h) (Or.inl ⟨by rfl, ?hy53⟩) (by assumption) ?rest53
        case hy53 => (intro w hSw; (try dsimp only at hSw); go_simp; (try with_reducible rfl))
        (try simp only [Act.put, List.setIfInBounds_toArray, List.set_cons_zero, List.set_cons_succ])
        refine wpAnyH_take (i := 14) (v := undef) (by simp only [List.getElem?_toArray, List.getElem?_cons_succ, List.getElem?_cons_zero]; rfl) (by kernel_rfl) (by kernel_rfl) (by kernel_rfl) (by exact fun _ _ _ h => h) (Or.inr ⟨by rfl, rfl⟩) (by assumption) ?_
        (try simp only [Act.put, List.setIfInBounds_toArray, List.set_cons_zero, List.set_cons_succ])
        refine wpAnyH_take (i := 15) (v := undef) (by simp only [List.getElem?_toArray, List.getElem?_cons_succ, List.getElem?_cons_zero]; rfl) (by kernel_rfl) (by kernel_rfl) (by kernel_rfl) (by exact fun _ _ _ h => h) (Or.inr ⟨by rfl, rfl⟩) (by assumption) ?_
        (try simp only [Act.put, List.setIfInBounds_toArray, List.set_cons_zero, List.set_cons_succ])
        refine wpAnyH_take (i := 16) (v := undef) (by simp only [List.getElem?_toArray, List.getElem?_cons_succ, List.getElem?_cons_zero]; rfl) (by kernel_rfl) (by kernel_rfl) (by kernel_rfl) (by exact fun _ _ _ h => h) (Or.inr ⟨by rfl, rfl⟩) (by assumption) ?_
        (try simp only [Act.put, List.setIfInBounds_toArray, List.set_cons_zero, List.set_cons_succ])
        refine wpAnyH_take (i := 17) (v := ?v57) (by simp only [List.getElem?_toArray, List.getElem?_cons_succ, List.getElem?_cons_zero]; rfl) (by kernel_rfl) (by kernel_rfl) (by kernel_rfl) (by exact fun _ _ _ h => h) (Or.inl ⟨by rfl, ?hy57⟩) (by assumption) ?rest57
        case hy57 => (intro w hSw; (try dsimp only at hSw); go_simp; (try with_reducible rfl))
        (try simp only [Act.put, List.setIfInBounds_toArray, List.set_cons_zero, List.set_cons_succ])
        refine wpAnyH_done (by kernel_rfl) ?_ _
        all_goals go_wp2_with fail
        all_goals go_ret
        all_goals exact ⟨ret_bool HD.out.symm, Bx.out⟩
      · have HV := hide hv; clear hv
        rcases g_cases g with h1 | ⟨h1, h2⟩ | ⟨h1, h2⟩
        · have HD : Hid (vRe W L ds = false) := vRe_bad HKL.out (by rw [HDD.out]; exact dOk_false (.inr (by omega)))
          have hd1 : decide (g < 1) = true := decide_eq_true (by omega)
          refine wp_region_held_drew (S := fun w' => w'.cell? ⟨w.heap.size, 0, none⟩ = some (.int .i64 W) ∧ w'.cell? ⟨w.heap.size, 1, none⟩ = some (.int .i64 L) ∧ w'.cell? ⟨w.heap.size, 2, none⟩ = some (.slice (some ⟨g0, 0, none⟩) n c) ∧ w'.cell? ⟨wr.heap.size, 0, none⟩ = some (.int .i64 l) ∧ w'.cell? ⟨wr.heap.size, 1, none⟩ = some (.int .i64 r) ∧ w'.cell? ⟨wr.heap.size, 2, none⟩ = some (.int .i64 f) ∧ w'.cell? ⟨wr.heap.size, 3, none⟩ = some (.int .i64 t) ∧ w'.cell? ⟨wr.heap.size, 4, none⟩ = some (.int .i64 g)) (by kernel_rfl) ?hS58 (fun hHeld => ?_)
          case hS58 => ((try dsimp only); (repeat' apply And.intro) <;> (first | (with_reducible assumption) | (rw [World.cell?_drew]; with_reducible assumption) | (simp [*]; done)))
          refine wpAnyH_take (i := 0) (v := ?v59) (by simp only [List.getElem?_toArray, List.getElem?_cons_zero]; rfl) (by kernel_rfl) (by kernel_rfl) (by kernel_rfl) (by exact fun _ _ _ h => h) (Or.inl ⟨by rfl, ?hy59⟩) (by assumption) ?rest59
          case hy59 => (intro w hSw; (try dsimp only at hSw); go_simp; (try with_reducible rfl))
          (try simp only [Act.put, List.setIfInBounds_toArray, List.set_cons_zero, List.set_cons_succ])
          refine wpAnyH_take (i := 2) (v := ?v60) (by simp only [List.getElem?_toArray, List.getElem?_cons_succ, List.getElem?_cons_zero]; rfl) (by kernel_rfl) (by kernel_rfl) (by kernel_rfl) (by exact fun _ _ _ h => h) (Or.inl ⟨by rfl, ?hy60⟩) (by assumption) ?rest60
          case hy60 => (intro w hSw; (try dsimp only at hSw); go_simp; (try with_reducible rfl))
          (try simp only [Act.put, List.setIfInBounds_toArray, List.set_cons_zero, List.set_cons_succ])
          refine wpAnyH_take (i := 3) (v := ?v61) (by simp only [List.getElem?_toArray, List.getElem?_cons_succ, List.getElem?_cons_zero]; rfl) (by kernel_rfl) (by kernel_rfl) (by kernel_rfl) (by exact fun _ _ _ h => h) (Or.inl ⟨by rfl, ?hy61⟩) (by assumption) ?rest61
          case hy61 => (intro w hSw; (try dsimp only at hSw); go_simp; (try with_reducible rfl))
          (try simp only [Act.put, List.setIfInBounds_toArray, List.set_cons_zero, List.set_cons_succ])
          refine wpAnyH_take (i := 4) (v := ?v62) (by simp only [List.getElem?_toArray, List.getElem?_cons_succ, List.getElem?_cons_zero]; rfl) (by kernel_rfl) (by kernel_rfl) (by kernel_rfl) (by exact fun _ _ _ h => h) (Or.inl ⟨by rfl, ?hy62⟩) (by assumption) ?rest62
          case hy62 => (intro w hSw; (try dsimp only at hSw); go_simp; (try with_reducible rfl))
          (try simp only [Act.put, List.setIfInBounds_toArray, List.set_cons_zero, List.set_cons_succ])
          refine wpAnyH_take (i := 5) (v := ?v63) (by simp only [List.getElem?_toArray, List.getElem?_cons_succ, List.getElem?_cons_zero]; rfl) (by kernel_rfl) (by kernel_rfl) (by kernel_rfl) (by exact fun _ _ _ h => h) (Or.inl ⟨by rfl, ?hy63⟩) (by assumption) ?rest63
          case hy63 => (intro w hSw; (try dsimp only at hSw); go_simp; (try with_reducible rfl))
          (try simp only [Act.put, List.setIfInBounds_toArray, List.set_cons_zero, List.set_cons_succ])
          refine wpAnyH_ready (rs := [1]) (by kernel_rfl) (by simp) (AllReadyH.cons (by simp only [List.getElem?_toArray, List.getElem?_cons_succ, List.getElem?_cons_zero]; rfl) (fun K hK => ?_) AllReadyH.nil)
          go_simp
          refine (implPartOf _ _ _ _ _ _).mono ?_; rintro e wx ⟨rfl, hbx⟩; have Bx : Hid (Below w.heap.size w wx) := (by first | exact below_then Bx.out hbx | exact below_then (below_drewN BV.out 1) hbx | exact below_then BV.out hbx); clear q0 q1 q2 p0 p1 p2 p3 p4; have KRx : Hid (Bk wx w.heap.size 25 #[.int .i64 W, .int .i64 L, .slice (some ⟨g0, 0, none⟩) n c]) := (by first | exact Bk.call KRx.out hbx | exact Bk.call KR.out.drew hbx | exact Bk.call KR.out hbx); obtain ⟨q0, q1, q2, -, -, -⟩ := KRx.out.three; have KDx : Hid (Bk wx wr.heap.size 43 #[.int .i64 l, .int .i64 r, .int .i64 f, .int .i64 t, .int .i64 g]) := (by first | exact Bk.call KDx.out hbx | exact Bk.call KD.out.drew hbx | exact Bk.call KD.out hbx); obtain ⟨p0, p1, p2, p3, p4⟩ := KDx.out.five; clear hbx
          (try go_wp2_with fail)
          clear hHeld
          refine hK.out _ _ ?hS64 (fun hHeld => ?_)
          case hS64 => ((try dsimp only); (repeat' apply And.intro) <;> (first | (with_reducible assumption) | (rw [World.cell?_drew]; with_reducible assumption) | (simp [*]; done)))
          clear hK K
          (try simp only [Act.put, List.setIfInBounds_toArray, List.set_cons_zero, List.set_cons_succ])
          refine wpAnyH_ready (rs := [6]) (by kernel_rfl) (by simp) (AllReadyH.cons (by simp only [List.getElem?_toArray, List.getElem?_cons_succ, List.getElem?_cons_zero]; rfl) (fun K hK => ?_) AllReadyH.nil)
          go_simp
          refine (implInside _ _ _ _ _ _ _).mono ?_; rintro e wx ⟨rfl, hbx⟩; rw [HV.out]; have Bx : Hid (Below w.heap.size w wx) := (by first | exact below_then Bx.out hbx | exact below_then (below_drewN BV.out 1) hbx | exact below_then BV.out hbx); clear q0 q1 q2 p0 p1 p2 p3 p4; have KRx : Hid (Bk wx w.heap.size 25 #[.int .i64 W, .int .i64 L, .slice (some ⟨g0, 0, none⟩) n c]) := (by first | exact Bk.call KRx.out hbx | exact Bk.call KR.out.drew hbx | exact Bk.call KR.out hbx); obtain ⟨q0, q1, q2, -, -, -⟩ := KRx.out.three; have KDx : Hid (Bk wx wr.heap.size 43 #[.int .i64 l, .int .i64 r, .int .i64 f, .int .i64 t, .int .i64 g]) := (by first | exact Bk.call KDx.out hbx | exact Bk.call KD.out.drew hbx | exact Bk.call KD.out hbx); obtain ⟨p0, p1, p2, p3, p4⟩ := KDx.out.five; clear hbx
          (try go_wp2_with fail)
          clear hHeld
          refine hK.out _ _ ?hS65 (fun hHeld => ?_)
          case hS65 => ((try dsimp only); (repeat' apply And.intro) <;> (first | (with_reducible assumption) | (rw [World.cell?_drew]; with_reducible assumption) | (simp [*]; done)))
          clear hK K
          (try simp only [Act.put, List.setIfInBounds_toArray, List.set_cons_zero, List.set_cons_succ])
          refine wpAnyH_take (i := 7) (v := ?v66) (by simp only [List.getElem?_toArray, List.getElem?_cons_succ, List.getElem?_cons_zero]; rfl) (by kernel_rfl) (by kernel_rfl) (by kernel_rfl) (by exact fun _ _ _ h => h) (Or.inl ⟨by rfl, ?hy66⟩) (by assumption) ?rest66
          case hy66 => (intro w hSw; (try dsimp only at hSw); go_simp; (try with_reducible rfl))
          (try simp only [Act.put, List.setIfInBounds_toArray, List.set_cons_zero, List.set_cons_succ])
          refine wpAnyH_take (i := 8) (v := ?v67) (by simp only [List.getElem?_toArray, List.getElem?_cons_succ, List.getElem?_cons_zero]; rfl) (by kernel_rfl) (by kernel_rfl) (by kernel_rfl) (by exact fun _ _ _ h => h) (Or.inl ⟨by rfl, ?hy67⟩) (by assumption) ?rest67
          case hy67 => (intro w hSw; (try dsimp only at hSw); go_simp; (try with_reducible rfl))
          (try simp only [Act.put, List.setIfInBounds_toArray, List.set_cons_zero, List.set_cons_succ])
          refine wpAnyH_take (i := 9) (v := ?v68) (by simp only [List.getElem?_toArray, List.getElem?_cons_succ, List.getElem?_cons_zero]; rfl) (by kernel_rfl) (by kernel_rfl) (by kernel_rfl) (by exact fun _ _ _ h => h) (Or.inl ⟨by rfl, ?hy68⟩) (by assumption) ?rest68
          case hy68 => (intro w hSw; (try dsimp only at hSw); go_simp; (try with_reducible rfl))
          (try simp only [Act.put, List.setIfInBounds_toArray, List.set_cons_zero, List.set_cons_succ])
          refine wpAnyH_take (i := 10) (v := ?v69) (by simp only [List.getElem?_toArray, List.getElem?_cons_succ, List.getElem?_cons_zero]; rfl) (by kernel_rfl) (by kernel_rfl) (by kernel_rfl) (by exact fun _ _ _ h => h) (Or.inl ⟨by rfl, ?hy69⟩) (by assumption) ?rest69
          case hy69 => (intro w hSw; (try dsimp only at hSw); go_simp; (try with_reducible rfl))
          (try simp only [Act.put, List.setIfInBounds_toArray, List.set_cons_zero, List.set_cons_succ])
          refine wpAnyH_take (i := 11) (v := ?v70) (by simp only [List.getElem?_toArray, List.getElem?_cons_succ, List.getElem?_cons_zero]; rfl) (by kernel_rfl) (by kernel_rfl) (by kernel_rfl) (by exact fun _ _ _ h => h) (Or.inl ⟨by rfl, ?hy70⟩) (by assumption) ?rest70
          case hy70 => (intro w hSw; (try dsimp only at hSw); go_simp; (try with_reducible rfl))
          (try simp only [Act.put, List.setIfInBounds_toArray, List.set_cons_zero, List.set_cons_succ])
          (try simp only [hd1])
          refine wpAnyH_take (i := 12) (v := ?v71) (by simp only [List.getElem?_toArray, List.getElem?_cons_succ, List.getElem?_cons_zero]; rfl) (by kernel_rfl) (by kernel_rfl) (by kernel_rfl) (by exact fun _ _ _ h => h) (Or.inl ⟨by rfl, ?hy71⟩) (by assumption) ?rest71
          case hy71 => (intro w hSw; (try dsimp only at hSw); go_simp; (try with_reducible rfl))
          (try simp only [Act.put, List.setIfInBounds_toArray, List.set_cons_zero, List.set_cons_succ])
          (try simp only [hd1])
          refine wpAnyH_take (i := 13) (v := ?v72) (by simp only [List.getElem?_toArray, List.getElem?_cons_succ, List.getElem?_cons_zero]; rfl) (by kernel_rfl) (by kernel_rfl) (by kernel_rfl) (by exact fun _ _ _ h => h) (Or.inl ⟨by rfl, ?hy72⟩) (by assumption) ?rest72
          case hy72 => (intro w hSw; (try dsimp only at hSw); go_simp; (try with_reducible rfl))
          (try simp only [Act.put, List.setIfInBounds_toArray, List.set_cons_zero, List.set_cons_succ])
          refine wpAnyH_take (i := 14) (v := undef) (by simp only [List.getElem?_toArray, List.getElem?_cons_succ, List.getElem?_cons_zero]; rfl) (by kernel_rfl) (by kernel_rfl) (by kernel_rfl) (by exact fun _ _ _ h => h) (Or.inr ⟨by rfl, rfl⟩) (by assumption) ?_
          (try simp only [Act.put, List.setIfInBounds_toArray, List.set_cons_zero, List.set_cons_succ])
          refine wpAnyH_take (i := 15) (v := undef) (by simp only [List.getElem?_toArray, List.getElem?_cons_succ, List.getElem?_cons_zero]; rfl) (by kernel_rfl) (by kernel_rfl) (by kernel_rfl) (by exact fun _ _ _ h => h) (Or.inr ⟨by rfl, rfl⟩) (by assumption) ?_
          (try simp only [Act.put, List.setIfInBounds_toArray, List.set_cons_zero, List.set_cons_succ])
          refine wpAnyH_take (i := 16) (v := undef) (by simp only [List.getElem?_toArray, List.getElem?_cons_succ, List.getElem?_cons_zero]; rfl) (by kernel_rfl) (by kernel_rfl) (by kernel_rfl) (by exact fun _ _ _ h => h) (Or.inr ⟨by rfl, rfl⟩) (by assumption) ?_
          (try simp only [Act.put, List.setIfInBounds_toArray, List.set_cons_zero, List.set_cons_succ])
          refine wpAnyH_take (i := 17) (v := ?v76) (by simp only [List.getElem?_toArray, List.getElem?_cons_succ, List.getElem?_cons_zero]; rfl) (by kernel_rfl) (by kernel_rfl) (by kernel_rfl) (by exact fun _ _ _ h => h) (Or.inl ⟨by rfl, ?hy76⟩) (by assumption) ?rest76
          case hy76 => (intro w hSw; (try dsimp only at hSw); go_simp; (try with_reducible rfl))
          (try simp only [Act.put, List.setIfInBounds_toArray, List.set_cons_zero, List.set_cons_succ])
          (try simp only [hd2])
          refine wpAnyH_done (by kernel_rfl) ?_ _
          all_goals go_wp2_with fail
          all_goals go_ret
          all_goals exact ⟨ret_bool HD.out.symm, Bx.out⟩
        · have HD : Hid (vRe W L ds = false) := vRe_bad HKL.out (by rw [HDD.out]; exact dOk_false (.inr (by omega)))
          have hd1 : decide (g < 1) = false := decide_eq_false (by omega)
          have hd2 : decide (9 < g) = true := decide_eq_true (by omega)
          refine wp_region_held_drew (S := fun w' => w'.cell? ⟨w.heap.size, 0, none⟩ = some (.int .i64 W) ∧ w'.cell? ⟨w.heap.size, 1, none⟩ = some (.int .i64 L) ∧ w'.cell? ⟨w.heap.size, 2, none⟩ = some (.slice (some ⟨g0, 0, none⟩) n c) ∧ w'.cell? ⟨wr.heap.size, 0, none⟩ = some (.int .i64 l) ∧ w'.cell? ⟨wr.heap.size, 1, none⟩ = some (.int .i64 r) ∧ w'.cell? ⟨wr.heap.size, 2, none⟩ = some (.int .i64 f) ∧ w'.cell? ⟨wr.heap.size, 3, none⟩ = some (.int .i64 t) ∧ w'.cell? ⟨wr.heap.size, 4, none⟩ = some (.int .i64 g)) (by kernel_rfl) ?hS1 (fun hHeld => ?_)
          case hS1 => ((try dsimp only); (repeat' apply And.intro) <;> (first | (with_reducible assumption) | (rw [World.cell?_drew]; with_reducible assumption) | (simp [*]; done)))
          refine wpAnyH_take (i := 0) (v := ?v2) (by simp only [List.getElem?_toArray, List.getElem?_cons_zero]; rfl) (by kernel_rfl) (by kernel_rfl) (by kernel_rfl) (by exact fun _ _ _ h => h) (Or.inl ⟨by rfl, ?hy2⟩) (by assumption) ?rest2
          case hy2 => (intro w hSw; (try dsimp only at hSw); go_simp; (try with_reducible rfl))
          (try simp only [Act.put, List.setIfInBounds_toArray, List.set_cons_zero, List.set_cons_succ])
          refine wpAnyH_take (i := 2) (v := ?v3) (by simp only [List.getElem?_toArray, List.getElem?_cons_succ, List.getElem?_cons_zero]; rfl) (by kernel_rfl) (by kernel_rfl) (by kernel_rfl) (by exact fun _ _ _ h => h) (Or.inl ⟨by rfl, ?hy3⟩) (by assumption) ?rest3
          case hy3 => (intro w hSw; (try dsimp only at hSw); go_simp; (try with_reducible rfl))
          (try simp only [Act.put, List.setIfInBounds_toArray, List.set_cons_zero, List.set_cons_succ])
          refine wpAnyH_take (i := 3) (v := ?v4) (by simp only [List.getElem?_toArray, List.getElem?_cons_succ, List.getElem?_cons_zero]; rfl) (by kernel_rfl) (by kernel_rfl) (by kernel_rfl) (by exact fun _ _ _ h => h) (Or.inl ⟨by rfl, ?hy4⟩) (by assumption) ?rest4
          case hy4 => (intro w hSw; (try dsimp only at hSw); go_simp; (try with_reducible rfl))
          (try simp only [Act.put, List.setIfInBounds_toArray, List.set_cons_zero, List.set_cons_succ])
          refine wpAnyH_take (i := 4) (v := ?v5) (by simp only [List.getElem?_toArray, List.getElem?_cons_succ, List.getElem?_cons_zero]; rfl) (by kernel_rfl) (by kernel_rfl) (by kernel_rfl) (by exact fun _ _ _ h => h) (Or.inl ⟨by rfl, ?hy5⟩) (by assumption) ?rest5
          case hy5 => (intro w hSw; (try dsimp only at hSw); go_simp; (try with_reducible rfl))
          (try simp only [Act.put, List.setIfInBounds_toArray, List.set_cons_zero, List.set_cons_succ])
          refine wpAnyH_take (i := 5) (v := ?v6) (by simp only [List.getElem?_toArray, List.getElem?_cons_succ, List.getElem?_cons_zero]; rfl) (by kernel_rfl) (by kernel_rfl) (by kernel_rfl) (by exact fun _ _ _ h => h) (Or.inl ⟨by rfl, ?hy6⟩) (by assumption) ?rest6
          case hy6 => (intro w hSw; (try dsimp only at hSw); go_simp; (try with_reducible rfl))
          (try simp only [Act.put, List.setIfInBounds_toArray, List.set_cons_zero, List.set_cons_succ])
          refine wpAnyH_ready (rs := [1]) (by kernel_rfl) (by simp) (AllReadyH.cons (by simp only [List.getElem?_toArray, List.getElem?_cons_succ, List.getElem?_cons_zero]; rfl) (fun K hK => ?_) AllReadyH.nil)
          go_simp
          refine (implPartOf _ _ _ _ _ _).mono ?_; rintro e wx ⟨rfl, hbx⟩; have Bx : Hid (Below w.heap.size w wx) := (by first | exact below_then Bx.out hbx | exact below_then (below_drewN BV.out 1) hbx | exact below_then BV.out hbx); clear q0 q1 q2 p0 p1 p2 p3 p4; have KRx : Hid (Bk wx w.heap.size 25 #[.int .i64 W, .int .i64 L, .slice (some ⟨g0, 0, none⟩) n c]) := (by first | exact Bk.call KRx.out hbx | exact Bk.call KR.out.drew hbx | exact Bk.call KR.out hbx); obtain ⟨q0, q1, q2, -, -, -⟩ := KRx.out.three; have KDx : Hid (Bk wx wr.heap.size 43 #[.int .i64 l, .int .i64 r, .int .i64 f, .int .i64 t, .int .i64 g]) := (by first | exact Bk.call KDx.out hbx | exact Bk.call KD.out.drew hbx | exact Bk.call KD.out hbx); obtain ⟨p0, p1, p2, p3, p4⟩ := KDx.out.five; clear hbx
          (try go_wp2_with fail)
          clear hHeld
          refine hK.out _ _ ?hS7 (fun hHeld => ?_)
          case hS7 => ((try dsimp only); (repeat' apply And.intro) <;> (first | (with_reducible assumption) | (rw [World.cell?_drew]; with_reducible assumption) | (simp [*]; done)))
          clear hK K
          (try simp only [Act.put, List.setIfInBounds_toArray, List.set_cons_zero, List.set_cons_succ])
          refine wpAnyH_ready (rs := [6]) (by kernel_rfl) (by simp) (AllReadyH.cons (by simp only [List.getElem?_toArray, List.getElem?_cons_succ, List.getElem?_cons_zero]; rfl) (fun K hK => ?_) AllReadyH.nil)
          go_simp
          refine (implInside _ _ _ _ _ _ _).mono ?_; rintro e wx ⟨rfl, hbx⟩; rw [HV.out]; have Bx : Hid (Below w.heap.size w wx) := (by first | exact below_then Bx.out hbx | exact below_then (below_drewN BV.out 1) hbx | exact below_then BV.out hbx); clear q0 q1 q2 p0 p1 p2 p3 p4; have KRx : Hid (Bk wx w.heap.size 25 #[.int .i64 W, .int .i64 L, .slice (some ⟨g0, 0, none⟩) n c]) := (by first | exact Bk.call KRx.out hbx | exact Bk.call KR.out.drew hbx | exact Bk.call KR.out hbx); obtain ⟨q0, q1, q2, -, -, -⟩ := KRx.out.three; have KDx : Hid (Bk wx wr.heap.size 43 #[.int .i64 l, .int .i64 r, .int .i64 f, .int .i64 t, .int .i64 g]) := (by first | exact Bk.call KDx.out hbx | exact Bk.call KD.out.drew hbx | exact Bk.call KD.out hbx); obtain ⟨p0, p1, p2, p3, p4⟩ := KDx.out.five; clear hbx
          (try go_wp2_with fail)
          clear hHeld
          refine hK.out _ _ ?hS8 (fun hHeld => ?_)
          case hS8 => ((try dsimp only); (repeat' apply And.intro) <;> (first | (with_reducible assumption) | (rw [World.cell?_drew]; with_reducible assumption) | (simp [*]; done)))
          clear hK K
          (try simp only [Act.put, List.setIfInBounds_toArray, List.set_cons_zero, List.set_cons_succ])
          refine wpAnyH_take (i := 7) (v := ?v9) (by simp only [List.getElem?_toArray, List.getElem?_cons_succ, List.getElem?_cons_zero]; rfl) (by kernel_rfl) (by kernel_rfl) (by kernel_rfl) (by exact fun _ _ _ h => h) (Or.inl ⟨by rfl, ?hy9⟩) (by assumption) ?rest9
          case hy9 => (intro w hSw; (try dsimp only at hSw); go_simp; (try with_reducible rfl))
          (try simp only [Act.put, List.setIfInBounds_toArray, List.set_cons_zero, List.set_cons_succ])
          refine wpAnyH_take (i := 8) (v := ?v10) (by simp only [List.getElem?_toArray, List.getElem?_cons_succ, List.getElem?_cons_zero]; rfl) (by kernel_rfl) (by kernel_rfl) (by kernel_rfl) (by exact fun _ _ _ h => h) (Or.inl ⟨by rfl, ?hy10⟩) (by assumption) ?rest10
          case hy10 => (intro w hSw; (try dsimp only at hSw); go_simp; (try with_reducible rfl))
          (try simp only [Act.put, List.setIfInBounds_toArray, List.set_cons_zero, List.set_cons_succ])
          refine wpAnyH_take (i := 9) (v := ?v11) (by simp only [List.getElem?_toArray, List.getElem?_cons_succ, List.getElem?_cons_zero]; rfl) (by kernel_rfl) (by kernel_rfl) (by kernel_rfl) (by exact fun _ _ _ h => h) (Or.inl ⟨by rfl, ?hy11⟩) (by assumption) ?rest11
          case hy11 => (intro w hSw; (try dsimp only at hSw); go_simp; (try with_reducible rfl))
          (try simp only [Act.put, List.setIfInBounds_toArray, List.set_cons_zero, List.set_cons_succ])
          refine wpAnyH_take (i := 10) (v := ?v12) (by simp only [List.getElem?_toArray, List.getElem?_cons_succ, List.getElem?_cons_zero]; rfl) (by kernel_rfl) (by kernel_rfl) (by kernel_rfl) (by exact fun _ _ _ h => h) (Or.inl ⟨by rfl, ?hy12⟩) (by assumption) ?rest12
          case hy12 => (intro w hSw; (try dsimp only at hSw); go_simp; (try with_reducible rfl))
          (try simp only [Act.put, List.setIfInBounds_toArray, List.set_cons_zero, List.set_cons_succ])
          refine wpAnyH_take (i := 11) (v := ?v13) (by simp only [List.getElem?_toArray, List.getElem?_cons_succ, List.getElem?_cons_zero]; rfl) (by kernel_rfl) (by kernel_rfl) (by kernel_rfl) (by exact fun _ _ _ h => h) (Or.inl ⟨by rfl, ?hy13⟩) (by assumption) ?rest13
          case hy13 => (intro w hSw; (try dsimp only at hSw); go_simp; (try with_reducible rfl))
          (try simp only [Act.put, List.setIfInBounds_toArray, List.set_cons_zero, List.set_cons_succ])
          (try simp only [hd1])
          refine wpAnyH_take (i := 12) (v := ?v14) (by simp only [List.getElem?_toArray, List.getElem?_cons_succ, List.getElem?_cons_zero]; rfl) (by kernel_rfl) (by kernel_rfl) (by kernel_rfl) (by exact fun _ _ _ h => h) (Or.inl ⟨by rfl, ?hy14⟩) (by assumption) ?rest14
          case hy14 => (intro w hSw; (try dsimp only at hSw); go_simp; (try with_reducible rfl))
          (try simp only [Act.put, List.setIfInBounds_toArray, List.set_cons_zero, List.set_cons_succ])
          (try simp only [hd1])
          refine wpAnyH_take (i := 13) (v := ?v15) (by simp only [List.getElem?_toArray, List.getElem?_cons_succ, List.getElem?_cons_zero]; rfl) (by kernel_rfl) (by kernel_rfl) (by kernel_rfl) (by exact fun _ _ _ h => h) (Or.inl ⟨by rfl, ?hy15⟩) (by assumption) ?rest15
          case hy15 => (intro w hSw; (try dsimp only at hSw); go_simp; (try with_reducible rfl))
          (try simp only [Act.put, List.setIfInBounds_toArray, List.set_cons_zero, List.set_cons_succ])
          refine wpAnyH_take (i := 14) (v := ?v16) (by simp only [List.getElem?_toArray, List.getElem?_cons_succ, List.getElem?_cons_zero]; rfl) (by kernel_rfl) (by kernel_rfl) (by kernel_rfl) (by exact fun _ _ _ h => h) (Or.inl ⟨by rfl, ?hy16⟩) (by assumption) ?rest16
          case hy16 => (intro w hSw; (try dsimp only at hSw); go_simp; (try with_reducible rfl))
          (try simp only [Act.put, List.setIfInBounds_toArray, List.set_cons_zero, List.set_cons_succ])
          refine wpAnyH_take (i := 15) (v := ?v17) (by simp only [List.getElem?_toArray, List.getElem?_cons_succ, List.getElem?_cons_zero]; rfl) (by kernel_rfl) (by kernel_rfl) (by kernel_rfl) (by exact fun _ _ _ h => h) (Or.inl ⟨by rfl, ?hy17⟩) (by assumption) ?rest17
          case hy17 => (intro w hSw; (try dsimp only at hSw); go_simp; (try with_reducible rfl))
          (try simp only [Act.put, List.setIfInBounds_toArray, List.set_cons_zero, List.set_cons_succ])
          refine wpAnyH_take (i := 16) (v := ?v18) (by simp only [List.getElem?_toArray, List.getElem?_cons_succ, List.getElem?_cons_zero]; rfl) (by kernel_rfl) (by kernel_rfl) (by kernel_rfl) (by exact fun _ _ _ h => h) (Or.inl ⟨by rfl, ?hy18⟩) (by assumption) ?rest18
          case hy18 => (intro w hSw; (try dsimp only at hSw); go_simp; (try with_reducible rfl))
          (try simp only [Act.put, List.setIfInBounds_toArray, List.set_cons_zero, List.set_cons_succ])
          (try simp only [hd2])
          refine wpAnyH_take (i := 17) (v := ?v19) (by simp only [List.getElem?_toArray, List.getElem?_cons_succ, List.getElem?_cons_zero]; rfl) (by kernel_rfl) (by kernel_rfl) (by kernel_rfl) (by exact fun _ _ _ h => h) (Or.inl ⟨by rfl, ?hy19⟩) (by assumption) ?rest19
          case hy19 => (intro w hSw; (try dsimp only at hSw); go_simp; (try with_reducible rfl))
          (try simp only [Act.put, List.setIfInBounds_toArray, List.set_cons_zero, List.set_cons_succ])
          (try simp only [hd2])
          refine wpAnyH_done (by kernel_rfl) ?_ _
          all_goals go_wp2_with fail
          all_goals go_ret
          all_goals exact ⟨ret_bool HD.out.symm, Bx.out⟩
        · have HD : Hid (dOk W L (nthD ds k) = true) := by rw [HDD.out]; exact dOk_true HV.out (by omega)
          have hd1 : decide (g < 1) = false := decide_eq_false (by omega)
          have hd2 : decide (9 < g) = false := decide_eq_false (by omega)
          refine wp_region_held_drew (S := fun w' => w'.cell? ⟨w.heap.size, 0, none⟩ = some (.int .i64 W) ∧ w'.cell? ⟨w.heap.size, 1, none⟩ = some (.int .i64 L) ∧ w'.cell? ⟨w.heap.size, 2, none⟩ = some (.slice (some ⟨g0, 0, none⟩) n c) ∧ w'.cell? ⟨wr.heap.size, 0, none⟩ = some (.int .i64 l) ∧ w'.cell? ⟨wr.heap.size, 1, none⟩ = some (.int .i64 r) ∧ w'.cell? ⟨wr.heap.size, 2, none⟩ = some (.int .i64 f) ∧ w'.cell? ⟨wr.heap.size, 3, none⟩ = some (.int .i64 t) ∧ w'.cell? ⟨wr.heap.size, 4, none⟩ = some (.int .i64 g)) (by kernel_rfl) ?hS20 (fun hHeld => ?_)
          case hS20 => ((try dsimp only); (repeat' apply And.intro) <;> (first | (with_reducible assumption) | (rw [World.cell?_drew]; with_reducible assumption) | (simp [*]; done)))
          refine wpAnyH_take (i := 0) (v := ?v21) (by simp only [List.getElem?_toArray, List.getElem?_cons_zero]; rfl) (by kernel_rfl) (by kernel_rfl) (by kernel_rfl) (by exact fun _ _ _ h => h) (Or.inl ⟨by rfl, ?hy21⟩) (by assumption) ?rest21
          case hy21 => (intro w hSw; (try dsimp only at hSw); go_simp; (try with_reducible rfl))
          (try simp only [Act.put, List.setIfInBounds_toArray, List.set_cons_zero, List.set_cons_succ])
          refine wpAnyH_take (i := 2) (v := ?v22) (by simp only [List.getElem?_toArray, List.getElem?_cons_succ, List.getElem?_cons_zero]; rfl) (by kernel_rfl) (by kernel_rfl) (by kernel_rfl) (by exact fun _ _ _ h => h) (Or.inl ⟨by rfl, ?hy22⟩) (by assumption) ?rest22
          case hy22 => (intro w hSw; (try dsimp only at hSw); go_simp; (try with_reducible rfl))
          (try simp only [Act.put, List.setIfInBounds_toArray, List.set_cons_zero, List.set_cons_succ])
          refine wpAnyH_take (i := 3) (v := ?v23) (by simp only [List.getElem?_toArray, List.getElem?_cons_succ, List.getElem?_cons_zero]; rfl) (by kernel_rfl) (by kernel_rfl) (by kernel_rfl) (by exact fun _ _ _ h => h) (Or.inl ⟨by rfl, ?hy23⟩) (by assumption) ?rest23
          case hy23 => (intro w hSw; (try dsimp only at hSw); go_simp; (try with_reducible rfl))
          (try simp only [Act.put, List.setIfInBounds_toArray, List.set_cons_zero, List.set_cons_succ])
          refine wpAnyH_take (i := 4) (v := ?v24) (by simp only [List.getElem?_toArray, List.getElem?_cons_succ, List.getElem?_cons_zero]; rfl) (by kernel_rfl) (by kernel_rfl) (by kernel_rfl) (by exact fun _ _ _ h => h) (Or.inl ⟨by rfl, ?hy24⟩) (by assumption) ?rest24
          case hy24 => (intro w hSw; (try dsimp only at hSw); go_simp; (try with_reducible rfl))
          (try simp only [Act.put, List.setIfInBounds_toArray, List.set_cons_zero, List.set_cons_succ])
          refine wpAnyH_take (i := 5) (v := ?v25) (by simp only [List.getElem?_toArray, List.getElem?_cons_succ, List.getElem?_cons_zero]; rfl) (by kernel_rfl) (by kernel_rfl) (by kernel_rfl) (by exact fun _ _ _ h => h) (Or.inl ⟨by rfl, ?hy25⟩) (by assumption) ?rest25
          case hy25 => (intro w hSw; (try dsimp only at hSw); go_simp; (try with_reducible rfl))
          (try simp only [Act.put, List.setIfInBounds_toArray, List.set_cons_zero, List.set_cons_succ])
          refine wpAnyH_ready (rs := [1]) (by kernel_rfl) (by simp) (AllReadyH.cons (by simp only [List.getElem?_toArray, List.getElem?_cons_succ, List.getElem?_cons_zero]; rfl) (fun K hK => ?_) AllReadyH.nil)
          go_simp
          refine (implPartOf _ _ _ _ _ _).mono ?_; rintro e wx ⟨rfl, hbx⟩; have Bx : Hid (Below w.heap.size w wx) := (by first | exact below_then Bx.out hbx | exact below_then (below_drewN BV.out 1) hbx | exact below_then BV.out hbx); clear q0 q1 q2 p0 p1 p2 p3 p4; have KRx : Hid (Bk wx w.heap.size 25 #[.int .i64 W, .int .i64 L, .slice (some ⟨g0, 0, none⟩) n c]) := (by first | exact Bk.call KRx.out hbx | exact Bk.call KR.out.drew hbx | exact Bk.call KR.out hbx); obtain ⟨q0, q1, q2, -, -, -⟩ := KRx.out.three; have KDx : Hid (Bk wx wr.heap.size 43 #[.int .i64 l, .int .i64 r, .int .i64 f, .int .i64 t, .int .i64 g]) := (by first | exact Bk.call KDx.out hbx | exact Bk.call KD.out.drew hbx | exact Bk.call KD.out hbx); obtain ⟨p0, p1, p2, p3, p4⟩ := KDx.out.five; clear hbx
          (try go_wp2_with fail)
          clear hHeld
          refine hK.out _ _ ?hS26 (fun hHeld => ?_)
          case hS26 => ((try dsimp only); (repeat' apply And.intro) <;> (first | (with_reducible assumption) | (rw [World.cell?_drew]; with_reducible assumption) | (simp [*]; done)))
          clear hK K
          (try simp only [Act.put, List.setIfInBounds_toArray, List.set_cons_zero, List.set_cons_succ])
          refine wpAnyH_ready (rs := [6]) (by kernel_rfl) (by simp) (AllReadyH.cons (by simp only [List.getElem?_toArray, List.getElem?_cons_succ, List.getElem?_cons_zero]; rfl) (fun K hK => ?_) AllReadyH.nil)
          go_simp
          refine (implInside _ _ _ _ _ _ _).mono ?_; rintro e wx ⟨rfl, hbx⟩; rw [HV.out]; have Bx : Hid (Below w.heap.size w wx) := (by first | exact below_then Bx.out hbx | exact below_then (below_drewN BV.out 1) hbx | exact below_then BV.out hbx); clear q0 q1 q2 p0 p1 p2 p3 p4; have KRx : Hid (Bk wx w.heap.size 25 #[.int .i64 W, .int .i64 L, .slice (some ⟨g0, 0, none⟩) n c]) := (by first | exact Bk.call KRx.out hbx | exact Bk.call KR.out.drew hbx | exact Bk.call KR.out hbx); obtain ⟨q0, q1, q2, -, -, -⟩ := KRx.out.three; have KDx : Hid (Bk wx wr.heap.size 43 #[.int .i64 l, .int .i64 r, .int .i64 f, .int .i64 t, .int .i64 g]) := (by first | exact Bk.call KDx.out hbx | exact Bk.call KD.out.drew hbx | exact Bk.call KD.out hbx); obtain ⟨p0, p1, p2, p3, p4⟩ := KDx.out.five; clear hbx
          (try go_wp2_with fail)
          clear hHeld
          refine hK.out _ _ ?hS27 (fun hHeld => ?_)
          case hS27 => ((try dsimp only); (repeat' apply And.intro) <;> (first | (with_reducible assumption) | (rw [World.cell?_drew]; with_reducible assumption) | (simp [*]; done)))
          clear hK K
          (try simp only [Act.put, List.setIfInBounds_toArray, List.set_cons_zero, List.set_cons_succ])
          refine wpAnyH_take (i := 7) (v := ?v28) (by simp only [List.getElem?_toArray, List.getElem?_cons_succ, List.getElem?_cons_zero]; rfl) (by kernel_rfl) (by kernel_rfl) (by kernel_rfl) (by exact fun _ _ _ h => h) (Or.inl ⟨by rfl, ?hy28⟩) (by assumption) ?rest28
          case hy28 => (intro w hSw; (try dsimp only at hSw); go_simp; (try with_reducible rfl))
          (try simp only [Act.put, List.setIfInBounds_toArray, List.set_cons_zero, List.set_cons_succ])
          refine wpAnyH_take (i := 8) (v := ?v29) (by simp only [List.getElem?_toArray, List.getElem?_cons_succ, List.getElem?_cons_zero]; rfl) (by kernel_rfl) (by kernel_rfl) (by kernel_rfl) (by exact fun _ _ _ h => h) (Or.inl ⟨by rfl, ?hy29⟩) (by assumption) ?rest29
          case hy29 => (intro w hSw; (try dsimp only at hSw); go_simp; (try with_reducible rfl))
          (try simp only [Act.put, List.setIfInBounds_toArray, List.set_cons_zero, List.set_cons_succ])
          refine wpAnyH_take (i := 9) (v := ?v30) (by simp only [List.getElem?_toArray, List.getElem?_cons_succ, List.getElem?_cons_zero]; rfl) (by kernel_rfl) (by kernel_rfl) (by kernel_rfl) (by exact fun _ _ _ h => h) (Or.inl ⟨by rfl, ?hy30⟩) (by assumption) ?rest30
          case hy30 => (intro w hSw; (try dsimp only at hSw); go_simp; (try with_reducible rfl))
          (try simp only [Act.put, List.setIfInBounds_toArray, List.set_cons_zero, List.set_cons_succ])
          refine wpAnyH_take (i := 10) (v := ?v31) (by simp only [List.getElem?_toArray, List.getElem?_cons_succ, List.getElem?_cons_zero]; rfl) (by kernel_rfl) (by kernel_rfl) (by kernel_rfl) (by exact fun _ _ _ h => h) (Or.inl ⟨by rfl, ?hy31⟩) (by assumption) ?rest31
          case hy31 => (intro w hSw; (try dsimp only at hSw); go_simp; (try with_reducible rfl))
          (try simp only [Act.put, List.setIfInBounds_toArray, List.set_cons_zero, List.set_cons_succ])
          refine wpAnyH_take (i := 11) (v := ?v32) (by simp only [List.getElem?_toArray, List.getElem?_cons_succ, List.getElem?_cons_zero]; rfl) (by kernel_rfl) (by kernel_rfl) (by kernel_rfl) (by exact fun _ _ _ h => h) (Or.inl ⟨by rfl, ?hy32⟩) (by assumption) ?rest32
          case hy32 => (intro w hSw; (try dsimp only at hSw); go_simp; (try with_reducible rfl))
          (try simp only [Act.put, List.setIfInBounds_toArray, List.set_cons_zero, List.set_cons_succ])
          (try simp only [hd1])
          refine wpAnyH_take (i := 12) (v := ?v33) (by simp only [List.getElem?_toArray, List.getElem?_cons_succ, List.getElem?_cons_zero]; rfl) (by kernel_rfl) (by kernel_rfl) (by kernel_rfl) (by exact fun _ _ _ h => h) (Or.inl ⟨by rfl, ?hy33⟩) (by assumption) ?rest33
          case hy33 => (intro w hSw; (try dsimp only at hSw); go_simp; (try with_reducible rfl))
          (try simp only [Act.put, List.setIfInBounds_toArray, List.set_cons_zero, List.set_cons_succ])
          (try simp only [hd1])
          refine wpAnyH_take (i := 13) (v := ?v34) (by simp only [List.getElem?_toArray, List.getElem?_cons_succ, List.getElem?_cons_zero]; rfl) (by kernel_rfl) (by kernel_rfl) (by kernel_rfl) (by exact fun _ _ _ h => h) (Or.inl ⟨by rfl, ?hy34⟩) (by assumption) ?rest34
          case hy34 => (intro w hSw; (try dsimp only at hSw); go_simp; (try with_reducible rfl))
          (try simp only [Act.put, List.setIfInBounds_toArray, List.set_cons_zero, List.set_cons_succ])
          refine wpAnyH_take (i := 14) (v := ?v35) (by simp only [List.getElem?_toArray, List.getElem?_cons_succ, List.getElem?_cons_zero]; rfl) (by kernel_rfl) (by kernel_rfl) (by kernel_rfl) (by exact fun _ _ _ h => h) (Or.inl ⟨by rfl, ?hy35⟩) (by assumption) ?rest35
          case hy35 => (intro w hSw; (try dsimp only at hSw); go_simp; (try with_reducible rfl))
          (try simp only [Act.put, List.setIfInBounds_toArray, List.set_cons_zero, List.set_cons_succ])
          refine wpAnyH_take (i := 15) (v := ?v36) (by simp only [List.getElem?_toArray, List.getElem?_cons_succ, List.getElem?_cons_zero]; rfl) (by kernel_rfl) (by kernel_rfl) (by kernel_rfl) (by exact fun _ _ _ h => h) (Or.inl ⟨by rfl, ?hy36⟩) (by assumption) ?rest36
          case hy36 => (intro w hSw; (try dsimp only at hSw); go_simp; (try with_reducible rfl))
          (try simp only [Act.put, List.setIfInBounds_toArray, List.set_cons_zero, List.set_cons_succ])
          refine wpAnyH_take (i := 16) (v := ?v37) (by simp only [List.getElem?_toArray, List.getElem?_cons_succ, List.getElem?_cons_zero]; rfl) (by kernel_rfl) (by kernel_rfl) (by kernel_rfl) (by exact fun _ _ _ h => h) (Or.inl ⟨by rfl, ?hy37⟩) (by assumption) ?rest37
          case hy37 => (intro w hSw; (try dsimp only at hSw); go_simp; (try with_reducible rfl))
          (try simp only [Act.put, List.setIfInBounds_toArray, List.set_cons_zero, List.set_cons_succ])
          (try simp only [hd2])
          refine wpAnyH_take (i := 17) (v := ?v38) (by simp only [List.getElem?_toArray, List.getElem?_cons_succ, List.getElem?_cons_zero]; rfl) (by kernel_rfl) (by kernel_rfl) (by kernel_rfl) (by exact fun _ _ _ h => h) (Or.inl ⟨by rfl, ?hy38⟩) (by assumption) ?rest38
          case hy38 => (intro w hSw; (try dsimp only at hSw); go_simp; (try with_reducible rfl))
          (try simp only [Act.put, List.setIfInBounds_toArray, List.set_cons_zero, List.set_cons_succ])
          (try simp only [hd2])
          refine wpAnyH_done (by kernel_rfl) ?_ _
          all_goals go_wp2_with fail
          all_goals go_roundw
          all_goals first
            | (case rel => exact ⟨k + 1, by omega, by go_num, hide (fun j hj => by
                by_cases e : j = k
                · subst e; exact HD.out
                · exact hok.out j (by omega)), KRx, Bx⟩)
            | (case measure => simp [intOf]; omega)
    · have : k = n := by omega
      subst this
      have HD : Hid (vRe W L ds = true) := vRe_yes ⟨h1, h2⟩ ⟨h3, h4⟩ (by rw [HL.out]; exact h5) (by rw [HL.out]; exact hok.out)
      obtain ⟨q0, q1, q2, -, -, -⟩ := hK.out.three
      go_wp2
      go_ret
      exact ⟨ret_bool HD.out.symm, hB.out⟩
set_option maxHeartbeats 4000000 in
theorem specValidReel0 (W L : Int) (A : Option Addr) (n c : Nat) (ds : List D5) (w : World) (hn : n ≤ 1048576) (h : Dfs w A n ds) :
    Calls Try.prog 24 #[reel W L A n c] w fun e w' => e = .returned (.bool (vRe W L ds)) ∧ Below w.heap.size w w' := by
  have hl := h.1
  by_cases hbad : ¬ ((1 ≤ W ∧ W ≤ 60) ∧ (1 ≤ L ∧ L ≤ 400) ∧ n ≤ 16)
  · have HD : Hid (vRe W L ds = false) := vRe_no (by rw [hl]; exact hbad)
    clear h hl
    rcases r_cases W L n with h1 | ⟨h1, h2⟩ | ⟨h1, h2, h3⟩ | ⟨h1, h2, h3, h4⟩ | ⟨h1, h2, h3, h4, h5⟩ | ⟨h1, h2, h3, h4, h5⟩
    case inr.inr.inr.inr.inr => exact absurd ⟨⟨h1, h2⟩, ⟨h3, h4⟩, by omega⟩ hbad
    all_goals
      clear hbad
      go_enter Try.func24, Try.ntmps24
      go_wp2_with (go_at_call 36; refine (inRange_any _ _ _ _).mono ?_; rintro e w' ⟨rfl, rfl⟩)
      go_ret
      exact ⟨ret_bool HD.out.symm, by go_grown⟩
  obtain ⟨⟨h1, h2⟩, ⟨h3, h4⟩, h5⟩ : (1 ≤ W ∧ W ≤ 60) ∧ (1 ≤ L ∧ L ≤ 400) ∧ n ≤ 16 := Classical.byContradiction hbad
  clear hbad
  have h5' : (n : Int) ≤ 16 := by omega
  have HL := hide hl; have HH := hide h; clear hl h
  go_enter Try.func24, Try.ntmps24
  go_wp2_with (go_at_call 36; refine (inRange_any _ _ _ _).mono ?_; rintro e w' ⟨rfl, rfl⟩)
  go_loopw [3] (fun i wr => ∃ k : Nat, k ≤ n ∧ i = .int .i64 k ∧ Hid (∀ j, j < k → dOk W L (nthD ds j) = true) ∧ Hid (Bk wr w.heap.size 25 #[.int .i64 W, .int .i64 L, .slice A n c]) ∧ Hid (Below w.heap.size w wr)) (fun i _ => n - (intOf i).toNat)
  case atStart => exact ⟨0, by omega, rfl, hide (fun j hj => by omega), hide (Bk.made _ _ _), hide (by go_grown)⟩
  case round =>
    obtain ⟨k, hk, rfl, hok, hK, hB⟩ := hrel
    by_cases hlt : k < n
    · obtain ⟨g0, rfl, hgb, hc⟩ := (HH.out.below hB.out).2 (by omega)
      have HKL := hide (show k < ds.length by rw [HL.out]; exact hlt)
      obtain ⟨c0, c1, c2, c3, c4⟩ := hc k HKL.out
      obtain ⟨d, hd⟩ : ∃ d, nthD ds k = d := ⟨_, rfl⟩
      rw [hd] at c0 c1 c2 c3 c4
      have HDD := hide hd
      clear hd hc
      obtain ⟨l, r, f, t, g⟩ := d
      dsimp only at c0 c1 c2 c3 c4
      obtain ⟨q0, q1, q2, -, -, -⟩ := hK.out.three
      have lR := hK.out.lt
      cases hv : dOk W L ⟨l, r, f, t, g⟩
      · have HV := hide hv; clear hv
        have HD : Hid (vRe W L ds = false) := vRe_bad HKL.out (by rw [HDD.out]; exact HV.out)
        go_wp2_with fail
        first | (go_region_with (first | (go_at_call 37; refine (specValidDefect _ _ _ _ _ _ _ _ _ _ ⟨h1, h2⟩ ⟨h3, h4⟩ _).mono ?_; rintro e wx ⟨rfl, hbx⟩; rw [HV.out]; have Bx : Hid (Below w.heap.size w wx) := (by first | exact below_then (below_drewN hB.out 1) hbx | exact below_then hB.out hbx); have KRx : Hid (Bk wx w.heap.size 25 #[.int .i64 W, .int .i64 L, .slice (some ⟨g0, 0, none⟩) n c]) := (by first | exact Bk.call hK.out.drew hbx | exact Bk.call hK.out hbx); clear q0 q1 q2 c0 c1 c2 c3 c4; obtain ⟨q0, q1, q2, -, -, -⟩ := KRx.out.three; clear hbx))) | fail
        go_wp2_with fail
        all_goals go_ret
        all_goals exact ⟨ret_bool HD.out.symm, Bx.out⟩
      · have HV := hide hv; clear hv
        have HD : Hid (dOk W L (nthD ds k) = true) := by rw [HDD.out]; exact HV.out
        go_wp2_with fail
        first | (go_region_with (first | (go_at_call 37; refine (specValidDefect _ _ _ _ _ _ _ _ _ _ ⟨h1, h2⟩ ⟨h3, h4⟩ _).mono ?_; rintro e wx ⟨rfl, hbx⟩; rw [HV.out]; have Bx : Hid (Below w.heap.size w wx) := (by first | exact below_then (below_drewN hB.out 1) hbx | exact below_then hB.out hbx); have KRx : Hid (Bk wx w.heap.size 25 #[.int .i64 W, .int .i64 L, .slice (some ⟨g0, 0, none⟩) n c]) := (by first | exact Bk.call hK.out.drew hbx | exact Bk.call hK.out hbx); clear q0 q1 q2 c0 c1 c2 c3 c4; obtain ⟨q0, q1, q2, -, -, -⟩ := KRx.out.three; clear hbx))) | fail
        go_wp2_with fail
        all_goals go_roundw
        all_goals first
          | (case rel => exact ⟨k + 1, by omega, by go_num, hide (fun j hj => by
              by_cases e : j = k
              · subst e; exact HD.out
              · exact hok.out j (by omega)), KRx, Bx⟩)
          | (case measure => simp [intOf]; omega)
    · have : k = n := by omega
      subst this
      have HD : Hid (vRe W L ds = true) := vRe_yes ⟨h1, h2⟩ ⟨h3, h4⟩ (by rw [HL.out]; exact h5) (by rw [HL.out]; exact hok.out)
      obtain ⟨q0, q1, q2, -, -, -⟩ := hK.out.three
      go_wp2
      go_ret
      exact ⟨ret_bool HD.out.symm, hB.out⟩
theorem specValidReel (W L : Int) (A : Option Addr) (n c : Nat) (ds : List D5) (w : World) (hn : n ≤ 1048576) (h : Dfs w A n ds) :
    Calls Try.prog 9 #[reel W L A n c] w fun e w' => e = .returned (.bool (vRe W L ds)) ∧ Below w.heap.size w w' := by
  have HH := hide h; clear h
  go_enter Try.func9, Try.ntmps9
  go_wp2_with (go_at_call 24; refine (specValidReel0 _ _ _ _ _ ds _ hn (HH.out.alloc _)).mono ?_; rintro e w' ⟨rfl, hb⟩; have HB : Below w.heap.size w w' := below_next (by go_grown) (by go_size) hb; have hz := HB.size)
  go_ret
  exact ⟨rfl, by go_grown⟩
theorem implValidPart (W L : Int) (A : Option Addr) (n c : Nat) (ds : List D5) (l r f t : Int) (w : World) (hn : n ≤ 1048576) (h : Dfs w A n ds) :
    Calls Try.prog 10 #[reel W L A n c, part l r f t] w fun e w' => e = .returned (.bool (vRe W L ds && vPa W L l r f t)) ∧ Below w.heap.size w w' := by
  have HH := hide h; clear h
  cases hv : vRe W L ds
  all_goals
    have HV := hide hv; clear hv
    go_enter Try.func10, Try.ntmps10
    go_wp2_with (first
      | (go_at_call 8; refine (implValidReel _ _ _ _ _ ds _ hn ((HH.out.alloc _).alloc _)).mono ?_; rintro e w' ⟨rfl, hb⟩; rw [HV.out]; have HB : Below w.heap.size w w' := below_next (by go_grown) (by go_size) hb; have hz := HB.size; obtain ⟨hcel, hfro⟩ := bcell hb)
      | (go_at_call 22; refine (implInside _ _ _ _ _ _ _).mono ?_; rintro e w2 ⟨rfl, hb2⟩; have HB2 : Below w.heap.size w w2 := below_next (by go_grown) (by go_size) hb2; have hz2 := HB2.size))
    go_ret
    exact ⟨rfl, by go_grown⟩
theorem specValidPart (W L : Int) (A : Option Addr) (n c : Nat) (ds : List D5) (l r f t : Int) (w : World) (hn : n ≤ 1048576) (h : Dfs w A n ds) :
    Calls Try.prog 13 #[reel W L A n c, part l r f t] w fun e w' => e = .returned (.bool (vRe W L ds && vPa W L l r f t)) ∧ Below w.heap.size w w' := by
  have HH := hide h; clear h
  cases hv : vRe W L ds
  · have HV := hide hv; clear hv
    go_enter Try.func13, Try.ntmps13
    go_wp2_with (go_at_call 24; refine (specValidReel0 _ _ _ _ _ ds _ hn ((HH.out.alloc _).alloc _)).mono ?_; rintro e w' ⟨rfl, hb⟩; rw [HV.out]; have HB : Below w.heap.size w w' := below_next (by go_grown) (by go_size) hb; have hz := HB.size; obtain ⟨hcel, hfro⟩ := bcell hb)
    go_ret
    exact ⟨rfl, by go_grown⟩
  · obtain ⟨hW, hL, -, -⟩ := vRe_out hv
    have HV := hide hv; clear hv
    go_enter Try.func13, Try.ntmps13
    go_wp2_with (first
      | (go_at_call 24; refine (specValidReel0 _ _ _ _ _ ds _ hn ((HH.out.alloc _).alloc _)).mono ?_; rintro e w' ⟨rfl, hb⟩; rw [HV.out]; have HB : Below w.heap.size w w' := below_next (by go_grown) (by go_size) hb; have hz := HB.size; obtain ⟨hcel, hfro⟩ := bcell hb)
      | (go_at_call 26; refine (specValidPart0 _ _ _ _ _ _ _ _ _ hW hL _).mono ?_; rintro e w2 ⟨rfl, hb2⟩; have HB2 : Below w.heap.size w w2 := below_next (by go_grown) (by go_size) hb2; have hz2 := HB2.size))
    go_ret
    exact ⟨rfl, by go_grown⟩
end Go.Proofs.Ytbbopnpmjhbffaa
