/- Contracts of drawn piles: somePile. -/
import Derived.Test.YtbbopnpmjhbffaaPid1
import Derived.Test.YtbbopnpmjhbffaaRdE4
namespace Go.Proofs.Ytbbopnpmjhbffaa
open Go.RowKit
attribute [local go_sem ↓] Go.wp_at_zero Go.wp_at_succ
set_option linter.unusedVariables false
set_option maxRecDepth 100000
/-- a drawn pile: a slice of the call's own, or its first rows -/
def SomeP (rb N : Nat) (w : World) (e : Ending) (w' : World) : Prop := ∃ (v : Value) (n : Nat) (vals : List Value) (xss : List (List Int)), e = .returned v ∧ (n ≤ 6 ∧ xss.length = n ∧ ∀ q, q < n → 1 ≤ (nthL xss q).length ∧ (nthL xss q).length ≤ 6) ∧ w'.ownsRow w.heap.size 49 1 v n vals ∧ RV w' 3 w.heap.size vals xss ∧ Rdr w' rb N ∧ RS rb w w'
theorem own_take {w : World} {base e n k : Nat} {A : Option Addr} {c : Nat} {vals : List Value} (h : w.ownsRow base e 1 (.slice A n c) n vals) (hk : k ≤ n) (h0 : 0 < n) : w.ownsRow base e 1 (.slice A k c) k (vals.take k) := by
  have hl : vals.length = n := by have := h.1; simpa using this
  rcases h.2 with ⟨e1, rfl⟩ | ⟨G, cap, cur, e1, hg, hh, hnc, hmx, hcs, ht⟩
  · omega
  · injection e1 with e2 _ e3
    subst e2 e3
    refine ⟨by simp [hl]; omega, .inr ⟨G, c, cur, rfl, hg, hh, by omega, hmx, hcs, ?_⟩⟩
    rw [← ht, List.take_take]; congr 1; omega
theorem RV.take {w : World} {T lo k : Nat} {vals : List Value} {xss : List (List Int)} (h : RV w T lo vals xss) : RV w T lo (vals.take k) (xss.take k) := by
  obtain ⟨hl, gs, hm, hr⟩ := h
  refine ⟨by simp [hl], gs, fun i j hi hj => hm i j hi (by simp at hj; omega), fun q hq => ?_⟩
  have hq' : q < k ∧ q < vals.length := by simp at hq; omega
  obtain ⟨m, c, e, r⟩ := hr q hq'.2
  exact ⟨m, c, by rw [List.getElem?_take, if_pos hq'.1]; exact e, by rw [nthL_take hq'.1]; exact r⟩
set_option maxHeartbeats 8000000 in
theorem somePile_any (rb N : Nat) (M0 : Int) (w : World) (hN : N ≤ 100) (h : Rdr w rb N) :
    Calls Try.prog 40 #[.pointer (some ⟨rb, 0, none⟩), .int .i64 M0] w (SomeP rb (N + 1000) w) := by
  have hrb := h.lt
  go_enter Try.func40, Try.ntmps40
  go_wp2_with fail
  refine (one_arr rb N _ _ _ _ _ (by simp) (by rfl) (by simp) (by simp) (by omega) h).mono ?_
  rintro e w1 ⟨n0, rfl, hy, hR1, hS1⟩
  have hn0 : 0 ≤ n0 ∧ n0 ≤ 5 := by simp at hy; omega
  obtain ⟨n, rfl⟩ := Int.eq_ofNat_of_zero_le hn0.1
  have hn5 : n ≤ 5 := by omega
  have R1 := hide hR1; have S1 := hide hS1; clear hy hR1 hS1 h hn0
  go_wp2_with fail
  refine (specFullPileO n (by omega) _).mono ?_
  rintro e w2 ⟨v, vals, rfl, ho, hrv, hb⟩
  rw [fAll_len] at ho
  have hl1 : rb < w1.heap.size := R1.out.lt
  have O2 := hide (own_base ho S1.out.size)
  have V2 := hide (RV.base hrv S1.out.size)
  have R2 := hide (R1.out.call hb); have S2 := hide (S1.out.then hb)
  obtain ⟨Av, cv, hv, -, hcv⟩ := rowsD_of_own O2.out V2.out (by decide)
  subst hv
  clear ho hrv hb R1 S1
  have L2 := hide (lns_all n)
  go_wp2_with fail
  go_loopw [1, 7] (fun mo i wr => ∃ (M : Int) (r : Nat) (xss : List (List Int)), r ≤ n ∧ mo = .int .i64 M ∧ i = .int .i64 r ∧ Hid (Lns n xss) ∧ Hid (wr.ownsRow w.heap.size 49 1 (.slice Av n cv) n vals) ∧ Hid (RV wr 3 w.heap.size vals xss) ∧ Hid (Rdr wr rb (N + 10 + 20 * r)) ∧ Hid (RS rb w wr)) (fun _ i _ => n - (intOf i).toNat)
  case atStart => exact ⟨M0, 0, _, by omega, rfl, rfl, L2, O2, V2, hide (R2.out.mono (by omega)), S2⟩
  case round =>
    clear L2 O2 V2 R2 S2
    obtain ⟨M, r, xss, hr, rfl, rfl, hL, hO, hV, hR, hS⟩ := hrel
    by_cases hlt : r < n
    · have hr0 : (0 : Int) ≤ r := by omega
      have hrn : (r : Int) < n := by omega
      obtain ⟨m, hm⟩ : ∃ m : Nat, n - r = m := ⟨_, rfl⟩
      have HM := hide hm
      have hm6 : m ≤ 6 := by omega
      clear hm
      go_wp2_with fail
      go_loopw [1, 8] (fun mo i wr => ∃ (M : Int) (k : Nat) (xss : List (List Int)), k ≤ m ∧ mo = .int .i64 M ∧ i = .int .i64 k ∧ Hid (Lns n xss) ∧ Hid (wr.ownsRow w.heap.size 49 1 (.slice Av n cv) n vals) ∧ Hid (RV wr 3 w.heap.size vals xss) ∧ Hid (Rdr wr rb (N + 10 + 20 * r + 2 * k)) ∧ Hid (RS rb w wr)) (fun _ i _ => m - (intOf i).toNat)
      case atStart => exact ⟨M, 0, xss, by omega, rfl, rfl, hL, hO, hV, hR, hS⟩
      case round =>
        clear hL hO hV hR hS
        obtain ⟨M, k, xss, hk, rfl, rfl, hL, hO, hV, hR, hS⟩ := hrel
        obtain ⟨G, cap, g, m', c, hv', hcap, hg, ⟨neg, hgG⟩, hmc, hlen, hcr, hcells, hput⟩ := row_at hO.out hV.out hlt
        injection hv' with hv1 _ hv3
        subst hv1 hv3
        obtain rfl : m = m' := by have h1 := (hL.out).2 r hlt; have h2 := HM.out; omega
        have HPUT := hide hput; have HG := hide hg; have HCELLS := hide hcells
        clear hput hg hcells hlen
        by_cases hkm : k < m
        · obtain ⟨ck, fk⟩ := HCELLS.out k hkm
          generalize nth (nthL xss r) k = x at ck
          have hk0 : (0 : Int) ≤ k := by omega
          have hk1 : (k : Int) < m := by omega
          have hrbg : rb < g := by have := HG.out; omega
          have hws : w.heap.size ≤ wr.heap.size := hS.out.size
          by_cases hz : r = 0
          · have hd0 : ((r : Int) == 0) = true := by simpa using hz
            clear hz
            go_wp2_with fail
            refine (pick_any rb (N + 10 + 20 * r + 2 * k) 5 _ (by omega) hR.out).mono ?_
            rintro e w5 ⟨p, rfl, hp, hR5, hS5⟩
            have hneb : ¬ g = rb := by omega
            have hneB : ¬ G = rb := by omega
            have O5 := hide (ownsRow_rs hO.out hS5 hrb); have V5 := hide (hV.out.rs hS5 hR.out)
            have Rx := hide hR5; have Sx := hide (hS.out.trans hS5)
            replace fk := frozen_rs ck fk hS5 hneb
            replace ck := cell_rs ck hS5 hneb
            replace hcr := cell_rs hcr hS5 hneB
            have HPUTx := hide (row_put O5.out V5.out hlt hcr)
            clear hp hR5 hS5 HPUT HCELLS hR hS
            (try clear hcr2 cx cy)
            (try clear hkk)
            by_cases hp0 : p = 0
            · have hdp : (p == 0) = true := by simpa using hp0
              clear hp0
              go_wp2_with fail
              (try clear hkk)
              go_roundw
              case rel => exact ⟨_, k + 1, _, by omega, rfl, by first | go_num | (simp; omega) | (have := HK1.out; simp; omega), hide (hL.out.put), hide (HPUTx.out k _).1, hide (HPUTx.out k _).2, hide ((Rx.out.mono (by omega)).set (by simpa using hrbg) _), hide (Sx.out.set (by have := HG.out; simp; omega) _)⟩
              case measure => simp [intOf]; omega
            have hdp : (p == 0) = false := by simpa using hp0
            clear hp0
            by_cases hM0 : M = 0
            · have hdm : (M == 0) = true := by simpa using hM0
              clear hM0
              go_wp2_with fail
              (try clear hkk)
              go_roundw
              case rel => exact ⟨_, k + 1, _, by omega, rfl, by first | go_num | (simp; omega) | (have := HK1.out; simp; omega), hide (hL.out.put), hide (HPUTx.out k _).1, hide (HPUTx.out k _).2, hide ((Rx.out.mono (by omega)).set (by simpa using hrbg) _), hide (Sx.out.set (by have := HG.out; simp; omega) _)⟩
              case measure => simp [intOf]; omega
            have hdm : (M == 0) = false := by simpa using hM0
            clear hM0
            clear HPUTx
            go_wp2_with fail
            refine wp_region_held_drew (S := fun w' => w'.cell? ⟨G, r, none⟩ = some (.slice (some ⟨g, 0, none⟩) m c)) (by kernel_rfl) ?hS1 (fun hHeld => ?_)
            case hS1 => ((try dsimp only); (repeat' apply And.intro) <;> (first | (with_reducible assumption) | (rw [World.cell?_drew]; with_reducible assumption) | (rw [World.cell?_setCell_other _ _ _ _ (fun e => by injection e with _ e; cases e)]; with_reducible assumption) | (simp [*]; done)))
            refine wpAnyH_take (i := 0) (v := ?v2) (by simp only [List.getElem?_toArray, List.getElem?_cons_zero]; rfl) (by kernel_rfl) (by kernel_rfl) (by kernel_rfl) (by exact fun _ _ _ h => h) (Or.inl ⟨by rfl, ?hy2⟩) (by assumption) ?rest2
            case hy2 => (intro w hSw; (try dsimp only at hSw); go_simp; (try with_reducible rfl))
            (try simp only [Act.put, List.setIfInBounds_toArray, List.set_cons_zero, List.set_cons_succ])
            refine wpAnyH_take (i := 1) (v := ?v3) (by simp only [List.getElem?_toArray, List.getElem?_cons_succ, List.getElem?_cons_zero]; rfl) (by kernel_rfl) (by kernel_rfl) (by kernel_rfl) (by exact fun _ _ _ h => h) (Or.inl ⟨by rfl, ?hy3⟩) (by assumption) ?rest3
            case hy3 => (intro w hSw; (try dsimp only at hSw); go_simp; (try with_reducible rfl))
            (try simp only [Act.put, List.setIfInBounds_toArray, List.set_cons_zero, List.set_cons_succ])
            refine wpAnyH_take (i := 2) (v := ?v4) (by simp only [List.getElem?_toArray, List.getElem?_cons_succ, List.getElem?_cons_zero]; rfl) (by kernel_rfl) (by kernel_rfl) (by kernel_rfl) (by exact fun _ _ _ h => h) (Or.inl ⟨by rfl, ?hy4⟩) (by assumption) ?rest4
            case hy4 => (intro w hSw; (try dsimp only at hSw); go_simp; (try with_reducible rfl))
            (try simp only [Act.put, List.setIfInBounds_toArray, List.set_cons_zero, List.set_cons_succ])
            refine wpAnyH_take (i := 3) (v := ?v5) (by simp only [List.getElem?_toArray, List.getElem?_cons_succ, List.getElem?_cons_zero]; rfl) (by kernel_rfl) (by kernel_rfl) (by kernel_rfl) (by exact fun _ _ _ h => h) (Or.inl ⟨by rfl, ?hy5⟩) (by assumption) ?rest5
            case hy5 => (intro w hSw; (try dsimp only at hSw); go_simp; (try with_reducible rfl))
            (try simp only [Act.put, List.setIfInBounds_toArray, List.set_cons_zero, List.set_cons_succ])
            refine wpAnyH_take (i := 4) (v := ?v6) (by simp only [List.getElem?_toArray, List.getElem?_cons_succ, List.getElem?_cons_zero]; rfl) (by kernel_rfl) (by kernel_rfl) (by kernel_rfl) (by exact fun _ _ _ h => h) (Or.inl ⟨by rfl, ?hy6⟩) (by assumption) ?rest6
            case hy6 => (intro w hSw; (try dsimp only at hSw); go_simp; (try with_reducible rfl))
            (try simp only [Act.put, List.setIfInBounds_toArray, List.set_cons_zero, List.set_cons_succ])
            refine wpAnyH_take (i := 5) (v := ?v7) (by simp only [List.getElem?_toArray, List.getElem?_cons_succ, List.getElem?_cons_zero]; rfl) (by kernel_rfl) (by kernel_rfl) (by kernel_rfl) (by exact fun _ _ _ h => h) (Or.inl ⟨by rfl, ?hy7⟩) (by assumption) ?rest7
            case hy7 => (intro w hSw; (try dsimp only at hSw); go_simp; (try with_reducible rfl))
            (try simp only [Act.put, List.setIfInBounds_toArray, List.set_cons_zero, List.set_cons_succ])
            refine wpAnyH_take (i := 6) (v := ?v8) (by simp only [List.getElem?_toArray, List.getElem?_cons_succ, List.getElem?_cons_zero]; rfl) (by kernel_rfl) (by kernel_rfl) (by kernel_rfl) (by exact fun _ _ _ h => h) (Or.inl ⟨by rfl, ?hy8⟩) (by assumption) ?rest8
            case hy8 => (intro w hSw; (try dsimp only at hSw); go_simp; (try with_reducible rfl))
            (try simp only [Act.put, List.setIfInBounds_toArray, List.set_cons_zero, List.set_cons_succ])
            refine wpAnyH_take (i := 7) (v := ?v9) (by simp only [List.getElem?_toArray, List.getElem?_cons_succ, List.getElem?_cons_zero]; rfl) (by kernel_rfl) (by kernel_rfl) (by kernel_rfl) (by exact fun _ _ _ h => h) (Or.inl ⟨by rfl, ?hy9⟩) (by assumption) ?rest9
            case hy9 => (intro w hSw; (try dsimp only at hSw); go_simp; (try with_reducible rfl))
            (try simp only [Act.put, List.setIfInBounds_toArray, List.set_cons_zero, List.set_cons_succ])
            refine wpAnyH_take (i := 8) (v := ?v10) (by simp only [List.getElem?_toArray, List.getElem?_cons_succ, List.getElem?_cons_zero]; rfl) (by kernel_rfl) (by kernel_rfl) (by kernel_rfl) (by exact fun _ _ _ h => h) (Or.inl ⟨by rfl, ?hy10⟩) (by assumption) ?rest10
            case hy10 => (intro w hSw; (try dsimp only at hSw); go_simp; (try with_reducible rfl))
            (try simp only [Act.put, List.setIfInBounds_toArray, List.set_cons_zero, List.set_cons_succ])
            refine wpAnyH_take (i := 9) (v := ?v11) (by simp only [List.getElem?_toArray, List.getElem?_cons_succ, List.getElem?_cons_zero]; rfl) (by kernel_rfl) (by kernel_rfl) (by kernel_rfl) (by exact fun _ _ _ h => h) (Or.inl ⟨by rfl, ?hy11⟩) (by assumption) ?rest11
            case hy11 => (intro w hSw; (try dsimp only at hSw); go_simp; (try with_reducible rfl))
            (try simp only [Act.put, List.setIfInBounds_toArray, List.set_cons_zero, List.set_cons_succ])
            refine wpAnyH_take (i := 10) (v := ?v12) (by simp only [List.getElem?_toArray, List.getElem?_cons_succ, List.getElem?_cons_zero]; rfl) (by kernel_rfl) (by kernel_rfl) (by kernel_rfl) (by exact fun _ _ _ h => h) (Or.inl ⟨by rfl, ?hy12⟩) (by assumption) ?rest12
            case hy12 => (intro w hSw; (try dsimp only at hSw); go_simp; (try with_reducible rfl))
            (try simp only [Act.put, List.setIfInBounds_toArray, List.set_cons_zero, List.set_cons_succ])
            refine wpAnyH_take (i := 13) (v := ?v13) (by simp only [List.getElem?_toArray, List.getElem?_cons_succ, List.getElem?_cons_zero]; rfl) (by kernel_rfl) (by kernel_rfl) (by kernel_rfl) (by exact fun _ _ _ h => h) (Or.inl ⟨by rfl, ?hy13⟩) (by assumption) ?rest13
            case hy13 => (intro w hSw; (try dsimp only at hSw); go_simp; (try with_reducible rfl))
            (try simp only [Act.put, List.setIfInBounds_toArray, List.set_cons_zero, List.set_cons_succ])
            refine wpAnyH_ready (rs := [11, 14]) (by kernel_rfl) (by simp) (AllReadyH.cons (by simp only [List.getElem?_toArray, List.getElem?_cons_succ, List.getElem?_cons_zero]; rfl) (fun K hK => ?_) (AllReadyH.cons (by simp only [List.getElem?_toArray, List.getElem?_cons_succ, List.getElem?_cons_zero]; rfl) (fun K hK => ?_) AllReadyH.nil))
            · go_simp
              clear hHeld
              refine hK.out _ _ ?hS14 (fun hHeld => ?_)
              case hS14 => ((try dsimp only); (repeat' apply And.intro) <;> (first | (with_reducible assumption) | (rw [World.cell?_drew]; with_reducible assumption) | (rw [World.cell?_setCell_other _ _ _ _ (fun e => by injection e with e; omega)]; with_reducible assumption) | (simp [*]; done)))
              clear hK K
              (try simp only [Act.put, List.setIfInBounds_toArray, List.set_cons_zero, List.set_cons_succ])
              refine wpAnyH_take (i := 12) (v := ?v15) (by simp only [List.getElem?_toArray, List.getElem?_cons_succ, List.getElem?_cons_zero]; rfl) (by kernel_rfl) (by kernel_rfl) (by kernel_rfl) (by exact fun _ _ _ h => h) (Or.inl ⟨by rfl, ?hy15⟩) (by assumption) ?rest15
              case hy15 => (intro w hSw; (try dsimp only at hSw); go_simp; (try with_reducible rfl))
              (try simp only [Act.put, List.setIfInBounds_toArray, List.set_cons_zero, List.set_cons_succ])
              refine wpAnyH_ready (rs := [14]) (by kernel_rfl) (by simp) (AllReadyH.cons (by simp only [List.getElem?_toArray, List.getElem?_cons_succ, List.getElem?_cons_zero]; rfl) (fun K hK => ?_) AllReadyH.nil)
              go_simp
              refine (pick_any rb (N + 10 + 20 * r + 2 * k + 1) 10 _ (by omega) (Rx.out.drewN 1)).mono ?_
              rintro e w6 ⟨pp, rfl, hpp, hR6, hS6⟩
              have O6 := hide (ownsRow_rs (O5.out.drew) hS6 hrb); have V6 := hide (RV.rs (w := w5.drew) V5.out hS6 (Rx.out.drewN 1))
              have Ry := hide hR6; have Sy := hide ((Sx.out.drewN 1).trans hS6)
              replace fk := frozen_rs (w := w5.drew) ck fk hS6 hneb
              replace ck := cell_rs (w := w5.drew) ck hS6 hneb
              replace hcr := cell_rs (w := w5.drew) hcr hS6 hneB
              have HPUTx := hide (row_put O6.out V6.out hlt hcr)
              clear hpp hR6 hS6 O5 V5
              (try go_wp2_with fail)
              clear hHeld
              refine hK.out _ _ ?hS16 (fun hHeld => ?_)
              case hS16 => ((try dsimp only); (repeat' apply And.intro) <;> (first | (with_reducible assumption) | (rw [World.cell?_drew]; with_reducible assumption) | (rw [World.cell?_setCell_other _ _ _ _ (fun e => by injection e with e; omega)]; with_reducible assumption) | (simp [*]; done)))
              clear hK K
              (try simp only [Act.put, List.setIfInBounds_toArray, List.set_cons_zero, List.set_cons_succ])
              refine wpAnyH_take (i := 15) (v := ?v17) (by simp only [List.getElem?_toArray, List.getElem?_cons_succ, List.getElem?_cons_zero]; rfl) (by kernel_rfl) (by kernel_rfl) (by kernel_rfl) (by exact fun _ _ _ h => h) (Or.inl ⟨by rfl, ?hy17⟩) (by assumption) ?rest17
              case hy17 => (intro w hSw; (try dsimp only at hSw); go_simp; (try with_reducible rfl))
              (try simp only [Act.put, List.setIfInBounds_toArray, List.set_cons_zero, List.set_cons_succ])
              refine wpAnyH_take (i := 16) (v := ?v18) (by simp only [List.getElem?_toArray, List.getElem?_cons_succ, List.getElem?_cons_zero]; rfl) (by kernel_rfl) (by kernel_rfl) (by kernel_rfl) (by exact fun _ _ _ h => h) (Or.inl ⟨by rfl, ?hy18⟩) (by assumption) ?rest18
              case hy18 => (intro w hSw; (try dsimp only at hSw); go_simp; (try with_reducible rfl))
              (try simp only [Act.put, List.setIfInBounds_toArray, List.set_cons_zero, List.set_cons_succ])
              refine wpAnyH_ready (rs := [17]) (by kernel_rfl) (by simp) (AllReadyH.cons (by simp only [List.getElem?_toArray, List.getElem?_cons_succ, List.getElem?_cons_zero]; rfl) (fun K hK => ?_) AllReadyH.nil)
              go_simp
              clear hHeld
              refine hK.out _ _ ?hS19 (fun hHeld => ?_)
              case hS19 => ((try dsimp only); (repeat' apply And.intro) <;> (first | (with_reducible assumption) | (rw [World.cell?_drew]; with_reducible assumption) | (rw [World.cell?_setCell_other _ _ _ _ (fun e => by injection e with e; omega)]; with_reducible assumption) | (simp [*]; done)))
              clear hK K
              (try simp only [Act.put, List.setIfInBounds_toArray, List.set_cons_zero, List.set_cons_succ])
              refine wpAnyH_done (by kernel_rfl) ?_ _
              go_wp2_with fail
              (try clear hkk)
              go_roundw
              case rel => exact ⟨_, k + 1, _, by omega, rfl, by first | go_num | (simp; omega) | (have := HK1.out; simp; omega), hide (hL.out.put), hide (HPUTx.out k _).1, hide (HPUTx.out k _).2, hide ((Ry.out.mono (by omega)).set (by simpa using hrbg) _), hide (Sy.out.set (by have := HG.out; simp; omega) _)⟩
              case measure => simp [intOf]; omega
            · go_simp
              refine (pick_any rb (N + 10 + 20 * r + 2 * k + 1) 10 _ (by omega) (Rx.out.drewN 1)).mono ?_
              rintro e w6 ⟨pp, rfl, hpp, hR6, hS6⟩
              have O6 := hide (ownsRow_rs (O5.out.drew) hS6 hrb); have V6 := hide (RV.rs (w := w5.drew) V5.out hS6 (Rx.out.drewN 1))
              have Ry := hide hR6; have Sy := hide ((Sx.out.drewN 1).trans hS6)
              replace fk := frozen_rs (w := w5.drew) ck fk hS6 hneb
              replace ck := cell_rs (w := w5.drew) ck hS6 hneb
              replace hcr := cell_rs (w := w5.drew) hcr hS6 hneB
              have HPUTx := hide (row_put O6.out V6.out hlt hcr)
              clear hpp hR6 hS6 O5 V5
              (try go_wp2_with fail)
              clear hHeld
              refine hK.out _ _ ?hS20 (fun hHeld => ?_)
              case hS20 => ((try dsimp only); (repeat' apply And.intro) <;> (first | (with_reducible assumption) | (rw [World.cell?_drew]; with_reducible assumption) | (rw [World.cell?_setCell_other _ _ _ _ (fun e => by injection e with e; omega)]; with_reducible assumption) | (simp [*]; done)))
              clear hK K
              (try simp only [Act.put, List.setIfInBounds_toArray, List.set_cons_zero, List.set_cons_succ])
              refine wpAnyH_ready (rs := [11]) (by kernel_rfl) (by simp) (AllReadyH.cons (by simp only [List.getElem?_toArray, List.getElem?_cons_succ, List.getElem?_cons_zero]; rfl) (fun K hK => ?_) AllReadyH.nil)
              go_simp
              clear hHeld
              refine hK.out _ _ ?hS21 (fun hHeld => ?_)
              case hS21 => ((try dsimp only); (repeat' apply And.intro) <;> (first | (with_reducible assumption) | (rw [World.cell?_drew]; with_reducible assumption) | (rw [World.cell?_setCell_other _ _ _ _ (fun e => by injection e with e; omega)]; with_reducible assumption) | (simp [*]; done)))
              clear hK K
              (try simp only [Act.put, List.setIfInBounds_toArray, List.set_cons_zero, List.set_cons_succ])
              refine wpAnyH_take (i := 12) (v := ?v22) (by simp only [List.getElem?_toArray, List.getElem?_cons_succ, List.getElem?_cons_zero]; rfl) (by kernel_rfl) (by kernel_rfl) (by kernel_rfl) (by exact fun _ _ _ h => h) (Or.inl ⟨by rfl, ?hy22⟩) (by assumption) ?rest22
              case hy22 => (intro w hSw; (try dsimp only at hSw); go_simp; (try with_reducible rfl))
              (try simp only [Act.put, List.setIfInBounds_toArray, List.set_cons_zero, List.set_cons_succ])
              refine wpAnyH_take (i := 15) (v := ?v23) (by simp only [List.getElem?_toArray, List.getElem?_cons_succ, List.getElem?_cons_zero]; rfl) (by kernel_rfl) (by kernel_rfl) (by kernel_rfl) (by exact fun _ _ _ h => h) (Or.inl ⟨by rfl, ?hy23⟩) (by assumption) ?rest23
              case hy23 => (intro w hSw; (try dsimp only at hSw); go_simp; (try with_reducible rfl))
              (try simp only [Act.put, List.setIfInBounds_toArray, List.set_cons_zero, List.set_cons_succ])
              refine wpAnyH_take (i := 16) (v := ?v24) (by simp only [List.getElem?_toArray, List.getElem?_cons_succ, List.getElem?_cons_zero]; rfl) (by kernel_rfl) (by kernel_rfl) (by kernel_rfl) (by exact fun _ _ _ h => h) (Or.inl ⟨by rfl, ?hy24⟩) (by assumption) ?rest24
              case hy24 => (intro w hSw; (try dsimp only at hSw); go_simp; (try with_reducible rfl))
              (try simp only [Act.put, List.setIfInBounds_toArray, List.set_cons_zero, List.set_cons_succ])
              refine wpAnyH_ready (rs := [17]) (by kernel_rfl) (by simp) (AllReadyH.cons (by simp only [List.getElem?_toArray, List.getElem?_cons_succ, List.getElem?_cons_zero]; rfl) (fun K hK => ?_) AllReadyH.nil)
              go_simp
              clear hHeld
              refine hK.out _ _ ?hS25 (fun hHeld => ?_)
              case hS25 => ((try dsimp only); (repeat' apply And.intro) <;> (first | (with_reducible assumption) | (rw [World.cell?_drew]; with_reducible assumption) | (rw [World.cell?_setCell_other _ _ _ _ (fun e => by injection e with e; omega)]; with_reducible assumption) | (simp [*]; done)))
              clear hK K
              (try simp only [Act.put, List.setIfInBounds_toArray, List.set_cons_zero, List.set_cons_succ])
              refine wpAnyH_done (by kernel_rfl) ?_ _
              go_wp2_with fail
              (try clear hkk)
              go_roundw
              case rel => exact ⟨_, k + 1, _, by omega, rfl, by first | go_num | (simp; omega) | (have := HK1.out; simp; omega), hide (hL.out.put), hide (HPUTx.out k _).1, hide (HPUTx.out k _).2, hide ((Ry.out.mono (by omega)).set (by simpa using hrbg) _), hide (Sy.out.set (by have := HG.out; simp; omega) _)⟩
              case measure => simp [intOf]; omega
          · have hd0 : ((r : Int) == 0) = false := by simpa using hz
            obtain ⟨j, hj⟩ : ∃ j : Nat, (r : Int) - 1 = j := ⟨r - 1, by omega⟩
            have HJ := hide (show r = j + 1 by omega)
            have hj0 : (0 : Int) ≤ j := by omega
            have hjn : (j : Int) < n := by omega
            obtain ⟨G2, cap2, g2, m2, c2, hv2, -, -, -, -, hlen2, hcr2, hcells2, -⟩ := row_at hO.out hV.out (show j < n by omega)
            injection hv2 with hv4 _ hv7
            subst hv7
            injection hv4 with hv5
            injection hv5 with hv6
            subst hv6
            have hm2 : m2 = m + 1 := by have h1 := (hL.out).2 j (by omega); have h2 := HM.out; have h3 := HJ.out; omega
            obtain ⟨k1, hk1e⟩ : ∃ k1 : Nat, k + 1 = k1 := ⟨_, rfl⟩
            have HK1 := hide hk1e
            have hkk : (k : Int) + 1 = k1 := by omega
            obtain ⟨cx, -⟩ := hcells2 k (by omega)
            obtain ⟨cy, -⟩ := hcells2 k1 (by omega)
            generalize nth (nthL xss j) k = x0 at cx
            generalize nth (nthL xss j) k1 = y0 at cy
            have hk2 : (k : Int) < m2 := by omega
            have hk3 : (k1 : Int) < m2 := by omega
            have hk4 : (0 : Int) ≤ k1 := by omega
            clear hz hcells2 hlen2 hm2 hk1e
            by_cases hx : 0 < x0
            · by_cases hy : 0 < y0
              · go_wp2_with fail
                refine (pick_any rb (N + 10 + 20 * r + 2 * k) 5 _ (by omega) hR.out).mono ?_
                rintro e w5 ⟨p, rfl, hp, hR5, hS5⟩
                have hneb : ¬ g = rb := by omega
                have hneB : ¬ G = rb := by omega
                have O5 := hide (ownsRow_rs hO.out hS5 hrb); have V5 := hide (hV.out.rs hS5 hR.out)
                have Rx := hide hR5; have Sx := hide (hS.out.trans hS5)
                replace fk := frozen_rs ck fk hS5 hneb
                replace ck := cell_rs ck hS5 hneb
                replace hcr := cell_rs hcr hS5 hneB
                have HPUTx := hide (row_put O5.out V5.out hlt hcr)
                clear hp hR5 hS5 HPUT HCELLS hR hS
                (try clear hcr2 cx cy)
                (try clear hkk)
                by_cases hp0 : p = 0
                · have hdp : (p == 0) = true := by simpa using hp0
                  clear hp0
                  go_wp2_with fail
                  (try clear hkk)
                  go_roundw
                  case rel => exact ⟨_, k + 1, _, by omega, rfl, by first | go_num | (simp; omega) | (have := HK1.out; simp; omega), hide (hL.out.put), hide (HPUTx.out k _).1, hide (HPUTx.out k _).2, hide ((Rx.out.mono (by omega)).set (by simpa using hrbg) _), hide (Sx.out.set (by have := HG.out; simp; omega) _)⟩
                  case measure => simp [intOf]; omega
                have hdp : (p == 0) = false := by simpa using hp0
                clear hp0
                by_cases hM0 : M = 0
                · have hdm : (M == 0) = true := by simpa using hM0
                  clear hM0
                  go_wp2_with fail
                  (try clear hkk)
                  go_roundw
                  case rel => exact ⟨_, k + 1, _, by omega, rfl, by first | go_num | (simp; omega) | (have := HK1.out; simp; omega), hide (hL.out.put), hide (HPUTx.out k _).1, hide (HPUTx.out k _).2, hide ((Rx.out.mono (by omega)).set (by simpa using hrbg) _), hide (Sx.out.set (by have := HG.out; simp; omega) _)⟩
                  case measure => simp [intOf]; omega
                have hdm : (M == 0) = false := by simpa using hM0
                clear hM0
                clear HPUTx
                go_wp2_with fail
                refine wp_region_held_drew (S := fun w' => w'.cell? ⟨G, r, none⟩ = some (.slice (some ⟨g, 0, none⟩) m c)) (by kernel_rfl) ?hS26 (fun hHeld => ?_)
                case hS26 => ((try dsimp only); (repeat' apply And.intro) <;> (first | (with_reducible assumption) | (rw [World.cell?_drew]; with_reducible assumption) | (rw [World.cell?_setCell_other _ _ _ _ (fun e => by injection e with _ e; cases e)]; with_reducible assumption) | (simp [*]; done)))
                refine wpAnyH_take (i := 0) (v := ?v27) (by simp only [List.getElem?_toArray, List.getElem?_cons_zero]; rfl) (by kernel_rfl) (by kernel_rfl) (by kernel_rfl) (by exact fun _ _ _ h => h) (Or.inl ⟨by rfl, ?hy27⟩) (by assumption) ?rest27
                case hy27 => (intro w hSw; (try dsimp only at hSw); go_simp; (try with_reducible rfl))
                (try simp only [Act.put, List.setIfInBounds_toArray, List.set_cons_zero, List.set_cons_succ])
                refine wpAnyH_take (i := 1) (v := ?v28) (by simp only [List.getElem?_toArray, List.getElem?_cons_succ, List.getElem?_cons_zero]; rfl) (by kernel_rfl) (by kernel_rfl) (by kernel_rfl) (by exact fun _ _ _ h => h) (Or.inl ⟨by rfl, ?hy28⟩) (by assumption) ?rest28
                case hy28 => (intro w hSw; (try dsimp only at hSw); go_simp; (try with_reducible rfl))
                (try simp only [Act.put, List.setIfInBounds_toArray, List.set_cons_zero, List.set_cons_succ])
                refine wpAnyH_take (i := 2) (v := ?v29) (by simp only [List.getElem?_toArray, List.getElem?_cons_succ, List.getElem?_cons_zero]; rfl) (by kernel_rfl) (by kernel_rfl) (by kernel_rfl) (by exact fun _ _ _ h => h) (Or.inl ⟨by rfl, ?hy29⟩) (by assumption) ?rest29
                case hy29 => (intro w hSw; (try dsimp only at hSw); go_simp; (try with_reducible rfl))
                (try simp only [Act.put, List.setIfInBounds_toArray, List.set_cons_zero, List.set_cons_succ])
                refine wpAnyH_take (i := 3) (v := ?v30) (by simp only [List.getElem?_toArray, List.getElem?_cons_succ, List.getElem?_cons_zero]; rfl) (by kernel_rfl) (by kernel_rfl) (by kernel_rfl) (by exact fun _ _ _ h => h) (Or.inl ⟨by rfl, ?hy30⟩) (by assumption) ?rest30
                case hy30 => (intro w hSw; (try dsimp only at hSw); go_simp; (try with_reducible rfl))
                (try simp only [Act.put, List.setIfInBounds_toArray, List.set_cons_zero, List.set_cons_succ])
                refine wpAnyH_take (i := 4) (v := ?v31) (by simp only [List.getElem?_toArray, List.getElem?_cons_succ, List.getElem?_cons_zero]; rfl) (by kernel_rfl) (by kernel_rfl) (by kernel_rfl) (by exact fun _ _ _ h => h) (Or.inl ⟨by rfl, ?hy31⟩) (by assumption) ?rest31
                case hy31 => (intro w hSw; (try dsimp only at hSw); go_simp; (try with_reducible rfl))
                (try simp only [Act.put, List.setIfInBounds_toArray, List.set_cons_zero, List.set_cons_succ])
                refine wpAnyH_take (i := 5) (v := ?v32) (by simp only [List.getElem?_toArray, List.getElem?_cons_succ, List.getElem?_cons_zero]; rfl) (by kernel_rfl) (by kernel_rfl) (by kernel_rfl) (by exact fun _ _ _ h => h) (Or.inl ⟨by rfl, ?hy32⟩) (by assumption) ?rest32
                case hy32 => (intro w hSw; (try dsimp only at hSw); go_simp; (try with_reducible rfl))
                (try simp only [Act.put, List.setIfInBounds_toArray, List.set_cons_zero, List.set_cons_succ])
                refine wpAnyH_take (i := 6) (v := ?v33) (by simp only [List.getElem?_toArray, List.getElem?_cons_succ, List.getElem?_cons_zero]; rfl) (by kernel_rfl) (by kernel_rfl) (by kernel_rfl) (by exact fun _ _ _ h => h) (Or.inl ⟨by rfl, ?hy33⟩) (by assumption) ?rest33
                case hy33 => (intro w hSw; (try dsimp only at hSw); go_simp; (try with_reducible rfl))
                (try simp only [Act.put, List.setIfInBounds_toArray, List.set_cons_zero, List.set_cons_succ])
                refine wpAnyH_take (i := 7) (v := ?v34) (by simp only [List.getElem?_toArray, List.getElem?_cons_succ, List.getElem?_cons_zero]; rfl) (by kernel_rfl) (by kernel_rfl) (by kernel_rfl) (by exact fun _ _ _ h => h) (Or.inl ⟨by rfl, ?hy34⟩) (by assumption) ?rest34
                case hy34 => (intro w hSw; (try dsimp only at hSw); go_simp; (try with_reducible rfl))
                (try simp only [Act.put, List.setIfInBounds_toArray, List.set_cons_zero, List.set_cons_succ])
                refine wpAnyH_take (i := 8) (v := ?v35) (by simp only [List.getElem?_toArray, List.getElem?_cons_succ, List.getElem?_cons_zero]; rfl) (by kernel_rfl) (by kernel_rfl) (by kernel_rfl) (by exact fun _ _ _ h => h) (Or.inl ⟨by rfl, ?hy35⟩) (by assumption) ?rest35
                case hy35 => (intro w hSw; (try dsimp only at hSw); go_simp; (try with_reducible rfl))
                (try simp only [Act.put, List.setIfInBounds_toArray, List.set_cons_zero, List.set_cons_succ])
                refine wpAnyH_take (i := 9) (v := ?v36) (by simp only [List.getElem?_toArray, List.getElem?_cons_succ, List.getElem?_cons_zero]; rfl) (by kernel_rfl) (by kernel_rfl) (by kernel_rfl) (by exact fun _ _ _ h => h) (Or.inl ⟨by rfl, ?hy36⟩) (by assumption) ?rest36
                case hy36 => (intro w hSw; (try dsimp only at hSw); go_simp; (try with_reducible rfl))
                (try simp only [Act.put, List.setIfInBounds_toArray, List.set_cons_zero, List.set_cons_succ])
                refine wpAnyH_take (i := 10) (v := ?v37) (by simp only [List.getElem?_toArray, List.getElem?_cons_succ, List.getElem?_cons_zero]; rfl) (by kernel_rfl) (by kernel_rfl) (by kernel_rfl) (by exact fun _ _ _ h => h) (Or.inl ⟨by rfl, ?hy37⟩) (by assumption) ?rest37
                case hy37 => (intro w hSw; (try dsimp only at hSw); go_simp; (try with_reducible rfl))
                (try simp only [Act.put, List.setIfInBounds_toArray, List.set_cons_zero, List.set_cons_succ])
                refine wpAnyH_take (i := 13) (v := ?v38) (by simp only [List.getElem?_toArray, List.getElem?_cons_succ, List.getElem?_cons_zero]; rfl) (by kernel_rfl) (by kernel_rfl) (by kernel_rfl) (by exact fun _ _ _ h => h) (Or.inl ⟨by rfl, ?hy38⟩) (by assumption) ?rest38
                case hy38 => (intro w hSw; (try dsimp only at hSw); go_simp; (try with_reducible rfl))
                (try simp only [Act.put, List.setIfInBounds_toArray, List.set_cons_zero, List.set_cons_succ])
                refine wpAnyH_ready (rs := [11, 14]) (by kernel_rfl) (by simp) (AllReadyH.cons (by simp only [List.getElem?_toArray, List.getElem?_cons_succ, List.getElem?_cons_zero]; rfl) (fun K hK => ?_) (AllReadyH.cons (by simp only [List.getElem?_toArray, List.getElem?_cons_succ, List.getElem?_cons_zero]; rfl) (fun K hK => ?_) AllReadyH.nil))
                · go_simp
                  clear hHeld
                  refine hK.out _ _ ?hS39 (fun hHeld => ?_)
                  case hS39 => ((try dsimp only); (repeat' apply And.intro) <;> (first | (with_reducible assumption) | (rw [World.cell?_drew]; with_reducible assumption) | (rw [World.cell?_setCell_other _ _ _ _ (fun e => by injection e with e; omega)]; with_reducible assumption) | (simp [*]; done)))
                  clear hK K
                  (try simp only [Act.put, List.setIfInBounds_toArray, List.set_cons_zero, List.set_cons_succ])
                  refine wpAnyH_take (i := 12) (v := ?v40) (by simp only [List.getElem?_toArray, List.getElem?_cons_succ, List.getElem?_cons_zero]; rfl) (by kernel_rfl) (by kernel_rfl) (by kernel_rfl) (by exact fun _ _ _ h => h) (Or.inl ⟨by rfl, ?hy40⟩) (by assumption) ?rest40
                  case hy40 => (intro w hSw; (try dsimp only at hSw); go_simp; (try with_reducible rfl))
                  (try simp only [Act.put, List.setIfInBounds_toArray, List.set_cons_zero, List.set_cons_succ])
                  refine wpAnyH_ready (rs := [14]) (by kernel_rfl) (by simp) (AllReadyH.cons (by simp only [List.getElem?_toArray, List.getElem?_cons_succ, List.getElem?_cons_zero]; rfl) (fun K hK => ?_) AllReadyH.nil)
                  go_simp
                  refine (pick_any rb (N + 10 + 20 * r + 2 * k + 1) 10 _ (by omega) (Rx.out.drewN 1)).mono ?_
                  rintro e w6 ⟨pp, rfl, hpp, hR6, hS6⟩
                  have O6 := hide (ownsRow_rs (O5.out.drew) hS6 hrb); have V6 := hide (RV.rs (w := w5.drew) V5.out hS6 (Rx.out.drewN 1))
                  have Ry := hide hR6; have Sy := hide ((Sx.out.drewN 1).trans hS6)
                  replace fk := frozen_rs (w := w5.drew) ck fk hS6 hneb
                  replace ck := cell_rs (w := w5.drew) ck hS6 hneb
                  replace hcr := cell_rs (w := w5.drew) hcr hS6 hneB
                  have HPUTx := hide (row_put O6.out V6.out hlt hcr)
                  clear hpp hR6 hS6 O5 V5
                  (try go_wp2_with fail)
                  clear hHeld
                  refine hK.out _ _ ?hS41 (fun hHeld => ?_)
                  case hS41 => ((try dsimp only); (repeat' apply And.intro) <;> (first | (with_reducible assumption) | (rw [World.cell?_drew]; with_reducible assumption) | (rw [World.cell?_setCell_other _ _ _ _ (fun e => by injection e with e; omega)]; with_reducible assumption) | (simp [*]; done)))
                  clear hK K
                  (try simp only [Act.put, List.setIfInBounds_toArray, List.set_cons_zero, List.set_cons_succ])
                  refine wpAnyH_take (i := 15) (v := ?v42) (by simp only [List.getElem?_toArray, List.getElem?_cons_succ, List.getElem?_cons_zero]; rfl) (by kernel_rfl) (by kernel_rfl) (by kernel_rfl) (by exact fun _ _ _ h => h) (Or.inl ⟨by rfl, ?hy42⟩) (by assumption) ?rest42
                  case hy42 => (intro w hSw; (try dsimp only at hSw); go_simp; (try with_reducible rfl))
                  (try simp only [Act.put, List.setIfInBounds_toArray, List.set_cons_zero, List.set_cons_succ])
                  refine wpAnyH_take (i := 16) (v := ?v43) (by simp only [List.getElem?_toArray, List.getElem?_cons_succ, List.getElem?_cons_zero]; rfl) (by kernel_rfl) (by kernel_rfl) (by kernel_rfl) (by exact fun _ _ _ h => h) (Or.inl ⟨by rfl, ?hy43⟩) (by assumption) ?rest43
                  case hy43 => (intro w hSw; (try dsimp only at hSw); go_simp; (try with_reducible rfl))
                  (try simp only [Act.put, List.setIfInBounds_toArray, List.set_cons_zero, List.set_cons_succ])
                  refine wpAnyH_ready (rs := [17]) (by kernel_rfl) (by simp) (AllReadyH.cons (by simp only [List.getElem?_toArray, List.getElem?_cons_succ, List.getElem?_cons_zero]; rfl) (fun K hK => ?_) AllReadyH.nil)
                  go_simp
                  clear hHeld
                  refine hK.out _ _ ?hS44 (fun hHeld => ?_)
                  case hS44 => ((try dsimp only); (repeat' apply And.intro) <;> (first | (with_reducible assumption) | (rw [World.cell?_drew]; with_reducible assumption) | (rw [World.cell?_setCell_other _ _ _ _ (fun e => by injection e with e; omega)]; with_reducible assumption) | (simp [*]; done)))
                  clear hK K
                  (try simp only [Act.put, List.setIfInBounds_toArray, List.set_cons_zero, List.set_cons_succ])
                  refine wpAnyH_done (by kernel_rfl) ?_ _
                  go_wp2_with fail
                  (try clear hkk)
                  go_roundw
                  case rel => exact ⟨_, k + 1, _, by omega, rfl, by first | go_num | (simp; omega) | (have := HK1.out; simp; omega), hide (hL.out.put), hide (HPUTx.out k _).1, hide (HPUTx.out k _).2, hide ((Ry.out.mono (by omega)).set (by simpa using hrbg) _), hide (Sy.out.set (by have := HG.out; simp; omega) _)⟩
                  case measure => simp [intOf]; omega
                · go_simp
                  refine (pick_any rb (N + 10 + 20 * r + 2 * k + 1) 10 _ (by omega) (Rx.out.drewN 1)).mono ?_
                  rintro e w6 ⟨pp, rfl, hpp, hR6, hS6⟩
                  have O6 := hide (ownsRow_rs (O5.out.drew) hS6 hrb); have V6 := hide (RV.rs (w := w5.drew) V5.out hS6 (Rx.out.drewN 1))
                  have Ry := hide hR6; have Sy := hide ((Sx.out.drewN 1).trans hS6)
                  replace fk := frozen_rs (w := w5.drew) ck fk hS6 hneb
                  replace ck := cell_rs (w := w5.drew) ck hS6 hneb
                  replace hcr := cell_rs (w := w5.drew) hcr hS6 hneB
                  have HPUTx := hide (row_put O6.out V6.out hlt hcr)
                  clear hpp hR6 hS6 O5 V5
                  (try go_wp2_with fail)
                  clear hHeld
                  refine hK.out _ _ ?hS45 (fun hHeld => ?_)
                  case hS45 => ((try dsimp only); (repeat' apply And.intro) <;> (first | (with_reducible assumption) | (rw [World.cell?_drew]; with_reducible assumption) | (rw [World.cell?_setCell_other _ _ _ _ (fun e => by injection e with e; omega)]; with_reducible assumption) | (simp [*]; done)))
                  clear hK K
                  (try simp only [Act.put, List.setIfInBounds_toArray, List.set_cons_zero, List.set_cons_succ])
                  refine wpAnyH_ready (rs := [11]) (by kernel_rfl) (by simp) (AllReadyH.cons (by simp only [List.getElem?_toArray, List.getElem?_cons_succ, List.getElem?_cons_zero]; rfl) (fun K hK => ?_) AllReadyH.nil)
                  go_simp
                  clear hHeld
                  refine hK.out _ _ ?hS46 (fun hHeld => ?_)
                  case hS46 => ((try dsimp only); (repeat' apply And.intro) <;> (first | (with_reducible assumption) | (rw [World.cell?_drew]; with_reducible assumption) | (rw [World.cell?_setCell_other _ _ _ _ (fun e => by injection e with e; omega)]; with_reducible assumption) | (simp [*]; done)))
                  clear hK K
                  (try simp only [Act.put, List.setIfInBounds_toArray, List.set_cons_zero, List.set_cons_succ])
                  refine wpAnyH_take (i := 12) (v := ?v47) (by simp only [List.getElem?_toArray, List.getElem?_cons_succ, List.getElem?_cons_zero]; rfl) (by kernel_rfl) (by kernel_rfl) (by kernel_rfl) (by exact fun _ _ _ h => h) (Or.inl ⟨by rfl, ?hy47⟩) (by assumption) ?rest47
                  case hy47 => (intro w hSw; (try dsimp only at hSw); go_simp; (try with_reducible rfl))
                  (try simp only [Act.put, List.setIfInBounds_toArray, List.set_cons_zero, List.set_cons_succ])
                  refine wpAnyH_take (i := 15) (v := ?v48) (by simp only [List.getElem?_toArray, List.getElem?_cons_succ, List.getElem?_cons_zero]; rfl) (by kernel_rfl) (by kernel_rfl) (by kernel_rfl) (by exact fun _ _ _ h => h) (Or.inl ⟨by rfl, ?hy48⟩) (by assumption) ?rest48
                  case hy48 => (intro w hSw; (try dsimp only at hSw); go_simp; (try with_reducible rfl))
                  (try simp only [Act.put, List.setIfInBounds_toArray, List.set_cons_zero, List.set_cons_succ])
                  refine wpAnyH_take (i := 16) (v := ?v49) (by simp only [List.getElem?_toArray, List.getElem?_cons_succ, List.getElem?_cons_zero]; rfl) (by kernel_rfl) (by kernel_rfl) (by kernel_rfl) (by exact fun _ _ _ h => h) (Or.inl ⟨by rfl, ?hy49⟩) (by assumption) ?rest49
                  case hy49 => (intro w hSw; (try dsimp only at hSw); go_simp; (try with_reducible rfl))
                  (try simp only [Act.put, List.setIfInBounds_toArray, List.set_cons_zero, List.set_cons_succ])
                  refine wpAnyH_ready (rs := [17]) (by kernel_rfl) (by simp) (AllReadyH.cons (by simp only [List.getElem?_toArray, List.getElem?_cons_succ, List.getElem?_cons_zero]; rfl) (fun K hK => ?_) AllReadyH.nil)
                  go_simp
                  clear hHeld
                  refine hK.out _ _ ?hS50 (fun hHeld => ?_)
                  case hS50 => ((try dsimp only); (repeat' apply And.intro) <;> (first | (with_reducible assumption) | (rw [World.cell?_drew]; with_reducible assumption) | (rw [World.cell?_setCell_other _ _ _ _ (fun e => by injection e with e; omega)]; with_reducible assumption) | (simp [*]; done)))
                  clear hK K
                  (try simp only [Act.put, List.setIfInBounds_toArray, List.set_cons_zero, List.set_cons_succ])
                  refine wpAnyH_done (by kernel_rfl) ?_ _
                  go_wp2_with fail
                  (try clear hkk)
                  go_roundw
                  case rel => exact ⟨_, k + 1, _, by omega, rfl, by first | go_num | (simp; omega) | (have := HK1.out; simp; omega), hide (hL.out.put), hide (HPUTx.out k _).1, hide (HPUTx.out k _).2, hide ((Ry.out.mono (by omega)).set (by simpa using hrbg) _), hide (Sy.out.set (by have := HG.out; simp; omega) _)⟩
                  case measure => simp [intOf]; omega
              · have hy' : y0 ≤ 0 := by omega
                clear hy
                have HPUTx := HPUT; have Rx := hR; have Sx := hS
                go_wp2_with fail
                go_roundw
                case rel => exact ⟨_, k1, _, by have := HK1.out; omega, rfl, rfl, hide (hL.out.put), hide (HPUTx.out k _).1, hide (HPUTx.out k _).2, hide ((Rx.out.mono (by have := HK1.out; omega)).set (by simpa using hrbg) _), hide (Sx.out.set (by have := HG.out; simp; omega) _)⟩
                case measure => have := HK1.out; simp [intOf]; omega
            · have hx' : x0 ≤ 0 := by omega
              clear hx
              have HPUTx := HPUT; have Rx := hR; have Sx := hS
              go_wp2_with fail
              go_roundw
              case rel => exact ⟨_, k1, _, by have := HK1.out; omega, rfl, rfl, hide (hL.out.put), hide (HPUTx.out k _).1, hide (HPUTx.out k _).2, hide ((Rx.out.mono (by have := HK1.out; omega)).set (by simpa using hrbg) _), hide (Sx.out.set (by have := HG.out; simp; omega) _)⟩
              case measure => have := HK1.out; simp [intOf]; omega
        · have : k = m := by omega
          subst this
          have HMM := HM
          go_wp2_with fail
          go_roundw
          case rel => exact ⟨M, r + 1, xss, by omega, rfl, by go_num, hL, hO, hV, hide (hR.out.mono (by omega)), hS⟩
          case measure => simp [intOf]; omega
    · have : r = n := by omega
      subst this
      have hnlt : ¬ (r : Int) < r := by omega
      have HLL := hide (show ∀ q, q < r → 1 ≤ (nthL xss q).length ∧ (nthL xss q).length ≤ 6 from fun q hq => by have := hL.out.2 q hq; omega)
      have HLN := hide hL.out.1
      clear hL
      have hcv0 : (0 : Int) ≤ cv := by omega
      by_cases h2 : 1 < (r : Int)
      · go_wp2_with fail
        refine (pick_any rb (N + 10 + 20 * r) 4 _ (by omega) hR.out).mono ?_
        rintro e w5 ⟨p, rfl, hp, hR5, hS5⟩
        have O5 := hide (ownsRow_rs hO.out hS5 hrb); have V5 := hide (hV.out.rs hS5 hR.out)
        have R5 := hide hR5; have S5 := hide (hS.out.trans hS5)
        clear hp hR5 hS5 hO hV hR hS
        by_cases hp0 : p = 0
        · have hdp : (p == 0) = true := by simpa using hp0
          clear hp0
          obtain ⟨j, hj⟩ : ∃ j : Nat, (r : Int) - 1 = j := ⟨r - 1, by omega⟩
          have HJ := hide (show r = j + 1 by omega)
          have hj1 : (1 : Int) ≤ j := by omega
          go_wp2_with fail
          refine (pick_any rb (N + 10 + 20 * r + 1) j _ (by omega) R5.out).mono ?_
          rintro e w6 ⟨q, rfl, hq, hR6, hS6⟩
          have O6 := hide (ownsRow_rs O5.out hS6 hrb); have V6 := hide (V5.out.rs hS6 R5.out)
          have R6 := hide hR6; have S6 := hide (S5.out.trans hS6)
          obtain ⟨q0, q1⟩ := hq.2 hj1
          clear hq hR6 hS6 O5 V5 R5 S5
          obtain ⟨t, ht⟩ : ∃ t : Nat, 1 + q = t := ⟨(1 + q).toNat, by omega⟩
          have ewt : IntKind.i64.wrap (1 + q) = t := by rw [ht]; exact IntWalk.i64_in _ ⟨by omega, by omega⟩
          have htr : t ≤ r := by have := HJ.out; omega
          have htc : (t : Int) ≤ cv := by omega
          have ht0 : (0 : Int) ≤ t := by omega
          have HT0 := hide (show 0 < r by omega)
          clear ht
          go_wp2_with fail
          go_ret
          exact ⟨_, t, _, _, rfl, ⟨by omega, by rw [List.length_take, HLN.out]; omega, fun q hq => by rw [nthL_take hq]; exact HLL.out q (by omega)⟩, own_take O6.out htr HT0.out, V6.out.take, R6.out.mono (by omega), S6.out⟩
        · have hdp : (p == 0) = false := by simpa using hp0
          clear hp0
          go_wp2_with fail
          go_ret
          exact ⟨_, r, _, _, rfl, ⟨by omega, HLN.out, HLL.out⟩, O5.out, V5.out, R5.out.mono (by omega), S5.out⟩
      · go_wp2_with fail
        go_ret
        exact ⟨_, r, _, _, rfl, ⟨by omega, HLN.out, HLL.out⟩, hO.out, hV.out, hR.out.mono (by omega), hS.out⟩

end Go.Proofs.Ytbbopnpmjhbffaa
