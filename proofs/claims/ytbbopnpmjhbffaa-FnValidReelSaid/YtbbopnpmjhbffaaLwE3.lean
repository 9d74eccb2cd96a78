/- The law that defects can be mended. -/
import Derived.Test.YtbbopnpmjhbffaaRdE4
namespace Go.Proofs.Ytbbopnpmjhbffaa
open Go.RowKit
attribute [local go_sem ↓] Go.wp_at_zero Go.wp_at_succ
set_option linter.unusedVariables false
set_option maxRecDepth 100000
theorem whole_any (W L : Int) (A : Option Addr) (n c : Nat) (w : World) : Calls Try.prog 11 #[reel W L A n c] w fun e w' => e = .returned (part 0 W 0 L) ∧ Below w.heap.size w w' := by
  go_enter Try.func11, Try.ntmps11
  go_wp2
  refine bodyPost_ret (v := part 0 W 0 L) (by simp [results, Try.results11, go_sem]) rfl ⟨rfl, by go_grown⟩
/-- defects are appended to a slice of the call's own -/
theorem wp_appD {o : Oper} {a : Act} {K : Act → World → Prop} {Q : Exit → Act → World → Prop} (s x : Operand) (ho : o.op = .call { callee := .builtin .append, args := #[s, x], argTypes := #[23, 23] })
    (base : Nat) (v : Value) (n : Nat) (ds es : List D5) (ad : Addr) (m c : Nat) (W : World) (hs : a.eval s = v) (hx : a.eval x = .slice (some ad) m c) (hown : W.ownsRow base 43 5 v n (flat ds)) (hl : es.length = m)
    (hc : ∀ j u, (flat es)[j]? = some u → W.cell? (ad.add j) = some u) (hn : n + m ≤ 1048576) (hbase : base ≤ W.heap.size)
    (h : ∀ v' w', w'.ownsRow base 43 5 v' (n + m) (flat (ds ++ es)) ∧ Below base W w' ∧ Keeps 43 W w' → K (a.put o.dst v') w') : o.wp Try.prog a W K Q := by
  obtain ⟨i0, hi0, hz0, hz1, hz2⟩ := info_parts info_defect
  refine wp_append_own _ s x 23 ho base 43 i0 (dfc 0 0 0 0 0) 5 40 Try.underlying23 hi0 hz0 hz1 hz2 rfl (by omega) v n (flat ds) hs hown ad m c (flat es) hx (by rw [flat_len, hl]) hc (flat_cell es) (by simp only [maxLen]; omega) (by omega) hbase ?_
  intro v' w' h2 h3 _
  refine h v' w' ⟨by rw [flat_append]; exact h2, (Below.refl base W).grown h3 hbase (fun k hk => (hown.lt k hk).1), fun T hT b cs hg => h3.block b (Array.getElem?_eq_some_iff.1 hg).1 (fun e' => ?_)⟩
  obtain ⟨cs', h'⟩ := elem_own hown e'.symm
  rw [hg] at h'
  injection h' with h'
  injection h' with _ h'
  exact hT h'
theorem cells_take {w : World} {g : Nat} {ds : List D5} (h : DfB w g ds) (i : Nat) : ∀ j u, (flat (ds.take i))[j]? = some u → w.cell? ((⟨g, 0, none⟩ : Addr).add j) = some u := fun j u hu => by
  rw [add_new]
  have hj : j < (flat (ds.take i)).length := (List.getElem?_eq_some_iff.1 hu).1
  rw [flat_len, List.length_take] at hj
  have hk : j / 5 < (ds.take i).length := by rw [List.length_take]; omega
  have hk2 : j / 5 < ds.length := by omega
  have e := flat_at (ds.take i) (j / 5) (j % 5) hk (Nat.mod_lt _ (by omega))
  rw [show j / 5 * 5 + j % 5 = j by omega, hu] at e
  have en : nthD (ds.take i) (j / 5) = nthD ds (j / 5) := by
    rw [nthD_lt hk, nthD_lt hk2]; simp
  rw [en] at e
  obtain ⟨c0, c1, c2, c3, c4⟩ := h.2 (j / 5) hk2
  have hm : j % 5 < 5 := Nat.mod_lt _ (by omega)
  have ej : j = j / 5 * 5 + j % 5 := by omega
  generalize j % 5 = q at hm ej e
  generalize j / 5 = p at *
  subst ej
  match q, hm with
  | 0, _ => rw [e]; exact c0
  | 1, _ => rw [e]; exact c1
  | 2, _ => rw [e]; exact c2
  | 3, _ => rw [e]; exact c3
  | 4, _ => rw [e]; exact c4
theorem cells_drop {w : World} {g : Nat} {ds : List D5} (h : DfB w g ds) (i : Nat) : ∀ j u, (flat (ds.drop i))[j]? = some u → w.cell? ((⟨g, i * 5, none⟩ : Addr).add j) = some u := fun j u hu => by
  have ea : (⟨g, i * 5, none⟩ : Addr).add j = ⟨g, i * 5 + j, none⟩ := by unfold Addr.add; split <;> simp_all
  rw [ea]
  have hj : j < (flat (ds.drop i)).length := (List.getElem?_eq_some_iff.1 hu).1
  rw [flat_len, List.length_drop] at hj
  have h2 := cells_take h (ds.length)
  have e2 := h2 (i * 5 + j) u (by
    rw [List.take_of_length_le (Nat.le_refl _)]
    have e3 : flat ds = flat (ds.take i) ++ flat (ds.drop i) := by rw [← flat_append, List.take_append_drop]
    rw [e3, List.getElem?_append_right (by rw [flat_len, List.length_take]; omega), flat_len, List.length_take, show i * 5 + j - min i ds.length * 5 = j by omega]
    exact hu)
  rwa [add_new] at e2
theorem less_len {ds : List D5} {k : Nat} (h : k < ds.length) : (ds.take k ++ ds.drop (k + 1)).length = k + (ds.length - (k + 1)) := by simp; omega
set_option maxHeartbeats 8000000 in
theorem lawFnValidReel (A : Option Addr) (n c : Nat) (bs : List Int) (w : World) (h : Byts w A n bs) (hnc : n ≤ c) :
    Calls Try.prog 3 #[.slice A n c] w fun e w' => e = .returned (.bool true) ∧ Below w.heap.size w w' := by
  by_cases g : (1048576 : Int) < n
  · go_enter Try.func3, Try.ntmps3
    go_wp2
    go_ret
    exact ⟨rfl, Below.refl _ _⟩
  have g' : (n : Int) ≤ 1048576 := by omega
  clear g
  go_enter Try.func3, Try.ntmps3
  go_wp2_with fail
  refine (drawValidReel_any A n c bs _ (by omega) hnc h).mono ?_; rintro e w1 ⟨W, L, Av, m, cv, ds, rfl, ⟨hW, hL, hm, hmc⟩, hD, hb⟩
  have hm' : m ≤ 1048576 := by omega
  have HDL := hide hD.1
  have B1 := hide hb; have D1 := hide hD; clear hb hD h
  go_wp2_with fail
  have D2 := hide (D1.out.alloc (.cells #[.int .i64 W, .int .i64 L, .slice Av m cv] 25))
  have B2 := hide (Below.alloc B1.out B1.out.size (.cells #[.int .i64 W, .int .i64 L, .slice Av m cv] 25))
  have KX2 := hide (Bk.made w1 25 #[.int .i64 W, .int .i64 L, .slice Av m cv])
  generalize (w1.alloc (.cells #[.int .i64 W, .int .i64 L, .slice Av m cv] 25)) = w2 at *
  clear B1 D1
  cases hv : vRe W L ds
  · have HV := hide hv; clear hv
    refine (implValidReel W L Av m cv ds _ hm' D2.out).mono ?_; rintro e w3 ⟨rfl, hb⟩; rw [HV.out]
    have KX3 := hide (KX2.out.call hb); have D3 := hide (D2.out.below hb); have B3 := hide (below_then B2.out hb)
    clear hb KX2 D2 B2
    obtain ⟨x0, x1, x2, -, -, -⟩ := KX3.out.three
    go_wp2_with fail
    clear x0 x1 x2
    refine (specValidReel W L Av m cv ds _ hm' D3.out).mono ?_; rintro e w4 ⟨rfl, hb⟩; rw [HV.out]
    have KX4 := hide (KX3.out.call hb); have D4 := hide (D3.out.below hb); have B4 := hide (below_then B3.out hb)
    clear hb KX3 D3 B3
    obtain ⟨x0, x1, x2, -, -, -⟩ := KX4.out.three
    go_wp2_with fail
    clear x0 x1 x2
    refine (specValidReel W L Av m cv ds _ hm' D4.out).mono ?_; rintro e w5 ⟨rfl, hb⟩; rw [HV.out]
    have KX5 := hide (KX4.out.call hb); have D5 := hide (D4.out.below hb); have B5 := hide (below_then B4.out hb)
    clear hb KX4 D4 B4
    obtain ⟨x0, x1, x2, -, -, -⟩ := KX5.out.three
    go_wp2_with fail
    go_ret
    exact ⟨rfl, B5.out⟩
  · have HLESS := hide (fun k => vRe_less hv k)
    obtain ⟨⟨hW1, hW2⟩, ⟨hL1, hL2⟩, -, -⟩ := vRe_out hv
    have HVP := hide (show (vRe W L ds && vPa W L 0 W 0 L) = true by rw [hv, vPa_yes ⟨⟨by omega, by omega, by omega⟩, by omega, by omega, by omega⟩]; rfl)
    have HV := hide hv; clear hv
    refine (implValidReel W L Av m cv ds _ hm' D2.out).mono ?_; rintro e w3 ⟨rfl, hb⟩; rw [HV.out]
    have KX3 := hide (KX2.out.call hb); have D3 := hide (D2.out.below hb); have B3 := hide (below_then B2.out hb)
    clear hb KX2 D2 B2
    obtain ⟨x0, x1, x2, -, -, -⟩ := KX3.out.three
    go_wp2_with fail
    clear x0 x1 x2
    refine (specValidReel W L Av m cv ds _ hm' D3.out).mono ?_; rintro e w4 ⟨rfl, hb⟩; rw [HV.out]
    have KX4 := hide (KX3.out.call hb); have D4 := hide (D3.out.below hb); have B4 := hide (below_then B3.out hb)
    clear hb KX3 D3 B3
    obtain ⟨x0, x1, x2, -, -, -⟩ := KX4.out.three
    go_wp2_with fail
    clear x0 x1 x2
    go_loopw [5] (fun i wr => ∃ k : Nat, k ≤ m ∧ i = .int .i64 k ∧ Hid (Bk wr w1.heap.size 25 #[.int .i64 W, .int .i64 L, .slice Av m cv]) ∧ Hid (Dfs wr Av m ds) ∧ Hid (Below w.heap.size w wr)) (fun i _ => m - (intOf i).toNat)
    case atStart => exact ⟨0, by omega, rfl, KX4, D4, B4⟩
    case round =>
      clear KX4 D4 B4
      obtain ⟨k, hk, rfl, hKX, hD, hB⟩ := hrel
      by_cases hlt : k < m
      · obtain ⟨g0, rfl, hDB⟩ := hD.out.2 (by omega)
        have HDB := hide hDB; clear hDB
        have lX := hKX.out.lt
        obtain ⟨x0, x1, x2, -, -, -⟩ := hKX.out.three
        have HKL := hide (show k < ds.length by rw [HDL.out]; exact hlt)
        have hk0 : (0 : Int) ≤ k := by omega
        have hk1 : (k : Int) < m := by omega
        have hk2 : (k : Int) ≤ cv := by omega
        obtain ⟨q, hq⟩ : ∃ q : Nat, k + 1 = q := ⟨_, rfl⟩
        have HQ := hide hq
        have hq1 : (k : Int) + 1 = q := by omega
        have ewq : IntKind.i64.wrap ((k : Int) + 1) = q := by rw [hq1]; exact IntWalk.i64_in _ ⟨by omega, by omega⟩
        have ewq2 : IntKind.i64.wrap (q : Int) = q := IntWalk.i64_in _ ⟨by omega, by omega⟩
        have hq2 : (q : Int) ≤ m := by omega
        have hq3 : (m : Int) ≤ cv := by omega
        have hq4 : (0 : Int) ≤ q := by omega
        clear hq
        go_wp2_with fail
        have HLE : Hid (vRe W L (ds.take k ++ ds.drop q) = true) := hide (by rw [← HQ.out]; exact HLESS.out k)
        have hqm : q ≤ m := by omega
        have hb0 : w1.heap.size < wr.heap.size := lX
        by_cases hqc : cv = q
        · have e1 : cv = m := by omega
          have e2 : q = m := by omega
          have hle : vRe W L (ds.take k) = true := (by have := HLESS.out k; rw [List.drop_of_length_le (by have := HDL.out; have := HQ.out; omega), List.append_nil] at this; exact this)
          clear hqc HLE
          subst e1
          subst e2
          have HLE := hide hle
          clear hle
          have BL0 : Hid (Below wr.heap.size wr wr.drew) := hide (below_of_drewN (w := wr) wr.heap.size 1)
          refine wp_region_held_drew (S := fun w' => w'.cell? ⟨w1.heap.size, 0, none⟩ = some (.int .i64 W) ∧ w'.cell? ⟨w1.heap.size, 1, none⟩ = some (.int .i64 L) ∧ w'.cell? ⟨w1.heap.size, 2, none⟩ = some (.slice (some ⟨g0, 0, none⟩) q q)) (by kernel_rfl) ?hS42 (fun hHeld => ?_)
          case hS42 => ((try dsimp only); (repeat' apply And.intro) <;> (first | (with_reducible assumption) | (rw [World.cell?_drew]; with_reducible assumption) | (rw [World.cell?_setCell_other _ _ _ _ (fun e => by injection e with _ e; cases e)]; with_reducible assumption) | (simp [*]; done)))
          generalize wr.drew = wd at *
          refine wpAnyH_take (i := 0) (v := ?v43) (by simp only [List.getElem?_toArray, List.getElem?_cons_zero]; rfl) (by kernel_rfl) (by kernel_rfl) (by kernel_rfl) (by exact fun _ _ _ h => h) (Or.inl ⟨by rfl, ?hy43⟩) (by assumption) ?rest43
          case hy43 => (intro w hSw; (try dsimp only at hSw); go_simp; (try with_reducible rfl))
          (try simp only [Act.put, List.setIfInBounds_toArray, List.set_cons_zero, List.set_cons_succ])
          refine wpAnyH_take (i := 1) (v := ?v44) (by simp only [List.getElem?_toArray, List.getElem?_cons_succ, List.getElem?_cons_zero]; rfl) (by kernel_rfl) (by kernel_rfl) (by kernel_rfl) (by exact fun _ _ _ h => h) (Or.inl ⟨by rfl, ?hy44⟩) (by assumption) ?rest44
          case hy44 => (intro w hSw; (try dsimp only at hSw); go_simp; (try with_reducible rfl))
          (try simp only [Act.put, List.setIfInBounds_toArray, List.set_cons_zero, List.set_cons_succ])
          refine wpAnyH_take (i := 2) (v := ?v45) (by simp only [List.getElem?_toArray, List.getElem?_cons_succ, List.getElem?_cons_zero]; rfl) (by kernel_rfl) (by kernel_rfl) (by kernel_rfl) (by exact fun _ _ _ h => h) (Or.inl ⟨by rfl, ?hy45⟩) (by assumption) ?rest45
          case hy45 => (intro w hSw; (try dsimp only at hSw); go_simp; (try with_reducible rfl))
          (try simp only [Act.put, List.setIfInBounds_toArray, List.set_cons_zero, List.set_cons_succ])
          refine wpAnyH_take (i := 3) (v := ?v46) (by simp only [List.getElem?_toArray, List.getElem?_cons_succ, List.getElem?_cons_zero]; rfl) (by kernel_rfl) (by kernel_rfl) (by kernel_rfl) (by exact fun _ _ _ h => h) (Or.inl ⟨by rfl, ?hy46⟩) (by assumption) ?rest46
          case hy46 => (intro w hSw; (try dsimp only at hSw); go_simp; (try with_reducible rfl))
          (try simp only [Act.put, List.setIfInBounds_toArray, List.set_cons_zero, List.set_cons_succ])
          refine wpAnyH_take (i := 5) (v := ?v47) (by simp only [List.getElem?_toArray, List.getElem?_cons_succ, List.getElem?_cons_zero]; rfl) (by kernel_rfl) (by kernel_rfl) (by kernel_rfl) (by exact fun _ _ _ h => h) (Or.inl ⟨by rfl, ?hy47⟩) (by assumption) ?rest47
          case hy47 => (intro w hSw; (try dsimp only at hSw); go_simp; (try with_reducible rfl))
          (try simp only [Act.put, List.setIfInBounds_toArray, List.set_cons_zero, List.set_cons_succ])
          refine wpAnyH_take (i := 6) (v := ?v48) (by simp only [List.getElem?_toArray, List.getElem?_cons_succ, List.getElem?_cons_zero]; rfl) (by kernel_rfl) (by kernel_rfl) (by kernel_rfl) (by exact fun _ _ _ h => h) (Or.inl ⟨by rfl, ?hy48⟩) (by assumption) ?rest48
          case hy48 => (intro w hSw; (try dsimp only at hSw); go_simp; (try with_reducible rfl))
          (try simp only [Act.put, List.setIfInBounds_toArray, List.set_cons_zero, List.set_cons_succ])
          refine wpAnyH_take (i := 7) (v := ?v49) (by simp only [List.getElem?_toArray, List.getElem?_cons_succ, List.getElem?_cons_zero]; rfl) (by kernel_rfl) (by kernel_rfl) (by kernel_rfl) (by exact fun _ _ _ h => h) (Or.inl ⟨by rfl, ?hy49⟩) (by assumption) ?rest49
          case hy49 => (intro w hSw; (try dsimp only at hSw); go_simp; (try with_reducible rfl))
          (try simp only [Act.put, List.setIfInBounds_toArray, List.set_cons_zero, List.set_cons_succ])
          refine wpAnyH_take (i := 8) (v := ?v50) (by simp only [List.getElem?_toArray, List.getElem?_cons_succ, List.getElem?_cons_zero]; rfl) (by kernel_rfl) (by kernel_rfl) (by kernel_rfl) (by exact fun _ _ _ h => h) (Or.inl ⟨by rfl, ?hy50⟩) (by assumption) ?rest50
          case hy50 => (intro w hSw; (try dsimp only at hSw); go_simp; (try with_reducible rfl))
          (try simp only [Act.put, List.setIfInBounds_toArray, List.set_cons_zero, List.set_cons_succ])
          refine wpAnyH_take (i := 10) (v := ?v51) (by simp only [List.getElem?_toArray, List.getElem?_cons_succ, List.getElem?_cons_zero]; rfl) (by kernel_rfl) (by kernel_rfl) (by kernel_rfl) (by exact fun _ _ _ h => h) (Or.inl ⟨by rfl, ?hy51⟩) (by assumption) ?rest51
          case hy51 => (intro w hSw; (try dsimp only at hSw); go_simp; (try with_reducible rfl))
          (try simp only [Act.put, List.setIfInBounds_toArray, List.set_cons_zero, List.set_cons_succ])
          refine wpAnyH_take (i := 11) (v := ?v52) (by simp only [List.getElem?_toArray, List.getElem?_cons_succ, List.getElem?_cons_zero]; rfl) (by kernel_rfl) (by kernel_rfl) (by kernel_rfl) (by exact fun _ _ _ h => h) (Or.inl ⟨by rfl, ?hy52⟩) (by assumption) ?rest52
          case hy52 => (intro w hSw; (try dsimp only at hSw); go_simp; (try with_reducible rfl))
          (try simp only [Act.put, List.setIfInBounds_toArray, List.set_cons_zero, List.set_cons_succ])
          refine wpAnyH_take (i := 12) (v := ?v53) (by simp only [List.getElem?_toArray, List.getElem?_cons_succ, List.getElem?_cons_zero]; rfl) (by kernel_rfl) (by kernel_rfl) (by kernel_rfl) (by exact fun _ _ _ h => h) (Or.inl ⟨by rfl, ?hy53⟩) (by assumption) ?rest53
          case hy53 => (intro w hSw; (try dsimp only at hSw); go_simp; (try with_reducible rfl))
          (try simp only [Act.put, List.setIfInBounds_toArray, List.set_cons_zero, List.set_cons_succ])
          refine wpAnyH_take (i := 13) (v := ?v54) (by simp only [List.getElem?_toArray, List.getElem?_cons_succ, List.getElem?_cons_zero]; rfl) (by kernel_rfl) (by kernel_rfl) (by kernel_rfl) (by exact fun _ _ _ h => h) (Or.inl ⟨by rfl, ?hy54⟩) (by assumption) ?rest54
          case hy54 => (intro w hSw; (try dsimp only at hSw); go_simp; (try with_reducible rfl))
          (try simp only [Act.put, List.setIfInBounds_toArray, List.set_cons_zero, List.set_cons_succ])
          refine wpAnyH_take (i := 14) (v := ?v55) (by simp only [List.getElem?_toArray, List.getElem?_cons_succ, List.getElem?_cons_zero]; rfl) (by kernel_rfl) (by kernel_rfl) (by kernel_rfl) (by exact fun _ _ _ h => h) (Or.inl ⟨by rfl, ?hy55⟩) (by assumption) ?rest55
          case hy55 => (intro w hSw; (try dsimp only at hSw); go_simp; (try with_reducible rfl))
          (try simp only [Act.put, List.setIfInBounds_toArray, List.set_cons_zero, List.set_cons_succ])
          refine wpAnyH_ready (rs := [4, 17]) (by kernel_rfl) (by simp) (AllReadyH.cons (by simp only [List.getElem?_toArray, List.getElem?_cons_succ, List.getElem?_cons_zero]; rfl) (fun K hK => ?_) (AllReadyH.cons (by simp only [List.getElem?_toArray, List.getElem?_cons_succ, List.getElem?_cons_zero]; rfl) (fun K hK => ?_) AllReadyH.nil))
          · go_simp
            have BL47 : Hid (Below wr.heap.size wr (wd.alloc (.cells #[] 43))) := hide (Below.alloc BL0.out (Below.size BL0.out) _)
            have KXc := hide (Bk.below hKX.out BL47.out (by exact lX))
            clear x0 x1 x2
            obtain ⟨x0, x1, x2, -, -, -⟩ := KXc.out.three
            have lXc := KXc.out.lt
            have o48 := own_empty5 (w := wd) (base := wr.heap.size) (e := 43) (Below.size BL0.out)
            (try simp only [World.size_alloc] at o48)
            have O48 := hide o48
            clear o48
            clear hHeld
            refine hK.out _ _ ?hS56 (fun hHeld => ?_)
            case hS56 => ((try dsimp only); (repeat' apply And.intro) <;> (first | (with_reducible assumption) | (rw [World.cell?_drew]; with_reducible assumption) | (rw [World.cell?_alloc_lt _ _ _ (by exact lXc)]; with_reducible assumption) | (rw [far3 (by omega)]; with_reducible assumption) | ((repeat rw [World.cell?_setCell_other _ _ _ _ (fun e => by injection e with e; omega)]); with_reducible assumption) | (simp [*]; done)))
            clear hK K
            (try simp only [Act.put, List.setIfInBounds_toArray, List.set_cons_zero, List.set_cons_succ])
            refine wpAnyH_ready (rs := [9, 17]) (by kernel_rfl) (by simp) (AllReadyH.cons (by simp only [List.getElem?_toArray, List.getElem?_cons_succ, List.getElem?_cons_zero]; rfl) (fun K hK => ?_) (AllReadyH.cons (by simp only [List.getElem?_toArray, List.getElem?_cons_succ, List.getElem?_cons_zero]; rfl) (fun K hK => ?_) AllReadyH.nil))
            · rw [if_pos (by rfl)]
              refine wp_appD _ _ rfl wr.heap.size _ 0 [] (ds.take k) _ _ _ _ (by rfl) (by rfl) O48.out (by rw [List.length_take]; have := HDL.out; omega) (fun j u hu => (BL47.out).cell (p := Addr.add _ j) (by rw [block_add]; exact HDB.out.1) |>.trans (cells_take HDB.out k j u hu)) (by omega) (Below.size BL47.out) ?_
              rintro v49 wz49 ⟨ho, hb8, hk8⟩
              rw [Nat.zero_add, List.nil_append] at ho
              obtain ⟨A49, c49, hv49, -, -⟩ := dfs_of_own ho
              subst hv49
              have BL50 : Hid (Below wr.heap.size wr wz49) := hide (Below.trans BL47.out hb8)
              have KXc := hide (Bk.below hKX.out BL50.out (by exact lX))
              clear x0 x1 x2
              obtain ⟨x0, x1, x2, -, -, -⟩ := KXc.out.three
              have lXc := KXc.out.lt
              have O51 := hide ho
              clear ho hb8 hk8
              clear hHeld
              refine hK.out _ _ ?hS57 (fun hHeld => ?_)
              case hS57 => ((try dsimp only); (repeat' apply And.intro) <;> (first | (with_reducible assumption) | (rw [World.cell?_drew]; with_reducible assumption) | (rw [World.cell?_alloc_lt _ _ _ (by exact lXc)]; with_reducible assumption) | (rw [far3 (by omega)]; with_reducible assumption) | ((repeat rw [World.cell?_setCell_other _ _ _ _ (fun e => by injection e with e; omega)]); with_reducible assumption) | (simp [*]; done)))
              clear hK K
              (try simp only [Act.put, List.setIfInBounds_toArray, List.set_cons_zero, List.set_cons_succ])
              refine wpAnyH_ready (rs := [15, 17]) (by kernel_rfl) (by simp) (AllReadyH.cons (by simp only [List.getElem?_toArray, List.getElem?_cons_succ, List.getElem?_cons_zero]; rfl) (fun K hK => ?_) (AllReadyH.cons (by simp only [List.getElem?_toArray, List.getElem?_cons_succ, List.getElem?_cons_zero]; rfl) (fun K hK => ?_) AllReadyH.nil))
              · rw [if_pos (by rfl)]
                refine wp_appD _ _ rfl wr.heap.size _ k (ds.take k) [] _ 0 _ _ (by rfl) (by rfl) O51.out rfl (fun j u hu => by simp [flat] at hu) (by omega) (Below.size BL50.out) ?_
                rintro v52 wz52 ⟨ho, hb8, hk8⟩
                rw [Nat.add_zero, List.append_nil] at ho
                obtain ⟨A52, c52, hv52, -, -⟩ := dfs_of_own ho
                subst hv52
                have BL53 : Hid (Below wr.heap.size wr wz52) := hide (Below.trans BL50.out hb8)
                have KXc := hide (Bk.below hKX.out BL53.out (by exact lX))
                clear x0 x1 x2
                obtain ⟨x0, x1, x2, -, -, -⟩ := KXc.out.three
                have lXc := KXc.out.lt
                have O54 := hide ho
                clear ho hb8 hk8
                clear hHeld
                refine hK.out _ _ ?hS58 (fun hHeld => ?_)
                case hS58 => ((try dsimp only); (repeat' apply And.intro) <;> (first | (with_reducible assumption) | (rw [World.cell?_drew]; with_reducible assumption) | (rw [World.cell?_alloc_lt _ _ _ (by exact lXc)]; with_reducible assumption) | (rw [far3 (by omega)]; with_reducible assumption) | ((repeat rw [World.cell?_setCell_other _ _ _ _ (fun e => by injection e with e; omega)]); with_reducible assumption) | (simp [*]; done)))
                clear hK K
                (try simp only [Act.put, List.setIfInBounds_toArray, List.set_cons_zero, List.set_cons_succ])
                refine wpAnyH_take (i := 16) (v := ?v59) (by simp only [List.getElem?_toArray, List.getElem?_cons_succ, List.getElem?_cons_zero]; rfl) (by kernel_rfl) (by kernel_rfl) (by kernel_rfl) (by exact fun _ _ _ h => h) (Or.inl ⟨by rfl, ?hy59⟩) (by assumption) ?rest59
                case hy59 => (intro w hSw; (try dsimp only at hSw); go_simp; (try with_reducible rfl))
                (try simp only [Act.put, List.setIfInBounds_toArray, List.set_cons_zero, List.set_cons_succ])
                refine wpAnyH_ready (rs := [17]) (by kernel_rfl) (by simp) (AllReadyH.cons (by simp only [List.getElem?_toArray, List.getElem?_cons_succ, List.getElem?_cons_zero]; rfl) (fun K hK => ?_) AllReadyH.nil)
                go_simp
                have BL55 : Hid (Below wr.heap.size wr (wz52.alloc (.cells #[.int .i64 0, .int .i64 0, .slice none 0 0] 25))) := hide (Below.alloc BL53.out (Below.size BL53.out) _)
                have KXc := hide (Bk.below hKX.out BL55.out (by exact lX))
                clear x0 x1 x2
                obtain ⟨x0, x1, x2, -, -, -⟩ := KXc.out.three
                have lXc := KXc.out.lt
                have k6_56 := Bk.made wz52 25 #[.int .i64 0, .int .i64 0, .slice none 0 0]
                (try simp only [World.size_alloc] at k6_56)
                have K6_56 := hide k6_56
                clear k6_56
                have hb6 : wr.heap.size ≤ wz52.heap.size := Below.size BL53.out
                (try simp only [World.size_alloc] at hb6)
                have O57 := hide (World.ownsRow.alloc O54.out (.cells #[.int .i64 0, .int .i64 0, .slice none 0 0] 25))
                clear hHeld
                refine hK.out _ _ ?hS60 (fun hHeld => ?_)
                case hS60 => ((try dsimp only); (repeat' apply And.intro) <;> (first | (with_reducible assumption) | (rw [World.cell?_drew]; with_reducible assumption) | (rw [World.cell?_alloc_lt _ _ _ (by exact lXc)]; with_reducible assumption) | (rw [far3 (by omega)]; with_reducible assumption) | ((repeat rw [World.cell?_setCell_other _ _ _ _ (fun e => by injection e with e; omega)]); with_reducible assumption) | (simp [*]; done)))
                clear hK K
                (try simp only [Act.put, List.setIfInBounds_toArray, List.set_cons_zero, List.set_cons_succ])
                have KXw := hide (Bk.below hKX.out BL53.out (by exact lX))
                obtain ⟨xx0, xx1, xx2, -, -, -⟩ := KXw.out.three
                have lXw := KXw.out.lt
                obtain ⟨z0, z1, z2, y0, y1, y2⟩ := K6_56.out.three
                refine wpAnyH_ready (rs := [18]) (by kernel_rfl) (by simp) (AllReadyH.cons (by simp only [List.getElem?_toArray, List.getElem?_cons_succ, List.getElem?_cons_zero]; rfl) (fun K hK => ?_) AllReadyH.nil)
                go_simp
                clear hHeld
                refine hK.out _ _ ?hS61 (fun hHeld => ?_)
                case hS61 => ((try dsimp only); (repeat' apply And.intro) <;> (first | (with_reducible assumption) | (rw [World.cell?_drew]; with_reducible assumption) | (rw [World.cell?_alloc_lt _ _ _ (by exact lXw)]; with_reducible assumption) | (rw [far3 (by omega)]; with_reducible assumption) | ((repeat rw [World.cell?_setCell_other _ _ _ _ (fun e => by injection e with e; omega)]); with_reducible assumption) | (simp [*]; done)))
                clear hK K
                (try simp only [Act.put, List.setIfInBounds_toArray, List.set_cons_zero, List.set_cons_succ])
                refine wpAnyH_done (by kernel_rfl) ?_ _
                have KF := hide (Bk.made wz52 25 #[.int .i64 W, .int .i64 L, .slice A52 k c52])
                have OF := hide (World.ownsRow.alloc O54.out (.cells #[.int .i64 W, .int .i64 L, .slice A52 k c52] 25))
                have BF := hide (Below.alloc BL53.out (Below.size BL53.out) (.cells #[.int .i64 W, .int .i64 L, .slice A52 k c52] 25))
                generalize (wz52.alloc (.cells #[.int .i64 W, .int .i64 L, .slice A52 k c52] 25)) = wf at *
                obtain ⟨A', c', e', hDF, -⟩ := dfs_of_own OF.out
                injection e' with e1 _ e3
                subst e1 e3
                have DF := hide hDF
                clear hDF x0 x1 x2 z0 z1 z2 y0 y1 y2 xx0 xx1 xx2
                obtain ⟨u0, u1, u2, -, -, -⟩ := KF.out.three
                clear ewq ewq2
                go_wp2_with fail
                refine (implValidReel W L _ k _ (ds.take k) _ (by omega) DF.out).mono ?_; rintro e wg ⟨rfl, hb⟩; rw [HLE.out]
                have BG := hide (BF.out.trans (hb.mono BF.out.size))
                clear u0 u1 u2 hb
                go_wp2_with fail
                clear hq1
                go_roundw
                case rel => exact ⟨q, by omega, by first | rfl | go_num, hide (Bk.below hKX.out BG.out (by exact lX)), hide (hD.out.below BG.out), hide (below_then hB.out BG.out)⟩
                case measure => have := HQ.out; simp [intOf]; omega
              · go_simp
                have BL59 : Hid (Below wr.heap.size wr (wz49.alloc (.cells #[.int .i64 0, .int .i64 0, .slice none 0 0] 25))) := hide (Below.alloc BL50.out (Below.size BL50.out) _)
                have KXc := hide (Bk.below hKX.out BL59.out (by exact lX))
                clear x0 x1 x2
                obtain ⟨x0, x1, x2, -, -, -⟩ := KXc.out.three
                have lXc := KXc.out.lt
                have k6_60 := Bk.made wz49 25 #[.int .i64 0, .int .i64 0, .slice none 0 0]
                (try simp only [World.size_alloc] at k6_60)
                have K6_60 := hide k6_60
                clear k6_60
                have hb6 : wr.heap.size ≤ wz49.heap.size := Below.size BL50.out
                (try simp only [World.size_alloc] at hb6)
                have O61 := hide (World.ownsRow.alloc O51.out (.cells #[.int .i64 0, .int .i64 0, .slice none 0 0] 25))
                clear hHeld
                refine hK.out _ _ ?hS62 (fun hHeld => ?_)
                case hS62 => ((try dsimp only); (repeat' apply And.intro) <;> (first | (with_reducible assumption) | (rw [World.cell?_drew]; with_reducible assumption) | (rw [World.cell?_alloc_lt _ _ _ (by exact lXc)]; with_reducible assumption) | (rw [far3 (by omega)]; with_reducible assumption) | ((repeat rw [World.cell?_setCell_other _ _ _ _ (fun e => by injection e with e; omega)]); with_reducible assumption) | (simp [*]; done)))
                clear hK K
                (try simp only [Act.put, List.setIfInBounds_toArray, List.set_cons_zero, List.set_cons_succ])
                refine wpAnyH_ready (rs := [15]) (by kernel_rfl) (by simp) (AllReadyH.cons (by simp only [List.getElem?_toArray, List.getElem?_cons_succ, List.getElem?_cons_zero]; rfl) (fun K hK => ?_) AllReadyH.nil)
                rw [if_pos (by rfl)]
                refine wp_appD _ _ rfl wr.heap.size _ k (ds.take k) [] _ 0 _ _ (by rfl) (by rfl) O61.out rfl (fun j u hu => by simp [flat] at hu) (by omega) (Below.size BL59.out) ?_
                rintro v62 wz62 ⟨ho, hb8, hk8⟩
                rw [Nat.add_zero, List.append_nil] at ho
                obtain ⟨A62, c62, hv62, -, -⟩ := dfs_of_own ho
                subst hv62
                have BL63 : Hid (Below wr.heap.size wr wz62) := hide (Below.trans BL59.out hb8)
                have KXc := hide (Bk.below hKX.out BL63.out (by exact lX))
                clear x0 x1 x2
                obtain ⟨x0, x1, x2, -, -, -⟩ := KXc.out.three
                have lXc := KXc.out.lt
                have O64 := hide ho
                have K6_65 := hide (Bk.keepT K6_60.out hk8 (by decide))
                clear ho hb8 hk8
                clear hHeld
                refine hK.out _ _ ?hS63 (fun hHeld => ?_)
                case hS63 => ((try dsimp only); (repeat' apply And.intro) <;> (first | (with_reducible assumption) | (rw [World.cell?_drew]; with_reducible assumption) | (rw [World.cell?_alloc_lt _ _ _ (by exact lXc)]; with_reducible assumption) | (rw [far3 (by omega)]; with_reducible assumption) | ((repeat rw [World.cell?_setCell_other _ _ _ _ (fun e => by injection e with e; omega)]); with_reducible assumption) | (simp [*]; done)))
                clear hK K
                (try simp only [Act.put, List.setIfInBounds_toArray, List.set_cons_zero, List.set_cons_succ])
                refine wpAnyH_take (i := 16) (v := ?v64) (by simp only [List.getElem?_toArray, List.getElem?_cons_succ, List.getElem?_cons_zero]; rfl) (by kernel_rfl) (by kernel_rfl) (by kernel_rfl) (by exact fun _ _ _ h => h) (Or.inl ⟨by rfl, ?hy64⟩) (by assumption) ?rest64
                case hy64 => (intro w hSw; (try dsimp only at hSw); go_simp; (try with_reducible rfl))
                (try simp only [Act.put, List.setIfInBounds_toArray, List.set_cons_zero, List.set_cons_succ])
                obtain ⟨z0, z1, z2, y0, y1, y2⟩ := K6_65.out.three
                refine wpAnyH_ready (rs := [18]) (by kernel_rfl) (by simp) (AllReadyH.cons (by simp only [List.getElem?_toArray, List.getElem?_cons_succ, List.getElem?_cons_zero]; rfl) (fun K hK => ?_) AllReadyH.nil)
                go_simp
                clear hHeld
                refine hK.out _ _ ?hS65 (fun hHeld => ?_)
                case hS65 => ((try dsimp only); (repeat' apply And.intro) <;> (first | (with_reducible assumption) | (rw [World.cell?_drew]; with_reducible assumption) | (rw [World.cell?_alloc_lt _ _ _ (by exact lXc)]; with_reducible assumption) | (rw [far3 (by omega)]; with_reducible assumption) | ((repeat rw [World.cell?_setCell_other _ _ _ _ (fun e => by injection e with e; omega)]); with_reducible assumption) | (simp [*]; done)))
                clear hK K
                (try simp only [Act.put, List.setIfInBounds_toArray, List.set_cons_zero, List.set_cons_succ])
                refine wpAnyH_done (by kernel_rfl) ?_ _
                have K1 := K6_65.out.put 0 (.int .i64 W)
                have K2 := K1.put 1 (.int .i64 L)
                have KF : Hid (Bk (((wz62.setCell ⟨wz49.heap.size, 0, none⟩ (.int .i64 W)).setCell ⟨wz49.heap.size, 1, none⟩ (.int .i64 L)).setCell ⟨wz49.heap.size, 2, none⟩ (.slice A62 k c62)) (wz49.heap.size) 25 #[.int .i64 W, .int .i64 L, .slice A62 k c62]) := hide (K2.put 2 (.slice A62 k c62))
                have OF := hide (own_put (own_put (own_put O64.out (p := ⟨wz49.heap.size, 0, none⟩) K6_65.out (by decide) (.int .i64 W)) (p := ⟨wz49.heap.size, 1, none⟩) K1 (by decide) (.int .i64 L)) (p := ⟨wz49.heap.size, 2, none⟩) K2 (by decide) (.slice A62 k c62))
                have BF := hide (((Below.setCell BL63.out (p := ⟨wz49.heap.size, 0, none⟩) (by dsimp only; omega) (.int .i64 W)).setCell (p := ⟨wz49.heap.size, 1, none⟩) (by dsimp only; omega) (.int .i64 L)).setCell (p := ⟨wz49.heap.size, 2, none⟩) (by dsimp only; omega) (.slice A62 k c62))
                generalize (((wz62.setCell ⟨wz49.heap.size, 0, none⟩ (.int .i64 W)).setCell ⟨wz49.heap.size, 1, none⟩ (.int .i64 L)).setCell ⟨wz49.heap.size, 2, none⟩ (.slice A62 k c62)) = wf at *
                obtain ⟨A', c', e', hDF, -⟩ := dfs_of_own OF.out
                injection e' with e1 _ e3
                subst e1 e3
                have DF := hide hDF
                clear hDF x0 x1 x2 z0 z1 z2 y0 y1 y2 K1 K2
                obtain ⟨u0, u1, u2, -, -, -⟩ := KF.out.three
                clear ewq ewq2
                go_wp2_with fail
                refine (implValidReel W L _ k _ (ds.take k) _ (by omega) DF.out).mono ?_; rintro e wg ⟨rfl, hb⟩; rw [HLE.out]
                have BG := hide (BF.out.trans (hb.mono BF.out.size))
                clear u0 u1 u2 hb
                go_wp2_with fail
                clear hq1
                go_roundw
                case rel => exact ⟨q, by omega, by first | rfl | go_num, hide (Bk.below hKX.out BG.out (by exact lX)), hide (hD.out.below BG.out), hide (below_then hB.out BG.out)⟩
                case measure => have := HQ.out; simp [intOf]; omega
            · go_simp
              have BL67 : Hid (Below wr.heap.size wr ((wd.alloc (.cells #[] 43)).alloc (.cells #[.int .i64 0, .int .i64 0, .slice none 0 0] 25))) := hide (Below.alloc BL47.out (Below.size BL47.out) _)
              have KXc := hide (Bk.below hKX.out BL67.out (by exact lX))
              clear x0 x1 x2
              obtain ⟨x0, x1, x2, -, -, -⟩ := KXc.out.three
              have lXc := KXc.out.lt
              have k6_68 := Bk.made (wd.alloc (.cells #[] 43)) 25 #[.int .i64 0, .int .i64 0, .slice none 0 0]
              (try simp only [World.size_alloc] at k6_68)
              have K6_68 := hide k6_68
              clear k6_68
              have hb6 : wr.heap.size ≤ (wd.alloc (.cells #[] 43)).heap.size := Below.size BL47.out
              (try simp only [World.size_alloc] at hb6)
              have O69 := hide (World.ownsRow.alloc O48.out (.cells #[.int .i64 0, .int .i64 0, .slice none 0 0] 25))
              clear hHeld
              refine hK.out _ _ ?hS66 (fun hHeld => ?_)
              case hS66 => ((try dsimp only); (repeat' apply And.intro) <;> (first | (with_reducible assumption) | (rw [World.cell?_drew]; with_reducible assumption) | (rw [World.cell?_alloc_lt _ _ _ (by exact lXc)]; with_reducible assumption) | (rw [far3 (by omega)]; with_reducible assumption) | ((repeat rw [World.cell?_setCell_other _ _ _ _ (fun e => by injection e with e; omega)]); with_reducible assumption) | (simp [*]; done)))
              clear hK K
              (try simp only [Act.put, List.setIfInBounds_toArray, List.set_cons_zero, List.set_cons_succ])
              refine wpAnyH_ready (rs := [9]) (by kernel_rfl) (by simp) (AllReadyH.cons (by simp only [List.getElem?_toArray, List.getElem?_cons_succ, List.getElem?_cons_zero]; rfl) (fun K hK => ?_) AllReadyH.nil)
              rw [if_pos (by rfl)]
              refine wp_appD _ _ rfl wr.heap.size _ 0 [] (ds.take k) _ _ _ _ (by rfl) (by rfl) O69.out (by rw [List.length_take]; have := HDL.out; omega) (fun j u hu => (BL67.out).cell (p := Addr.add _ j) (by rw [block_add]; exact HDB.out.1) |>.trans (cells_take HDB.out k j u hu)) (by omega) (Below.size BL67.out) ?_
              rintro v70 wz70 ⟨ho, hb8, hk8⟩
              rw [Nat.zero_add, List.nil_append] at ho
              obtain ⟨A70, c70, hv70, -, -⟩ := dfs_of_own ho
              subst hv70
              have BL71 : Hid (Below wr.heap.size wr wz70) := hide (Below.trans BL67.out hb8)
              have KXc := hide (Bk.below hKX.out BL71.out (by exact lX))
              clear x0 x1 x2
              obtain ⟨x0, x1, x2, -, -, -⟩ := KXc.out.three
              have lXc := KXc.out.lt
              have O72 := hide ho
              have K6_73 := hide (Bk.keepT K6_68.out hk8 (by decide))
              clear ho hb8 hk8
              clear hHeld
              refine hK.out _ _ ?hS67 (fun hHeld => ?_)
              case hS67 => ((try dsimp only); (repeat' apply And.intro) <;> (first | (with_reducible assumption) | (rw [World.cell?_drew]; with_reducible assumption) | (rw [World.cell?_alloc_lt _ _ _ (by exact lXc)]; with_reducible assumption) | (rw [far3 (by omega)]; with_reducible assumption) | ((repeat rw [World.cell?_setCell_other _ _ _ _ (fun e => by injection e with e; omega)]); with_reducible assumption) | (simp [*]; done)))
              clear hK K
              (try simp only [Act.put, List.setIfInBounds_toArray, List.set_cons_zero, List.set_cons_succ])
              refine wpAnyH_ready (rs := [15]) (by kernel_rfl) (by simp) (AllReadyH.cons (by simp only [List.getElem?_toArray, List.getElem?_cons_succ, List.getElem?_cons_zero]; rfl) (fun K hK => ?_) AllReadyH.nil)
              rw [if_pos (by rfl)]
              refine wp_appD _ _ rfl wr.heap.size _ k (ds.take k) [] _ 0 _ _ (by rfl) (by rfl) O72.out rfl (fun j u hu => by simp [flat] at hu) (by omega) (Below.size BL71.out) ?_
              rintro v74 wz74 ⟨ho, hb8, hk8⟩
              rw [Nat.add_zero, List.append_nil] at ho
              obtain ⟨A74, c74, hv74, -, -⟩ := dfs_of_own ho
              subst hv74
              have BL75 : Hid (Below wr.heap.size wr wz74) := hide (Below.trans BL71.out hb8)
              have KXc := hide (Bk.below hKX.out BL75.out (by exact lX))
              clear x0 x1 x2
              obtain ⟨x0, x1, x2, -, -, -⟩ := KXc.out.three
              have lXc := KXc.out.lt
              have O76 := hide ho
              have K6_77 := hide (Bk.keepT K6_73.out hk8 (by decide))
              clear ho hb8 hk8
              clear hHeld
              refine hK.out _ _ ?hS68 (fun hHeld => ?_)
              case hS68 => ((try dsimp only); (repeat' apply And.intro) <;> (first | (with_reducible assumption) | (rw [World.cell?_drew]; with_reducible assumption) | (rw [World.cell?_alloc_lt _ _ _ (by exact lXc)]; with_reducible assumption) | (rw [far3 (by omega)]; with_reducible assumption) | ((repeat rw [World.cell?_setCell_other _ _ _ _ (fun e => by injection e with e; omega)]); with_reducible assumption) | (simp [*]; done)))
              clear hK K
              (try simp only [Act.put, List.setIfInBounds_toArray, List.set_cons_zero, List.set_cons_succ])
              refine wpAnyH_take (i := 16) (v := ?v69) (by simp only [List.getElem?_toArray, List.getElem?_cons_succ, List.getElem?_cons_zero]; rfl) (by kernel_rfl) (by kernel_rfl) (by kernel_rfl) (by exact fun _ _ _ h => h) (Or.inl ⟨by rfl, ?hy69⟩) (by assumption) ?rest69
              case hy69 => (intro w hSw; (try dsimp only at hSw); go_simp; (try with_reducible rfl))
              (try simp only [Act.put, List.setIfInBounds_toArray, List.set_cons_zero, List.set_cons_succ])
              obtain ⟨z0, z1, z2, y0, y1, y2⟩ := K6_77.out.three
              refine wpAnyH_ready (rs := [18]) (by kernel_rfl) (by simp) (AllReadyH.cons (by simp only [List.getElem?_toArray, List.getElem?_cons_succ, List.getElem?_cons_zero]; rfl) (fun K hK => ?_) AllReadyH.nil)
              go_simp
              clear hHeld
              refine hK.out _ _ ?hS70 (fun hHeld => ?_)
              case hS70 => ((try dsimp only); (repeat' apply And.intro) <;> (first | (with_reducible assumption) | (rw [World.cell?_drew]; with_reducible assumption) | (rw [World.cell?_alloc_lt _ _ _ (by exact lXc)]; with_reducible assumption) | (rw [far3 (by omega)]; with_reducible assumption) | ((repeat rw [World.cell?_setCell_other _ _ _ _ (fun e => by injection e with e; omega)]); with_reducible assumption) | (simp [*]; done)))
              clear hK K
              (try simp only [Act.put, List.setIfInBounds_toArray, List.set_cons_zero, List.set_cons_succ])
              refine wpAnyH_done (by kernel_rfl) ?_ _
              have K1 := K6_77.out.put 0 (.int .i64 W)
              have K2 := K1.put 1 (.int .i64 L)
              have KF : Hid (Bk (((wz74.setCell ⟨wd.heap.size + 1, 0, none⟩ (.int .i64 W)).setCell ⟨wd.heap.size + 1, 1, none⟩ (.int .i64 L)).setCell ⟨wd.heap.size + 1, 2, none⟩ (.slice A74 k c74)) (wd.heap.size + 1) 25 #[.int .i64 W, .int .i64 L, .slice A74 k c74]) := hide (K2.put 2 (.slice A74 k c74))
              have OF := hide (own_put (own_put (own_put O76.out (p := ⟨wd.heap.size + 1, 0, none⟩) K6_77.out (by decide) (.int .i64 W)) (p := ⟨wd.heap.size + 1, 1, none⟩) K1 (by decide) (.int .i64 L)) (p := ⟨wd.heap.size + 1, 2, none⟩) K2 (by decide) (.slice A74 k c74))
              have BF := hide (((Below.setCell BL75.out (p := ⟨wd.heap.size + 1, 0, none⟩) (by dsimp only; omega) (.int .i64 W)).setCell (p := ⟨wd.heap.size + 1, 1, none⟩) (by dsimp only; omega) (.int .i64 L)).setCell (p := ⟨wd.heap.size + 1, 2, none⟩) (by dsimp only; omega) (.slice A74 k c74))
              generalize (((wz74.setCell ⟨wd.heap.size + 1, 0, none⟩ (.int .i64 W)).setCell ⟨wd.heap.size + 1, 1, none⟩ (.int .i64 L)).setCell ⟨wd.heap.size + 1, 2, none⟩ (.slice A74 k c74)) = wf at *
              obtain ⟨A', c', e', hDF, -⟩ := dfs_of_own OF.out
              injection e' with e1 _ e3
              subst e1 e3
              have DF := hide hDF
              clear hDF x0 x1 x2 z0 z1 z2 y0 y1 y2 K1 K2
              obtain ⟨u0, u1, u2, -, -, -⟩ := KF.out.three
              clear ewq ewq2
              go_wp2_with fail
              refine (implValidReel W L _ k _ (ds.take k) _ (by omega) DF.out).mono ?_; rintro e wg ⟨rfl, hb⟩; rw [HLE.out]
              have BG := hide (BF.out.trans (hb.mono BF.out.size))
              clear u0 u1 u2 hb
              go_wp2_with fail
              clear hq1
              go_roundw
              case rel => exact ⟨q, by omega, by first | rfl | go_num, hide (Bk.below hKX.out BG.out (by exact lX)), hide (hD.out.below BG.out), hide (below_then hB.out BG.out)⟩
              case measure => have := HQ.out; simp [intOf]; omega
          · go_simp
            have BL79 : Hid (Below wr.heap.size wr (wd.alloc (.cells #[.int .i64 0, .int .i64 0, .slice none 0 0] 25))) := hide (Below.alloc BL0.out (Below.size BL0.out) _)
            have KXc := hide (Bk.below hKX.out BL79.out (by exact lX))
            clear x0 x1 x2
            obtain ⟨x0, x1, x2, -, -, -⟩ := KXc.out.three
            have lXc := KXc.out.lt
            have k6_80 := Bk.made wd 25 #[.int .i64 0, .int .i64 0, .slice none 0 0]
            (try simp only [World.size_alloc] at k6_80)
            have K6_80 := hide k6_80
            clear k6_80
            have hb6 : wr.heap.size ≤ wd.heap.size := Below.size BL0.out
            (try simp only [World.size_alloc] at hb6)
            clear hHeld
            refine hK.out _ _ ?hS71 (fun hHeld => ?_)
            case hS71 => ((try dsimp only); (repeat' apply And.intro) <;> (first | (with_reducible assumption) | (rw [World.cell?_drew]; with_reducible assumption) | (rw [World.cell?_alloc_lt _ _ _ (by exact lXc)]; with_reducible assumption) | (rw [far3 (by omega)]; with_reducible assumption) | ((repeat rw [World.cell?_setCell_other _ _ _ _ (fun e => by injection e with e; omega)]); with_reducible assumption) | (simp [*]; done)))
            clear hK K
            (try simp only [Act.put, List.setIfInBounds_toArray, List.set_cons_zero, List.set_cons_succ])
            refine wpAnyH_ready (rs := [4]) (by kernel_rfl) (by simp) (AllReadyH.cons (by simp only [List.getElem?_toArray, List.getElem?_cons_succ, List.getElem?_cons_zero]; rfl) (fun K hK => ?_) AllReadyH.nil)
            go_simp
            have BL81 : Hid (Below wr.heap.size wr ((wd.alloc (.cells #[.int .i64 0, .int .i64 0, .slice none 0 0] 25)).alloc (.cells #[] 43))) := hide (Below.alloc BL79.out (Below.size BL79.out) _)
            have KXc := hide (Bk.below hKX.out BL81.out (by exact lX))
            clear x0 x1 x2
            obtain ⟨x0, x1, x2, -, -, -⟩ := KXc.out.three
            have lXc := KXc.out.lt
            have o82 := own_empty5 (w := (wd.alloc (.cells #[.int .i64 0, .int .i64 0, .slice none 0 0] 25))) (base := wr.heap.size) (e := 43) (Below.size BL79.out)
            (try simp only [World.size_alloc] at o82)
            have O82 := hide o82
            clear o82
            have K6_83 := hide (Bk.alloc K6_80.out (.cells #[] 43))
            clear hHeld
            refine hK.out _ _ ?hS72 (fun hHeld => ?_)
            case hS72 => ((try dsimp only); (repeat' apply And.intro) <;> (first | (with_reducible assumption) | (rw [World.cell?_drew]; with_reducible assumption) | (rw [World.cell?_alloc_lt _ _ _ (by exact lXc)]; with_reducible assumption) | (rw [far3 (by omega)]; with_reducible assumption) | ((repeat rw [World.cell?_setCell_other _ _ _ _ (fun e => by injection e with e; omega)]); with_reducible assumption) | (simp [*]; done)))
            clear hK K
            (try simp only [Act.put, List.setIfInBounds_toArray, List.set_cons_zero, List.set_cons_succ])
            refine wpAnyH_ready (rs := [9]) (by kernel_rfl) (by simp) (AllReadyH.cons (by simp only [List.getElem?_toArray, List.getElem?_cons_succ, List.getElem?_cons_zero]; rfl) (fun K hK => ?_) AllReadyH.nil)
            rw [if_pos (by rfl)]
            refine wp_appD _ _ rfl wr.heap.size _ 0 [] (ds.take k) _ _ _ _ (by rfl) (by rfl) O82.out (by rw [List.length_take]; have := HDL.out; omega) (fun j u hu => (BL81.out).cell (p := Addr.add _ j) (by rw [block_add]; exact HDB.out.1) |>.trans (cells_take HDB.out k j u hu)) (by omega) (Below.size BL81.out) ?_
            rintro v84 wz84 ⟨ho, hb8, hk8⟩
            rw [Nat.zero_add, List.nil_append] at ho
            obtain ⟨A84, c84, hv84, -, -⟩ := dfs_of_own ho
            subst hv84
            have BL85 : Hid (Below wr.heap.size wr wz84) := hide (Below.trans BL81.out hb8)
            have KXc := hide (Bk.below hKX.out BL85.out (by exact lX))
            clear x0 x1 x2
            obtain ⟨x0, x1, x2, -, -, -⟩ := KXc.out.three
            have lXc := KXc.out.lt
            have O86 := hide ho
            have K6_87 := hide (Bk.keepT K6_83.out hk8 (by decide))
            clear ho hb8 hk8
            clear hHeld
            refine hK.out _ _ ?hS73 (fun hHeld => ?_)
            case hS73 => ((try dsimp only); (repeat' apply And.intro) <;> (first | (with_reducible assumption) | (rw [World.cell?_drew]; with_reducible assumption) | (rw [World.cell?_alloc_lt _ _ _ (by exact lXc)]; with_reducible assumption) | (rw [far3 (by omega)]; with_reducible assumption) | ((repeat rw [World.cell?_setCell_other _ _ _ _ (fun e => by injection e with e; omega)]); with_reducible assumption) | (simp [*]; done)))
            clear hK K
            (try simp only [Act.put, List.setIfInBounds_toArray, List.set_cons_zero, List.set_cons_succ])
            refine wpAnyH_ready (rs := [15]) (by kernel_rfl) (by simp) (AllReadyH.cons (by simp only [List.getElem?_toArray, List.getElem?_cons_succ, List.getElem?_cons_zero]; rfl) (fun K hK => ?_) AllReadyH.nil)
            rw [if_pos (by rfl)]
            refine wp_appD _ _ rfl wr.heap.size _ k (ds.take k) [] _ 0 _ _ (by rfl) (by rfl) O86.out rfl (fun j u hu => by simp [flat] at hu) (by omega) (Below.size BL85.out) ?_
            rintro v88 wz88 ⟨ho, hb8, hk8⟩
            rw [Nat.add_zero, List.append_nil] at ho
            obtain ⟨A88, c88, hv88, -, -⟩ := dfs_of_own ho
            subst hv88
            have BL89 : Hid (Below wr.heap.size wr wz88) := hide (Below.trans BL85.out hb8)
            have KXc := hide (Bk.below hKX.out BL89.out (by exact lX))
            clear x0 x1 x2
            obtain ⟨x0, x1, x2, -, -, -⟩ := KXc.out.three
            have lXc := KXc.out.lt
            have O90 := hide ho
            have K6_91 := hide (Bk.keepT K6_87.out hk8 (by decide))
            clear ho hb8 hk8
            clear hHeld
            refine hK.out _ _ ?hS74 (fun hHeld => ?_)
            case hS74 => ((try dsimp only); (repeat' apply And.intro) <;> (first | (with_reducible assumption) | (rw [World.cell?_drew]; with_reducible assumption) | (rw [World.cell?_alloc_lt _ _ _ (by exact lXc)]; with_reducible assumption) | (rw [far3 (by omega)]; with_reducible assumption) | ((repeat rw [World.cell?_setCell_other _ _ _ _ (fun e => by injection e with e; omega)]); with_reducible assumption) | (simp [*]; done)))
            clear hK K
            (try simp only [Act.put, List.setIfInBounds_toArray, List.set_cons_zero, List.set_cons_succ])
            refine wpAnyH_take (i := 16) (v := ?v75) (by simp only [List.getElem?_toArray, List.getElem?_cons_succ, List.getElem?_cons_zero]; rfl) (by kernel_rfl) (by kernel_rfl) (by kernel_rfl) (by exact fun _ _ _ h => h) (Or.inl ⟨by rfl, ?hy75⟩) (by assumption) ?rest75
            case hy75 => (intro w hSw; (try dsimp only at hSw); go_simp; (try with_reducible rfl))
            (try simp only [Act.put, List.setIfInBounds_toArray, List.set_cons_zero, List.set_cons_succ])
            obtain ⟨z0, z1, z2, y0, y1, y2⟩ := K6_91.out.three
            refine wpAnyH_ready (rs := [18]) (by kernel_rfl) (by simp) (AllReadyH.cons (by simp only [List.getElem?_toArray, List.getElem?_cons_succ, List.getElem?_cons_zero]; rfl) (fun K hK => ?_) AllReadyH.nil)
            go_simp
            clear hHeld
            refine hK.out _ _ ?hS76 (fun hHeld => ?_)
            case hS76 => ((try dsimp only); (repeat' apply And.intro) <;> (first | (with_reducible assumption) | (rw [World.cell?_drew]; with_reducible assumption) | (rw [World.cell?_alloc_lt _ _ _ (by exact lXc)]; with_reducible assumption) | (rw [far3 (by omega)]; with_reducible assumption) | ((repeat rw [World.cell?_setCell_other _ _ _ _ (fun e => by injection e with e; omega)]); with_reducible assumption) | (simp [*]; done)))
            clear hK K
            (try simp only [Act.put, List.setIfInBounds_toArray, List.set_cons_zero, List.set_cons_succ])
            refine wpAnyH_done (by kernel_rfl) ?_ _
            have K1 := K6_91.out.put 0 (.int .i64 W)
            have K2 := K1.put 1 (.int .i64 L)
            have KF : Hid (Bk (((wz88.setCell ⟨wd.heap.size, 0, none⟩ (.int .i64 W)).setCell ⟨wd.heap.size, 1, none⟩ (.int .i64 L)).setCell ⟨wd.heap.size, 2, none⟩ (.slice A88 k c88)) (wd.heap.size) 25 #[.int .i64 W, .int .i64 L, .slice A88 k c88]) := hide (K2.put 2 (.slice A88 k c88))
            have OF := hide (own_put (own_put (own_put O90.out (p := ⟨wd.heap.size, 0, none⟩) K6_91.out (by decide) (.int .i64 W)) (p := ⟨wd.heap.size, 1, none⟩) K1 (by decide) (.int .i64 L)) (p := ⟨wd.heap.size, 2, none⟩) K2 (by decide) (.slice A88 k c88))
            have BF := hide (((Below.setCell BL89.out (p := ⟨wd.heap.size, 0, none⟩) (by dsimp only; omega) (.int .i64 W)).setCell (p := ⟨wd.heap.size, 1, none⟩) (by dsimp only; omega) (.int .i64 L)).setCell (p := ⟨wd.heap.size, 2, none⟩) (by dsimp only; omega) (.slice A88 k c88))
            generalize (((wz88.setCell ⟨wd.heap.size, 0, none⟩ (.int .i64 W)).setCell ⟨wd.heap.size, 1, none⟩ (.int .i64 L)).setCell ⟨wd.heap.size, 2, none⟩ (.slice A88 k c88)) = wf at *
            obtain ⟨A', c', e', hDF, -⟩ := dfs_of_own OF.out
            injection e' with e1 _ e3
            subst e1 e3
            have DF := hide hDF
            clear hDF x0 x1 x2 z0 z1 z2 y0 y1 y2 K1 K2
            obtain ⟨u0, u1, u2, -, -, -⟩ := KF.out.three
            clear ewq ewq2
            go_wp2_with fail
            refine (implValidReel W L _ k _ (ds.take k) _ (by omega) DF.out).mono ?_; rintro e wg ⟨rfl, hb⟩; rw [HLE.out]
            have BG := hide (BF.out.trans (hb.mono BF.out.size))
            clear u0 u1 u2 hb
            go_wp2_with fail
            clear hq1
            go_roundw
            case rel => exact ⟨q, by omega, by first | rfl | go_num, hide (Bk.below hKX.out BG.out (by exact lX)), hide (hD.out.below BG.out), hide (below_then hB.out BG.out)⟩
            case measure => have := HQ.out; simp [intOf]; omega
        · have BL0 : Hid (Below wr.heap.size wr wr.drew) := hide (below_of_drewN (w := wr) wr.heap.size 1)
          refine wp_region_held_drew (S := fun w' => w'.cell? ⟨w1.heap.size, 0, none⟩ = some (.int .i64 W) ∧ w'.cell? ⟨w1.heap.size, 1, none⟩ = some (.int .i64 L) ∧ w'.cell? ⟨w1.heap.size, 2, none⟩ = some (.slice (some ⟨g0, 0, none⟩) m cv)) (by kernel_rfl) ?hS7 (fun hHeld => ?_)
          case hS7 => ((try dsimp only); (repeat' apply And.intro) <;> (first | (with_reducible assumption) | (rw [World.cell?_drew]; with_reducible assumption) | (rw [World.cell?_setCell_other _ _ _ _ (fun e => by injection e with _ e; cases e)]; with_reducible assumption) | (simp [*]; done)))
          generalize wr.drew = wd at *
          refine wpAnyH_take (i := 0) (v := ?v8) (by simp only [List.getElem?_toArray, List.getElem?_cons_zero]; rfl) (by kernel_rfl) (by kernel_rfl) (by kernel_rfl) (by exact fun _ _ _ h => h) (Or.inl ⟨by rfl, ?hy8⟩) (by assumption) ?rest8
          case hy8 => (intro w hSw; (try dsimp only at hSw); go_simp; (try with_reducible rfl))
          (try simp only [Act.put, List.setIfInBounds_toArray, List.set_cons_zero, List.set_cons_succ])
          refine wpAnyH_take (i := 1) (v := ?v9) (by simp only [List.getElem?_toArray, List.getElem?_cons_succ, List.getElem?_cons_zero]; rfl) (by kernel_rfl) (by kernel_rfl) (by kernel_rfl) (by exact fun _ _ _ h => h) (Or.inl ⟨by rfl, ?hy9⟩) (by assumption) ?rest9
          case hy9 => (intro w hSw; (try dsimp only at hSw); go_simp; (try with_reducible rfl))
          (try simp only [Act.put, List.setIfInBounds_toArray, List.set_cons_zero, List.set_cons_succ])
          refine wpAnyH_take (i := 2) (v := ?v10) (by simp only [List.getElem?_toArray, List.getElem?_cons_succ, List.getElem?_cons_zero]; rfl) (by kernel_rfl) (by kernel_rfl) (by kernel_rfl) (by exact fun _ _ _ h => h) (Or.inl ⟨by rfl, ?hy10⟩) (by assumption) ?rest10
          case hy10 => (intro w hSw; (try dsimp only at hSw); go_simp; (try with_reducible rfl))
          (try simp only [Act.put, List.setIfInBounds_toArray, List.set_cons_zero, List.set_cons_succ])
          refine wpAnyH_take (i := 3) (v := ?v11) (by simp only [List.getElem?_toArray, List.getElem?_cons_succ, List.getElem?_cons_zero]; rfl) (by kernel_rfl) (by kernel_rfl) (by kernel_rfl) (by exact fun _ _ _ h => h) (Or.inl ⟨by rfl, ?hy11⟩) (by assumption) ?rest11
          case hy11 => (intro w hSw; (try dsimp only at hSw); go_simp; (try with_reducible rfl))
          (try simp only [Act.put, List.setIfInBounds_toArray, List.set_cons_zero, List.set_cons_succ])
          refine wpAnyH_take (i := 5) (v := ?v12) (by simp only [List.getElem?_toArray, List.getElem?_cons_succ, List.getElem?_cons_zero]; rfl) (by kernel_rfl) (by kernel_rfl) (by kernel_rfl) (by exact fun _ _ _ h => h) (Or.inl ⟨by rfl, ?hy12⟩) (by assumption) ?rest12
          case hy12 => (intro w hSw; (try dsimp only at hSw); go_simp; (try with_reducible rfl))
          (try simp only [Act.put, List.setIfInBounds_toArray, List.set_cons_zero, List.set_cons_succ])
          refine wpAnyH_take (i := 6) (v := ?v13) (by simp only [List.getElem?_toArray, List.getElem?_cons_succ, List.getElem?_cons_zero]; rfl) (by kernel_rfl) (by kernel_rfl) (by kernel_rfl) (by exact fun _ _ _ h => h) (Or.inl ⟨by rfl, ?hy13⟩) (by assumption) ?rest13
          case hy13 => (intro w hSw; (try dsimp only at hSw); go_simp; (try with_reducible rfl))
          (try simp only [Act.put, List.setIfInBounds_toArray, List.set_cons_zero, List.set_cons_succ])
          refine wpAnyH_take (i := 7) (v := ?v14) (by simp only [List.getElem?_toArray, List.getElem?_cons_succ, List.getElem?_cons_zero]; rfl) (by kernel_rfl) (by kernel_rfl) (by kernel_rfl) (by exact fun _ _ _ h => h) (Or.inl ⟨by rfl, ?hy14⟩) (by assumption) ?rest14
          case hy14 => (intro w hSw; (try dsimp only at hSw); go_simp; (try with_reducible rfl))
          (try simp only [Act.put, List.setIfInBounds_toArray, List.set_cons_zero, List.set_cons_succ])
          refine wpAnyH_take (i := 8) (v := ?v15) (by simp only [List.getElem?_toArray, List.getElem?_cons_succ, List.getElem?_cons_zero]; rfl) (by kernel_rfl) (by kernel_rfl) (by kernel_rfl) (by exact fun _ _ _ h => h) (Or.inl ⟨by rfl, ?hy15⟩) (by assumption) ?rest15
          case hy15 => (intro w hSw; (try dsimp only at hSw); go_simp; (try with_reducible rfl))
          (try simp only [Act.put, List.setIfInBounds_toArray, List.set_cons_zero, List.set_cons_succ])
          refine wpAnyH_take (i := 10) (v := ?v16) (by simp only [List.getElem?_toArray, List.getElem?_cons_succ, List.getElem?_cons_zero]; rfl) (by kernel_rfl) (by kernel_rfl) (by kernel_rfl) (by exact fun _ _ _ h => h) (Or.inl ⟨by rfl, ?hy16⟩) (by assumption) ?rest16
          case hy16 => (intro w hSw; (try dsimp only at hSw); go_simp; (try with_reducible rfl))
          (try simp only [Act.put, List.setIfInBounds_toArray, List.set_cons_zero, List.set_cons_succ])
          refine wpAnyH_take (i := 11) (v := ?v17) (by simp only [List.getElem?_toArray, List.getElem?_cons_succ, List.getElem?_cons_zero]; rfl) (by kernel_rfl) (by kernel_rfl) (by kernel_rfl) (by exact fun _ _ _ h => h) (Or.inl ⟨by rfl, ?hy17⟩) (by assumption) ?rest17
          case hy17 => (intro w hSw; (try dsimp only at hSw); go_simp; (try with_reducible rfl))
          (try simp only [Act.put, List.setIfInBounds_toArray, List.set_cons_zero, List.set_cons_succ])
          refine wpAnyH_take (i := 12) (v := ?v18) (by simp only [List.getElem?_toArray, List.getElem?_cons_succ, List.getElem?_cons_zero]; rfl) (by kernel_rfl) (by kernel_rfl) (by kernel_rfl) (by exact fun _ _ _ h => h) (Or.inl ⟨by rfl, ?hy18⟩) (by assumption) ?rest18
          case hy18 => (intro w hSw; (try dsimp only at hSw); go_simp; (try with_reducible rfl))
          (try simp only [Act.put, List.setIfInBounds_toArray, List.set_cons_zero, List.set_cons_succ])
          refine wpAnyH_take (i := 13) (v := ?v19) (by simp only [List.getElem?_toArray, List.getElem?_cons_succ, List.getElem?_cons_zero]; rfl) (by kernel_rfl) (by kernel_rfl) (by kernel_rfl) (by exact fun _ _ _ h => h) (Or.inl ⟨by rfl, ?hy19⟩) (by assumption) ?rest19
          case hy19 => (intro w hSw; (try dsimp only at hSw); go_simp; (try with_reducible rfl))
          (try simp only [Act.put, List.setIfInBounds_toArray, List.set_cons_zero, List.set_cons_succ])
          refine wpAnyH_take (i := 14) (v := ?v20) (by simp only [List.getElem?_toArray, List.getElem?_cons_succ, List.getElem?_cons_zero]; rfl) (by kernel_rfl) (by kernel_rfl) (by kernel_rfl) (by exact fun _ _ _ h => h) (Or.inl ⟨by rfl, ?hy20⟩) (by assumption) ?rest20
          case hy20 => (intro w hSw; (try dsimp only at hSw); go_simp; (try with_reducible rfl))
          (try simp only [Act.put, List.setIfInBounds_toArray, List.set_cons_zero, List.set_cons_succ])
          refine wpAnyH_ready (rs := [4, 17]) (by kernel_rfl) (by simp) (AllReadyH.cons (by simp only [List.getElem?_toArray, List.getElem?_cons_succ, List.getElem?_cons_zero]; rfl) (fun K hK => ?_) (AllReadyH.cons (by simp only [List.getElem?_toArray, List.getElem?_cons_succ, List.getElem?_cons_zero]; rfl) (fun K hK => ?_) AllReadyH.nil))
          · go_simp
            have BL1 : Hid (Below wr.heap.size wr (wd.alloc (.cells #[] 43))) := hide (Below.alloc BL0.out (Below.size BL0.out) _)
            have KXc := hide (Bk.below hKX.out BL1.out (by exact lX))
            clear x0 x1 x2
            obtain ⟨x0, x1, x2, -, -, -⟩ := KXc.out.three
            have lXc := KXc.out.lt
            have o2 := own_empty5 (w := wd) (base := wr.heap.size) (e := 43) (Below.size BL0.out)
            (try simp only [World.size_alloc] at o2)
            have O2 := hide o2
            clear o2
            clear hHeld
            refine hK.out _ _ ?hS21 (fun hHeld => ?_)
            case hS21 => ((try dsimp only); (repeat' apply And.intro) <;> (first | (with_reducible assumption) | (rw [World.cell?_drew]; with_reducible assumption) | (rw [World.cell?_alloc_lt _ _ _ (by exact lXc)]; with_reducible assumption) | (rw [far3 (by omega)]; with_reducible assumption) | ((repeat rw [World.cell?_setCell_other _ _ _ _ (fun e => by injection e with e; omega)]); with_reducible assumption) | (simp [*]; done)))
            clear hK K
            (try simp only [Act.put, List.setIfInBounds_toArray, List.set_cons_zero, List.set_cons_succ])
            refine wpAnyH_ready (rs := [9, 17]) (by kernel_rfl) (by simp) (AllReadyH.cons (by simp only [List.getElem?_toArray, List.getElem?_cons_succ, List.getElem?_cons_zero]; rfl) (fun K hK => ?_) (AllReadyH.cons (by simp only [List.getElem?_toArray, List.getElem?_cons_succ, List.getElem?_cons_zero]; rfl) (fun K hK => ?_) AllReadyH.nil))
            · rw [if_pos (by rfl)]
              refine wp_appD _ _ rfl wr.heap.size _ 0 [] (ds.take k) _ _ _ _ (by rfl) (by rfl) O2.out (by rw [List.length_take]; have := HDL.out; omega) (fun j u hu => (BL1.out).cell (p := Addr.add _ j) (by rw [block_add]; exact HDB.out.1) |>.trans (cells_take HDB.out k j u hu)) (by omega) (Below.size BL1.out) ?_
              rintro v3 wz3 ⟨ho, hb8, hk8⟩
              rw [Nat.zero_add, List.nil_append] at ho
              obtain ⟨A3, c3, hv3, -, -⟩ := dfs_of_own ho
              subst hv3
              have BL4 : Hid (Below wr.heap.size wr wz3) := hide (Below.trans BL1.out hb8)
              have KXc := hide (Bk.below hKX.out BL4.out (by exact lX))
              clear x0 x1 x2
              obtain ⟨x0, x1, x2, -, -, -⟩ := KXc.out.three
              have lXc := KXc.out.lt
              have O5 := hide ho
              clear ho hb8 hk8
              clear hHeld
              refine hK.out _ _ ?hS22 (fun hHeld => ?_)
              case hS22 => ((try dsimp only); (repeat' apply And.intro) <;> (first | (with_reducible assumption) | (rw [World.cell?_drew]; with_reducible assumption) | (rw [World.cell?_alloc_lt _ _ _ (by exact lXc)]; with_reducible assumption) | (rw [far3 (by omega)]; with_reducible assumption) | ((repeat rw [World.cell?_setCell_other _ _ _ _ (fun e => by injection e with e; omega)]); with_reducible assumption) | (simp [*]; done)))
              clear hK K
              (try simp only [Act.put, List.setIfInBounds_toArray, List.set_cons_zero, List.set_cons_succ])
              refine wpAnyH_ready (rs := [15, 17]) (by kernel_rfl) (by simp) (AllReadyH.cons (by simp only [List.getElem?_toArray, List.getElem?_cons_succ, List.getElem?_cons_zero]; rfl) (fun K hK => ?_) (AllReadyH.cons (by simp only [List.getElem?_toArray, List.getElem?_cons_succ, List.getElem?_cons_zero]; rfl) (fun K hK => ?_) AllReadyH.nil))
              · rw [if_pos (by rfl)]
                refine wp_appD _ _ rfl wr.heap.size _ k (ds.take k) (ds.drop q) _ _ _ _ (by rfl) (by rfl) O5.out (by rw [List.length_drop]; have := HDL.out; omega) (fun j u hu => (BL4.out).cell (p := Addr.add _ j) (by rw [block_add]; exact HDB.out.1) |>.trans (cells_drop HDB.out q j u hu)) (by omega) (Below.size BL4.out) ?_
                rintro v6 wz6 ⟨ho, hb8, hk8⟩
                obtain ⟨A6, c6, hv6, -, -⟩ := dfs_of_own ho
                subst hv6
                have BL7 : Hid (Below wr.heap.size wr wz6) := hide (Below.trans BL4.out hb8)
                have KXc := hide (Bk.below hKX.out BL7.out (by exact lX))
                clear x0 x1 x2
                obtain ⟨x0, x1, x2, -, -, -⟩ := KXc.out.three
                have lXc := KXc.out.lt
                have O8 := hide ho
                clear ho hb8 hk8
                clear hHeld
                refine hK.out _ _ ?hS23 (fun hHeld => ?_)
                case hS23 => ((try dsimp only); (repeat' apply And.intro) <;> (first | (with_reducible assumption) | (rw [World.cell?_drew]; with_reducible assumption) | (rw [World.cell?_alloc_lt _ _ _ (by exact lXc)]; with_reducible assumption) | (rw [far3 (by omega)]; with_reducible assumption) | ((repeat rw [World.cell?_setCell_other _ _ _ _ (fun e => by injection e with e; omega)]); with_reducible assumption) | (simp [*]; done)))
                clear hK K
                (try simp only [Act.put, List.setIfInBounds_toArray, List.set_cons_zero, List.set_cons_succ])
                refine wpAnyH_take (i := 16) (v := ?v24) (by simp only [List.getElem?_toArray, List.getElem?_cons_succ, List.getElem?_cons_zero]; rfl) (by kernel_rfl) (by kernel_rfl) (by kernel_rfl) (by exact fun _ _ _ h => h) (Or.inl ⟨by rfl, ?hy24⟩) (by assumption) ?rest24
                case hy24 => (intro w hSw; (try dsimp only at hSw); go_simp; (try with_reducible rfl))
                (try simp only [Act.put, List.setIfInBounds_toArray, List.set_cons_zero, List.set_cons_succ])
                refine wpAnyH_ready (rs := [17]) (by kernel_rfl) (by simp) (AllReadyH.cons (by simp only [List.getElem?_toArray, List.getElem?_cons_succ, List.getElem?_cons_zero]; rfl) (fun K hK => ?_) AllReadyH.nil)
                go_simp
                have BL9 : Hid (Below wr.heap.size wr (wz6.alloc (.cells #[.int .i64 0, .int .i64 0, .slice none 0 0] 25))) := hide (Below.alloc BL7.out (Below.size BL7.out) _)
                have KXc := hide (Bk.below hKX.out BL9.out (by exact lX))
                clear x0 x1 x2
                obtain ⟨x0, x1, x2, -, -, -⟩ := KXc.out.three
                have lXc := KXc.out.lt
                have k6_10 := Bk.made wz6 25 #[.int .i64 0, .int .i64 0, .slice none 0 0]
                (try simp only [World.size_alloc] at k6_10)
                have K6_10 := hide k6_10
                clear k6_10
                have hb6 : wr.heap.size ≤ wz6.heap.size := Below.size BL7.out
                (try simp only [World.size_alloc] at hb6)
                have O11 := hide (World.ownsRow.alloc O8.out (.cells #[.int .i64 0, .int .i64 0, .slice none 0 0] 25))
                clear hHeld
                refine hK.out _ _ ?hS25 (fun hHeld => ?_)
                case hS25 => ((try dsimp only); (repeat' apply And.intro) <;> (first | (with_reducible assumption) | (rw [World.cell?_drew]; with_reducible assumption) | (rw [World.cell?_alloc_lt _ _ _ (by exact lXc)]; with_reducible assumption) | (rw [far3 (by omega)]; with_reducible assumption) | ((repeat rw [World.cell?_setCell_other _ _ _ _ (fun e => by injection e with e; omega)]); with_reducible assumption) | (simp [*]; done)))
                clear hK K
                (try simp only [Act.put, List.setIfInBounds_toArray, List.set_cons_zero, List.set_cons_succ])
                have KXw := hide (Bk.below hKX.out BL7.out (by exact lX))
                obtain ⟨xx0, xx1, xx2, -, -, -⟩ := KXw.out.three
                have lXw := KXw.out.lt
                obtain ⟨z0, z1, z2, y0, y1, y2⟩ := K6_10.out.three
                refine wpAnyH_ready (rs := [18]) (by kernel_rfl) (by simp) (AllReadyH.cons (by simp only [List.getElem?_toArray, List.getElem?_cons_succ, List.getElem?_cons_zero]; rfl) (fun K hK => ?_) AllReadyH.nil)
                go_simp
                clear hHeld
                refine hK.out _ _ ?hS26 (fun hHeld => ?_)
                case hS26 => ((try dsimp only); (repeat' apply And.intro) <;> (first | (with_reducible assumption) | (rw [World.cell?_drew]; with_reducible assumption) | (rw [World.cell?_alloc_lt _ _ _ (by exact lXw)]; with_reducible assumption) | (rw [far3 (by omega)]; with_reducible assumption) | ((repeat rw [World.cell?_setCell_other _ _ _ _ (fun e => by injection e with e; omega)]); with_reducible assumption) | (simp [*]; done)))
                clear hK K
                (try simp only [Act.put, List.setIfInBounds_toArray, List.set_cons_zero, List.set_cons_succ])
                refine wpAnyH_done (by kernel_rfl) ?_ _
                have KF := hide (Bk.made wz6 25 #[.int .i64 W, .int .i64 L, .slice A6 (k + (m - q)) c6])
                have OF := hide (World.ownsRow.alloc O8.out (.cells #[.int .i64 W, .int .i64 L, .slice A6 (k + (m - q)) c6] 25))
                have BF := hide (Below.alloc BL7.out (Below.size BL7.out) (.cells #[.int .i64 W, .int .i64 L, .slice A6 (k + (m - q)) c6] 25))
                generalize (wz6.alloc (.cells #[.int .i64 W, .int .i64 L, .slice A6 (k + (m - q)) c6] 25)) = wf at *
                obtain ⟨A', c', e', hDF, -⟩ := dfs_of_own OF.out
                injection e' with e1 _ e3
                subst e1 e3
                have DF := hide hDF
                clear hDF x0 x1 x2 z0 z1 z2 y0 y1 y2 xx0 xx1 xx2
                obtain ⟨u0, u1, u2, -, -, -⟩ := KF.out.three
                clear ewq ewq2
                go_wp2_with fail
                refine (implValidReel W L _ (k + (m - q)) _ (ds.take k ++ ds.drop q) _ (by omega) DF.out).mono ?_; rintro e wg ⟨rfl, hb⟩; rw [HLE.out]
                have BG := hide (BF.out.trans (hb.mono BF.out.size))
                clear u0 u1 u2 hb
                go_wp2_with fail
                clear hq1
                go_roundw
                case rel => exact ⟨q, by omega, by first | rfl | go_num, hide (Bk.below hKX.out BG.out (by exact lX)), hide (hD.out.below BG.out), hide (below_then hB.out BG.out)⟩
                case measure => have := HQ.out; simp [intOf]; omega
              · go_simp
                have BL13 : Hid (Below wr.heap.size wr (wz3.alloc (.cells #[.int .i64 0, .int .i64 0, .slice none 0 0] 25))) := hide (Below.alloc BL4.out (Below.size BL4.out) _)
                have KXc := hide (Bk.below hKX.out BL13.out (by exact lX))
                clear x0 x1 x2
                obtain ⟨x0, x1, x2, -, -, -⟩ := KXc.out.three
                have lXc := KXc.out.lt
                have k6_14 := Bk.made wz3 25 #[.int .i64 0, .int .i64 0, .slice none 0 0]
                (try simp only [World.size_alloc] at k6_14)
                have K6_14 := hide k6_14
                clear k6_14
                have hb6 : wr.heap.size ≤ wz3.heap.size := Below.size BL4.out
                (try simp only [World.size_alloc] at hb6)
                have O15 := hide (World.ownsRow.alloc O5.out (.cells #[.int .i64 0, .int .i64 0, .slice none 0 0] 25))
                clear hHeld
                refine hK.out _ _ ?hS27 (fun hHeld => ?_)
                case hS27 => ((try dsimp only); (repeat' apply And.intro) <;> (first | (with_reducible assumption) | (rw [World.cell?_drew]; with_reducible assumption) | (rw [World.cell?_alloc_lt _ _ _ (by exact lXc)]; with_reducible assumption) | (rw [far3 (by omega)]; with_reducible assumption) | ((repeat rw [World.cell?_setCell_other _ _ _ _ (fun e => by injection e with e; omega)]); with_reducible assumption) | (simp [*]; done)))
                clear hK K
                (try simp only [Act.put, List.setIfInBounds_toArray, List.set_cons_zero, List.set_cons_succ])
                refine wpAnyH_ready (rs := [15]) (by kernel_rfl) (by simp) (AllReadyH.cons (by simp only [List.getElem?_toArray, List.getElem?_cons_succ, List.getElem?_cons_zero]; rfl) (fun K hK => ?_) AllReadyH.nil)
                rw [if_pos (by rfl)]
                refine wp_appD _ _ rfl wr.heap.size _ k (ds.take k) (ds.drop q) _ _ _ _ (by rfl) (by rfl) O15.out (by rw [List.length_drop]; have := HDL.out; omega) (fun j u hu => (BL13.out).cell (p := Addr.add _ j) (by rw [block_add]; exact HDB.out.1) |>.trans (cells_drop HDB.out q j u hu)) (by omega) (Below.size BL13.out) ?_
                rintro v16 wz16 ⟨ho, hb8, hk8⟩
                obtain ⟨A16, c16, hv16, -, -⟩ := dfs_of_own ho
                subst hv16
                have BL17 : Hid (Below wr.heap.size wr wz16) := hide (Below.trans BL13.out hb8)
                have KXc := hide (Bk.below hKX.out BL17.out (by exact lX))
                clear x0 x1 x2
                obtain ⟨x0, x1, x2, -, -, -⟩ := KXc.out.three
                have lXc := KXc.out.lt
                have O18 := hide ho
                have K6_19 := hide (Bk.keepT K6_14.out hk8 (by decide))
                clear ho hb8 hk8
                clear hHeld
                refine hK.out _ _ ?hS28 (fun hHeld => ?_)
                case hS28 => ((try dsimp only); (repeat' apply And.intro) <;> (first | (with_reducible assumption) | (rw [World.cell?_drew]; with_reducible assumption) | (rw [World.cell?_alloc_lt _ _ _ (by exact lXc)]; with_reducible assumption) | (rw [far3 (by omega)]; with_reducible assumption) | ((repeat rw [World.cell?_setCell_other _ _ _ _ (fun e => by injection e with e; omega)]); with_reducible assumption) | (simp [*]; done)))
                clear hK K
                (try simp only [Act.put, List.setIfInBounds_toArray, List.set_cons_zero, List.set_cons_succ])
                refine wpAnyH_take (i := 16) (v := ?v29) (by simp only [List.getElem?_toArray, List.getElem?_cons_succ, List.getElem?_cons_zero]; rfl) (by kernel_rfl) (by kernel_rfl) (by kernel_rfl) (by exact fun _ _ _ h => h) (Or.inl ⟨by rfl, ?hy29⟩) (by assumption) ?rest29
                case hy29 => (intro w hSw; (try dsimp only at hSw); go_simp; (try with_reducible rfl))
                (try simp only [Act.put, List.setIfInBounds_toArray, List.set_cons_zero, List.set_cons_succ])
                obtain ⟨z0, z1, z2, y0, y1, y2⟩ := K6_19.out.three
                refine wpAnyH_ready (rs := [18]) (by kernel_rfl) (by simp) (AllReadyH.cons (by simp only [List.getElem?_toArray, List.getElem?_cons_succ, List.getElem?_cons_zero]; rfl) (fun K hK => ?_) AllReadyH.nil)
                go_simp
                clear hHeld
                refine hK.out _ _ ?hS30 (fun hHeld => ?_)
                case hS30 => ((try dsimp only); (repeat' apply And.intro) <;> (first | (with_reducible assumption) | (rw [World.cell?_drew]; with_reducible assumption) | (rw [World.cell?_alloc_lt _ _ _ (by exact lXc)]; with_reducible assumption) | (rw [far3 (by omega)]; with_reducible assumption) | ((repeat rw [World.cell?_setCell_other _ _ _ _ (fun e => by injection e with e; omega)]); with_reducible assumption) | (simp [*]; done)))
                clear hK K
                (try simp only [Act.put, List.setIfInBounds_toArray, List.set_cons_zero, List.set_cons_succ])
                refine wpAnyH_done (by kernel_rfl) ?_ _
                have K1 := K6_19.out.put 0 (.int .i64 W)
                have K2 := K1.put 1 (.int .i64 L)
                have KF : Hid (Bk (((wz16.setCell ⟨wz3.heap.size, 0, none⟩ (.int .i64 W)).setCell ⟨wz3.heap.size, 1, none⟩ (.int .i64 L)).setCell ⟨wz3.heap.size, 2, none⟩ (.slice A16 (k + (m - q)) c16)) (wz3.heap.size) 25 #[.int .i64 W, .int .i64 L, .slice A16 (k + (m - q)) c16]) := hide (K2.put 2 (.slice A16 (k + (m - q)) c16))
                have OF := hide (own_put (own_put (own_put O18.out (p := ⟨wz3.heap.size, 0, none⟩) K6_19.out (by decide) (.int .i64 W)) (p := ⟨wz3.heap.size, 1, none⟩) K1 (by decide) (.int .i64 L)) (p := ⟨wz3.heap.size, 2, none⟩) K2 (by decide) (.slice A16 (k + (m - q)) c16))
                have BF := hide (((Below.setCell BL17.out (p := ⟨wz3.heap.size, 0, none⟩) (by dsimp only; omega) (.int .i64 W)).setCell (p := ⟨wz3.heap.size, 1, none⟩) (by dsimp only; omega) (.int .i64 L)).setCell (p := ⟨wz3.heap.size, 2, none⟩) (by dsimp only; omega) (.slice A16 (k + (m - q)) c16))
                generalize (((wz16.setCell ⟨wz3.heap.size, 0, none⟩ (.int .i64 W)).setCell ⟨wz3.heap.size, 1, none⟩ (.int .i64 L)).setCell ⟨wz3.heap.size, 2, none⟩ (.slice A16 (k + (m - q)) c16)) = wf at *
                obtain ⟨A', c', e', hDF, -⟩ := dfs_of_own OF.out
                injection e' with e1 _ e3
                subst e1 e3
                have DF := hide hDF
                clear hDF x0 x1 x2 z0 z1 z2 y0 y1 y2 K1 K2
                obtain ⟨u0, u1, u2, -, -, -⟩ := KF.out.three
                clear ewq ewq2
                go_wp2_with fail
                refine (implValidReel W L _ (k + (m - q)) _ (ds.take k ++ ds.drop q) _ (by omega) DF.out).mono ?_; rintro e wg ⟨rfl, hb⟩; rw [HLE.out]
                have BG := hide (BF.out.trans (hb.mono BF.out.size))
                clear u0 u1 u2 hb
                go_wp2_with fail
                clear hq1
                go_roundw
                case rel => exact ⟨q, by omega, by first | rfl | go_num, hide (Bk.below hKX.out BG.out (by exact lX)), hide (hD.out.below BG.out), hide (below_then hB.out BG.out)⟩
                case measure => have := HQ.out; simp [intOf]; omega
            · go_simp
              have BL21 : Hid (Below wr.heap.size wr ((wd.alloc (.cells #[] 43)).alloc (.cells #[.int .i64 0, .int .i64 0, .slice none 0 0] 25))) := hide (Below.alloc BL1.out (Below.size BL1.out) _)
              have KXc := hide (Bk.below hKX.out BL21.out (by exact lX))
              clear x0 x1 x2
              obtain ⟨x0, x1, x2, -, -, -⟩ := KXc.out.three
              have lXc := KXc.out.lt
              have k6_22 := Bk.made (wd.alloc (.cells #[] 43)) 25 #[.int .i64 0, .int .i64 0, .slice none 0 0]
              (try simp only [World.size_alloc] at k6_22)
              have K6_22 := hide k6_22
              clear k6_22
              have hb6 : wr.heap.size ≤ (wd.alloc (.cells #[] 43)).heap.size := Below.size BL1.out
              (try simp only [World.size_alloc] at hb6)
              have O23 := hide (World.ownsRow.alloc O2.out (.cells #[.int .i64 0, .int .i64 0, .slice none 0 0] 25))
              clear hHeld
              refine hK.out _ _ ?hS31 (fun hHeld => ?_)
              case hS31 => ((try dsimp only); (repeat' apply And.intro) <;> (first | (with_reducible assumption) | (rw [World.cell?_drew]; with_reducible assumption) | (rw [World.cell?_alloc_lt _ _ _ (by exact lXc)]; with_reducible assumption) | (rw [far3 (by omega)]; with_reducible assumption) | ((repeat rw [World.cell?_setCell_other _ _ _ _ (fun e => by injection e with e; omega)]); with_reducible assumption) | (simp [*]; done)))
              clear hK K
              (try simp only [Act.put, List.setIfInBounds_toArray, List.set_cons_zero, List.set_cons_succ])
              refine wpAnyH_ready (rs := [9]) (by kernel_rfl) (by simp) (AllReadyH.cons (by simp only [List.getElem?_toArray, List.getElem?_cons_succ, List.getElem?_cons_zero]; rfl) (fun K hK => ?_) AllReadyH.nil)
              rw [if_pos (by rfl)]
              refine wp_appD _ _ rfl wr.heap.size _ 0 [] (ds.take k) _ _ _ _ (by rfl) (by rfl) O23.out (by rw [List.length_take]; have := HDL.out; omega) (fun j u hu => (BL21.out).cell (p := Addr.add _ j) (by rw [block_add]; exact HDB.out.1) |>.trans (cells_take HDB.out k j u hu)) (by omega) (Below.size BL21.out) ?_
              rintro v24 wz24 ⟨ho, hb8, hk8⟩
              rw [Nat.zero_add, List.nil_append] at ho
              obtain ⟨A24, c24, hv24, -, -⟩ := dfs_of_own ho
              subst hv24
              have BL25 : Hid (Below wr.heap.size wr wz24) := hide (Below.trans BL21.out hb8)
              have KXc := hide (Bk.below hKX.out BL25.out (by exact lX))
              clear x0 x1 x2
              obtain ⟨x0, x1, x2, -, -, -⟩ := KXc.out.three
              have lXc := KXc.out.lt
              have O26 := hide ho
              have K6_27 := hide (Bk.keepT K6_22.out hk8 (by decide))
              clear ho hb8 hk8
              clear hHeld
              refine hK.out _ _ ?hS32 (fun hHeld => ?_)
              case hS32 => ((try dsimp only); (repeat' apply And.intro) <;> (first | (with_reducible assumption) | (rw [World.cell?_drew]; with_reducible assumption) | (rw [World.cell?_alloc_lt _ _ _ (by exact lXc)]; with_reducible assumption) | (rw [far3 (by omega)]; with_reducible assumption) | ((repeat rw [World.cell?_setCell_other _ _ _ _ (fun e => by injection e with e; omega)]); with_reducible assumption) | (simp [*]; done)))
              clear hK K
              (try simp only [Act.put, List.setIfInBounds_toArray, List.set_cons_zero, List.set_cons_succ])
              refine wpAnyH_ready (rs := [15]) (by kernel_rfl) (by simp) (AllReadyH.cons (by simp only [List.getElem?_toArray, List.getElem?_cons_succ, List.getElem?_cons_zero]; rfl) (fun K hK => ?_) AllReadyH.nil)
              rw [if_pos (by rfl)]
              refine wp_appD _ _ rfl wr.heap.size _ k (ds.take k) (ds.drop q) _ _ _ _ (by rfl) (by rfl) O26.out (by rw [List.length_drop]; have := HDL.out; omega) (fun j u hu => (BL25.out).cell (p := Addr.add _ j) (by rw [block_add]; exact HDB.out.1) |>.trans (cells_drop HDB.out q j u hu)) (by omega) (Below.size BL25.out) ?_
              rintro v28 wz28 ⟨ho, hb8, hk8⟩
              obtain ⟨A28, c28, hv28, -, -⟩ := dfs_of_own ho
              subst hv28
              have BL29 : Hid (Below wr.heap.size wr wz28) := hide (Below.trans BL25.out hb8)
              have KXc := hide (Bk.below hKX.out BL29.out (by exact lX))
              clear x0 x1 x2
              obtain ⟨x0, x1, x2, -, -, -⟩ := KXc.out.three
              have lXc := KXc.out.lt
              have O30 := hide ho
              have K6_31 := hide (Bk.keepT K6_27.out hk8 (by decide))
              clear ho hb8 hk8
              clear hHeld
              refine hK.out _ _ ?hS33 (fun hHeld => ?_)
              case hS33 => ((try dsimp only); (repeat' apply And.intro) <;> (first | (with_reducible assumption) | (rw [World.cell?_drew]; with_reducible assumption) | (rw [World.cell?_alloc_lt _ _ _ (by exact lXc)]; with_reducible assumption) | (rw [far3 (by omega)]; with_reducible assumption) | ((repeat rw [World.cell?_setCell_other _ _ _ _ (fun e => by injection e with e; omega)]); with_reducible assumption) | (simp [*]; done)))
              clear hK K
              (try simp only [Act.put, List.setIfInBounds_toArray, List.set_cons_zero, List.set_cons_succ])
              refine wpAnyH_take (i := 16) (v := ?v34) (by simp only [List.getElem?_toArray, List.getElem?_cons_succ, List.getElem?_cons_zero]; rfl) (by kernel_rfl) (by kernel_rfl) (by kernel_rfl) (by exact fun _ _ _ h => h) (Or.inl ⟨by rfl, ?hy34⟩) (by assumption) ?rest34
              case hy34 => (intro w hSw; (try dsimp only at hSw); go_simp; (try with_reducible rfl))
              (try simp only [Act.put, List.setIfInBounds_toArray, List.set_cons_zero, List.set_cons_succ])
              obtain ⟨z0, z1, z2, y0, y1, y2⟩ := K6_31.out.three
              refine wpAnyH_ready (rs := [18]) (by kernel_rfl) (by simp) (AllReadyH.cons (by simp only [List.getElem?_toArray, List.getElem?_cons_succ, List.getElem?_cons_zero]; rfl) (fun K hK => ?_) AllReadyH.nil)
              go_simp
              clear hHeld
              refine hK.out _ _ ?hS35 (fun hHeld => ?_)
              case hS35 => ((try dsimp only); (repeat' apply And.intro) <;> (first | (with_reducible assumption) | (rw [World.cell?_drew]; with_reducible assumption) | (rw [World.cell?_alloc_lt _ _ _ (by exact lXc)]; with_reducible assumption) | (rw [far3 (by omega)]; with_reducible assumption) | ((repeat rw [World.cell?_setCell_other _ _ _ _ (fun e => by injection e with e; omega)]); with_reducible assumption) | (simp [*]; done)))
              clear hK K
              (try simp only [Act.put, List.setIfInBounds_toArray, List.set_cons_zero, List.set_cons_succ])
              refine wpAnyH_done (by kernel_rfl) ?_ _
              have K1 := K6_31.out.put 0 (.int .i64 W)
              have K2 := K1.put 1 (.int .i64 L)
              have KF : Hid (Bk (((wz28.setCell ⟨wd.heap.size + 1, 0, none⟩ (.int .i64 W)).setCell ⟨wd.heap.size + 1, 1, none⟩ (.int .i64 L)).setCell ⟨wd.heap.size + 1, 2, none⟩ (.slice A28 (k + (m - q)) c28)) (wd.heap.size + 1) 25 #[.int .i64 W, .int .i64 L, .slice A28 (k + (m - q)) c28]) := hide (K2.put 2 (.slice A28 (k + (m - q)) c28))
              have OF := hide (own_put (own_put (own_put O30.out (p := ⟨wd.heap.size + 1, 0, none⟩) K6_31.out (by decide) (.int .i64 W)) (p := ⟨wd.heap.size + 1, 1, none⟩) K1 (by decide) (.int .i64 L)) (p := ⟨wd.heap.size + 1, 2, none⟩) K2 (by decide) (.slice A28 (k + (m - q)) c28))
              have BF := hide (((Below.setCell BL29.out (p := ⟨wd.heap.size + 1, 0, none⟩) (by dsimp only; omega) (.int .i64 W)).setCell (p := ⟨wd.heap.size + 1, 1, none⟩) (by dsimp only; omega) (.int .i64 L)).setCell (p := ⟨wd.heap.size + 1, 2, none⟩) (by dsimp only; omega) (.slice A28 (k + (m - q)) c28))
              generalize (((wz28.setCell ⟨wd.heap.size + 1, 0, none⟩ (.int .i64 W)).setCell ⟨wd.heap.size + 1, 1, none⟩ (.int .i64 L)).setCell ⟨wd.heap.size + 1, 2, none⟩ (.slice A28 (k + (m - q)) c28)) = wf at *
              obtain ⟨A', c', e', hDF, -⟩ := dfs_of_own OF.out
              injection e' with e1 _ e3
              subst e1 e3
              have DF := hide hDF
              clear hDF x0 x1 x2 z0 z1 z2 y0 y1 y2 K1 K2
              obtain ⟨u0, u1, u2, -, -, -⟩ := KF.out.three
              clear ewq ewq2
              go_wp2_with fail
              refine (implValidReel W L _ (k + (m - q)) _ (ds.take k ++ ds.drop q) _ (by omega) DF.out).mono ?_; rintro e wg ⟨rfl, hb⟩; rw [HLE.out]
              have BG := hide (BF.out.trans (hb.mono BF.out.size))
              clear u0 u1 u2 hb
              go_wp2_with fail
              clear hq1
              go_roundw
              case rel => exact ⟨q, by omega, by first | rfl | go_num, hide (Bk.below hKX.out BG.out (by exact lX)), hide (hD.out.below BG.out), hide (below_then hB.out BG.out)⟩
              case measure => have := HQ.out; simp [intOf]; omega
          · go_simp
            have BL33 : Hid (Below wr.heap.size wr (wd.alloc (.cells #[.int .i64 0, .int .i64 0, .slice none 0 0] 25))) := hide (Below.alloc BL0.out (Below.size BL0.out) _)
            have KXc := hide (Bk.below hKX.out BL33.out (by exact lX))
            clear x0 x1 x2
            obtain ⟨x0, x1, x2, -, -, -⟩ := KXc.out.three
            have lXc := KXc.out.lt
            have k6_34 := Bk.made wd 25 #[.int .i64 0, .int .i64 0, .slice none 0 0]
            (try simp only [World.size_alloc] at k6_34)
            have K6_34 := hide k6_34
            clear k6_34
            have hb6 : wr.heap.size ≤ wd.heap.size := Below.size BL0.out
            (try simp only [World.size_alloc] at hb6)
            clear hHeld
            refine hK.out _ _ ?hS36 (fun hHeld => ?_)
            case hS36 => ((try dsimp only); (repeat' apply And.intro) <;> (first | (with_reducible assumption) | (rw [World.cell?_drew]; with_reducible assumption) | (rw [World.cell?_alloc_lt _ _ _ (by exact lXc)]; with_reducible assumption) | (rw [far3 (by omega)]; with_reducible assumption) | ((repeat rw [World.cell?_setCell_other _ _ _ _ (fun e => by injection e with e; omega)]); with_reducible assumption) | (simp [*]; done)))
            clear hK K
            (try simp only [Act.put, List.setIfInBounds_toArray, List.set_cons_zero, List.set_cons_succ])
            refine wpAnyH_ready (rs := [4]) (by kernel_rfl) (by simp) (AllReadyH.cons (by simp only [List.getElem?_toArray, List.getElem?_cons_succ, List.getElem?_cons_zero]; rfl) (fun K hK => ?_) AllReadyH.nil)
            go_simp
            have BL35 : Hid (Below wr.heap.size wr ((wd.alloc (.cells #[.int .i64 0, .int .i64 0, .slice none 0 0] 25)).alloc (.cells #[] 43))) := hide (Below.alloc BL33.out (Below.size BL33.out) _)
            have KXc := hide (Bk.below hKX.out BL35.out (by exact lX))
            clear x0 x1 x2
            obtain ⟨x0, x1, x2, -, -, -⟩ := KXc.out.three
            have lXc := KXc.out.lt
            have o36 := own_empty5 (w := (wd.alloc (.cells #[.int .i64 0, .int .i64 0, .slice none 0 0] 25))) (base := wr.heap.size) (e := 43) (Below.size BL33.out)
            (try simp only [World.size_alloc] at o36)
            have O36 := hide o36
            clear o36
            have K6_37 := hide (Bk.alloc K6_34.out (.cells #[] 43))
            clear hHeld
            refine hK.out _ _ ?hS37 (fun hHeld => ?_)
            case hS37 => ((try dsimp only); (repeat' apply And.intro) <;> (first | (with_reducible assumption) | (rw [World.cell?_drew]; with_reducible assumption) | (rw [World.cell?_alloc_lt _ _ _ (by exact lXc)]; with_reducible assumption) | (rw [far3 (by omega)]; with_reducible assumption) | ((repeat rw [World.cell?_setCell_other _ _ _ _ (fun e => by injection e with e; omega)]); with_reducible assumption) | (simp [*]; done)))
            clear hK K
            (try simp only [Act.put, List.setIfInBounds_toArray, List.set_cons_zero, List.set_cons_succ])
            refine wpAnyH_ready (rs := [9]) (by kernel_rfl) (by simp) (AllReadyH.cons (by simp only [List.getElem?_toArray, List.getElem?_cons_succ, List.getElem?_cons_zero]; rfl) (fun K hK => ?_) AllReadyH.nil)
            rw [if_pos (by rfl)]
            refine wp_appD _ _ rfl wr.heap.size _ 0 [] (ds.take k) _ _ _ _ (by rfl) (by rfl) O36.out (by rw [List.length_take]; have := HDL.out; omega) (fun j u hu => (BL35.out).cell (p := Addr.add _ j) (by rw [block_add]; exact HDB.out.1) |>.trans (cells_take HDB.out k j u hu)) (by omega) (Below.size BL35.out) ?_
            rintro v38 wz38 ⟨ho, hb8, hk8⟩
            rw [Nat.zero_add, List.nil_append] at ho
            obtain ⟨A38, c38, hv38, -, -⟩ := dfs_of_own ho
            subst hv38
            have BL39 : Hid (Below wr.heap.size wr wz38) := hide (Below.trans BL35.out hb8)
            have KXc := hide (Bk.below hKX.out BL39.out (by exact lX))
            clear x0 x1 x2
            obtain ⟨x0, x1, x2, -, -, -⟩ := KXc.out.three
            have lXc := KXc.out.lt
            have O40 := hide ho
            have K6_41 := hide (Bk.keepT K6_37.out hk8 (by decide))
            clear ho hb8 hk8
            clear hHeld
            refine hK.out _ _ ?hS38 (fun hHeld => ?_)
            case hS38 => ((try dsimp only); (repeat' apply And.intro) <;> (first | (with_reducible assumption) | (rw [World.cell?_drew]; with_reducible assumption) | (rw [World.cell?_alloc_lt _ _ _ (by exact lXc)]; with_reducible assumption) | (rw [far3 (by omega)]; with_reducible assumption) | ((repeat rw [World.cell?_setCell_other _ _ _ _ (fun e => by injection e with e; omega)]); with_reducible assumption) | (simp [*]; done)))
            clear hK K
            (try simp only [Act.put, List.setIfInBounds_toArray, List.set_cons_zero, List.set_cons_succ])
            refine wpAnyH_ready (rs := [15]) (by kernel_rfl) (by simp) (AllReadyH.cons (by simp only [List.getElem?_toArray, List.getElem?_cons_succ, List.getElem?_cons_zero]; rfl) (fun K hK => ?_) AllReadyH.nil)
            rw [if_pos (by rfl)]
            refine wp_appD _ _ rfl wr.heap.size _ k (ds.take k) (ds.drop q) _ _ _ _ (by rfl) (by rfl) O40.out (by rw [List.length_drop]; have := HDL.out; omega) (fun j u hu => (BL39.out).cell (p := Addr.add _ j) (by rw [block_add]; exact HDB.out.1) |>.trans (cells_drop HDB.out q j u hu)) (by omega) (Below.size BL39.out) ?_
            rintro v42 wz42 ⟨ho, hb8, hk8⟩
            obtain ⟨A42, c42, hv42, -, -⟩ := dfs_of_own ho
            subst hv42
            have BL43 : Hid (Below wr.heap.size wr wz42) := hide (Below.trans BL39.out hb8)
            have KXc := hide (Bk.below hKX.out BL43.out (by exact lX))
            clear x0 x1 x2
            obtain ⟨x0, x1, x2, -, -, -⟩ := KXc.out.three
            have lXc := KXc.out.lt
            have O44 := hide ho
            have K6_45 := hide (Bk.keepT K6_41.out hk8 (by decide))
            clear ho hb8 hk8
            clear hHeld
            refine hK.out _ _ ?hS39 (fun hHeld => ?_)
            case hS39 => ((try dsimp only); (repeat' apply And.intro) <;> (first | (with_reducible assumption) | (rw [World.cell?_drew]; with_reducible assumption) | (rw [World.cell?_alloc_lt _ _ _ (by exact lXc)]; with_reducible assumption) | (rw [far3 (by omega)]; with_reducible assumption) | ((repeat rw [World.cell?_setCell_other _ _ _ _ (fun e => by injection e with e; omega)]); with_reducible assumption) | (simp [*]; done)))
            clear hK K
            (try simp only [Act.put, List.setIfInBounds_toArray, List.set_cons_zero, List.set_cons_succ])
            refine wpAnyH_take (i := 16) (v := ?v40) (by simp only [List.getElem?_toArray, List.getElem?_cons_succ, List.getElem?_cons_zero]; rfl) (by kernel_rfl) (by kernel_rfl) (by kernel_rfl) (by exact fun _ _ _ h => h) (Or.inl ⟨by rfl, ?hy40⟩) (by assumption) ?rest40
            case hy40 => (intro w hSw; (try dsimp only at hSw); go_simp; (try with_reducible rfl))
            (try simp only [Act.put, List.setIfInBounds_toArray, List.set_cons_zero, List.set_cons_succ])
            obtain ⟨z0, z1, z2, y0, y1, y2⟩ := K6_45.out.three
            refine wpAnyH_ready (rs := [18]) (by kernel_rfl) (by simp) (AllReadyH.cons (by simp only [List.getElem?_toArray, List.getElem?_cons_succ, List.getElem?_cons_zero]; rfl) (fun K hK => ?_) AllReadyH.nil)
            go_simp
            clear hHeld
            refine hK.out _ _ ?hS41 (fun hHeld => ?_)
            case hS41 => ((try dsimp only); (repeat' apply And.intro) <;> (first | (with_reducible assumption) | (rw [World.cell?_drew]; with_reducible assumption) | (rw [World.cell?_alloc_lt _ _ _ (by exact lXc)]; with_reducible assumption) | (rw [far3 (by omega)]; with_reducible assumption) | ((repeat rw [World.cell?_setCell_other _ _ _ _ (fun e => by injection e with e; omega)]); with_reducible assumption) | (simp [*]; done)))
            clear hK K
            (try simp only [Act.put, List.setIfInBounds_toArray, List.set_cons_zero, List.set_cons_succ])
            refine wpAnyH_done (by kernel_rfl) ?_ _
            have K1 := K6_45.out.put 0 (.int .i64 W)
            have K2 := K1.put 1 (.int .i64 L)
            have KF : Hid (Bk (((wz42.setCell ⟨wd.heap.size, 0, none⟩ (.int .i64 W)).setCell ⟨wd.heap.size, 1, none⟩ (.int .i64 L)).setCell ⟨wd.heap.size, 2, none⟩ (.slice A42 (k + (m - q)) c42)) (wd.heap.size) 25 #[.int .i64 W, .int .i64 L, .slice A42 (k + (m - q)) c42]) := hide (K2.put 2 (.slice A42 (k + (m - q)) c42))
            have OF := hide (own_put (own_put (own_put O44.out (p := ⟨wd.heap.size, 0, none⟩) K6_45.out (by decide) (.int .i64 W)) (p := ⟨wd.heap.size, 1, none⟩) K1 (by decide) (.int .i64 L)) (p := ⟨wd.heap.size, 2, none⟩) K2 (by decide) (.slice A42 (k + (m - q)) c42))
            have BF := hide (((Below.setCell BL43.out (p := ⟨wd.heap.size, 0, none⟩) (by dsimp only; omega) (.int .i64 W)).setCell (p := ⟨wd.heap.size, 1, none⟩) (by dsimp only; omega) (.int .i64 L)).setCell (p := ⟨wd.heap.size, 2, none⟩) (by dsimp only; omega) (.slice A42 (k + (m - q)) c42))
            generalize (((wz42.setCell ⟨wd.heap.size, 0, none⟩ (.int .i64 W)).setCell ⟨wd.heap.size, 1, none⟩ (.int .i64 L)).setCell ⟨wd.heap.size, 2, none⟩ (.slice A42 (k + (m - q)) c42)) = wf at *
            obtain ⟨A', c', e', hDF, -⟩ := dfs_of_own OF.out
            injection e' with e1 _ e3
            subst e1 e3
            have DF := hide hDF
            clear hDF x0 x1 x2 z0 z1 z2 y0 y1 y2 K1 K2
            obtain ⟨u0, u1, u2, -, -, -⟩ := KF.out.three
            clear ewq ewq2
            go_wp2_with fail
            refine (implValidReel W L _ (k + (m - q)) _ (ds.take k ++ ds.drop q) _ (by omega) DF.out).mono ?_; rintro e wg ⟨rfl, hb⟩; rw [HLE.out]
            have BG := hide (BF.out.trans (hb.mono BF.out.size))
            clear u0 u1 u2 hb
            go_wp2_with fail
            clear hq1
            go_roundw
            case rel => exact ⟨q, by omega, by first | rfl | go_num, hide (Bk.below hKX.out BG.out (by exact lX)), hide (hD.out.below BG.out), hide (below_then hB.out BG.out)⟩
            case measure => have := HQ.out; simp [intOf]; omega
      · have : k = m := by omega
        subst this
        obtain ⟨x0, x1, x2, -, -, -⟩ := hKX.out.three
        go_wp2_with fail
        refine wp_region_held_drew (S := fun w' => w'.cell? ⟨w1.heap.size, 0, none⟩ = some (.int .i64 W) ∧ w'.cell? ⟨w1.heap.size, 1, none⟩ = some (.int .i64 L) ∧ w'.cell? ⟨w1.heap.size, 2, none⟩ = some (.slice Av k cv)) (by kernel_rfl) ?hS1 (fun hHeld => ?_)
        case hS1 => ((try dsimp only); (repeat' apply And.intro) <;> (first | (with_reducible assumption) | (rw [World.cell?_drew]; with_reducible assumption) | (rw [World.cell?_setCell_other _ _ _ _ (fun e => by injection e with _ e; cases e)]; with_reducible assumption) | (simp [*]; done)))
        refine wpAnyH_take (i := 0) (v := ?v2) (by simp only [List.getElem?_toArray, List.getElem?_cons_zero]; rfl) (by kernel_rfl) (by kernel_rfl) (by kernel_rfl) (by exact fun _ _ _ h => h) (Or.inl ⟨by rfl, ?hy2⟩) (by assumption) ?rest2
        case hy2 => (intro w hSw; (try dsimp only at hSw); go_simp; (try with_reducible rfl))
        (try simp only [Act.put, List.setIfInBounds_toArray, List.set_cons_zero, List.set_cons_succ])
        refine wpAnyH_take (i := 1) (v := ?v3) (by simp only [List.getElem?_toArray, List.getElem?_cons_succ, List.getElem?_cons_zero]; rfl) (by kernel_rfl) (by kernel_rfl) (by kernel_rfl) (by exact fun _ _ _ h => h) (Or.inl ⟨by rfl, ?hy3⟩) (by assumption) ?rest3
        case hy3 => (intro w hSw; (try dsimp only at hSw); go_simp; (try with_reducible rfl))
        (try simp only [Act.put, List.setIfInBounds_toArray, List.set_cons_zero, List.set_cons_succ])
        refine wpAnyH_ready (rs := [2]) (by kernel_rfl) (by simp) (AllReadyH.cons (by simp only [List.getElem?_toArray, List.getElem?_cons_succ, List.getElem?_cons_zero]; rfl) (fun K hK => ?_) AllReadyH.nil)
        go_simp
        refine (whole_any _ _ _ _ _ _).mono ?_
        rintro e wa ⟨rfl, hb⟩
        have KXa := hide (Bk.call (Bk.drew hKX.out) hb); have Da := hide (Dfs.below (Dfs.drew hD.out) hb); have Ba := hide (below_then (below_drewN hB.out 1) hb)
        clear hb x0 x1 x2
        obtain ⟨x0, x1, x2, -, -, -⟩ := KXa.out.three
        (try go_wp2_with fail)
        clear hHeld
        refine hK.out _ _ ?hS4 (fun hHeld => ?_)
        case hS4 => ((try dsimp only); (repeat' apply And.intro) <;> (first | (with_reducible assumption) | (rw [World.cell?_drew]; with_reducible assumption) | (rw [World.cell?_setCell_other _ _ _ _ (fun e => by injection e with _ e; cases e)]; with_reducible assumption) | (simp [*]; done)))
        clear hK K
        (try simp only [Act.put, List.setIfInBounds_toArray, List.set_cons_zero, List.set_cons_succ])
        refine wpAnyH_ready (rs := [3]) (by kernel_rfl) (by simp) (AllReadyH.cons (by simp only [List.getElem?_toArray, List.getElem?_cons_succ, List.getElem?_cons_zero]; rfl) (fun K hK => ?_) AllReadyH.nil)
        go_simp
        refine (implValidPart W L Av k cv ds _ _ _ _ _ hm' Da.out).mono ?_
        rintro e wb ⟨rfl, hb⟩
        rw [HVP.out]
        have KXb := hide (Bk.call KXa.out hb); have Bb := hide (below_then Ba.out hb)
        clear hb x0 x1 x2
        obtain ⟨x0, x1, x2, -, -, -⟩ := KXb.out.three
        (try go_wp2_with fail)
        clear hHeld
        refine hK.out _ _ ?hS5 (fun hHeld => ?_)
        case hS5 => ((try dsimp only); (repeat' apply And.intro) <;> (first | (with_reducible assumption) | (rw [World.cell?_drew]; with_reducible assumption) | (rw [World.cell?_setCell_other _ _ _ _ (fun e => by injection e with _ e; cases e)]; with_reducible assumption) | (simp [*]; done)))
        clear hK K
        (try simp only [Act.put, List.setIfInBounds_toArray, List.set_cons_zero, List.set_cons_succ])
        refine wpAnyH_take (i := 4) (v := ?v6) (by simp only [List.getElem?_toArray, List.getElem?_cons_succ, List.getElem?_cons_zero]; rfl) (by kernel_rfl) (by kernel_rfl) (by kernel_rfl) (by exact fun _ _ _ h => h) (Or.inl ⟨by rfl, ?hy6⟩) (by assumption) ?rest6
        case hy6 => (intro w hSw; (try dsimp only at hSw); go_simp; (try with_reducible rfl))
        (try simp only [Act.put, List.setIfInBounds_toArray, List.set_cons_zero, List.set_cons_succ])
        refine wpAnyH_done (by kernel_rfl) ?_ _
        go_wp2_with fail
        go_ret
        exact ⟨rfl, Bb.out⟩
end Go.Proofs.Ytbbopnpmjhbffaa
