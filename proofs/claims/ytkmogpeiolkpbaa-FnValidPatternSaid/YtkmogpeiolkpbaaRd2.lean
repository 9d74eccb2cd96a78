/- Contracts of drawn lengths. -/
import Derived.Test.YtkmogpeiolkpbaaRd1
import Derived.Test.YtkmogpeiolkpbaaInt2
namespace Go.Proofs.Ytkmogpeiolkpbaa
open Go.RowKit
set_option linter.unusedVariables false
set_option maxRecDepth 100000
def LenP (M : Nat) (ys : List Int) : Prop := ys.length ≤ M ∧ ∀ y ∈ ys, 0 ≤ y ∧ y ≤ 1000
theorem LenP.snoc {ys : List Int} {x : Int} (h : ∀ y ∈ ys, 0 ≤ y ∧ y ≤ 1000) (hx : 0 ≤ x ∧ x ≤ 1000) : ∀ y ∈ ys ++ [x], 0 ≤ y ∧ y ≤ 1000 := by
  intro y hy
  rcases List.mem_append.1 hy with hy | hy
  · exact h y hy
  · simp only [List.mem_singleton] at hy; subst hy; exact hx
theorem LenP.set {ys : List Int} {x : Int} {k : Nat} (h : ∀ y ∈ ys, 0 ≤ y ∧ y ≤ 1000) (hx : 0 ≤ x ∧ x ≤ 1000) : ∀ y ∈ ys.set k x, 0 ≤ y ∧ y ≤ 1000 := by
  intro y hy
  rcases List.mem_or_eq_of_mem_set hy with hy | hy
  · exact h y hy
  · subst hy; exact hx
set_option maxHeartbeats 1000000 in
theorem someLengths_any (rb N : Nat) (m : Int) (w : World) (hN : N ≤ 100000) (h : Rdr w rb N) :
    Calls Try.prog 54 #[.pointer (some ⟨rb, 0, none⟩), .int .i64 m] w (DrewL rb (N + 30) (LenP 7) w) := by
  have hrb := h.lt
  go_enter Try.func54, Try.ntmps54
  go_wp2_with fail
  refine (one_lit rb N _ [3, 4, 2, 5, 1, 0, 7] _ _ _ _ (by simp) (by rfl) (by rfl) (by decide) (by omega) (h.alloc _)).mono ?_
  rintro e w1 ⟨x0, rfl, hx0, hR1, hS1⟩
  have hx : 0 ≤ x0 ∧ x0 ≤ 7 := by simp only [List.mem_cons, List.not_mem_nil, or_false] at hx0; omega
  have hS := (RS.alloc (RS.refl rb w) (.cells #[] 3)).trans hS1
  have hown : w1.ownsRow w.heap.size 3 1 (.slice (some ⟨w.heap.size, 0, none⟩) 0 0) 0 (([] : List Int).map (.int .i64)) := ownsRow_rs (own_empty_row (Nat.le_refl _)) hS1 (by omega)
  obtain ⟨hx1, hx2⟩ := hx
  have HOWN := hide hown; have HS := hide hS; have HR1 := hide hR1
  clear hx0 hown hS hS1 hR1 h
  go_wp2_with fail
  go_loopw [5, 6] (fun v i wr => ∃ (x : Int) (ys : List Int), 0 ≤ x ∧ i = .int .i64 x ∧ (ys.length : Int) + x ≤ 7 ∧ (∀ y ∈ ys, 0 ≤ y ∧ y ≤ 1000) ∧ wr.ownsRow w.heap.size 3 1 v ys.length (ys.map (.int .i64)) ∧ Rdr wr rb (N + 1 + 3 * ys.length) ∧ RS rb w wr) (fun _ i _ => (intOf i).toNat)
  case atStart => exact ⟨x0, [], hx1, rfl, by simp; omega, fun y hy => by simp at hy, HOWN.out, HR1.out, HS.out⟩
  case round =>
    obtain ⟨x, ys, hx, rfl, hlen, hys, hown, hR, hS⟩ := hrel
    have HY := hide hys; clear hys
    obtain ⟨K, hK⟩ : ∃ K, ys.length = K := ⟨_, rfl⟩
    rw [hK] at hlen hown hR
    have HK := hide hK; clear hK
    obtain ⟨A5, c5, rfl, hO5, hkc5⟩ := own_of_row hown
    have HO5 := hide hO5; clear hO5
    by_cases hxp : 0 < x ∧ (K : Int) < m
    · obtain ⟨hx0, hKm⟩ := hxp
      have hsz := hS.size
      have HOWN2 := hide hown; have HS2 := hide hS; have HR2 := hide hR; clear hown hS hR
      go_wp2_with fail
      refine (pick_any rb _ 30 _ (by omega) HR2.out).mono ?_
      rintro e w2 ⟨a, rfl, ha, hRa, hSa⟩
      obtain ⟨a0, a1⟩ := ha.2 (by omega)
      have Ra := hide hRa; have Sa := hide hSa; clear ha hRa hSa
      go_wp2_with fail
      refine (pick_any rb _ 60 _ (by omega) Ra.out).mono ?_
      rintro e w3 ⟨b, rfl, hb, hRb, hSb⟩
      obtain ⟨b0, b1⟩ := hb.2 (by omega)
      have Rb := hide hRb; have Sb := hide hSb; clear hb hRb hSb
      go_wp2_with fail
      refine (one_lit rb _ _ [a, 9, 19, 4, b] _ _ _ _ (by simp) (by rfl) (by rfl) ⟨by simp, by simp⟩ (by omega) Rb.out).mono ?_
      rintro e w4 ⟨c, rfl, hc, hRc, hSc⟩
      have hcb : 0 ≤ c ∧ c ≤ 60 := by simp only [List.mem_cons, List.not_mem_nil, or_false] at hc; omega
      obtain ⟨c0, c1⟩ := hcb
      have hSS : RS rb w w4 := ((HS2.out.trans Sa.out).trans Sb.out).trans hSc
      have hOO := ownsRow_rs (ownsRow_rs (ownsRow_rs HOWN2.out Sa.out (by omega)) Sb.out (by omega)) hSc (by omega)
      have hs4 := hSS.size
      have HSS := hide hSS; have HOO := hide hOO; have HRc := hide hRc; clear hSS hOO hRc hSc hc
      go_wp2_with (at_builtin; refine wpList_app1 rfl _ _ _ rfl w.heap.size _ Try.underlying23 info_int _ _ _ _ _ (by rfl) (by rfl) HOO.out (by omega) hs4 ?_; intro v' w5 hown' hb')
      go_roundw
      case rel =>
        refine ⟨x - 1, ys ++ [1 + c], by omega, rfl, by rw [List.length_append, HK.out]; simp; omega, LenP.snoc HY.out ⟨by omega, by omega⟩, by rw [List.length_append, HK.out]; exact hown', ?_, HSS.out.from_ hb'⟩
        exact (HRc.out.below hb' hrb).mono (by rw [List.length_append, HK.out]; simp; omega)
      case measure => simp [intOf]; omega
    · have hfin : ∀ (v : Value) (zs : List Int) (W : World) (M : Nat), M ≤ N + 30 → zs.length = K → (∀ y ∈ zs, 0 ≤ y ∧ y ≤ 1000) → W.ownsRow w.heap.size 3 1 v K (zs.map (.int .i64)) → Rdr W rb M → RS rb w W → DrewL rb (N + 30) (LenP 7) w (.returned v) W := fun v zs W M hM hz hzs hO hR hS =>
        ⟨v, zs, rfl, ⟨by rw [hz]; omega, hzs⟩, by rw [hz]; exact hO, hR.mono hM, hS⟩
      have FIN := hide hfin; clear hfin
      have hex : x ≤ 0 ∨ (0 < x ∧ m ≤ (K : Int)) := by omega
      clear hxp
      have HS2 := hide hS; have HR2 := hide hR; have hsz := hS.size; have HOWN2 := hide hown; clear hS hR hown
      by_cases hK0 : 0 < K
      · have hK0' : (0 : Int) < K := by omega
        obtain ⟨g, rfl, hg1, hg2, hgc⟩ := HO5.out.2.2 hK0
        clear hgc
        rcases hex with hex | ⟨hex, hex'⟩
        all_goals
          go_wp2_with fail
          refine (pick_any rb _ 20 _ (by omega) HR2.out).mono ?_
          rintro e w2 ⟨a, rfl, ha, hRa, hSa⟩
          have Ra := hide hRa; have Sa := hide hSa; clear ha hRa hSa
          have HO2 := hide (ownsRow_rs HOWN2.out Sa.out hrb)
          by_cases hz : a = 0
          · have hd : (a == 0) = true := by simp [hz]
            clear hz
            go_wp2_with fail
            refine (one_lit rb _ _ [0, 401] _ _ _ _ (by simp) (by rfl) (by rfl) (by decide) (by omega) Ra.out).mono ?_
            rintro e w3 ⟨b, rfl, hb, hRb, hSb⟩
            have hbb : 0 ≤ b ∧ b ≤ 1000 := by simp only [List.mem_cons, List.not_mem_nil, or_false] at hb; omega
            have hO3 := ownsRow_rs HO2.out hSb hrb
            have cc := hO3.cellAt 0 (by omega)
            rw [List.getElem?_map, List.getElem?_eq_getElem (show 0 < ys.length by rw [HK.out]; exact hK0)] at cc
            simp only [Option.map_some] at cc
            have ff := hO3.frozenAt 0
            have HB := hide hbb; have HO3 := hide (hO3.stored 0 (.int .i64 b)).1; have Rb := hide hRb; have Sb := hide hSb; clear hbb hO3 hRb hSb hb
            go_wp2_with fail
            go_ret
            exact FIN.out _ (ys.set 0 b) _ (N + 1 + 3 * K + 1 + 1) (by omega) (by simp [HK.out]) (LenP.set HY.out HB.out) (by rw [List.map_set]; exact HO3.out) (Rb.out.set (by simp; omega) _) (((HS2.out.trans Sa.out).trans Sb.out).set hg1 _)
          · have hd : (a == 0) = false := by simpa using hz
            clear hz
            go_wp2_with fail
            go_ret
            exact FIN.out _ ys _ _ (by omega) HK.out HY.out HO2.out Ra.out (HS2.out.trans Sa.out)
      · have hK0' : (K : Int) ≤ 0 := by omega
        rcases hex with hex | ⟨hex, hex'⟩
        all_goals
          go_wp2_with fail
          go_ret
          exact FIN.out _ ys _ _ (by omega) HK.out HY.out HOWN2.out HR2.out HS2.out
/-- two slices of the call's own -/
def DrewL2 (rb N : Nat) (P Q : List Int → Prop) (w : World) (e : Ending) (w' : World) : Prop := ∃ v u ys zs, e = .returned (.tuple #[v, u]) ∧ P ys ∧ Q zs ∧ w'.ownsRow w.heap.size 3 1 v ys.length (ys.map (.int .i64)) ∧ w'.ownsRow w.heap.size 3 1 u zs.length (zs.map (.int .i64)) ∧ Rdr w' rb N ∧ RS rb w w'
theorem LenP.bd {M : Nat} {ys : List Int} (h : LenP M ys) : ∀ y ∈ ys, 0 ≤ y ∧ y ≤ 1000000 := fun y hy => by have := h.2 y hy; omega
theorem LenP.tot {M : Nat} {ys : List Int} (h : LenP M ys) (hM : M ≤ 100) : 0 ≤ tot ys ∧ tot ys ≤ 100000 := by
  have := tot_bd h.2
  have := h.1
  omega
theorem ownsRow_le {w : World} {b b' e size n : Nat} {v : Value} {xs : List Value} (h : w.ownsRow b e size v n xs) (hb : b' ≤ b) : w.ownsRow b' e size v n xs := by
  refine ⟨h.1, ?_⟩
  rcases h.2 with h2 | ⟨g, cap, cur, hv, hg, r⟩
  · exact .inl h2
  · exact .inr ⟨g, cap, cur, hv, by omega, r⟩
theorem ownsRow_below {w w' : World} {base e size n L : Nat} {v : Value} {xs : List Value} (h : w.ownsRow base e size v n xs) (hb : Below L w w') (hv : ∀ g, v.ownBlock = some g → g < L) : w'.ownsRow base e size v n xs := by
  refine ⟨h.1, ?_⟩
  rcases h.2 with h2 | ⟨g, cap, cur, rfl, hg, hh, r⟩
  · exact .inl h2
  · exact .inr ⟨g, cap, cur, rfl, hg, (hb.block g (hv g rfl)).trans hh, r⟩
set_option maxHeartbeats 1000000 in
theorem parentsFor_any (rb N : Nat) (m : Int) (w : World) (hN : N ≤ 90000) (h : Rdr w rb N) :
    Calls Try.prog 61 #[.pointer (some ⟨rb, 0, none⟩), .int .i64 m] w (DrewL2 rb (N + 100) (LenP 13) (LenP 7) w) := by
  have hrb := h.lt
  go_enter Try.func61, Try.ntmps61
  go_wp2_with fail
  refine (someLengths_any rb N m _ (by omega) h).mono ?_
  rintro e w1 ⟨u, zs, rfl, hzP, hzO, hR1, hS1⟩
  have s1 := hS1.size
  go_wp2_with fail
  refine (someLengths_any rb _ 8 _ (by omega) hR1).mono ?_
  rintro e w2 ⟨v0, ys0, rfl, hyP, hyO, hR2, hS2⟩
  have hzO2 := ownsRow_rs hzO hS2 hrb
  have hyO2 := hyO
  have hz6 := fun g (hg : u.ownBlock = some g) => (hzO.lt g hg).2
  have hS := hS1.trans hS2
  have HZP := hide hzP; have HYP := hide hyP; have HZO := hide hzO2; have HYO := hide hyO2; have HR2 := hide hR2; have HS2 := hide hS
  obtain ⟨A6, c6, e6, hI6, -⟩ := own_of_row hzO2
  have HZ6 := hide hz6; clear hz6
  have HS12 := hide hS2.size
  clear hzP hyP hzO hyO hzO2 hyO2 hR1 hR2 hS1 hS2 hS h hI6
  obtain ⟨Z, hZ⟩ : ∃ Z, zs.length = Z := ⟨_, rfl⟩
  rw [hZ] at e6
  have HZ := hide hZ; clear hZ
  subst e6
  obtain ⟨t1, t2⟩ := HZP.out.tot (by omega)
  go_wp2_with fail
  go_loopw [7, 8] (fun v i wr => ∃ (k : Nat) (ys : List Int), k ≤ 6 ∧ i = .int .i64 k ∧ ys.length ≤ 7 + k ∧ (∀ y ∈ ys, 0 ≤ y ∧ y ≤ 1000) ∧ wr.ownsRow w1.heap.size 3 1 v ys.length (ys.map (.int .i64)) ∧ wr.ownsRow w.heap.size 3 1 (.slice A6 Z c6) zs.length (zs.map (.int .i64)) ∧ Rdr wr rb (N + 60 + 2 * k) ∧ RS rb w wr ∧ w1.heap.size ≤ wr.heap.size) (fun _ i _ => (6 - intOf i).toNat)
  case atStart => exact ⟨0, ys0, by omega, rfl, HYP.out.1, HYP.out.2, HYO.out, HZO.out, HR2.out, HS2.out, HS12.out⟩
  case round =>
    obtain ⟨k, ys, hk, rfl, hl, hy, hown, hownz, hR, hS, hs1'⟩ := hrel
    have HY := hide hy; clear hy
    obtain ⟨K, hK⟩ : ∃ K, ys.length = K := ⟨_, rfl⟩
    obtain ⟨A5, c5, e5, hO5, hkc5⟩ := own_of_row hown
    rw [hK] at hl hown e5 hO5
    have HK := hide hK; clear hK
    subst e5
    have hI5 := hO5.ints
    obtain ⟨A6', c6', e6', hO6, -⟩ := own_of_row hownz
    injection e6' with x1 x2 x3
    subst x1 x2 x3
    have hI6 := hO6.ints
    clear hO5 hO6
    have HYL : Hid (LenP 13 ys) := ⟨by rw [HK.out]; omega, HY.out⟩
    obtain ⟨t3, t4⟩ := HYL.out.tot (by omega)
    have hs := hS.size
    have hs1 : w1.heap.size ≤ wr.heap.size := hs1'
    have HI5 := hide hI5; have HI6 := hide hI6; have HS := hide hS; have HR := hide hR; have HO := hide hown; have HOZ := hide hownz
    clear hI5 hI6 hS hR hown hownz
    have hfin : ∀ (W : World) (M : Nat), M ≤ N + 100 → W.ownsRow w1.heap.size 3 1 (.slice A5 K c5) K (ys.map (.int .i64)) → W.ownsRow w.heap.size 3 1 (.slice A6 zs.length c6) zs.length (zs.map (.int .i64)) → Rdr W rb M → RS rb w W → DrewL2 rb (N + 100) (LenP 13) (LenP 7) w (.returned (.tuple #[.slice A5 K c5, .slice A6 zs.length c6])) W := fun W M hM h1 h2 hR hS =>
      ⟨_, _, ys, zs, rfl, HYL.out, HZP.out, by rw [HK.out]; exact ownsRow_le h1 s1, h2, hR.mono hM, hS⟩
    have FIN := hide hfin; clear hfin
    by_cases hk6 : (k : Int) < 6
    · by_cases ht : tot ys < tot zs
      · go_wp2_with fail
        refine (specTotal A5 K c5 ys _ (by omega) HI5.out HYL.out.bd).mono ?_; rintro e w' ⟨rfl, rfl⟩
        go_wp2_with fail
        refine (specTotal A6 zs.length c6 zs _ (by have := HZP.out.1; omega) HI6.out HZP.out.bd).mono ?_; rintro e w' ⟨rfl, rfl⟩
        go_wp2_with fail
        refine (pick_any rb _ 8 _ (by omega) HR.out).mono ?_
        rintro e w3 ⟨a, rfl, ha, hRa, hSa⟩
        obtain ⟨a0, a1⟩ := ha.2 (by omega)
        have Ra := hide hRa; have Sa := hide hSa; clear ha hRa hSa
        have HO3 := hide (ownsRow_rs HO.out Sa.out (by omega))
        have HOZ3 := hide (ownsRow_rs HOZ.out Sa.out hrb)
        have HS3 := hide (HS.out.trans Sa.out)
        by_cases hap : 0 < a
        · go_wp2_with fail
          refine (pick_any rb _ 60 _ (by omega) Ra.out).mono ?_
          rintro e w4 ⟨b, rfl, hb, hRb, hSb⟩
          obtain ⟨b0, b1⟩ := hb.2 (by omega)
          have hs4 := (HS3.out.trans hSb).size
          have hs5 : w1.heap.size ≤ w4.heap.size := Nat.le_trans hs1 (Nat.le_trans Sa.out.size hSb.size)
          have HO4 := hide (ownsRow_rs HO3.out hSb (by omega))
          have HOZ4 := hide (ownsRow_rs HOZ3.out hSb hrb)
          have Rb := hide hRb; have HS4 := hide (HS3.out.trans hSb); clear hb hRb hSb
          go_wp2_with (at_builtin; refine wpList_app1 rfl _ _ _ rfl w1.heap.size _ Try.underlying23 info_int _ _ _ _ _ (by rfl) (by rfl) HO4.out (by omega) hs5 ?_; intro v' w5 hown' hb')
          go_roundw
          case rel =>
            refine ⟨k + 1, ys ++ [1 + b], by omega, by go_num, by rw [List.length_append, HK.out]; simp; omega, LenP.snoc HY.out ⟨by omega, by omega⟩, by rw [List.length_append, HK.out]; exact hown', ?_, ?_, HS4.out.from_ (hb'.mono s1), Nat.le_trans hs5 hb'.size⟩
            · exact ownsRow_below HOZ4.out hb' HZ6.out
            · exact (Rb.out.below hb' (by omega)).mono (by omega)
          case measure => simp [intOf]; omega
        · have hap' : a ≤ 0 := by omega
          go_wp2_with fail
          go_ret2
          exact FIN.out _ _ (by omega) HO3.out HOZ3.out Ra.out HS3.out
      · have ht' : tot zs ≤ tot ys := by omega
        go_wp2_with fail
        refine (specTotal A5 K c5 ys _ (by omega) HI5.out HYL.out.bd).mono ?_; rintro e w' ⟨rfl, rfl⟩
        go_wp2_with fail
        refine (specTotal A6 zs.length c6 zs _ (by have := HZP.out.1; omega) HI6.out HZP.out.bd).mono ?_; rintro e w' ⟨rfl, rfl⟩
        go_wp2_with fail
        go_ret2
        exact FIN.out _ _ (by omega) HO.out HOZ.out HR.out HS.out
    · have hk6' : (6 : Int) ≤ k := by omega
      go_wp2_with fail
      go_ret2
      exact FIN.out _ _ (by omega) HO.out HOZ.out HR.out HS.out
end Go.Proofs.Ytkmogpeiolkpbaa
