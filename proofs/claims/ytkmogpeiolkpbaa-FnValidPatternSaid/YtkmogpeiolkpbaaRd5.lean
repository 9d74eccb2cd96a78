/- Contracts of drawn widths and wants. -/
import Derived.Test.YtkmogpeiolkpbaaRd4
import Derived.Test.YtkmogpeiolkpbaaInt5
namespace Go.Proofs.Ytkmogpeiolkpbaa
open Go.RowKit
set_option linter.unusedVariables false
set_option maxRecDepth 100000
theorem cell_zero0 {w : World} {ad : Addr} {x : Option Value} (h : w.cell? (ad.add 0) = x) : w.cell? ad = x := by simpa [Addr.add] using h
def BdL (lo hi : Int) (ys : List Int) : Prop := ∀ y ∈ ys, lo ≤ y ∧ y ≤ hi
theorem BdL.nil {lo hi : Int} : BdL lo hi [] := fun y hy => by simp at hy
theorem BdL.snoc {lo hi : Int} {ys : List Int} {x : Int} (h : BdL lo hi ys) (hx : lo ≤ x ∧ x ≤ hi) : BdL lo hi (ys ++ [x]) := by
  intro y hy
  rcases List.mem_append.1 hy with hy | hy
  · exact h y hy
  · simp only [List.mem_singleton] at hy; subst hy; exact hx
theorem BdL.set {lo hi : Int} {ys : List Int} {x : Int} {k : Nat} (h : BdL lo hi ys) (hx : lo ≤ x ∧ x ≤ hi) : BdL lo hi (ys.set k x) := by
  intro y hy
  rcases List.mem_or_eq_of_mem_set hy with hy | hy
  · exact h y hy
  · subst hy; exact hx
def DrewIL (rb N : Nat) (P : Int → List Int → Prop) (w : World) (e : Ending) (w' : World) : Prop := ∃ s v ys, e = .returned (.tuple #[.int .i64 s, v]) ∧ P s ys ∧ w'.ownsRow w.heap.size 3 1 v ys.length (ys.map (.int .i64)) ∧ Rdr w' rb N ∧ RS rb w w'
def WdS (s : Int) (ys : List Int) : Prop := 7 ≤ s ∧ s ≤ 24 ∧ 1 ≤ ys.length ∧ ys.length ≤ 4 ∧ BdL 0 62 ys
def WdP (s : Int) (ys : List Int) : Prop := 0 ≤ s ∧ s ≤ 61 ∧ ys.length ≤ 5 ∧ BdL 0 62 ys
set_option maxHeartbeats 1000000 in
theorem someWidths_any (rb N : Nat) (w : World) (hN : N ≤ 100000) (h : Rdr w rb N) :
    Calls Try.prog 75 #[.pointer (some ⟨rb, 0, none⟩)] w (DrewIL rb (N + 6) WdS w) := by
  have hrb := h.lt
  go_enter Try.func75, Try.ntmps75
  go_wp2_with fail
  refine (one_arr rb N _ _ _ _ _ (by simp) (by rfl) (by simp) (by simp) (by omega) h).mono ?_
  rintro e w1 ⟨s, rfl, hs, hR1, hS1⟩
  have hs' : 7 ≤ s ∧ s ≤ 24 := by simp at hs; omega
  obtain ⟨s0, s1⟩ := hs'
  have HS1 := hide hS1; have HR1 := hide hR1; clear hs hS1 hR1
  have hz1 := HS1.out.size
  go_wp2_with fail
  refine (one_arr rb (N + 1) _ _ _ _ _ (by simp) (by rfl) (by simp) (by simp) (by omega) (HR1.out.alloc _)).mono ?_
  rintro e w2 ⟨x0, rfl, hx0, hR2, hS2⟩
  have hx : 1 ≤ x0 ∧ x0 ≤ 4 := by simp at hx0; omega
  have hS := HS1.out.trans ((RS.alloc (RS.refl rb w1) (.cells #[] 3)).trans hS2)
  have hown : w2.ownsRow w.heap.size 3 1 (.slice (some ⟨w1.heap.size, 0, none⟩) 0 0) 0 (([] : List Int).map (.int .i64)) := ownsRow_le (ownsRow_rs (own_empty_row (Nat.le_refl _)) hS2 (by omega)) (by omega)
  obtain ⟨hx1, hx2⟩ := hx
  have HOWN := hide hown; have HS := hide hS; have HR := hide hR2
  clear hx0 hown hS hS2 hR2 h HS1 HR1
  go_wp2_with fail
  go_loopw [5, 6] (fun v i wr => ∃ (x : Int) (q : Nat) (ys : List Int), 0 ≤ x ∧ i = .int .i64 x ∧ (ys.length : Int) + x ≤ 4 ∧ (q : Int) + x ≤ 4 ∧ (1 ≤ x ∨ 1 ≤ ys.length) ∧ BdL 0 62 ys ∧ wr.ownsRow w.heap.size 3 1 v ys.length (ys.map (.int .i64)) ∧ Rdr wr rb (N + 2 + q) ∧ RS rb w wr) (fun _ i _ => (intOf i).toNat)
  case atStart => exact ⟨x0, 0, [], by omega, rfl, by simp; omega, by omega, by omega, BdL.nil, HOWN.out, HR.out, HS.out⟩
  case round =>
    obtain ⟨x, q, ys, hx, rfl, hlen, hq, hne, hys, hown, hR, hS⟩ := hrel
    have HY := hide hys; clear hys
    obtain ⟨K, hK⟩ : ∃ K, ys.length = K := ⟨_, rfl⟩
    rw [hK] at hlen hown hne
    have HK := hide hK; clear hK
    by_cases hx0 : 0 < x
    · clear hne
      have HOWN2 := hide hown; have HS2 := hide hS; have HR2 := hide hR; clear hown hS hR
      go_wp2_with fail
      refine (pick_any rb _ (s - 1) _ (by omega) HR2.out).mono ?_
      rintro e w3 ⟨b, rfl, hb, hRb, hSb⟩
      obtain ⟨b0, b1⟩ := hb.2 (by omega)
      have hown3 := ownsRow_rs HOWN2.out hSb hrb
      have HOWN3 := hide hown3; have HR3 := hide hRb; have HS3 := hide (HS2.out.trans hSb); clear hb hRb hSb
      obtain ⟨A5, c5, rfl, hO5, hc5⟩ := own_of_row hown3
      have HI5 := hide hO5.ints; clear hO5 hown3
      have hsz := HS3.out.size
      go_wp2_with fail
      refine (placeIn_any A5 K c5 ys (2 + b) _ (by omega) HI5.out).mono ?_; rintro e w' ⟨rfl, rfl⟩
      rcases (show pIn ys (2 + b) < 0 ∨ 0 ≤ pIn ys (2 + b) by omega) with hp | hp
      · go_wp2_with (at_builtin; refine wpList_app1 rfl _ _ _ rfl w.heap.size _ Try.underlying23 info_int _ _ _ _ _ (by rfl) (by rfl) HOWN3.out (by omega) hsz ?_; intro v' w4 hown' hb')
        have hR4 := HR3.out.below hb' hrb
        have hS4 := HS3.out.from_ hb'
        have HOWN4 := hide hown'; have HS4 := hide hS4; have HR4 := hide hR4; clear hown' hb' hR4 hS4
        go_roundw
        case rel =>
          exact ⟨x - 1, q + 1, ys ++ [2 + b], by omega, rfl, by rw [List.length_append, HK.out]; simp; omega, by omega, by right; simp, HY.out.snoc ⟨by omega, by omega⟩, by rw [List.length_append, HK.out]; exact HOWN4.out, HR4.out, HS4.out⟩
        case measure => simp [intOf]; omega
      · have hm : 1 ≤ ys.length := by have := pIn_nonneg.1 hp; exact List.length_pos_of_mem this
        have HM := hide hm; clear hm
        go_wp2_with fail
        go_roundw
        case rel => exact ⟨x - 1, q + 1, ys, by omega, rfl, by rw [HK.out]; omega, by omega, Or.inr HM.out, HY.out, by rw [HK.out]; exact HOWN3.out, HR3.out, HS3.out⟩
        case measure => simp [intOf]; omega
    · have hx0' : x ≤ 0 := by omega
      have hF : DrewIL rb (N + 6) WdS w (.returned (.tuple #[.int .i64 s, _])) _ := ⟨s, _, ys, rfl, ⟨s0, s1, by rw [HK.out]; omega, by rw [HK.out]; omega, HY.out⟩, by rw [HK.out]; exact hown, hR.mono (by omega), hS⟩
      have HF := hide hF; clear hF
      go_wp2_with fail
      go_ret2
      exact HF.out
set_option maxHeartbeats 1000000 in
theorem anyWidths_any (rb N : Nat) (w : World) (hN : N ≤ 100000) (h : Rdr w rb N) :
    Calls Try.prog 65 #[.pointer (some ⟨rb, 0, none⟩)] w (DrewIL rb (N + 10) WdP w) := by
  have hrb := h.lt
  go_enter Try.func65, Try.ntmps65
  go_wp2_with fail
  refine (someWidths_any rb N _ hN h).mono ?_
  rintro e w1 ⟨s, v, ys, rfl, ⟨s0, s1, l0, l1, hY⟩, hO, hR, hS⟩
  obtain ⟨K, hK⟩ : ∃ K, ys.length = K := ⟨_, rfl⟩
  rw [hK] at hO l0 l1
  have HK := hide hK; have HY := hide hY; have HO := hide hO; have HR := hide hR; have HS := hide hS
  obtain ⟨A5, c5, rfl, hO5, hc5⟩ := own_of_row hO
  have HI5 := hide hO5.ints
  clear hK hY hO hR hS h hO5
  go_wp2_with fail
  refine (pick_any rb _ 20 _ (by omega) HR.out).mono ?_
  rintro e w2 ⟨a, rfl, ha, hRa, hSa⟩
  obtain ⟨a0, a1⟩ := ha.2 (by omega)
  have HI6 := hide ((own_of_row (ownsRow_rs HO.out hSa hrb)).choose_spec.choose_spec)
  have HO2 := hide (ownsRow_rs HO.out hSa hrb); have HRa := hide hRa; have HSa := hide (HS.out.trans hSa); clear ha hRa hSa HO HR HS HI5 HI6
  have hfin : ∀ (t : Int) (v : Value) (zs : List Int) (W : World) (M : Nat), M ≤ N + 10 → 0 ≤ t → t ≤ 61 → zs.length ≤ 5 → BdL 0 62 zs → W.ownsRow w.heap.size 3 1 v zs.length (zs.map (.int .i64)) → Rdr W rb M → RS rb w W → DrewIL rb (N + 10) WdP w (.returned (.tuple #[.int .i64 t, v])) W := fun t v zs W M hM h1 h2 hz hzs hO hR hS =>
    ⟨t, v, zs, rfl, ⟨h1, h2, hz, hzs⟩, hO, hR.mono hM, hS⟩
  have FIN := hide hfin; clear hfin
  rcases (show a = 0 ∨ a = 1 ∨ a = 2 ∨ 2 < a by omega) with rfl | rfl | rfl | hz
  · obtain ⟨A', c', e', hO5, -⟩ := own_of_row HO2.out
    injection e' with e1 e2 e3; subst e1 e3; clear e2
    obtain ⟨ad, rfl, -, hc⟩ := hO5.ints.2 0 (by omega)
    have hc0 := cell_zero0 hc
    obtain ⟨y0, y1⟩ := HY.out _ (nth_mem (k := 0) (by rw [HK.out]; omega))
    clear hO5 hc
    go_wp2_with fail
    refine (one_arr rb _ _ _ _ _ _ (by simp) (by rfl) (by simp) (by simp) (by omega) HRa.out).mono ?_
    rintro e w3 ⟨b, rfl, hb, hRb, hSb⟩
    have hbb : 0 ≤ b ∧ b ≤ 62 := by simp at hb; omega
    have HB := hide hbb
    have HO3 := hide (ownsRow_rs HO2.out hSb hrb); have HRb := hide hRb; have HSb := hide (HSa.out.trans hSb); clear hb hRb hSb hbb
    have hsz := HSb.out.size
    go_wp2_with (at_builtin; refine wpList_app1 rfl _ _ _ rfl w.heap.size _ Try.underlying23 info_int _ _ _ _ _ (by rfl) (by rfl) HO3.out (by omega) hsz ?_; intro v' w4 hown' hb')
    have HF := hide (FIN.out s v' (ys ++ [b]) w4 _ (by omega) (by omega) (by omega) (by rw [List.length_append, HK.out]; simp; omega) (HY.out.snoc HB.out) (by rw [List.length_append, HK.out]; exact hown') (HRb.out.below hb' hrb) (HSb.out.from_ hb'))
    clear hown' hb'
    go_wp2_with fail
    go_ret2
    exact HF.out
  · go_wp2_with fail
    refine (one_arr rb _ _ _ _ _ _ (by simp) (by rfl) (by simp) (by simp) (by omega) HRa.out).mono ?_
    rintro e w3 ⟨b, rfl, hb, hRb, hSb⟩
    have hbb : 0 ≤ b ∧ b ≤ 61 := by simp at hb; omega
    have HF := hide (FIN.out b _ ys w3 _ (by omega) hbb.1 hbb.2 (by rw [HK.out]; omega) HY.out (by rw [HK.out]; exact ownsRow_rs HO2.out hSb hrb) hRb (HSa.out.trans hSb))
    clear hb hRb hSb hbb
    go_wp2_with fail
    go_ret2
    exact HF.out
  · have HF := hide (FIN.out s (.slice none 0 0) [] w2 _ (by omega) (by omega) (by omega) (by simp) BdL.nil ⟨rfl, Or.inl ⟨rfl, rfl⟩⟩ HRa.out HSa.out)
    go_wp2_with fail
    go_ret2
    exact HF.out
  · have d0 : (a == 0) = false := by simp; omega
    have d1 : (a == 1) = false := by simp; omega
    have d2 : (a == 2) = false := by simp; omega
    have HF := hide (FIN.out s _ ys w2 _ (by omega) (by omega) (by omega) (by rw [HK.out]; omega) HY.out (by rw [HK.out]; exact HO2.out) HRa.out HSa.out)
    go_wp2_with fail
    go_ret2
    exact HF.out
end Go.Proofs.Ytkmogpeiolkpbaa
