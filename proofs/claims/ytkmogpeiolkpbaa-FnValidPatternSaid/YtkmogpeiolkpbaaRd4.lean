/- Contracts of drawn knives. -/
import Derived.Test.YtkmogpeiolkpbaaRd3
namespace Go.Proofs.Ytkmogpeiolkpbaa
open Go.RowKit
set_option linter.unusedVariables false
set_option maxRecDepth 100000
def KnP (M : Nat) (ys : List Int) : Prop := ys.length ≤ M ∧ ∀ y ∈ ys, -1 ≤ y ∧ y ≤ 1000
theorem KnP.snoc {ys : List Int} {x : Int} (h : ∀ y ∈ ys, -1 ≤ y ∧ y ≤ 1000) (hx : -1 ≤ x ∧ x ≤ 1000) : ∀ y ∈ ys ++ [x], -1 ≤ y ∧ y ≤ 1000 := by
  intro y hy
  rcases List.mem_append.1 hy with hy | hy
  · exact h y hy
  · simp only [List.mem_singleton] at hy; subst hy; exact hx
theorem KnP.set {ys : List Int} {x : Int} {k : Nat} (h : ∀ y ∈ ys, -1 ≤ y ∧ y ≤ 1000) (hx : -1 ≤ x ∧ x ≤ 1000) : ∀ y ∈ ys.set k x, -1 ≤ y ∧ y ≤ 1000 := by
  intro y hy
  rcases List.mem_or_eq_of_mem_set hy with hy | hy
  · exact h y hy
  · subst hy; exact hx
set_option maxHeartbeats 1000000 in
theorem someKnives_any (rb N : Nat) (w : World) (hN : N ≤ 100000) (h : Rdr w rb N) :
    Calls Try.prog 74 #[.pointer (some ⟨rb, 0, none⟩)] w (DrewL rb (N + 20) (KnP 7) w) := by
  have hrb := h.lt
  go_enter Try.func74, Try.ntmps74
  go_wp2_with fail
  refine (one_arr rb N _ _ _ _ _ (by simp) (by rfl) (by simp) (by simp) (by omega) (h.alloc _)).mono ?_
  rintro e w1 ⟨x0, rfl, hx0, hR1, hS1⟩
  have hx : 0 ≤ x0 ∧ x0 ≤ 7 := by simp at hx0; omega
  have hS := (RS.alloc (RS.refl rb w) (.cells #[] 3)).trans hS1
  have hown : w1.ownsRow w.heap.size 3 1 (.slice (some ⟨w.heap.size, 0, none⟩) 0 0) 0 (([] : List Int).map (.int .i64)) := ownsRow_rs (own_empty_row (Nat.le_refl _)) hS1 (by omega)
  obtain ⟨hx1, hx2⟩ := hx
  have HOWN := hide hown; have HS := hide hS; have HR1 := hide hR1
  clear hx0 hown hS hS1 hR1 h
  go_wp2_with fail
  go_loopw [3, 4, 5] (fun v t i wr => ∃ (x y : Int) (ys : List Int), 0 ≤ x ∧ i = .int .i64 x ∧ (ys.length : Int) + x ≤ 7 ∧ 0 ≤ y ∧ y ≤ 8 * ys.length ∧ t = .int .i64 y ∧ (∀ y ∈ ys, -1 ≤ y ∧ y ≤ 1000) ∧ wr.ownsRow w.heap.size 3 1 v ys.length (ys.map (.int .i64)) ∧ Rdr wr rb (N + 1 + ys.length) ∧ RS rb w wr) (fun _ _ i _ => (intOf i).toNat)
  case atStart => exact ⟨x0, 0, [], hx1, rfl, by simp; omega, by omega, by simp, rfl, fun y hy => by simp at hy, HOWN.out, HR1.out, HS.out⟩
  case round =>
    obtain ⟨x, y, ys, hx, rfl, hlen, hy0, hy1, rfl, hys, hown, hR, hS⟩ := hrel
    have HY := hide hys; clear hys
    obtain ⟨K, hK⟩ : ∃ K, ys.length = K := ⟨_, rfl⟩
    rw [hK] at hlen hown hR hy1
    have HK := hide hK; clear hK
    by_cases hx0 : 0 < x
    · have hsz := hS.size
      have HOWN2 := hide hown; have HS2 := hide hS; have HR2 := hide hR; clear hown hS hR
      go_wp2_with (at_builtin; refine wpList_app1 rfl _ _ _ rfl w.heap.size _ Try.underlying23 info_int _ _ _ _ _ (by rfl) (by rfl) HOWN2.out (by omega) hsz ?_; intro v' w2 hown' hb')
      have hR3 := HR2.out.below hb' hrb
      have hS3 := HS2.out.from_ hb'
      have HOWN3 := hide hown'; have HS3 := hide hS3; have HR3 := hide hR3; clear hown' hb' hR3 hS3
      refine (pick_any rb _ 8 _ (by omega) HR3.out).mono ?_
      rintro e w3 ⟨b, rfl, hb, hRb, hSb⟩
      obtain ⟨b0, b1⟩ := hb.2 (by omega)
      have HOWN4 := hide (ownsRow_rs HOWN3.out hSb hrb); have HR4 := hide hRb; have HS4 := hide (HS3.out.trans hSb); clear hb hRb hSb
      go_wp2_with fail
      go_roundw
      case rel =>
        refine ⟨x - 1, y + 1 + b, ys ++ [y], by omega, rfl, by rw [List.length_append, HK.out]; simp; omega, by omega, by rw [List.length_append, HK.out]; simp; omega, rfl, KnP.snoc HY.out ⟨by omega, by omega⟩, by rw [List.length_append, HK.out]; exact HOWN4.out, ?_, HS4.out⟩
        exact HR4.out.mono (by rw [List.length_append, HK.out]; simp; omega)
      case measure => simp [intOf]; omega
    · have hx0' : x ≤ 0 := by omega
      go_wp2_with fail
      go_ret
      exact ⟨_, ys, rfl, ⟨by rw [HK.out]; omega, HY.out⟩, by rw [HK.out]; exact hown, hR.mono (by omega), hS⟩
set_option maxHeartbeats 1000000 in
theorem anyKnives_any (rb N : Nat) (w : World) (hN : N ≤ 100000) (h : Rdr w rb N) :
    Calls Try.prog 58 #[.pointer (some ⟨rb, 0, none⟩)] w (DrewL rb (N + 30) (KnP 7) w) := by
  have hrb := h.lt
  go_enter Try.func58, Try.ntmps58
  go_wp2_with fail
  refine (someKnives_any rb N _ hN h).mono ?_
  rintro e w1 ⟨v, ys, rfl, hP, hO, hR, hS⟩
  obtain ⟨K, hK⟩ : ∃ K, ys.length = K := ⟨_, rfl⟩
  rw [hK] at hO
  obtain ⟨A5, c5, rfl, hO5, hkc5⟩ := own_of_row hO
  have hK7 : K ≤ 7 := by have := hP.1; omega
  have HK := hide hK; have HY := hide hP.2; have HO := hide hO; have HO5 := hide hO5; have HR := hide hR; have HS := hide hS
  clear hK hP hO hO5 hR hS h
  have hfin : ∀ (v : Value) (zs : List Int) (W : World) (M : Nat), M ≤ N + 30 → zs.length = K → (∀ y ∈ zs, -1 ≤ y ∧ y ≤ 1000) → W.ownsRow w.heap.size 3 1 v K (zs.map (.int .i64)) → Rdr W rb M → RS rb w W → DrewL rb (N + 30) (KnP 7) w (.returned v) W := fun v zs W M hM hz hzs hO hR hS =>
    ⟨v, zs, rfl, ⟨by rw [hz]; omega, hzs⟩, by rw [hz]; exact hO, hR.mono hM, hS⟩
  have FIN := hide hfin; clear hfin
  by_cases hK0 : 0 < K
  · have hK0' : (0 : Int) < K := by omega
    obtain ⟨g, rfl, hg1, hg2, hgc⟩ := HO5.out.2.2 hK0
    clear hgc
    go_wp2_with fail
    refine (pick_any rb _ 16 _ (by omega) HR.out).mono ?_
    rintro e w2 ⟨a, rfl, ha, hRa, hSa⟩
    have Ra := hide hRa; have Sa := hide hSa; clear ha hRa hSa
    have HO2 := hide (ownsRow_rs HO.out Sa.out hrb)
    by_cases hz : a = 0
    · have hd : (a == 0) = true := by simp [hz]
      clear hz
      go_wp2_with fail
      refine (one_arr rb _ _ _ _ _ _ (by simp) (by rfl) (by simp) (by simp) (by omega) Ra.out).mono ?_
      rintro e w3 ⟨b, rfl, hb, hRb, hSb⟩
      have hbb : -1 ≤ b ∧ b ≤ 1000 := by simp at hb; omega
      have hO3 := ownsRow_rs HO2.out hSb hrb
      have cc := hO3.cellAt 0 (by omega)
      rw [List.getElem?_map, List.getElem?_eq_getElem (show 0 < ys.length by rw [HK.out]; exact hK0)] at cc
      simp only [Option.map_some] at cc
      have ff := hO3.frozenAt 0
      have HB := hide hbb; have HO3 := hide (hO3.stored 0 (.int .i64 b)).1; have Rb := hide hRb; have Sb := hide hSb; clear hbb hO3 hRb hSb hb
      go_wp2_with fail
      go_ret
      exact FIN.out _ (ys.set 0 b) _ (N + 20 + 1 + 1) (by omega) (by simp [HK.out]) (KnP.set HY.out HB.out) (by rw [List.map_set]; exact HO3.out) (Rb.out.set (by simp; omega) _) (((HS.out.trans Sa.out).trans Sb.out).set hg1 _)
    · have hd : (a == 0) = false := by simpa using hz
      clear hz
      go_wp2_with fail
      go_ret
      exact FIN.out _ ys _ _ (by omega) HK.out HY.out HO2.out Ra.out (HS.out.trans Sa.out)
  · have hK0' : (K : Int) ≤ 0 := by omega
    go_wp2_with fail
    go_ret
    exact FIN.out _ ys _ _ (by omega) HK.out HY.out HO.out HR.out HS.out
theorem drawValidKnives_any (A : Option Addr) (n c : Nat) (bs : List Int) (w : World) (hn : n ≤ 1048576) (hnc : n ≤ c) (h : Byts w A n bs) : Calls Try.prog 24 #[.slice A n c] w (GotL (KnP 7) w) := by
  go_enter Try.func24, Try.ntmps24
  go_wp2_with fail
  refine (newReader_b A n c bs _ hn hnc h).mono ?_; rintro e w1 ⟨rfl, hR, hb, hz⟩
  have HZ := hide hz; clear hz
  go_wp2_with fail
  refine (anyKnives_any _ 0 _ (by omega) hR).mono ?_; rintro e w2 ⟨v, ys, rfl, hP, hO, hR2, hS⟩
  have HG := hide (gotL_of hb HZ.out ⟨v, ys, rfl, hP, hO, hR2, hS⟩)
  clear hP hO hR2 hS hR hb h
  go_wp2_with fail
  go_ret
  exact HG.out
def GotL2 (P Q : List Int → Prop) (w : World) (e : Ending) (w' : World) : Prop := ∃ v u ys zs, e = .returned (.tuple #[v, u]) ∧ P ys ∧ Q zs ∧ w'.ownsRow w.heap.size 3 1 v ys.length (ys.map (.int .i64)) ∧ w'.ownsRow w.heap.size 3 1 u zs.length (zs.map (.int .i64)) ∧ Below w.heap.size w w'
theorem drawMoveKnives_any (A : Option Addr) (n c : Nat) (bs : List Int) (w : World) (hn : n ≤ 1048576) (hnc : n ≤ c) (h : Byts w A n bs) : Calls Try.prog 46 #[.slice A n c] w (GotL2 (KnP 7) (KnP 7) w) := by
  go_enter Try.func46, Try.ntmps46
  go_wp2_with fail
  refine (newReader_b A n c bs _ hn hnc h).mono ?_; rintro e w1 ⟨rfl, hR, hb, hz⟩
  have hz' : w.heap.size < w1.heap.size := by omega
  have HZ := hide hz; clear hz
  go_wp2_with fail
  refine (anyKnives_any _ 0 _ (by omega) hR).mono ?_; rintro e w2 ⟨v, ys, rfl, hP, hO, hR2, hS⟩
  have HP := hide hP; have HO := hide hO; have HR2 := hide hR2; have HS := hide hS; have HB := hide hb; have hs2 := hS.size; clear hP hO hR2 hS hb hR h
  go_wp2_with fail
  refine (anyKnives_any _ _ _ (by omega) HR2.out).mono ?_; rintro e w3 ⟨u, zs, rfl, hQ, hU, hR3, hS3⟩
  have HF : Hid (GotL2 (KnP 7) (KnP 7) w (.returned (.tuple #[v, u])) w3) :=
    ⟨v, u, ys, zs, rfl, HP.out, hQ, ownsRow_le (ownsRow_rs HO.out hS3 hz') (by omega), ownsRow_le hU (by omega), HB.out.trans ((HS.out.trans hS3).below (Nat.le_refl _) hz')⟩
  clear hQ hU hR3 hS3
  go_wp2_with fail
  go_ret2
  exact HF.out
def GotLI (P : List Int → Prop) (w : World) (e : Ending) (w' : World) : Prop := ∃ v ys s, e = .returned (.tuple #[v, .int .i64 s]) ∧ P ys ∧ -2 ≤ s ∧ s ≤ 10000 ∧ w'.ownsRow w.heap.size 3 1 v ys.length (ys.map (.int .i64)) ∧ Below w.heap.size w w'
theorem drawMirrorKnives_any (A : Option Addr) (n c : Nat) (bs : List Int) (w : World) (hn : n ≤ 1048576) (hnc : n ≤ c) (h : Byts w A n bs) : Calls Try.prog 42 #[.slice A n c] w (GotLI (KnP 7) w) := by
  go_enter Try.func42, Try.ntmps42
  go_wp2_with fail
  refine (newReader_b A n c bs _ hn hnc h).mono ?_; rintro e w1 ⟨rfl, hR, hb, hz⟩
  have hz' : w.heap.size < w1.heap.size := by omega
  have HZ := hide hz; clear hz
  go_wp2_with fail
  refine (anyKnives_any _ 0 _ (by omega) hR).mono ?_; rintro e w2 ⟨v, ys, rfl, hP, hO, hR2, hS⟩
  obtain ⟨K, hK⟩ : ∃ K, ys.length = K := ⟨_, rfl⟩
  rw [hK] at hO
  obtain ⟨A5, c5, rfl, hO5, -⟩ := own_of_row hO
  have hK7 : K ≤ 7 := by have := hP.1; omega
  have HP := hide hP; have HO := hide hO; have HI := hide hO5.ints; have HR2 := hide hR2; have HS := hide hS; have HB := hide hb; have HK := hide hK; clear hP hO hO5 hR2 hS hb hR h hK
  by_cases hK0 : 0 < K
  · obtain ⟨l, hl⟩ : ∃ l : Nat, (K : Int) - 1 = l := ⟨K - 1, by omega⟩
    have hlK : l < K := by omega
    obtain ⟨ad, rfl, -, hc⟩ := HI.out.2 l hlK
    obtain ⟨y0, y1⟩ := HP.out.2 _ (nth_mem (k := l) (by rw [HK.out]; exact hlK))
    have hK0' : (0 : Int) < K := by omega
    go_wp2_with fail
    refine (one_arr _ _ _ _ _ _ _ (by simp) (by rfl) (by simp) (by simp) (by omega) HR2.out).mono ?_
    rintro e w3 ⟨b, rfl, hb, hRb, hSb⟩
    have hbb : -2 ≤ b ∧ b ≤ 10000 := by simp at hb; omega
    have HF : Hid (GotLI (KnP 7) w (.returned (.tuple #[.slice (some ad) K c5, .int .i64 b])) w3) :=
      ⟨_, ys, b, rfl, HP.out, hbb.1, hbb.2, by rw [HK.out]; exact ownsRow_le (ownsRow_rs HO.out hSb hz') (by omega), HB.out.trans ((HS.out.trans hSb).below (Nat.le_refl _) hz')⟩
    clear hb hRb hSb hbb
    go_wp2_with fail
    go_ret2
    exact HF.out
  · have hK0' : (K : Int) ≤ 0 := by omega
    go_wp2_with fail
    refine (one_arr _ _ _ _ _ _ _ (by simp) (by rfl) (by simp) (by simp) (by omega) HR2.out).mono ?_
    rintro e w3 ⟨b, rfl, hb, hRb, hSb⟩
    have hbb : -2 ≤ b ∧ b ≤ 10000 := by simp at hb; omega
    have HF : Hid (GotLI (KnP 7) w (.returned (.tuple #[.slice A5 K c5, .int .i64 b])) w3) :=
      ⟨_, ys, b, rfl, HP.out, hbb.1, hbb.2, by rw [HK.out]; exact ownsRow_le (ownsRow_rs HO.out hSb hz') (by omega), HB.out.trans ((HS.out.trans hSb).below (Nat.le_refl _) hz')⟩
    clear hb hRb hSb hbb
    go_wp2_with fail
    go_ret2
    exact HF.out
end Go.Proofs.Ytkmogpeiolkpbaa
