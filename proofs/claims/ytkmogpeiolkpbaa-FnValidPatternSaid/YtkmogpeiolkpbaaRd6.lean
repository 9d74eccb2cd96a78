/- Contracts of drawn widths and wants, second part. -/
import Derived.Test.YtkmogpeiolkpbaaRd5
namespace Go.Proofs.Ytkmogpeiolkpbaa
open Go.RowKit
set_option linter.unusedVariables false
set_option maxRecDepth 100000
def GotIL (P : Int → List Int → Prop) (w : World) (e : Ending) (w' : World) : Prop := ∃ s v ys, e = .returned (.tuple #[.int .i64 s, v]) ∧ P s ys ∧ w'.ownsRow w.heap.size 3 1 v ys.length (ys.map (.int .i64)) ∧ Below w.heap.size w w'
theorem drawValidWidths_any (A : Option Addr) (n c : Nat) (bs : List Int) (w : World) (hn : n ≤ 1048576) (hnc : n ≤ c) (h : Byts w A n bs) : Calls Try.prog 33 #[.slice A n c] w (GotIL WdP w) := by
  go_enter Try.func33, Try.ntmps33
  go_wp2_with fail
  refine (newReader_b A n c bs _ hn hnc h).mono ?_; rintro e w1 ⟨rfl, hR, hb, hz⟩
  have hz' : w.heap.size < w1.heap.size := by omega
  have HZ := hide hz; clear hz
  go_wp2_with fail
  refine (anyWidths_any _ 0 _ (by omega) hR).mono ?_; rintro e w2 ⟨s, v, ys, rfl, hP, hO, hR2, hS⟩
  have HF : Hid (GotIL WdP w (.returned (.tuple #[.int .i64 s, v])) w2) :=
    ⟨s, v, ys, rfl, hP, ownsRow_le hO (by omega), hb.trans (hS.below (Nat.le_refl _) hz')⟩
  clear hP hO hR2 hS hR hb h
  go_wp2_with fail
  go_ret2
  exact HF.out
set_option maxHeartbeats 1000000 in
theorem someWants_any (rb N n c : Nat) (A : Option Addr) (ws : List Int) (w : World) (hN : N ≤ 100000) (hn : n ≤ 5) (h : Rdr w rb N) (hI : Ints w A n ws) :
    Calls Try.prog 68 #[.pointer (some ⟨rb, 0, none⟩), .slice A n c, .int .i64 60] w (DrewL rb (N + 12) (fun ys => ys.length = n ∧ BdL (-1) 60 ys) w) := by
  have hrb := h.lt
  go_enter Try.func68, Try.ntmps68
  go_wp2_with fail
  go_loopw [2, 7, 8] (fun t v i wr => ∃ (k : Nat) (y : Int) (ys : List Int), k ≤ n ∧ i = .int .i64 k ∧ t = .int .i64 y ∧ 0 ≤ y ∧ y ≤ 60 ∧ ys.length = k ∧ BdL (-1) 60 ys ∧ wr.ownsRow w.heap.size 3 1 v k (ys.map (.int .i64)) ∧ Rdr wr rb (N + 2 * k) ∧ RS rb w wr) (fun _ _ i _ => n - (intOf i).toNat)
  case atStart => exact ⟨0, 60, [], by omega, rfl, rfl, by omega, by omega, rfl, BdL.nil, own_empty_row (Nat.le_refl _), h.alloc _, (RS.refl rb w).alloc _⟩
  case round =>
    obtain ⟨k, y, ys, hk, rfl, rfl, hy0, hy1, hK, hys, hown, hR, hS⟩ := hrel
    have HY := hide hys; have HK := hide hK; have HOWN := hide hown; have HR := hide hR; have HS := hide hS; clear hys hK hown hR hS
    by_cases hlt : k < n
    · go_wp2_with fail
      refine (pick_any rb _ 6 _ (by omega) HR.out).mono ?_
      rintro e w2 ⟨a, rfl, ha, hRa, hSa⟩
      obtain ⟨a0, a1⟩ := ha.2 (by omega)
      have HOWN2 := hide (ownsRow_rs HOWN.out hSa hrb); have HRa := hide hRa; have HSa := hide (HS.out.trans hSa); clear ha hRa hSa
      go_wp2_with fail
      refine (one_arr rb _ _ _ _ _ _ (by simp) (by rfl) (by simp) (by simp) (by omega) HRa.out).mono ?_
      rintro e w3 ⟨b, rfl, hb, hRb, hSb⟩
      have hbb : 0 ≤ b ∧ b ≤ 6 := by simp at hb; omega
      obtain ⟨b0, b1⟩ := hbb
      have HOWN3 := hide (ownsRow_rs HOWN2.out hSb hrb); have HRb := hide hRb; have HSb := hide (HSa.out.trans hSb); clear hb hRb hSb
      have hsz := HSb.out.size
      rcases (show y < b ∨ b ≤ y by omega) with hyb | hyb
      · go_wp2_with (at_builtin; refine wpList_app1 rfl _ _ _ rfl w.heap.size _ Try.underlying23 info_int _ _ _ _ _ (by rfl) (by rfl) HOWN3.out (by omega) hsz ?_; intro v' w4 hown' hb')
        have HO4 := hide hown'; have HR4 := hide (HRb.out.below hb' hrb); have HS4 := hide (HSb.out.from_ hb'); clear hown' hb'
        go_roundw
        case rel => exact ⟨k + 1, _, ys ++ [y], by omega, by go_num, rfl, by omega, by omega, by rw [List.length_append, HK.out]; rfl, HY.out.snoc ⟨by omega, by omega⟩, (by have h4 := HO4.out; first | exact h4 | (rw [show (if b < y then b else y) = b by split <;> omega] at h4; exact h4)), HR4.out.mono (by omega), HS4.out⟩
        case measure => simp [intOf]; omega
      · go_wp2_with (at_builtin; refine wpList_app1 rfl _ _ _ rfl w.heap.size _ Try.underlying23 info_int _ _ _ _ _ (by rfl) (by rfl) HOWN3.out (by omega) hsz ?_; intro v' w4 hown' hb')
        have HO4 := hide hown'; have HR4 := hide (HRb.out.below hb' hrb); have HS4 := hide (HSb.out.from_ hb'); clear hown' hb'
        go_roundw
        case rel => exact ⟨k + 1, _, ys ++ [b], by omega, by go_num, rfl, by omega, by omega, by rw [List.length_append, HK.out]; rfl, HY.out.snoc ⟨by omega, by omega⟩, (by have h4 := HO4.out; first | exact h4 | (rw [show (if b < y then b else y) = b by split <;> omega] at h4; exact h4)), HR4.out.mono (by omega), HS4.out⟩
        case measure => simp [intOf]; omega
    · have hkn : k = n := by omega
      subst hkn
      have hfin : ∀ (v : Value) (zs : List Int) (W : World) (M : Nat), M ≤ N + 12 → zs.length = k → BdL (-1) 60 zs → W.ownsRow w.heap.size 3 1 v k (zs.map (.int .i64)) → Rdr W rb M → RS rb w W → DrewL rb (N + 12) (fun ys => ys.length = k ∧ BdL (-1) 60 ys) w (.returned v) W := fun v zs W M hM hz hzs hO hR hS =>
        ⟨v, zs, rfl, ⟨hz, hzs⟩, by rw [hz]; exact hO, hR.mono hM, hS⟩
      have FIN := hide hfin; clear hfin
      by_cases hK0 : 0 < k
      · have hK0' : (0 : Int) < k := by omega
        obtain ⟨A5, c5, rfl, hO5, hkc5⟩ := own_of_row HOWN.out
        obtain ⟨g, rfl, hg1, hg2, hgc⟩ := hO5.2.2 hK0
        clear hgc hO5
        go_wp2_with fail
        refine (pick_any rb _ 16 _ (by omega) HR.out).mono ?_
        rintro e w2 ⟨a, rfl, ha, hRa, hSa⟩
        have Ra := hide hRa; have Sa := hide hSa; clear ha hRa hSa
        have HO2 := hide (ownsRow_rs HOWN.out Sa.out hrb)
        by_cases hz : a = 0
        · have hd : (a == 0) = true := by simp [hz]
          clear hz
          go_wp2_with fail
          refine (one_arr rb _ _ _ _ _ _ (by simp) (by rfl) (by simp) (by simp) (by omega) Ra.out).mono ?_
          rintro e w3 ⟨b, rfl, hb, hRb, hSb⟩
          have hbb : -1 ≤ b ∧ b ≤ 60 := by simp at hb; omega
          have hO3 := ownsRow_rs HO2.out hSb hrb
          have cc := hO3.cellAt 0 (by omega)
          rw [List.getElem?_map, List.getElem?_eq_getElem (show 0 < ys.length by rw [HK.out]; exact hK0)] at cc
          simp only [Option.map_some] at cc
          have ff := hO3.frozenAt 0
          have HB := hide hbb; have HO3 := hide (hO3.stored 0 (.int .i64 b)).1; have Rb := hide hRb; have Sb := hide hSb; clear hbb hO3 hRb hSb hb
          go_wp2_with fail
          go_ret
          exact FIN.out _ (ys.set 0 b) _ (N + 2 * k + 1 + 1) (by omega) (by simp [HK.out]) (HY.out.set HB.out) (by rw [List.map_set]; exact HO3.out) (Rb.out.set (by simp; omega) _) (((HS.out.trans Sa.out).trans Sb.out).set hg1 _)
        · have hd : (a == 0) = false := by simpa using hz
          clear hz
          go_wp2_with fail
          go_ret
          exact FIN.out _ ys _ _ (by omega) HK.out HY.out HO2.out Ra.out (HS.out.trans Sa.out)
      · have hK0' : (k : Int) ≤ 0 := by omega
        obtain ⟨A5, c5, rfl, -, -⟩ := own_of_row HOWN.out
        go_wp2_with fail
        go_ret
        exact FIN.out _ ys _ _ (by omega) HK.out HY.out HOWN.out HR.out HS.out
def GotILL (P : Int → List Int → List Int → Prop) (w : World) (e : Ending) (w' : World) : Prop := ∃ s v u ys zs, e = .returned (.tuple #[.int .i64 s, v, u]) ∧ P s ys zs ∧ w'.ownsRow w.heap.size 3 1 v ys.length (ys.map (.int .i64)) ∧ w'.ownsRow w.heap.size 3 1 u zs.length (zs.map (.int .i64)) ∧ Below w.heap.size w w'
def WnP (s : Int) (ys zs : List Int) : Prop := WdP s ys ∧ zs.length = ys.length ∧ BdL (-1) 70 zs
theorem drawValidWants_any (A : Option Addr) (n c : Nat) (bs : List Int) (w : World) (hn : n ≤ 1048576) (hnc : n ≤ c) (h : Byts w A n bs) : Calls Try.prog 36 #[.slice A n c] w (GotILL WnP w) := by
  go_enter Try.func36, Try.ntmps36
  go_wp2_with fail
  refine (newReader_b A n c bs _ hn hnc h).mono ?_; rintro e w1 ⟨rfl, hR, hb, hz⟩
  have hz' : w.heap.size < w1.heap.size := by omega
  have HZ := hide hz; clear hz
  go_wp2_with fail
  refine (anyWidths_any _ 0 _ (by omega) hR).mono ?_; rintro e w2 ⟨s, v, ys, rfl, hP, hO, hR2, hS⟩
  obtain ⟨A5, c5, rfl, hO5, -⟩ := own_of_row hO
  have hs2 := hS.size
  have HP := hide hP; have HO := hide hO; have HI := hide hO5.ints; have HR2 := hide hR2; have HS := hide hS; have HB := hide hb; clear hP hO hO5 hR2 hS hb hR h
  go_wp2_with fail
  refine (someWants_any _ _ ys.length c5 A5 ys _ (by omega) HP.out.2.2.1 HR2.out HI.out).mono ?_; rintro e w3 ⟨u, zs, rfl, ⟨hl, hz3⟩, hU, hR3, hS3⟩
  have HF : Hid (GotILL WnP w (.returned (.tuple #[.int .i64 s, .slice A5 ys.length c5, u])) w3) :=
    ⟨s, _, u, ys, zs, rfl, ⟨HP.out, hl, fun y hy => by have := hz3 y hy; omega⟩, ownsRow_le (ownsRow_rs HO.out hS3 hz') (by omega), ownsRow_le hU (by omega), HB.out.trans ((HS.out.trans hS3).below (Nat.le_refl _) hz')⟩
  clear hl hz3 hU hR3 hS3
  go_wp2_with fail
  go_ret3
  exact HF.out
end Go.Proofs.Ytkmogpeiolkpbaa
