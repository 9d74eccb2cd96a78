/- Contracts of the drawn arguments of chapter 5. -/
import Derived.Test.YtkmogpeiolkpbaaRd2
namespace Go.Proofs.Ytkmogpeiolkpbaa
open Go.RowKit
set_option linter.unusedVariables false
set_option maxRecDepth 100000
theorem newReader_b (A : Option Addr) (n c : Nat) (bs : List Int) (w : World) (hn : n ≤ 1048576) (hnc : n ≤ c) (h : Byts w A n bs) :
    Calls Try.prog 55 #[.slice A n c] w fun e w' => e = .returned (.pointer (some ⟨w.heap.size, 0, none⟩)) ∧ Rdr w' w.heap.size 0 ∧ Below w.heap.size w w' ∧ w'.heap.size = w.heap.size + 1 :=
  newReader_any A n c bs w hn hnc h.1 h.2.1 h.2.2
/-- the call returns a slice of its own that reads as a list of which P holds -/
def GotL (P : List Int → Prop) (w : World) (e : Ending) (w' : World) : Prop := ∃ v ys, e = .returned v ∧ P ys ∧ w'.ownsRow w.heap.size 3 1 v ys.length (ys.map (.int .i64)) ∧ Below w.heap.size w w'
theorem gotL_of {P : List Int → Prop} {N : Nat} {w w1 w' : World} {e : Ending} (hb : Below w.heap.size w w1) (hz : w1.heap.size = w.heap.size + 1) (h : DrewL w.heap.size N P w1 e w') : GotL P w e w' := by
  obtain ⟨v, ys, he, hP, hO, hR, hS⟩ := h
  exact ⟨v, ys, he, hP, ownsRow_le hO (by omega), hb.trans (hS.below (Nat.le_refl _) (by omega))⟩
theorem drawValidLengths_any (A : Option Addr) (n c : Nat) (bs : List Int) (w : World) (hn : n ≤ 1048576) (hnc : n ≤ c) (h : Byts w A n bs) : Calls Try.prog 19 #[.slice A n c] w (GotL (LenP 7) w) := by
  go_enter Try.func19, Try.ntmps19
  go_wp2_with fail
  refine (newReader_b A n c bs _ hn hnc h).mono ?_; rintro e w1 ⟨rfl, hR, hb, hz⟩
  have HZ := hide hz; clear hz
  go_wp2_with fail
  refine (someLengths_any _ 0 8 _ (by omega) hR).mono ?_; rintro e w2 ⟨v, ys, rfl, hP, hO, hR2, hS⟩
  have HG := hide (gotL_of hb HZ.out ⟨v, ys, rfl, hP, hO, hR2, hS⟩)
  clear hP hO hR2 hS hR hb h
  go_wp2_with fail
  go_ret
  exact HG.out
theorem drawEndsOf_any (A : Option Addr) (n c : Nat) (bs : List Int) (w : World) (hn : n ≤ 1048576) (hnc : n ≤ c) (h : Byts w A n bs) : Calls Try.prog 27 #[.slice A n c] w (GotL (LenP 7) w) := by
  go_enter Try.func27, Try.ntmps27
  go_wp2_with fail
  refine (newReader_b A n c bs _ hn hnc h).mono ?_; rintro e w1 ⟨rfl, hR, hb, hz⟩
  have HZ := hide hz; clear hz
  go_wp2_with fail
  refine (someLengths_any _ 0 8 _ (by omega) hR).mono ?_; rintro e w2 ⟨v, ys, rfl, hP, hO, hR2, hS⟩
  have HG := hide (gotL_of hb HZ.out ⟨v, ys, rfl, hP, hO, hR2, hS⟩)
  clear hP hO hR2 hS hR hb h
  go_wp2_with fail
  go_ret
  exact HG.out
def GotLLI (P Q : List Int → Prop) (w : World) (e : Ending) (w' : World) : Prop := ∃ v u ys zs s, e = .returned (.tuple #[v, u, .int .i64 s]) ∧ P ys ∧ Q zs ∧ -1 ≤ s ∧ s ≤ 1000000 ∧ w'.ownsRow w.heap.size 3 1 v ys.length (ys.map (.int .i64)) ∧ w'.ownsRow w.heap.size 3 1 u zs.length (zs.map (.int .i64)) ∧ Below w.heap.size w w'
set_option maxHeartbeats 1000000 in
theorem drawPiecesOf_any (A : Option Addr) (n c : Nat) (bs : List Int) (w : World) (hn : n ≤ 1048576) (hnc : n ≤ c) (h : Byts w A n bs) : Calls Try.prog 48 #[.slice A n c] w (GotLLI (LenP 13) (LenP 7) w) := by
  go_enter Try.func48, Try.ntmps48
  go_wp2_with fail
  refine (newReader_b A n c bs _ hn hnc h).mono ?_; rintro e w1 ⟨rfl, hR, hb, hz⟩
  have hz' : w.heap.size < w1.heap.size := by omega
  have HZ := hide hz; clear hz
  go_wp2_with fail
  refine (parentsFor_any _ 0 8 _ (by omega) hR).mono ?_; rintro e w2 ⟨v, u, ys, zs, rfl, hP, hQ, hO, hU, hR2, hS⟩
  obtain ⟨A5, c5, rfl, hO5, -⟩ := own_of_row hO
  obtain ⟨A6, c6, rfl, hO6, -⟩ := own_of_row hU
  have hI5 := hO5.ints; have hI6 := hO6.ints
  obtain ⟨t1, t2⟩ := hP.tot (by omega)
  obtain ⟨t3, t4⟩ := hQ.tot (by omega)
  have HP := hide hP; have HQ := hide hQ; have HO := hide hO; have HU := hide hU; have HR2 := hide hR2; have HS := hide hS; have HI5 := hide hI5; have HI6 := hide hI6; have HB := hide hb
  clear hP hQ hO hU hR2 hS hI5 hI6 hO5 hO6 hR hb h
  have l5 := HP.out.1; have l6 := HQ.out.1
  go_wp2_with fail
  refine (specTotal A5 ys.length c5 ys _ (by omega) HI5.out HP.out.bd).mono ?_; rintro e w' ⟨rfl, rfl⟩
  go_wp2_with fail
  refine (specTotal A6 zs.length c6 zs _ (by omega) HI6.out HQ.out.bd).mono ?_; rintro e w' ⟨rfl, rfl⟩
  rcases (show tot ys - tot zs < 0 ∨ (0 ≤ tot ys - tot zs ∧ tot ys - tot zs ≤ 3) ∨ (0 ≤ tot ys - tot zs ∧ 3 < tot ys - tot zs) by omega) with g | ⟨g, g'⟩ | ⟨g, g'⟩
  all_goals
    go_wp2_with fail
    refine (pick_any _ _ _ _ (by omega) HR2.out).mono ?_
    rintro e w3 ⟨a, rfl, ha, hRa, hSa⟩
    have ha2 : 0 ≤ a ∧ a ≤ 200000 := by
      have h1 := ha.1; have h2 := ha.2; omega
    obtain ⟨a0, a1⟩ := ha2
    have Ra := hide hRa; have Sa := hide hSa; clear ha hRa hSa
    go_wp2_with fail
    all_goals
      refine (one_arr _ _ _ _ _ _ _ (by simp) (by rfl) (by simp) (by simp) (by omega) Ra.out).mono ?_
      rintro e w4 ⟨b, rfl, hb, hRb, hSb⟩
      have hb2 : -1 ≤ b ∧ b ≤ 1000000 := by simp at hb; omega
      have HF : Hid (GotLLI (LenP 13) (LenP 7) w (.returned (.tuple #[.slice A5 ys.length c5, .slice A6 zs.length c6, .int .i64 b])) w4) :=
        ⟨_, _, ys, zs, b, rfl, HP.out, HQ.out, hb2.1, hb2.2, ownsRow_le (ownsRow_rs (ownsRow_rs HO.out Sa.out hz') hSb hz') (by omega), ownsRow_le (ownsRow_rs (ownsRow_rs HU.out Sa.out hz') hSb hz') (by omega), HB.out.trans (((HS.out.trans Sa.out).trans hSb).below (Nat.le_refl _) hz')⟩
      clear hb hb2 hRb hSb
      go_wp2_with fail
      go_ret3
      exact HF.out
theorem drawLeftOver_any (A : Option Addr) (n c : Nat) (bs : List Int) (w : World) (hn : n ≤ 1048576) (hnc : n ≤ c) (h : Byts w A n bs) : Calls Try.prog 14 #[.slice A n c] w (GotLLI (LenP 13) (LenP 7) w) := by
  go_enter Try.func14, Try.ntmps14
  go_wp2_with fail
  refine (drawPiecesOf_any A n c bs _ hn hnc h).mono ?_; rintro e w2 ⟨v, u, ys, zs, s, rfl, r⟩
  have HF := hide r; clear r
  go_wp2_with fail
  go_ret3
  exact ⟨v, u, ys, zs, s, rfl, HF.out⟩
def GotLLII (P Q : List Int → Prop) (w : World) (e : Ending) (w' : World) : Prop := ∃ v u ys zs s t, e = .returned (.tuple #[v, u, .int .i64 s, .int .i64 t]) ∧ P ys ∧ Q zs ∧ (-1 ≤ s ∧ s ≤ 1000000) ∧ (-1 ≤ t ∧ t ≤ 1000000) ∧ w'.ownsRow w.heap.size 3 1 v ys.length (ys.map (.int .i64)) ∧ w'.ownsRow w.heap.size 3 1 u zs.length (zs.map (.int .i64)) ∧ Below w.heap.size w w'
theorem results_four {fn : Func} {t u v x : Tmp} (h : fn.results = #[.tmp t, .tmp u, .tmp v, .tmp x]) (tmps : Array Value) (P : Program) (w : World) :
    (results fn tmps).run P w = .ok (.tuple #[tmps.getD t undef, tmps.getD u undef, tmps.getD v undef, tmps.getD x undef]) w := by simp [results, h]
set_option maxHeartbeats 2000000 in
theorem drawPlaceOf_any (A : Option Addr) (n c : Nat) (bs : List Int) (w : World) (hn : n ≤ 1048576) (hnc : n ≤ c) (h : Byts w A n bs) : Calls Try.prog 30 #[.slice A n c] w (GotLLII (LenP 13) (LenP 7) w) := by
  go_enter Try.func30, Try.ntmps30
  go_wp2_with fail
  refine (newReader_b A n c bs _ hn hnc h).mono ?_; rintro e w1 ⟨rfl, hR, hb, hz⟩
  have hz' : w.heap.size < w1.heap.size := by omega
  have HZ := hide hz; clear hz
  go_wp2_with fail
  refine (parentsFor_any _ 0 8 _ (by omega) hR).mono ?_; rintro e w2 ⟨v, u, ys, zs, rfl, hP, hQ, hO, hU, hR2, hS⟩
  obtain ⟨A5, c5, rfl, hO5, -⟩ := own_of_row hO
  obtain ⟨A6, c6, rfl, hO6, -⟩ := own_of_row hU
  have hI5 := hO5.ints; have hI6 := hO6.ints
  obtain ⟨t1, t2⟩ := hP.tot (by omega)
  obtain ⟨t3, t4⟩ := hQ.tot (by omega)
  have HP := hide hP; have HQ := hide hQ; have HO := hide hO; have HU := hide hU; have HR2 := hide hR2; have HS := hide hS; have HI5 := hide hI5; have HI6 := hide hI6; have HB := hide hb
  clear hP hQ hO hU hR2 hS hI5 hI6 hO5 hO6 hR hb h
  have l5 := HP.out.1; have l6 := HQ.out.1
  go_wp2_with fail
  refine (specTotal A5 ys.length c5 ys _ (by omega) HI5.out HP.out.bd).mono ?_; rintro e w' ⟨rfl, rfl⟩
  go_wp2_with fail
  refine (specTotal A6 zs.length c6 zs _ (by omega) HI6.out HQ.out.bd).mono ?_; rintro e w' ⟨rfl, rfl⟩
  rcases (show (tot ys - tot zs < 0 ∧ 1 ≤ tot zs) ∨ (0 ≤ tot ys - tot zs ∧ tot zs < 1) ∨ (0 ≤ tot ys - tot zs ∧ 1 ≤ tot zs) by omega) with ⟨g, f⟩ | ⟨g, f⟩ | ⟨g, f⟩
  all_goals
    go_wp2_with fail
    refine (specTotal A6 zs.length c6 zs _ (by omega) HI6.out HQ.out.bd).mono ?_; rintro e w' ⟨rfl, rfl⟩
    go_wp2_with fail
    refine (pick_any _ _ _ _ (by omega) HR2.out).mono ?_
    rintro e w3 ⟨a, rfl, ha, hRa, hSa⟩
    have ha2 : 0 ≤ a ∧ a ≤ 200000 := by
      have h1 := ha.1; have h2 := ha.2; omega
    obtain ⟨a0, a1⟩ := ha2
    have Ra := hide hRa; have Sa := hide hSa; clear ha hRa hSa
    go_wp2_with fail
    refine (one_arr _ _ _ _ _ _ _ (by simp) (by rfl) (by simp) (by simp) (by omega) Ra.out).mono ?_
    rintro e w4 ⟨b, rfl, hb, hRb, hSb⟩
    have hb2 : -1 ≤ b ∧ b ≤ 1000000 := by simp at hb; omega
    have Rb := hide hRb; have Sb := hide hSb; have HB2 := hide hb2; clear hb hb2 hRb hSb
    go_wp2_with fail
    refine (pick_any _ _ _ _ (by omega) Rb.out).mono ?_
    rintro e w5 ⟨p, rfl, hp, hRp, hSp⟩
    have hp2 : 0 ≤ p ∧ p ≤ 200000 := by
      have h1 := hp.1; have h2 := hp.2; omega
    obtain ⟨p0, p1⟩ := hp2
    have Rp := hide hRp; have Sp := hide hSp; clear hp hRp hSp
    go_wp2_with fail
    refine (one_arr _ _ _ _ _ _ _ (by simp) (by rfl) (by simp) (by simp) (by omega) Rp.out).mono ?_
    rintro e w6 ⟨q, rfl, hq, hRq, hSq⟩
    have hq2 : -1 ≤ q ∧ q ≤ 1000000 := by simp at hq; omega
    have HF : Hid (GotLLII (LenP 13) (LenP 7) w (.returned (.tuple #[.slice A5 ys.length c5, .slice A6 zs.length c6, .int .i64 b, .int .i64 q])) w6) :=
      ⟨_, _, ys, zs, b, q, rfl, HP.out, HQ.out, HB2.out, hq2, ownsRow_le (ownsRow_rs (ownsRow_rs (ownsRow_rs (ownsRow_rs HO.out Sa.out hz') Sb.out hz') Sp.out hz') hSq hz') (by omega), ownsRow_le (ownsRow_rs (ownsRow_rs (ownsRow_rs (ownsRow_rs HU.out Sa.out hz') Sb.out hz') Sp.out hz') hSq hz') (by omega), HB.out.trans (((((HS.out.trans Sa.out).trans Sb.out).trans Sp.out).trans hSq).below (Nat.le_refl _) hz')⟩
    clear hq hq2 hRq hSq
    go_wp2_with fail
    (try simp only [Exit.inBlock, Exit.then])
    refine bodyPost_ret (results_four rfl _ _ _) rfl ?_
    exact HF.out
end Go.Proofs.Ytkmogpeiolkpbaa
