/- Contracts of drawn parts and reels. -/
import Derived.Test.YtbbopnpmjhbffaaRd1
import Derived.Test.YtbbopnpmjhbffaaKit2
import Derived.Test.YtbbopnpmjhbffaaRee2
import Derived.Maps.AppendAt
namespace Go.Proofs.Ytbbopnpmjhbffaa
open Go.RowKit
attribute [local go_sem ↓] Go.wp_at_zero Go.wp_at_succ
set_option linter.unusedVariables false
set_option maxRecDepth 100000
theorem Bk.rs {w w' : World} {g rb : Nat} {T : TypeId} {cs : Array Value} (h : Bk w g T cs) (hs : RS rb w w') (hg : ¬ g = rb) : Bk w' g T cs :=
  (hs.block g h.lt (fun e => by injection e with e; omega)).trans h
/-- a drawn part -/
def DrewP (rb N : Nat) (w : World) (e : Ending) (w' : World) : Prop := ∃ l r f t, e = .returned (part l r f t) ∧ ((0 ≤ l ∧ l ≤ 100) ∧ (0 ≤ r ∧ r ≤ 1000) ∧ (0 ≤ f ∧ f ≤ 1000) ∧ (0 ≤ t ∧ t ≤ 2000)) ∧ Rdr w' rb N ∧ RS rb w w'
set_option maxHeartbeats 4000000 in
theorem somePart_any (rb N : Nat) (W L : Int) (w : World) (hN : N ≤ 100000) (hW : 1 ≤ W ∧ W ≤ 60) (hL : 1 ≤ L ∧ L ≤ 400) (h : Rdr w rb N) :
    Calls Try.prog 38 #[.pointer (some ⟨rb, 0, none⟩), .int .i64 W, .int .i64 L] w (DrewP rb (N + 4) w) := by
  have hrb := h.lt
  obtain ⟨hW1, hW2⟩ := hW
  obtain ⟨hL1, hL2⟩ := hL
  go_enter Try.func38, Try.ntmps38
  go_wp2_with fail
  refine (pick_any rb N W _ (by omega) (h.alloc _)).mono ?_
  rintro e w1 ⟨a, rfl, ha, hR1, hS1⟩
  have KZ1 := hide ((Bk.made w 30 #[.int .i64 0, .int .i64 0, .int .i64 0, .int .i64 0]).rs hS1 (by omega))
  obtain ⟨a0, a1⟩ := ha.2 (by omega)
  have S1 := hide (((RS.refl rb w).alloc _).trans hS1); have R1 := hide hR1; clear ha hR1 hS1 h
  go_wp2_with fail
  refine (pick_any rb (N + 1) L _ (by omega) R1.out).mono ?_
  rintro e w2 ⟨b, rfl, hb, hR2, hS2⟩
  obtain ⟨b0, b1⟩ := hb.2 (by omega)
  have KZ2 := hide (KZ1.out.rs hS2 (by omega))
  have S2 := hide (S1.out.trans hS2); have R2 := hide hR2; clear hb hR2 hS2 KZ1 S1 R1
  have l2 : w.heap.size < w2.heap.size := KZ2.out.lt
  go_wp2_with fail
  have KZ3 := hide (Bk.alloc KZ2.out (.cells #[.int .i64 a, .int .i64 0, .int .i64 b, .int .i64 0] 30))
  have KT3 := hide (Bk.made w2 30 #[.int .i64 a, .int .i64 0, .int .i64 b, .int .i64 0])
  have S3 := hide (S2.out.alloc (.cells #[.int .i64 a, .int .i64 0, .int .i64 b, .int .i64 0] 30)); have R3 := hide (R2.out.alloc (.cells #[.int .i64 a, .int .i64 0, .int .i64 b, .int .i64 0] 30))
  clear KZ2 S2 R2
  generalize hw3 : w2.alloc (.cells #[.int .i64 a, .int .i64 0, .int .i64 b, .int .i64 0] 30) = w3 at *
  clear hw3
  obtain ⟨t0, t1, t2, t3⟩ := KT3.out.four
  have f1 := KT3.out.free 1
  have ew1 : IntKind.i64.wrap (W - a) = W - a := IntWalk.i64_in _ ⟨by omega, by omega⟩
  have ew2 : IntKind.i64.wrap (a + 1) = a + 1 := IntWalk.i64_in _ ⟨by omega, by omega⟩
  refine wp_region_held_drew (S := fun w' => w'.cell? ⟨w2.heap.size, 0, none⟩ = some (.int .i64 a)) (by kernel_rfl) ?hS1 (fun hHeld => ?_)
  case hS1 => ((try dsimp only); (repeat' apply And.intro) <;> (first | (with_reducible assumption) | (rw [World.cell?_drew]; with_reducible assumption) | (rw [World.cell?_setCell_other _ _ _ _ (fun e => by injection e with _ e; cases e)]; with_reducible assumption) | (simp [*]; done)))
  refine wpAnyH_take (i := 0) (v := ?v2) (by simp only [List.getElem?_toArray, List.getElem?_cons_zero]; rfl) (by kernel_rfl) (by kernel_rfl) (by kernel_rfl) (by exact fun _ _ _ h => h) (Or.inl ⟨by rfl, ?hy2⟩) (by assumption) ?rest2
  case hy2 => (intro w hSw; (try dsimp only at hSw); go_simp; (try with_reducible rfl))
  (try simp only [Act.put, List.setIfInBounds_toArray, List.set_cons_zero, List.set_cons_succ])
  refine wpAnyH_take (i := 1) (v := ?v3) (by simp only [List.getElem?_toArray, List.getElem?_cons_succ, List.getElem?_cons_zero]; rfl) (by kernel_rfl) (by kernel_rfl) (by kernel_rfl) (by exact fun _ _ _ h => h) (Or.inl ⟨by rfl, ?hy3⟩) (by assumption) ?rest3
  case hy3 => (intro w hSw; (try dsimp only at hSw); go_simp; (try with_reducible rfl))
  (try simp only [Act.put, List.setIfInBounds_toArray, List.set_cons_zero, List.set_cons_succ])
  refine wpAnyH_take (i := 2) (v := ?v4) (by simp only [List.getElem?_toArray, List.getElem?_cons_succ, List.getElem?_cons_zero]; rfl) (by kernel_rfl) (by kernel_rfl) (by kernel_rfl) (by exact fun _ _ _ h => h) (Or.inl ⟨by rfl, ?hy4⟩) (by assumption) ?rest4
  case hy4 => (intro w hSw; (try dsimp only at hSw); go_simp; (try with_reducible rfl))
  (try simp only [Act.put, List.setIfInBounds_toArray, List.set_cons_zero, List.set_cons_succ])
  refine wpAnyH_take (i := 3) (v := ?v5) (by simp only [List.getElem?_toArray, List.getElem?_cons_succ, List.getElem?_cons_zero]; rfl) (by kernel_rfl) (by kernel_rfl) (by kernel_rfl) (by exact fun _ _ _ h => h) (Or.inl ⟨by rfl, ?hy5⟩) (by assumption) ?rest5
  case hy5 => (intro w hSw; (try dsimp only at hSw); go_simp; (try with_reducible rfl))
  (try simp only [Act.put, List.setIfInBounds_toArray, List.set_cons_zero, List.set_cons_succ])
  refine wpAnyH_take (i := 4) (v := ?v6) (by simp only [List.getElem?_toArray, List.getElem?_cons_succ, List.getElem?_cons_zero]; rfl) (by kernel_rfl) (by kernel_rfl) (by kernel_rfl) (by exact fun _ _ _ h => h) (Or.inl ⟨by rfl, ?hy6⟩) (by assumption) ?rest6
  case hy6 => (intro w hSw; (try dsimp only at hSw); go_simp; (try with_reducible rfl))
  (try simp only [Act.put, List.setIfInBounds_toArray, List.set_cons_zero, List.set_cons_succ])
  refine wpAnyH_take (i := 5) (v := ?v7) (by simp only [List.getElem?_toArray, List.getElem?_cons_succ, List.getElem?_cons_zero]; rfl) (by kernel_rfl) (by kernel_rfl) (by kernel_rfl) (by exact fun _ _ _ h => h) (Or.inl ⟨by rfl, ?hy7⟩) (by assumption) ?rest7
  case hy7 => (intro w hSw; (try dsimp only at hSw); go_simp; (try with_reducible rfl))
  (try simp only [Act.put, List.setIfInBounds_toArray, List.set_cons_zero, List.set_cons_succ])
  refine wpAnyH_take (i := 6) (v := ?v8) (by simp only [List.getElem?_toArray, List.getElem?_cons_succ, List.getElem?_cons_zero]; rfl) (by kernel_rfl) (by kernel_rfl) (by kernel_rfl) (by exact fun _ _ _ h => h) (Or.inl ⟨by rfl, ?hy8⟩) (by assumption) ?rest8
  case hy8 => (intro w hSw; (try dsimp only at hSw); go_simp; (try with_reducible rfl))
  (try simp only [Act.put, List.setIfInBounds_toArray, List.set_cons_zero, List.set_cons_succ])
  refine wpAnyH_take (i := 7) (v := ?v9) (by simp only [List.getElem?_toArray, List.getElem?_cons_succ, List.getElem?_cons_zero]; rfl) (by kernel_rfl) (by kernel_rfl) (by kernel_rfl) (by exact fun _ _ _ h => h) (Or.inl ⟨by rfl, ?hy9⟩) (by assumption) ?rest9
  case hy9 => (intro w hSw; (try dsimp only at hSw); go_simp; (try with_reducible rfl))
  (try simp only [Act.put, List.setIfInBounds_toArray, List.set_cons_zero, List.set_cons_succ])
  refine wpAnyH_ready (rs := [8]) (by kernel_rfl) (by simp) (AllReadyH.cons (by simp only [List.getElem?_toArray, List.getElem?_cons_succ, List.getElem?_cons_zero]; rfl) (fun K hK => ?_) AllReadyH.nil)
  go_simp
  refine (pick_any rb (N + 1 + 1) _ _ (by omega) (R3.out.drewN 1)).mono ?_
  rintro e wx ⟨c, rfl, hc, hRx, hSx⟩
  obtain ⟨c0, c1⟩ := hc.2 (by omega)
  have KTx := hide (Bk.rs (Bk.drew KT3.out) hSx (by omega))
  have KZx := hide (Bk.rs (Bk.drew KZ3.out) hSx (by omega))
  have Sx := hide ((S3.out.drewN 1).trans hSx)
  have Rx := hide hRx
  clear t0 t1 t2 t3 f1
  obtain ⟨t0, t1, t2, t3⟩ := KTx.out.four
  have f1 := KTx.out.free 1
  have ew3 : IntKind.i64.wrap (a + 1 + c) = a + 1 + c := IntWalk.i64_in _ ⟨by omega, by omega⟩
  clear hc hRx hSx
  clear hHeld
  refine hK.out _ _ ?hS10 (fun hHeld => ?_)
  case hS10 => ((try dsimp only); (repeat' apply And.intro) <;> (first | (with_reducible assumption) | (rw [World.cell?_drew]; with_reducible assumption) | (rw [World.cell?_setCell_other _ _ _ _ (fun e => by injection e with _ e; cases e)]; with_reducible assumption) | (simp [*]; done)))
  clear hK K
  (try simp only [Act.put, List.setIfInBounds_toArray, List.set_cons_zero, List.set_cons_succ])
  refine wpAnyH_take (i := 9) (v := ?v11) (by simp only [List.getElem?_toArray, List.getElem?_cons_succ, List.getElem?_cons_zero]; rfl) (by kernel_rfl) (by kernel_rfl) (by kernel_rfl) (by exact fun _ _ _ h => h) (Or.inl ⟨by rfl, ?hy11⟩) (by assumption) ?rest11
  case hy11 => (intro w hSw; (try dsimp only at hSw); go_simp; (try with_reducible rfl))
  (try simp only [Act.put, List.setIfInBounds_toArray, List.set_cons_zero, List.set_cons_succ])
  refine wpAnyH_take (i := 10) (v := ?v12) (by simp only [List.getElem?_toArray, List.getElem?_cons_succ, List.getElem?_cons_zero]; rfl) (by kernel_rfl) (by kernel_rfl) (by kernel_rfl) (by exact fun _ _ _ h => h) (Or.inl ⟨by rfl, ?hy12⟩) (by assumption) ?rest12
  case hy12 => (intro w hSw; (try dsimp only at hSw); go_simp; (try with_reducible rfl))
  (try simp only [Act.put, List.setIfInBounds_toArray, List.set_cons_zero, List.set_cons_succ])
  refine wpAnyH_ready (rs := [11]) (by kernel_rfl) (by simp) (AllReadyH.cons (by simp only [List.getElem?_toArray, List.getElem?_cons_succ, List.getElem?_cons_zero]; rfl) (fun K hK => ?_) AllReadyH.nil)
  go_simp
  clear hHeld
  refine hK.out _ _ ?hS13 (fun hHeld => ?_)
  case hS13 => ((try dsimp only); (repeat' apply And.intro) <;> (first | (with_reducible assumption) | (rw [World.cell?_drew]; with_reducible assumption) | (rw [World.cell?_setCell_other _ _ _ _ (fun e => by injection e with _ e; cases e)]; with_reducible assumption) | (simp [*]; done)))
  clear hK K
  (try simp only [Act.put, List.setIfInBounds_toArray, List.set_cons_zero, List.set_cons_succ])
  refine wpAnyH_done (by kernel_rfl) ?_ _
  clear ew3
  clear ew1 ew2
  have KT4 := hide (KTx.out.put 1 (.int .i64 (a + 1 + c)))
  have KZ4 := hide (KZx.out.far (p := ⟨w2.heap.size, 1, none⟩) (by simp; omega) (.int .i64 (a + 1 + c)))
  have R4 := hide (Rx.out.set (q := ⟨w2.heap.size, 1, none⟩) (by simp; omega) (.int .i64 (a + 1 + c)))
  have S4 := hide (Sx.out.set (q := ⟨w2.heap.size, 1, none⟩) (by simp; omega) (.int .i64 (a + 1 + c)))
  clear KTx KZx Rx Sx t0 t1 t2 t3 f1 KZ3 KT3 S3 R3
  generalize hw4 : wx.setCell ⟨w2.heap.size, 1, none⟩ (.int .i64 (a + 1 + c)) = w4 at *
  clear hw4
  obtain ⟨t0, t1, t2, t3⟩ := Bk.four (a := .int .i64 a) (b := .int .i64 (a + 1 + c)) (c := .int .i64 b) (d := .int .i64 0) KT4.out
  have f3 := KT4.out.free 3
  have ew1 : IntKind.i64.wrap (L - b) = L - b := IntWalk.i64_in _ ⟨by omega, by omega⟩
  have ew2 : IntKind.i64.wrap (b + 1) = b + 1 := IntWalk.i64_in _ ⟨by omega, by omega⟩
  go_wp2_with fail
  refine wp_region_held_drew (S := fun w' => w'.cell? ⟨w2.heap.size, 2, none⟩ = some (.int .i64 b)) (by kernel_rfl) ?hS14 (fun hHeld => ?_)
  case hS14 => ((try dsimp only); (repeat' apply And.intro) <;> (first | (with_reducible assumption) | (rw [World.cell?_drew]; with_reducible assumption) | (rw [World.cell?_setCell_other _ _ _ _ (fun e => by injection e with _ e; cases e)]; with_reducible assumption) | (simp [*]; done)))
  refine wpAnyH_take (i := 0) (v := ?v15) (by simp only [List.getElem?_toArray, List.getElem?_cons_zero]; rfl) (by kernel_rfl) (by kernel_rfl) (by kernel_rfl) (by exact fun _ _ _ h => h) (Or.inl ⟨by rfl, ?hy15⟩) (by assumption) ?rest15
  case hy15 => (intro w hSw; (try dsimp only at hSw); go_simp; (try with_reducible rfl))
  (try simp only [Act.put, List.setIfInBounds_toArray, List.set_cons_zero, List.set_cons_succ])
  refine wpAnyH_take (i := 1) (v := ?v16) (by simp only [List.getElem?_toArray, List.getElem?_cons_succ, List.getElem?_cons_zero]; rfl) (by kernel_rfl) (by kernel_rfl) (by kernel_rfl) (by exact fun _ _ _ h => h) (Or.inl ⟨by rfl, ?hy16⟩) (by assumption) ?rest16
  case hy16 => (intro w hSw; (try dsimp only at hSw); go_simp; (try with_reducible rfl))
  (try simp only [Act.put, List.setIfInBounds_toArray, List.set_cons_zero, List.set_cons_succ])
  refine wpAnyH_take (i := 2) (v := ?v17) (by simp only [List.getElem?_toArray, List.getElem?_cons_succ, List.getElem?_cons_zero]; rfl) (by kernel_rfl) (by kernel_rfl) (by kernel_rfl) (by exact fun _ _ _ h => h) (Or.inl ⟨by rfl, ?hy17⟩) (by assumption) ?rest17
  case hy17 => (intro w hSw; (try dsimp only at hSw); go_simp; (try with_reducible rfl))
  (try simp only [Act.put, List.setIfInBounds_toArray, List.set_cons_zero, List.set_cons_succ])
  refine wpAnyH_take (i := 3) (v := ?v18) (by simp only [List.getElem?_toArray, List.getElem?_cons_succ, List.getElem?_cons_zero]; rfl) (by kernel_rfl) (by kernel_rfl) (by kernel_rfl) (by exact fun _ _ _ h => h) (Or.inl ⟨by rfl, ?hy18⟩) (by assumption) ?rest18
  case hy18 => (intro w hSw; (try dsimp only at hSw); go_simp; (try with_reducible rfl))
  (try simp only [Act.put, List.setIfInBounds_toArray, List.set_cons_zero, List.set_cons_succ])
  refine wpAnyH_take (i := 4) (v := ?v19) (by simp only [List.getElem?_toArray, List.getElem?_cons_succ, List.getElem?_cons_zero]; rfl) (by kernel_rfl) (by kernel_rfl) (by kernel_rfl) (by exact fun _ _ _ h => h) (Or.inl ⟨by rfl, ?hy19⟩) (by assumption) ?rest19
  case hy19 => (intro w hSw; (try dsimp only at hSw); go_simp; (try with_reducible rfl))
  (try simp only [Act.put, List.setIfInBounds_toArray, List.set_cons_zero, List.set_cons_succ])
  refine wpAnyH_take (i := 5) (v := ?v20) (by simp only [List.getElem?_toArray, List.getElem?_cons_succ, List.getElem?_cons_zero]; rfl) (by kernel_rfl) (by kernel_rfl) (by kernel_rfl) (by exact fun _ _ _ h => h) (Or.inl ⟨by rfl, ?hy20⟩) (by assumption) ?rest20
  case hy20 => (intro w hSw; (try dsimp only at hSw); go_simp; (try with_reducible rfl))
  (try simp only [Act.put, List.setIfInBounds_toArray, List.set_cons_zero, List.set_cons_succ])
  refine wpAnyH_take (i := 6) (v := ?v21) (by simp only [List.getElem?_toArray, List.getElem?_cons_succ, List.getElem?_cons_zero]; rfl) (by kernel_rfl) (by kernel_rfl) (by kernel_rfl) (by exact fun _ _ _ h => h) (Or.inl ⟨by rfl, ?hy21⟩) (by assumption) ?rest21
  case hy21 => (intro w hSw; (try dsimp only at hSw); go_simp; (try with_reducible rfl))
  (try simp only [Act.put, List.setIfInBounds_toArray, List.set_cons_zero, List.set_cons_succ])
  refine wpAnyH_take (i := 7) (v := ?v22) (by simp only [List.getElem?_toArray, List.getElem?_cons_succ, List.getElem?_cons_zero]; rfl) (by kernel_rfl) (by kernel_rfl) (by kernel_rfl) (by exact fun _ _ _ h => h) (Or.inl ⟨by rfl, ?hy22⟩) (by assumption) ?rest22
  case hy22 => (intro w hSw; (try dsimp only at hSw); go_simp; (try with_reducible rfl))
  (try simp only [Act.put, List.setIfInBounds_toArray, List.set_cons_zero, List.set_cons_succ])
  refine wpAnyH_ready (rs := [8]) (by kernel_rfl) (by simp) (AllReadyH.cons (by simp only [List.getElem?_toArray, List.getElem?_cons_succ, List.getElem?_cons_zero]; rfl) (fun K hK => ?_) AllReadyH.nil)
  go_simp
  refine (pick_any rb (N + 1 + 1 + 1) _ _ (by omega) (R4.out.drewN 1)).mono ?_
  rintro e wy ⟨d, rfl, hc, hRx, hSx⟩
  obtain ⟨d0, d1⟩ := hc.2 (by omega)
  have KTy := hide (Bk.rs (Bk.drew KT4.out) hSx (by omega))
  have KZy := hide (Bk.rs (Bk.drew KZ4.out) hSx (by omega))
  have Sy := hide ((S4.out.drewN 1).trans hSx)
  have Ry := hide hRx
  clear t0 t1 t2 t3 f3
  obtain ⟨t0, t1, t2, t3⟩ := Bk.four (a := .int .i64 a) (b := .int .i64 (a + 1 + c)) (c := .int .i64 b) (d := .int .i64 0) KTy.out
  have f3 := KTy.out.free 3
  have ew3 : IntKind.i64.wrap (b + 1 + d) = b + 1 + d := IntWalk.i64_in _ ⟨by omega, by omega⟩
  clear hc hRx hSx
  clear hHeld
  refine hK.out _ _ ?hS23 (fun hHeld => ?_)
  case hS23 => ((try dsimp only); (repeat' apply And.intro) <;> (first | (with_reducible assumption) | (rw [World.cell?_drew]; with_reducible assumption) | (rw [World.cell?_setCell_other _ _ _ _ (fun e => by injection e with _ e; cases e)]; with_reducible assumption) | (simp [*]; done)))
  clear hK K
  (try simp only [Act.put, List.setIfInBounds_toArray, List.set_cons_zero, List.set_cons_succ])
  refine wpAnyH_take (i := 9) (v := ?v24) (by simp only [List.getElem?_toArray, List.getElem?_cons_succ, List.getElem?_cons_zero]; rfl) (by kernel_rfl) (by kernel_rfl) (by kernel_rfl) (by exact fun _ _ _ h => h) (Or.inl ⟨by rfl, ?hy24⟩) (by assumption) ?rest24
  case hy24 => (intro w hSw; (try dsimp only at hSw); go_simp; (try with_reducible rfl))
  (try simp only [Act.put, List.setIfInBounds_toArray, List.set_cons_zero, List.set_cons_succ])
  refine wpAnyH_take (i := 10) (v := ?v25) (by simp only [List.getElem?_toArray, List.getElem?_cons_succ, List.getElem?_cons_zero]; rfl) (by kernel_rfl) (by kernel_rfl) (by kernel_rfl) (by exact fun _ _ _ h => h) (Or.inl ⟨by rfl, ?hy25⟩) (by assumption) ?rest25
  case hy25 => (intro w hSw; (try dsimp only at hSw); go_simp; (try with_reducible rfl))
  (try simp only [Act.put, List.setIfInBounds_toArray, List.set_cons_zero, List.set_cons_succ])
  refine wpAnyH_ready (rs := [11]) (by kernel_rfl) (by simp) (AllReadyH.cons (by simp only [List.getElem?_toArray, List.getElem?_cons_succ, List.getElem?_cons_zero]; rfl) (fun K hK => ?_) AllReadyH.nil)
  go_simp
  clear hHeld
  refine hK.out _ _ ?hS26 (fun hHeld => ?_)
  case hS26 => ((try dsimp only); (repeat' apply And.intro) <;> (first | (with_reducible assumption) | (rw [World.cell?_drew]; with_reducible assumption) | (rw [World.cell?_setCell_other _ _ _ _ (fun e => by injection e with _ e; cases e)]; with_reducible assumption) | (simp [*]; done)))
  clear hK K
  (try simp only [Act.put, List.setIfInBounds_toArray, List.set_cons_zero, List.set_cons_succ])
  refine wpAnyH_done (by kernel_rfl) ?_ _
  clear ew3
  clear ew1 ew2
  have KT5 := KTy.out.put 3 (.int .i64 (b + 1 + d))
  have KZ5 := KZy.out.far (p := ⟨w2.heap.size, 3, none⟩) (by simp; omega) (.int .i64 (b + 1 + d))
  have R5 := hide (Ry.out.set (q := ⟨w2.heap.size, 3, none⟩) (by simp; omega) (.int .i64 (b + 1 + d)))
  have S5 := hide (Sy.out.set (q := ⟨w2.heap.size, 3, none⟩) (by simp; omega) (.int .i64 (b + 1 + d)))
  clear KTy KZy Ry Sy t0 t1 t2 t3 f3
  generalize hw5 : wy.setCell ⟨w2.heap.size, 3, none⟩ (.int .i64 (b + 1 + d)) = w5 at *
  clear hw5
  obtain ⟨t0, t1, t2, t3⟩ := Bk.four (a := .int .i64 a) (b := .int .i64 (a + 1 + c)) (c := .int .i64 b) (d := .int .i64 (b + 1 + d)) KT5
  obtain ⟨z0, z1, z2, z3⟩ := KZ5.four
  have y0 := KZ5.free 0; have y1 := KZ5.free 1; have y2 := KZ5.free 2; have y3 := KZ5.free 3
  go_wp2_with fail
  have KF := (((KZ5.put 0 (.int .i64 a)).put 1 (.int .i64 (a + 1 + c))).put 2 (.int .i64 b)).put 3 (.int .i64 (b + 1 + d))
  obtain ⟨u0, u1, u2, u3⟩ := Bk.four (a := .int .i64 a) (b := .int .i64 (a + 1 + c)) (c := .int .i64 b) (d := .int .i64 (b + 1 + d)) KF
  refine bodyPost_ret (v := part a (a + 1 + c) b (b + 1 + d)) (by simp [results, Try.results38, go_sem, u0, u1, u2, u3]) rfl ?_
  exact ⟨a, a + 1 + c, b, b + 1 + d, rfl, ⟨by omega, by omega, by omega, by omega⟩, (((R5.out.set hrb _).set hrb _).set hrb _).set hrb _, (((S5.out.set (Nat.le_refl _) _).set (Nat.le_refl _) _).set (Nat.le_refl _) _).set (Nat.le_refl _) _⟩
end Go.Proofs.Ytbbopnpmjhbffaa
