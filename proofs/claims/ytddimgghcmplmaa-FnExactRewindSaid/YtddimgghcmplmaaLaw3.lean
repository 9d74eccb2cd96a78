/- The law that Rewind answers as the reference. -/
import Derived.Test.YtddimgghcmplmaaLaw1
import Derived.Test.YtddimgghcmplmaaRoll7
namespace Go.Proofs.Ytddimgghcmplmaa
open Go.RowKit Pl
attribute [local go_sem ↓] Go.wp_at_zero Go.wp_at_succ
set_option linter.unusedVariables false
set_option maxRecDepth 100000
set_option maxHeartbeats 8000000 in
theorem lawRewind_of (c t n d u p a b m x : Int) (ok : Bool)
    (HS : Hid (∀ W : World, Calls Try.prog 34 #[roll c t n, roll d u p] W fun e W' => e = .returned (.tuple #[roll a b m, .int .i64 x, .bool ok]) ∧ Below W.heap.size W W'))
    (HI : Hid (∀ W : World, Calls Try.prog 35 #[roll c t n, roll d u p] W fun e W' => e = .returned (.tuple #[roll a b m, .int .i64 x, .bool ok]) ∧ Below W.heap.size W W')) (w : World) :
    Calls Try.prog 13 #[roll c t n, roll d u p] w fun e w' => e = .returned (.bool true) ∧ Below w.heap.size w w' := by
  go_enter Try.func13, Try.ntmps13
  go_upto_region 1 with fail
  have KA : Bk ((w.alloc (.cells #[.int .i64 c, .int .i64 t, .int .i64 n] 24)).alloc (.cells #[.int .i64 d, .int .i64 u, .int .i64 p] 24)) w.heap.size 24 #[.int .i64 c, .int .i64 t, .int .i64 n] := (Bk.made _ _ _).alloc _
  have KC : Bk ((w.alloc (.cells #[.int .i64 c, .int .i64 t, .int .i64 n] 24)).alloc (.cells #[.int .i64 d, .int .i64 u, .int .i64 p] 24)) (w.heap.size + 1) 24 #[.int .i64 d, .int .i64 u, .int .i64 p] := by
    have := Bk.made (w.alloc (.cells #[.int .i64 c, .int .i64 t, .int .i64 n] 24)) 24 #[.int .i64 d, .int .i64 u, .int .i64 p]
    simpa using this
  have BW : Below w.heap.size w ((w.alloc (.cells #[.int .i64 c, .int .i64 t, .int .i64 n] 24)).alloc (.cells #[.int .i64 d, .int .i64 u, .int .i64 p] 24)) := by go_grown
  generalize (w.alloc (.cells #[.int .i64 c, .int .i64 t, .int .i64 n] 24)).alloc (.cells #[.int .i64 d, .int .i64 u, .int .i64 p] 24) = V at *
  have sW := BW.size
  have l1 := KA.lt
  have l2 := KC.lt
  obtain ⟨q0, q1, q2, -, -, -⟩ := KA.three
  obtain ⟨p0, p1, p2, -, -, -⟩ := KC.three
  go_cut [5, 6, 7] (fun x5 x6 x7 wr => ∃ g : Nat, x5 = .pointer (some ⟨g, 0, none⟩) ∧ x6 = .int .i64 x ∧ x7 = .bool ok ∧ Bk wr g 26 #[.int .i64 a, .int .i64 b, .int .i64 m] ∧ Bk wr w.heap.size 24 #[.int .i64 c, .int .i64 t, .int .i64 n] ∧ Bk wr (w.heap.size + 1) 24 #[.int .i64 d, .int .i64 u, .int .i64 p] ∧ Below w.heap.size w wr)
  case first =>
    go_region_held3 (fun w' => w'.cell? ⟨w.heap.size, 0, none⟩ = some (.int .i64 c) ∧ w'.cell? ⟨w.heap.size, 1, none⟩ = some (.int .i64 t) ∧ w'.cell? ⟨w.heap.size, 2, none⟩ = some (.int .i64 n) ∧ w'.cell? ⟨w.heap.size + 1, 0, none⟩ = some (.int .i64 d) ∧ w'.cell? ⟨w.heap.size + 1, 1, none⟩ = some (.int .i64 u) ∧ w'.cell? ⟨w.heap.size + 1, 2, none⟩ = some (.int .i64 p))
      (((try dsimp only); (repeat' apply And.intro) <;> (first | (with_reducible assumption) | (rw [World.cell?_drew, World.cell?_alloc_lt _ _ _ (by first | exact l1 | exact l2)]; with_reducible assumption) | (rw [World.cell?_alloc_lt _ _ _ (by first | exact l1 | exact l2)]; with_reducible assumption) | (rw [far3 (by omega)]; with_reducible assumption) | (simp [*]; done))))
      (first
        | (go_at_call 15; have _ := KA; refine (toRoll_any _ _ _ _).mono ?_; rintro e v1 ⟨rfl, hv1⟩; have zhv1 := hv1.size; (try simp at zhv1); have BX : Below w.heap.size w v1 := below_next (by go_grown) (by go_size) hv1; have sx := BX.size; have KA' : Bk v1 w.heap.size 24 #[.int .i64 c, .int .i64 t, .int .i64 n] := (by first | exact Bk.call KA' hv1 | exact Bk.call (Bk.alloc KA' _) hv1 | exact Bk.call KA.drew hv1 | exact Bk.call KA hv1 | exact Bk.call (KA.alloc _).drew hv1 | exact Bk.call (KA.alloc _) hv1); have KC' : Bk v1 (w.heap.size + 1) 24 #[.int .i64 d, .int .i64 u, .int .i64 p] := (by first | exact Bk.call KC' hv1 | exact Bk.call (Bk.alloc KC' _) hv1 | exact Bk.call KC.drew hv1 | exact Bk.call KC hv1 | exact Bk.call (KC.alloc _).drew hv1 | exact Bk.call (KC.alloc _) hv1); have l1 := KA'.lt; have l2 := KC'.lt; obtain ⟨q0, q1, q2, -, -, -⟩ := KA'.three; obtain ⟨p0, p1, p2, -, -, -⟩ := KC'.three; (first | (have KX' := Bk.call KX' hv1; obtain ⟨x0, x1, x2, x3, x4, x5⟩ := KX'.three) | (have KX' := Bk.call (Bk.drew (Bk.made _ 26 #[.int .i64 0, .int .i64 0, .int .i64 0])) hv1; obtain ⟨x0, x1, x2, x3, x4, x5⟩ := KX'.three) | (have KX' := Bk.call (Bk.made _ 26 #[.int .i64 0, .int .i64 0, .int .i64 0]) hv1; obtain ⟨x0, x1, x2, x3, x4, x5⟩ := KX'.three) | skip))
        | (go_at_call 34; refine (HS.out _).mono ?_; rintro e v3 ⟨rfl, hv3⟩; have zhv3 := hv3.size; (try simp at zhv3); have BX : Below w.heap.size w v3 := below_next (by go_grown) (by go_size) hv3; have sx := BX.size; have KA' : Bk v3 w.heap.size 24 #[.int .i64 c, .int .i64 t, .int .i64 n] := (by first | exact Bk.call KA' hv3 | exact Bk.call (Bk.alloc KA' _) hv3 | exact Bk.call KA.drew hv3 | exact Bk.call KA hv3 | exact Bk.call (KA.alloc _).drew hv3 | exact Bk.call (KA.alloc _) hv3); have KC' : Bk v3 (w.heap.size + 1) 24 #[.int .i64 d, .int .i64 u, .int .i64 p] := (by first | exact Bk.call KC' hv3 | exact Bk.call (Bk.alloc KC' _) hv3 | exact Bk.call KC.drew hv3 | exact Bk.call KC hv3 | exact Bk.call (KC.alloc _).drew hv3 | exact Bk.call (KC.alloc _) hv3); have l1 := KA'.lt; have l2 := KC'.lt; obtain ⟨q0, q1, q2, -, -, -⟩ := KA'.three; obtain ⟨p0, p1, p2, -, -, -⟩ := KC'.three; (first | (have KX' := Bk.call KX' hv3; obtain ⟨x0, x1, x2, x3, x4, x5⟩ := KX'.three) | (have KX' := Bk.call (Bk.drew (Bk.made _ 26 #[.int .i64 0, .int .i64 0, .int .i64 0])) hv3; obtain ⟨x0, x1, x2, x3, x4, x5⟩ := KX'.three) | (have KX' := Bk.call (Bk.made _ 26 #[.int .i64 0, .int .i64 0, .int .i64 0]) hv3; obtain ⟨x0, x1, x2, x3, x4, x5⟩ := KX'.three) | skip)))
    all_goals go_wp2_with fail
    all_goals go_meet
    all_goals first
      | exact ⟨_, rfl, rfl, rfl, Bk.made _ _ _, KA'.alloc _, KC'.alloc _, by go_grown⟩
      | exact ⟨_, rfl, rfl, rfl, ((KX'.put 0 (.int .i64 a)).put 1 (.int .i64 b)).put 2 (.int .i64 m), ((KA'.far (by simp; omega) _).far (by simp; omega) _).far (by simp; omega) _, ((KC'.far (by simp; omega) _).far (by simp; omega) _).far (by simp; omega) _, by go_grown⟩
  case rest =>
    clear q0 q1 q2 p0 p1 p2 l1 l2 KA KC BW sW
    obtain ⟨g, rfl, rfl, rfl, KG, KA, KC, BW⟩ := hcut
    have sW := BW.size
    have l1 := KA.lt
    have l2 := KC.lt
    have lG := KG.lt
    obtain ⟨q0, q1, q2, -, -, -⟩ := KA.three
    obtain ⟨p0, p1, p2, -, -, -⟩ := KC.three
    go_upto_region 2 with fail
    go_cut [8, 9, 10] (fun x8 x9 x10 wr => ∃ g2 : Nat, x8 = .pointer (some ⟨g2, 0, none⟩) ∧ x9 = .int .i64 x ∧ x10 = .bool ok ∧ Bk wr g2 26 #[.int .i64 a, .int .i64 b, .int .i64 m] ∧ Bk wr w.heap.size 24 #[.int .i64 c, .int .i64 t, .int .i64 n] ∧ Bk wr (w.heap.size + 1) 24 #[.int .i64 d, .int .i64 u, .int .i64 p] ∧ Below w.heap.size w wr ∧ Bk wr g 26 #[.int .i64 a, .int .i64 b, .int .i64 m])
    case first =>
      go_region_held3 (fun w' => w'.cell? ⟨w.heap.size, 0, none⟩ = some (.int .i64 c) ∧ w'.cell? ⟨w.heap.size, 1, none⟩ = some (.int .i64 t) ∧ w'.cell? ⟨w.heap.size, 2, none⟩ = some (.int .i64 n) ∧ w'.cell? ⟨w.heap.size + 1, 0, none⟩ = some (.int .i64 d) ∧ w'.cell? ⟨w.heap.size + 1, 1, none⟩ = some (.int .i64 u) ∧ w'.cell? ⟨w.heap.size + 1, 2, none⟩ = some (.int .i64 p))
        (((try dsimp only); (repeat' apply And.intro) <;> (first | (with_reducible assumption) | (rw [World.cell?_drew, World.cell?_alloc_lt _ _ _ (by first | exact l1 | exact l2)]; with_reducible assumption) | (rw [World.cell?_alloc_lt _ _ _ (by first | exact l1 | exact l2)]; with_reducible assumption) | (rw [far3 (by omega)]; with_reducible assumption) | (simp [*]; done))))
        (first
          | (go_at_call 15; have _ := KA; refine (toRoll_any _ _ _ _).mono ?_; rintro e v1 ⟨rfl, hv1⟩; have zhv1 := hv1.size; (try simp at zhv1); have BX : Below w.heap.size w v1 := below_next (by go_grown) (by go_size) hv1; have sx := BX.size; have KA' : Bk v1 w.heap.size 24 #[.int .i64 c, .int .i64 t, .int .i64 n] := (by first | exact Bk.call KA' hv1 | exact Bk.call (Bk.alloc KA' _) hv1 | exact Bk.call KA.drew hv1 | exact Bk.call KA hv1 | exact Bk.call (KA.alloc _).drew hv1 | exact Bk.call (KA.alloc _) hv1); have KC' : Bk v1 (w.heap.size + 1) 24 #[.int .i64 d, .int .i64 u, .int .i64 p] := (by first | exact Bk.call KC' hv1 | exact Bk.call (Bk.alloc KC' _) hv1 | exact Bk.call KC.drew hv1 | exact Bk.call KC hv1 | exact Bk.call (KC.alloc _).drew hv1 | exact Bk.call (KC.alloc _) hv1); have KG' : Bk v1 g 26 #[.int .i64 a, .int .i64 b, .int .i64 m] := (by first | exact Bk.call KG' hv1 | exact Bk.call (Bk.alloc KG' _) hv1 | exact Bk.call KG.drew hv1 | exact Bk.call KG hv1 | exact Bk.call (KG.alloc _).drew hv1 | exact Bk.call (KG.alloc _) hv1); have lG := KG'.lt; have l1 := KA'.lt; have l2 := KC'.lt; obtain ⟨q0, q1, q2, -, -, -⟩ := KA'.three; obtain ⟨p0, p1, p2, -, -, -⟩ := KC'.three; (first | (have KX' := Bk.call KX' hv1; obtain ⟨x0, x1, x2, x3, x4, x5⟩ := KX'.three) | (have KX' := Bk.call (Bk.drew (Bk.made _ 26 #[.int .i64 0, .int .i64 0, .int .i64 0])) hv1; obtain ⟨x0, x1, x2, x3, x4, x5⟩ := KX'.three) | (have KX' := Bk.call (Bk.made _ 26 #[.int .i64 0, .int .i64 0, .int .i64 0]) hv1; obtain ⟨x0, x1, x2, x3, x4, x5⟩ := KX'.three) | skip))
          | (go_at_call 35; refine (HI.out _).mono ?_; rintro e v3 ⟨rfl, hv3⟩; have zhv3 := hv3.size; (try simp at zhv3); have BX : Below w.heap.size w v3 := below_next (by go_grown) (by go_size) hv3; have sx := BX.size; have KA' : Bk v3 w.heap.size 24 #[.int .i64 c, .int .i64 t, .int .i64 n] := (by first | exact Bk.call KA' hv3 | exact Bk.call (Bk.alloc KA' _) hv3 | exact Bk.call KA.drew hv3 | exact Bk.call KA hv3 | exact Bk.call (KA.alloc _).drew hv3 | exact Bk.call (KA.alloc _) hv3); have KC' : Bk v3 (w.heap.size + 1) 24 #[.int .i64 d, .int .i64 u, .int .i64 p] := (by first | exact Bk.call KC' hv3 | exact Bk.call (Bk.alloc KC' _) hv3 | exact Bk.call KC.drew hv3 | exact Bk.call KC hv3 | exact Bk.call (KC.alloc _).drew hv3 | exact Bk.call (KC.alloc _) hv3); have KG' : Bk v3 g 26 #[.int .i64 a, .int .i64 b, .int .i64 m] := (by first | exact Bk.call KG' hv3 | exact Bk.call (Bk.alloc KG' _) hv3 | exact Bk.call KG.drew hv3 | exact Bk.call KG hv3 | exact Bk.call (KG.alloc _).drew hv3 | exact Bk.call (KG.alloc _) hv3); have lG := KG'.lt; have l1 := KA'.lt; have l2 := KC'.lt; obtain ⟨q0, q1, q2, -, -, -⟩ := KA'.three; obtain ⟨p0, p1, p2, -, -, -⟩ := KC'.three; (first | (have KX' := Bk.call KX' hv3; obtain ⟨x0, x1, x2, x3, x4, x5⟩ := KX'.three) | (have KX' := Bk.call (Bk.drew (Bk.made _ 26 #[.int .i64 0, .int .i64 0, .int .i64 0])) hv3; obtain ⟨x0, x1, x2, x3, x4, x5⟩ := KX'.three) | (have KX' := Bk.call (Bk.made _ 26 #[.int .i64 0, .int .i64 0, .int .i64 0]) hv3; obtain ⟨x0, x1, x2, x3, x4, x5⟩ := KX'.three) | skip)))
      all_goals go_wp2_with fail
      all_goals go_meet
      all_goals first
        | exact ⟨_, rfl, rfl, rfl, Bk.made _ _ _, KA'.alloc _, KC'.alloc _, by go_grown, KG'.alloc _⟩
        | exact ⟨_, rfl, rfl, rfl, ((KX'.put 0 (.int .i64 a)).put 1 (.int .i64 b)).put 2 (.int .i64 m), ((KA'.far (by simp; omega) _).far (by simp; omega) _).far (by simp; omega) _, ((KC'.far (by simp; omega) _).far (by simp; omega) _).far (by simp; omega) _, by go_grown, ((KG'.far (by simp; omega) _).far (by simp; omega) _).far (by simp; omega) _⟩
    case rest =>
      clear q0 q1 q2 p0 p1 p2 l1 l2 KA KC BW sW KG lG
      obtain ⟨g2, rfl, rfl, rfl, KX, -, -, BW, KG⟩ := hcut
      obtain ⟨q0, q1, q2, -, -, -⟩ := KG.three
      obtain ⟨p0, p1, p2, -, -, -⟩ := KX.three
      go_wp2_with fail
      refine (eqRoll_same _ _ _ _).mono ?_; rintro e w4 ⟨rfl, hb⟩
      go_wp2_with fail
      go_ret
      exact ⟨rfl, below_then BW hb⟩
theorem lawRewind (c t n d u p : Int) (w : World) (z0 : (Lit.int .i64 c).wf = true) (z1 : (Lit.int .i64 t).wf = true) (z2 : (Lit.int .i64 n).wf = true) (z3 : (Lit.int .i64 d).wf = true) (z4 : (Lit.int .i64 u).wf = true) (z5 : (Lit.int .i64 p).wf = true) :
    Calls Try.prog 13 #[roll c t n, roll d u p] w fun e w' => e = .returned (.bool true) ∧ Below w.heap.size w w' := by
  by_cases g : vr c t n = true ∧ vr d u p = true ∧ p = 0 ∧ u = t
  · obtain ⟨hv, hd, rfl, rfl⟩ := g
    exact lawRewind_of _ _ _ _ _ _ _ _ _ _ _ (hide (fun W => specRewind_yes c d u n hv hd W)) (hide (fun W => implRewind_yes c d u n hv hd W)) w
  · refine lawRewind_of c t n d u p 0 0 0 0 false ?_ ?_ w
    · show ∀ W : World, _
      cases hv : vr c t n
      · exact fun W => specRewind_no1 c d t u n p hv W
      · cases hd : vr d u p
        · exact fun W => specRewind_no2 c d t u n p hv hd W
        · cases hp : (p != 0)
          · cases hu : (u != t)
            · exact (g ⟨hv, hd, by simpa using hp, by simpa using hu⟩).elim
            · exact fun W => specRewind_no4 c d t u n p hv hd hp hu W
          · exact fun W => specRewind_no3 c d t u n p hv hd hp W
    · show ∀ W : World, _
      cases hv : vr c t n
      · exact fun W => implRewind_no1 c d t u n p hv W
      · cases hd : vr d u p
        · exact fun W => implRewind_no2 c d t u n p hv hd W
        · cases hp : (p != 0)
          · cases hu : (u != t)
            · exact (g ⟨hv, hd, by simpa using hp, by simpa using hu⟩).elim
            · exact fun W => implRewind_no4 c d t u n p hv hd hp hu W
          · exact fun W => implRewind_no3 c d t u n p hv hd hp W
end Go.Proofs.Ytddimgghcmplmaa
