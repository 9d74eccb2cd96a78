/- The exact laws of the ways of knives. -/
import Derived.Test.YthoamjkakfghbaaMov4
namespace Go.Proofs.Ythoamjkakfghbaa
open Go.RowKit
set_option linter.unusedVariables false
set_option maxRecDepth 100000
set_option maxHeartbeats 1000000 in
theorem lawMoveKnives (Aa : Option Addr) (na ca : Nat) (xa : List Int) (Ab : Option Addr) (nb cb : Nat) (xb : List Int) (w : World) (ha : Ints w Aa na xa) (za : ∀ x ∈ xa, (Lit.int .i64 x).wf = true) (hb : Ints w Ab nb xb) (zb : ∀ x ∈ xb, (Lit.int .i64 x).wf = true) :
    Calls Try.prog 3 #[.slice Aa na ca, .slice Ab nb cb] w fun e w' => e = .returned (.bool true) ∧ Below w.heap.size w w' := by
  clear za
  clear zb
  by_cases ga : (1048576 : Int) < na
  · go_enter Try.func3, Try.ntmps3
    go_wp2
    go_ret
    exact ⟨rfl, Below.refl _ _⟩
  have ka : (na : Int) ≤ 1048576 := by omega
  have ma : na ≤ 1048576 := by omega
  clear ga
  by_cases gb : (1048576 : Int) < nb
  · go_enter Try.func3, Try.ntmps3
    go_wp2
    go_ret
    exact ⟨rfl, Below.refl _ _⟩
  have kb : (nb : Int) ≤ 1048576 := by omega
  have mb : nb ≤ 1048576 := by omega
  clear gb
  go_enter Try.func3, Try.ntmps3
  go_wp2_with fail
  refine (toIntS_ret Aa na ca xa _ ma ha).mono ?_; rintro e w1 ⟨Bp, kp, dp, rfl, Op, b1, qp⟩
  obtain rfl : na = kp := (ha.1).symm.trans Op.1
  have T1 : Below w.heap.size w w1 := below_then (Below.refl _ _) b1
  have s1 := b1.size
  have ha_1 := ha.below T1
  have hb_1 := hb.below T1
  go_wp2_with fail
  refine (toIntS_ret Ab nb cb xb _ mb hb_1).mono ?_; rintro e w2 ⟨Bq, kq, dq, rfl, Oq, b2, qq⟩
  obtain rfl : nb = kq := (hb.1).symm.trans Oq.1
  have T2 : Below w.heap.size w w2 := below_then T1 b2
  have s2 := b2.size
  have Op_2 := Op.below b2
  have ha_2 := ha.below T2
  have hb_2 := hb.below T2
  go_wp2_with fail
  refine (specMoveKnives Bp Bq na dp nb dq xa xb _ ma mb Op_2.ints Oq.ints).mono ?_; rintro e w3 ⟨rfl, b3⟩
  have T3 : Below w.heap.size w w3 := below_then T2 b3
  have s3 := b3.size
  have Op_3 := Op_2.below b3
  have Oq_3 := Oq.below b3
  have ha_3 := ha.below T3
  have hb_3 := hb.below T3
  go_wp2_with fail
  refine (toIntS_ret Aa na ca xa _ ma ha_3).mono ?_; rintro e w4 ⟨Bx, kx, dx, rfl, Ox, b4, qx⟩
  obtain rfl : na = kx := (ha.1).symm.trans Ox.1
  have T4 : Below w.heap.size w w4 := below_then T3 b4
  have s4 := b4.size
  have Op_4 := Op_3.below b4
  have Oq_4 := Oq_3.below b4
  have ha_4 := ha.below T4
  have hb_4 := hb.below T4
  go_wp2_with fail
  refine (toIntS_ret Ab nb cb xb _ mb hb_4).mono ?_; rintro e w5 ⟨By, ky, dy, rfl, Oy, b5, qy⟩
  obtain rfl : nb = ky := (hb.1).symm.trans Oy.1
  have T5 : Below w.heap.size w w5 := below_then T4 b5
  have s5 := b5.size
  have Op_5 := Op_4.below b5
  have Oq_5 := Oq_4.below b5
  have Ox_5 := Ox.below b5
  have ha_5 := ha.below T5
  have hb_5 := hb.below T5
  go_wp2_with fail
  refine (implMoveKnives Bx By na dx nb dy xa xb _ ma mb Ox_5.ints Oy.ints).mono ?_; rintro e w6 ⟨rfl, b6⟩
  have T6 : Below w.heap.size w w6 := below_then T5 b6
  have s6 := b6.size
  have Op_6 := Op_5.below b6
  have Oq_6 := Oq_5.below b6
  have Ox_6 := Ox_5.below b6
  have Oy_6 := Oy.below b6
  have ha_6 := ha.below T6
  have hb_6 := hb.below T6
  go_wp2_with fail
  refine (toIntS_ret Aa na ca xa _ ma ha_6).mono ?_; rintro e w7 ⟨Bu, ku, du, rfl, Ou, b7, qu⟩
  obtain rfl : na = ku := (ha.1).symm.trans Ou.1
  have T7 : Below w.heap.size w w7 := below_then T6 b7
  have s7 := b7.size
  have Op_7 := Op_6.below b7
  have Oq_7 := Oq_6.below b7
  have Ox_7 := Ox_6.below b7
  have Oy_7 := Oy_6.below b7
  have ha_7 := ha.below T7
  have hb_7 := hb.below T7
  go_wp2_with fail
  refine (eqIntS_b Bx Bu na dx du xa _ ma Ox_7.ints Ou.ints).mono ?_; rintro e w8 ⟨rfl, b8⟩
  have T8 : Below w.heap.size w w8 := below_then T7 b8
  have s8 := b8.size
  have Op_8 := Op_7.below b8
  have Oq_8 := Oq_7.below b8
  have Ox_8 := Ox_7.below b8
  have Oy_8 := Oy_7.below b8
  have Ou_8 := Ou.below b8
  have ha_8 := ha.below T8
  have hb_8 := hb.below T8
  go_wp2_with fail
  refine (toIntS_ret Ab nb cb xb _ mb hb_8).mono ?_; rintro e w9 ⟨Bv, kv, dv, rfl, Ov, b9, qv⟩
  obtain rfl : nb = kv := (hb.1).symm.trans Ov.1
  have T9 : Below w.heap.size w w9 := below_then T8 b9
  have s9 := b9.size
  have Op_9 := Op_8.below b9
  have Oq_9 := Oq_8.below b9
  have Ox_9 := Ox_8.below b9
  have Oy_9 := Oy_8.below b9
  have Ou_9 := Ou_8.below b9
  have ha_9 := ha.below T9
  have hb_9 := hb.below T9
  go_wp2_with fail
  refine (eqIntS_b By Bv nb dy dv xb _ mb Oy_9.ints Ov.ints).mono ?_; rintro e w10 ⟨rfl, b10⟩
  have T10 : Below w.heap.size w w10 := below_then T9 b10
  have s10 := b10.size
  have Op_10 := Op_9.below b10
  have Oq_10 := Oq_9.below b10
  have Ox_10 := Ox_9.below b10
  have Oy_10 := Oy_9.below b10
  have Ou_10 := Ou_9.below b10
  have Ov_10 := Ov.below b10
  have ha_10 := ha.below T10
  have hb_10 := hb.below T10
  go_wp2_with fail
  go_ret
  exact ⟨rfl, T10⟩
set_option maxHeartbeats 1000000 in
theorem lawPairKnives (Aa : Option Addr) (na ca : Nat) (xa : List Int) (Ab : Option Addr) (nb cb : Nat) (xb : List Int) (w : World) (ha : Ints w Aa na xa) (za : ∀ x ∈ xa, (Lit.int .i64 x).wf = true) (hb : Ints w Ab nb xb) (zb : ∀ x ∈ xb, (Lit.int .i64 x).wf = true) :
    Calls Try.prog 4 #[.slice Aa na ca, .slice Ab nb cb] w fun e w' => e = .returned (.bool true) ∧ Below w.heap.size w w' := by
  clear za
  clear zb
  by_cases ga : (1048576 : Int) < na
  · go_enter Try.func4, Try.ntmps4
    go_wp2
    go_ret
    exact ⟨rfl, Below.refl _ _⟩
  have ka : (na : Int) ≤ 1048576 := by omega
  have ma : na ≤ 1048576 := by omega
  clear ga
  by_cases gb : (1048576 : Int) < nb
  · go_enter Try.func4, Try.ntmps4
    go_wp2
    go_ret
    exact ⟨rfl, Below.refl _ _⟩
  have kb : (nb : Int) ≤ 1048576 := by omega
  have mb : nb ≤ 1048576 := by omega
  clear gb
  go_enter Try.func4, Try.ntmps4
  go_wp2_with fail
  refine (toIntS_ret Aa na ca xa _ ma ha).mono ?_; rintro e w1 ⟨Bp, kp, dp, rfl, Op, b1, qp⟩
  obtain rfl : na = kp := (ha.1).symm.trans Op.1
  have T1 : Below w.heap.size w w1 := below_then (Below.refl _ _) b1
  have s1 := b1.size
  have ha_1 := ha.below T1
  have hb_1 := hb.below T1
  go_wp2_with fail
  refine (toIntS_ret Ab nb cb xb _ mb hb_1).mono ?_; rintro e w2 ⟨Bq, kq, dq, rfl, Oq, b2, qq⟩
  obtain rfl : nb = kq := (hb.1).symm.trans Oq.1
  have T2 : Below w.heap.size w w2 := below_then T1 b2
  have s2 := b2.size
  have Op_2 := Op.below b2
  have ha_2 := ha.below T2
  have hb_2 := hb.below T2
  go_wp2_with fail
  refine (specPairKnives Bp Bq na dp nb dq xa xb _ ma mb Op_2.ints Oq.ints).mono ?_; rintro e w3 ⟨Br, kr, dr, rfl, Or, b3, qr⟩
  have mr : kr ≤ 1048576 := by have h1 := Or.1; have h2 := pkOf_len xa xb; have h3 := ha.1; omega
  have T3 : Below w.heap.size w w3 := below_then T2 b3
  have s3 := b3.size
  have Op_3 := Op_2.below b3
  have Oq_3 := Oq.below b3
  have ha_3 := ha.below T3
  have hb_3 := hb.below T3
  go_wp2_with fail
  refine (toIntS_ret Aa na ca xa _ ma ha_3).mono ?_; rintro e w4 ⟨Bx, kx, dx, rfl, Ox, b4, qx⟩
  obtain rfl : na = kx := (ha.1).symm.trans Ox.1
  have T4 : Below w.heap.size w w4 := below_then T3 b4
  have s4 := b4.size
  have Op_4 := Op_3.below b4
  have Oq_4 := Oq_3.below b4
  have Or_4 := Or.below b4
  have ha_4 := ha.below T4
  have hb_4 := hb.below T4
  go_wp2_with fail
  refine (toIntS_ret Ab nb cb xb _ mb hb_4).mono ?_; rintro e w5 ⟨By, ky, dy, rfl, Oy, b5, qy⟩
  obtain rfl : nb = ky := (hb.1).symm.trans Oy.1
  have T5 : Below w.heap.size w w5 := below_then T4 b5
  have s5 := b5.size
  have Op_5 := Op_4.below b5
  have Oq_5 := Oq_4.below b5
  have Or_5 := Or_4.below b5
  have Ox_5 := Ox.below b5
  have ha_5 := ha.below T5
  have hb_5 := hb.below T5
  go_wp2_with fail
  refine (implPairKnives Bx By na dx nb dy xa xb _ ma mb Ox_5.ints Oy.ints).mono ?_; rintro e w6 ⟨Bg, kg, dg, rfl, Og, b6, qg⟩
  obtain rfl : kr = kg := (Or.1).symm.trans Og.1
  have T6 : Below w.heap.size w w6 := below_then T5 b6
  have s6 := b6.size
  have Op_6 := Op_5.below b6
  have Oq_6 := Oq_5.below b6
  have Or_6 := Or_5.below b6
  have Ox_6 := Ox_5.below b6
  have Oy_6 := Oy.below b6
  have ha_6 := ha.below T6
  have hb_6 := hb.below T6
  go_wp2_with fail
  refine (eqIntS_b Bg Br kr dg dr (pkOf xa xb) _ mr Og.ints Or_6.ints).mono ?_; rintro e w7 ⟨rfl, b7⟩
  have T7 : Below w.heap.size w w7 := below_then T6 b7
  have s7 := b7.size
  have Op_7 := Op_6.below b7
  have Oq_7 := Oq_6.below b7
  have Or_7 := Or_6.below b7
  have Ox_7 := Ox_6.below b7
  have Oy_7 := Oy_6.below b7
  have Og_7 := Og.below b7
  have ha_7 := ha.below T7
  have hb_7 := hb.below T7
  go_wp2_with fail
  refine (toIntS_ret Aa na ca xa _ ma ha_7).mono ?_; rintro e w8 ⟨Bu, ku, du, rfl, Ou, b8, qu⟩
  obtain rfl : na = ku := (ha.1).symm.trans Ou.1
  have T8 : Below w.heap.size w w8 := below_then T7 b8
  have s8 := b8.size
  have Op_8 := Op_7.below b8
  have Oq_8 := Oq_7.below b8
  have Or_8 := Or_7.below b8
  have Ox_8 := Ox_7.below b8
  have Oy_8 := Oy_7.below b8
  have Og_8 := Og_7.below b8
  have ha_8 := ha.below T8
  have hb_8 := hb.below T8
  go_wp2_with fail
  refine (eqIntS_b Bx Bu na dx du xa _ ma Ox_8.ints Ou.ints).mono ?_; rintro e w9 ⟨rfl, b9⟩
  have T9 : Below w.heap.size w w9 := below_then T8 b9
  have s9 := b9.size
  have Op_9 := Op_8.below b9
  have Oq_9 := Oq_8.below b9
  have Or_9 := Or_8.below b9
  have Ox_9 := Ox_8.below b9
  have Oy_9 := Oy_8.below b9
  have Og_9 := Og_8.below b9
  have Ou_9 := Ou.below b9
  have ha_9 := ha.below T9
  have hb_9 := hb.below T9
  go_wp2_with fail
  refine (toIntS_ret Ab nb cb xb _ mb hb_9).mono ?_; rintro e w10 ⟨Bv, kv, dv, rfl, Ov, b10, qv⟩
  obtain rfl : nb = kv := (hb.1).symm.trans Ov.1
  have T10 : Below w.heap.size w w10 := below_then T9 b10
  have s10 := b10.size
  have Op_10 := Op_9.below b10
  have Oq_10 := Oq_9.below b10
  have Or_10 := Or_9.below b10
  have Ox_10 := Ox_9.below b10
  have Oy_10 := Oy_9.below b10
  have Og_10 := Og_9.below b10
  have Ou_10 := Ou_9.below b10
  have ha_10 := ha.below T10
  have hb_10 := hb.below T10
  go_wp2_with fail
  refine (eqIntS_b By Bv nb dy dv xb _ mb Oy_10.ints Ov.ints).mono ?_; rintro e w11 ⟨rfl, b11⟩
  have T11 : Below w.heap.size w w11 := below_then T10 b11
  have s11 := b11.size
  have Op_11 := Op_10.below b11
  have Oq_11 := Oq_10.below b11
  have Or_11 := Or_10.below b11
  have Ox_11 := Ox_10.below b11
  have Oy_11 := Oy_10.below b11
  have Og_11 := Og_10.below b11
  have Ou_11 := Ou_10.below b11
  have Ov_11 := Ov.below b11
  have ha_11 := ha.below T11
  have hb_11 := hb.below T11
  go_wp2_with fail
  refine (markIntS_any Bx na dx w3.heap.size w4.heap.size 1 xa _ ma (by omega) (by omega) Ox_11).mono ?_; rintro e w12 ⟨rfl, Ox_12, W12⟩
  have T12 : Below w.heap.size w w12 := T11.trans (W12.below (by omega))
  have s12 : w11.heap.size ≤ w12.heap.size := by rw [W12.size]; exact Nat.le_refl _
  have Op_12 := Op_11.within W12 (by omega)
  have Oq_12 := Oq_11.within W12 (by omega)
  have Or_12 := Or_11.within W12 (by omega)
  have Oy_12 := Oy_11.within W12 (by omega)
  have Og_12 := Og_11.within W12 (by omega)
  have Ou_12 := Ou_11.within W12 (by omega)
  have Ov_12 := Ov_11.within W12 (by omega)
  have ha_12 := ha.below T12
  have hb_12 := hb.below T12
  go_wp2_with fail
  refine (markIntS_any By nb dy w4.heap.size w5.heap.size (1 + na) xb _ mb (by omega) (by omega) Oy_12).mono ?_; rintro e w13 ⟨rfl, Oy_13, W13⟩
  have T13 : Below w.heap.size w w13 := T12.trans (W13.below (by omega))
  have s13 : w12.heap.size ≤ w13.heap.size := by rw [W13.size]; exact Nat.le_refl _
  have Op_13 := Op_12.within W13 (by omega)
  have Oq_13 := Oq_12.within W13 (by omega)
  have Or_13 := Or_12.within W13 (by omega)
  have Ox_13 := Ox_12.within W13 (by omega)
  have Og_13 := Og_12.within W13 (by omega)
  have Ou_13 := Ou_12.within W13 (by omega)
  have Ov_13 := Ov_12.within W13 (by omega)
  have ha_13 := ha.below T13
  have hb_13 := hb.below T13
  go_wp2_with fail
  refine (eqIntS_b Bg Br kr dg dr (pkOf xa xb) _ mr Og_13.ints Or_13.ints).mono ?_; rintro e w14 ⟨rfl, b14⟩
  have T14 : Below w.heap.size w w14 := below_then T13 b14
  have s14 := b14.size
  have Op_14 := Op_13.below b14
  have Oq_14 := Oq_13.below b14
  have Or_14 := Or_13.below b14
  have Ox_14 := Ox_13.below b14
  have Oy_14 := Oy_13.below b14
  have Og_14 := Og_13.below b14
  have Ou_14 := Ou_13.below b14
  have Ov_14 := Ov_13.below b14
  have ha_14 := ha.below T14
  have hb_14 := hb.below T14
  go_wp2_with fail
  refine (markIntS_any Bg kr dg w5.heap.size w6.heap.size 1 (pkOf xa xb) _ mr (by omega) (by omega) Og_14).mono ?_; rintro e w15 ⟨rfl, Og_15, W15⟩
  have T15 : Below w.heap.size w w15 := T14.trans (W15.below (by omega))
  have s15 : w14.heap.size ≤ w15.heap.size := by rw [W15.size]; exact Nat.le_refl _
  have Op_15 := Op_14.within W15 (by omega)
  have Oq_15 := Oq_14.within W15 (by omega)
  have Or_15 := Or_14.within W15 (by omega)
  have Ox_15 := Ox_14.within W15 (by omega)
  have Oy_15 := Oy_14.within W15 (by omega)
  have Ou_15 := Ou_14.within W15 (by omega)
  have Ov_15 := Ov_14.within W15 (by omega)
  have ha_15 := ha.below T15
  have hb_15 := hb.below T15
  go_wp2_with fail
  refine (heldIntS_any Bg kr dg w5.heap.size w6.heap.size 1 (pkOf xa xb) _ mr (by omega) (by omega) Og_15).mono ?_; rintro e w' ⟨rfl, rfl⟩
  go_wp2_with fail
  refine (toIntS_ret Aa na ca xa _ ma ha_15).mono ?_; rintro e w16 ⟨Bi, ki, di, rfl, Oi, b16, qi⟩
  obtain rfl : na = ki := (ha.1).symm.trans Oi.1
  have T16 : Below w.heap.size w w16 := below_then T15 b16
  have s16 := b16.size
  have Op_16 := Op_15.below b16
  have Oq_16 := Oq_15.below b16
  have Or_16 := Or_15.below b16
  have Ox_16 := Ox_15.below b16
  have Oy_16 := Oy_15.below b16
  have Og_16 := Og_15.below b16
  have Ou_16 := Ou_15.below b16
  have Ov_16 := Ov_15.below b16
  have ha_16 := ha.below T16
  have hb_16 := hb.below T16
  go_wp2_with fail
  refine (toIntS_ret Ab nb cb xb _ mb hb_16).mono ?_; rintro e w17 ⟨Bj, kj, dj, rfl, Oj, b17, qj⟩
  obtain rfl : nb = kj := (hb.1).symm.trans Oj.1
  have T17 : Below w.heap.size w w17 := below_then T16 b17
  have s17 := b17.size
  have Op_17 := Op_16.below b17
  have Oq_17 := Oq_16.below b17
  have Or_17 := Or_16.below b17
  have Ox_17 := Ox_16.below b17
  have Oy_17 := Oy_16.below b17
  have Og_17 := Og_16.below b17
  have Ou_17 := Ou_16.below b17
  have Ov_17 := Ov_16.below b17
  have Oi_17 := Oi.below b17
  have ha_17 := ha.below T17
  have hb_17 := hb.below T17
  go_wp2_with fail
  refine (implPairKnives Bi Bj na di nb dj xa xb _ ma mb Oi_17.ints Oj.ints).mono ?_; rintro e w18 ⟨Bh, kh, dh, rfl, Oh, b18, qh⟩
  obtain rfl : kr = kh := (Or.1).symm.trans Oh.1
  have T18 : Below w.heap.size w w18 := below_then T17 b18
  have s18 := b18.size
  have Op_18 := Op_17.below b18
  have Oq_18 := Oq_17.below b18
  have Or_18 := Or_17.below b18
  have Ox_18 := Ox_17.below b18
  have Oy_18 := Oy_17.below b18
  have Og_18 := Og_17.below b18
  have Ou_18 := Ou_17.below b18
  have Ov_18 := Ov_17.below b18
  have Oi_18 := Oi_17.below b18
  have Oj_18 := Oj.below b18
  have ha_18 := ha.below T18
  have hb_18 := hb.below T18
  go_wp2_with fail
  refine (eqIntS_b Bh Br kr dh dr (pkOf xa xb) _ mr Oh.ints Or_18.ints).mono ?_; rintro e w19 ⟨rfl, b19⟩
  have T19 : Below w.heap.size w w19 := below_then T18 b19
  have s19 := b19.size
  have Op_19 := Op_18.below b19
  have Oq_19 := Oq_18.below b19
  have Or_19 := Or_18.below b19
  have Ox_19 := Ox_18.below b19
  have Oy_19 := Oy_18.below b19
  have Og_19 := Og_18.below b19
  have Ou_19 := Ou_18.below b19
  have Ov_19 := Ov_18.below b19
  have Oi_19 := Oi_18.below b19
  have Oj_19 := Oj_18.below b19
  have Oh_19 := Oh.below b19
  have ha_19 := ha.below T19
  have hb_19 := hb.below T19
  go_wp2_with fail
  refine (heldIntS_any Bg kr dg w5.heap.size w6.heap.size 1 (pkOf xa xb) _ mr (by omega) (by omega) Og_19).mono ?_; rintro e w' ⟨rfl, rfl⟩
  go_wp2_with fail
  go_ret
  exact ⟨rfl, T19⟩
end Go.Proofs.Ythoamjkakfghbaa
