/- The exact law of BestSkip. -/
import Derived.Test.YtagnliolaghehaaSkp4
namespace Go.Proofs.Ytagnliolaghehaa
open Go.RowKit
set_option linter.unusedVariables false
set_option maxRecDepth 100000
set_option maxHeartbeats 1000000 in
theorem lawBestSkip (Aa : Option Addr) (na ca : Nat) (xa : List Int) (Ab : Option Addr) (nb cb : Nat) (xb : List Int) (w : World) (ha : Ints w Aa na xa) (za : ∀ x ∈ xa, (Lit.int .i64 x).wf = true) (hb : Ints w Ab nb xb) (zb : ∀ x ∈ xb, (Lit.int .i64 x).wf = true) :
    Calls Try.prog 3 #[.slice Aa na ca, .slice Ab nb cb] w fun e w' => e = .returned (.bool true) ∧ Below w.heap.size w w' := by
  clear za
  clear zb
  by_cases ga : (1048576 : Int) < na
  · go_enter Try.func3, Try.ntmps3
    go_wp2
    go_ret
    exact ⟨rfl, Below.refl _ _⟩
  have ka : (na : Int) ≤ 1048576 := by omega
  have ma : na ≤ 1048576 := by omega
  clear ga
  by_cases gb : (1048576 : Int) < nb
  · go_enter Try.func3, Try.ntmps3
    go_wp2
    go_ret
    exact ⟨rfl, Below.refl _ _⟩
  have kb : (nb : Int) ≤ 1048576 := by omega
  have mb : nb ≤ 1048576 := by omega
  clear gb
  go_enter Try.func3, Try.ntmps3
  go_wp2_with fail
  refine (toIntS_ret Aa na ca xa _ ma ha).mono ?_; rintro e w1 ⟨Bp, kp, dp, rfl, Op, b1, qp⟩
  obtain rfl : na = kp := (ha.1).symm.trans Op.1
  have T1 : Below w.heap.size w w1 := below_then (Below.refl _ _) b1
  have s1 := b1.size
  have ha_1 := ha.below T1
  have hb_1 := hb.below T1
  go_wp2_with fail
  refine (toIntS_ret Ab nb cb xb _ mb hb_1).mono ?_; rintro e w2 ⟨Bq, kq, dq, rfl, Oq, b2, qq⟩
  obtain rfl : nb = kq := (hb.1).symm.trans Oq.1
  have T2 : Below w.heap.size w w2 := below_then T1 b2
  have s2 := b2.size
  have Op_2 := Op.below b2
  have ha_2 := ha.below T2
  have hb_2 := hb.below T2
  go_wp2_with fail
  refine (specBestSkip Bp Bq na nb dp dq xa xb _ ma mb Op_2.ints Oq.ints).mono ?_; rintro e w3 ⟨rfl, b3⟩
  have T3 : Below w.heap.size w w3 := below_then T2 b3
  have s3 := b3.size
  have Op_3 := Op_2.below b3
  have Oq_3 := Oq.below b3
  have ha_3 := ha.below T3
  have hb_3 := hb.below T3
  go_wp2_with fail
  refine (toIntS_ret Aa na ca xa _ ma ha_3).mono ?_; rintro e w4 ⟨Bx, kx, dx, rfl, Ox, b4, qx⟩
  obtain rfl : na = kx := (ha.1).symm.trans Ox.1
  have T4 : Below w.heap.size w w4 := below_then T3 b4
  have s4 := b4.size
  have Op_4 := Op_3.below b4
  have Oq_4 := Oq_3.below b4
  have ha_4 := ha.below T4
  have hb_4 := hb.below T4
  go_wp2_with fail
  refine (toIntS_ret Ab nb cb xb _ mb hb_4).mono ?_; rintro e w5 ⟨By, ky, dy, rfl, Oy, b5, qy⟩
  obtain rfl : nb = ky := (hb.1).symm.trans Oy.1
  have T5 : Below w.heap.size w w5 := below_then T4 b5
  have s5 := b5.size
  have Op_5 := Op_4.below b5
  have Oq_5 := Oq_4.below b5
  have Ox_5 := Ox.below b5
  have ha_5 := ha.below T5
  have hb_5 := hb.below T5
  go_wp2_with fail
  refine (implBestSkip Bx By na nb dx dy xa xb _ ma mb Ox_5.ints Oy.ints).mono ?_; rintro e w6 ⟨rfl, b6⟩
  have T6 : Below w.heap.size w w6 := below_then T5 b6
  have s6 := b6.size
  have Op_6 := Op_5.below b6
  have Oq_6 := Oq_5.below b6
  have Ox_6 := Ox_5.below b6
  have Oy_6 := Oy.below b6
  have ha_6 := ha.below T6
  have hb_6 := hb.below T6
  go_wp2_with fail
  refine (toIntS_ret Aa na ca xa _ ma ha_6).mono ?_; rintro e w7 ⟨Bu, ku, du, rfl, Ou, b7, qu⟩
  obtain rfl : na = ku := (ha.1).symm.trans Ou.1
  have T7 : Below w.heap.size w w7 := below_then T6 b7
  have s7 := b7.size
  have Op_7 := Op_6.below b7
  have Oq_7 := Oq_6.below b7
  have Ox_7 := Ox_6.below b7
  have Oy_7 := Oy_6.below b7
  have ha_7 := ha.below T7
  have hb_7 := hb.below T7
  go_wp2_with fail
  refine (eqIntS_b Bx Bu na dx du xa _ ma Ox_7.ints Ou.ints).mono ?_; rintro e w8 ⟨rfl, b8⟩
  have T8 : Below w.heap.size w w8 := below_then T7 b8
  have s8 := b8.size
  have Op_8 := Op_7.below b8
  have Oq_8 := Oq_7.below b8
  have Ox_8 := Ox_7.below b8
  have Oy_8 := Oy_7.below b8
  have Ou_8 := Ou.below b8
  have ha_8 := ha.below T8
  have hb_8 := hb.below T8
  go_wp2_with fail
  refine (toIntS_ret Ab nb cb xb _ mb hb_8).mono ?_; rintro e w9 ⟨Bv, kv, dv, rfl, Ov, b9, qv⟩
  obtain rfl : nb = kv := (hb.1).symm.trans Ov.1
  have T9 : Below w.heap.size w w9 := below_then T8 b9
  have s9 := b9.size
  have Op_9 := Op_8.below b9
  have Oq_9 := Oq_8.below b9
  have Ox_9 := Ox_8.below b9
  have Oy_9 := Oy_8.below b9
  have Ou_9 := Ou_8.below b9
  have ha_9 := ha.below T9
  have hb_9 := hb.below T9
  go_wp2_with fail
  refine (eqIntS_b By Bv nb dy dv xb _ mb Oy_9.ints Ov.ints).mono ?_; rintro e w10 ⟨rfl, b10⟩
  have T10 : Below w.heap.size w w10 := below_then T9 b10
  have s10 := b10.size
  have Op_10 := Op_9.below b10
  have Oq_10 := Oq_9.below b10
  have Ox_10 := Ox_9.below b10
  have Oy_10 := Oy_9.below b10
  have Ou_10 := Ou_9.below b10
  have Ov_10 := Ov.below b10
  have ha_10 := ha.below T10
  have hb_10 := hb.below T10
  go_wp2_with fail
  go_ret
  exact ⟨rfl, T10⟩
end Go.Proofs.Ytagnliolaghehaa
