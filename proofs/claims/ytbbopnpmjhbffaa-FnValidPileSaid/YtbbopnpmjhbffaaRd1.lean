/- Contracts of the reader: pick, one, a new reader. -/
import Derived.Test.YtbbopnpmjhbffaaRows
import Derived.Test.YtbbopnpmjhbffaaRk
import Derived.Laws.BitsAllLaws
import Derived.Laws.BitsLemmas
namespace Go.Proofs.Ytbbopnpmjhbffaa
open Go.RowKit
set_option linter.unusedVariables false
set_option maxRecDepth 100000
theorem ofInt_i64 (a : Nat) (ha : a < 9223372036854775808) : (BitVec.ofInt 64 (a : Int)).toNat = a := by
  rw [BitVec.ofInt_natCast, BitVec.toNat_ofNat]; exact Nat.mod_eq_of_lt (by omega)
theorem i64_xor_nat (a b : Nat) (ha : a < 9223372036854775808) (hb : b < 9223372036854775808) : bits .xor .i64 (a : Int) (b : Int) = ((a ^^^ b : Nat) : Int) := by
  have hx : a ^^^ b < 2 ^ 63 := Nat.xor_lt_two_pow (by omega) (by omega)
  show IntKind.i64.wrap ((BitVec.ofInt 64 (a : Int) ^^^ BitVec.ofInt 64 (b : Int)).toNat : Int) = _
  rw [BitVec.toNat_xor, ofInt_i64 a ha, ofInt_i64 b hb, IntKind.wrap_i64]
  omega
/-- a number from 0 up to n, or 0 -/
def PickP (n v : Int) : Prop := (n < 1 → v = 0) ∧ (1 ≤ n → 0 ≤ v ∧ v < n)
set_option maxHeartbeats 1000000 in
theorem pick_any (rb N : Nat) (n : Int) (w : World) (hN : N ≤ 1000000) (h : Rdr w rb N) :
    Calls Try.prog 34 #[.pointer (some ⟨rb, 0, none⟩), .int .i64 n] w (Drew rb (N + 1) (PickP n) w) := by
  obtain ⟨A, m, c, bs, p, hp, hm, hl, hh, hk⟩ := h
  have c0 : w.cell? ⟨rb, 0, none⟩ = some (.slice A m c) := by simp [World.cell?, hh]
  have c1 : w.cell? ⟨rb, 1, none⟩ = some (.int .i64 p) := by simp [World.cell?, hh]
  have f0 : w.frozen? ⟨rb, 0, none⟩ = false := by simp [World.frozen?, hh]
  have f1 : w.frozen? ⟨rb, 1, none⟩ = false := by simp [World.frozen?, hh]
  have HL := hide hl; have HH := hide hh; have HK := hide hk; clear hl hh hk
  have HR : Hid (Rdr (w.setCell ⟨rb, 1, none⟩ (.int .i64 ((p : Int) + 1))) rb (N + 1)) := by
    refine ⟨A, m, c, bs, p + 1, by omega, hm, HL.out, ?_, fun k hk => ?_⟩
    · simp [World.setCell, Array.getElem?_modify, HH.out]
    · obtain ⟨ad, e, hlt, hc, r⟩ := HK.out k hk
      refine ⟨ad, e, hlt, ?_, r⟩
      rw [World.cell?_setCell_other _ _ _ _ (fun e => by have := congrArg Addr.block e; rw [block_add] at this; simp at this; omega)]
      exact hc
  have HS : Hid (RS rb w (w.setCell ⟨rb, 1, none⟩ (.int .i64 ((p : Int) + 1)))) :=
    ⟨rfl, rfl, rfl, by simp [World.setCell], fun i hi hne => Below.heap_setCell _ _ _ _ (fun e => hne (by rw [e]))⟩
  have HC : Hid (∀ k, k < m → ∃ ad, A = some ad ∧ (w.setCell ⟨rb, 1, none⟩ (.int .i64 ((p : Int) + 1))).cell? (ad.add k) = some (.int .u8 (nth bs k)) ∧ 0 ≤ nth bs k ∧ nth bs k ≤ 255) := fun k hk => by
    obtain ⟨ad, e, hlt, hc, r⟩ := HK.out k hk
    refine ⟨ad, e, ?_, r⟩
    rw [World.cell?_setCell_other _ _ _ _ (fun e => by have := congrArg Addr.block e; rw [block_add] at this; simp at this; omega)]
    exact hc
  have g0 : (w.setCell ⟨rb, 1, none⟩ (.int .i64 ((p : Int) + 1))).cell? ⟨rb, 0, none⟩ = some (.slice A m c) := by
    rw [World.cell?_setCell_other _ _ _ _ (fun e => by injection e with _ e; cases e)]; exact c0
  have g1 : (w.setCell ⟨rb, 1, none⟩ (.int .i64 ((p : Int) + 1))).cell? ⟨rb, 1, none⟩ = some (.int .i64 ((p : Int) + 1)) := World.cell?_setCell_same _ _ _ c1
  by_cases hn : n < 1
  · go_enter Try.func34, Try.ntmps34
    go_wp2
    go_ret
    exact ⟨0, rfl, ⟨fun _ => rfl, fun h => ⟨by omega, by omega⟩⟩, HR.out, HS.out⟩
  have hn' : 1 ≤ n := by omega
  by_cases hm0 : m = 0
  · have hd : ((m : Int) == 0) = true := by simp [hm0]
    clear hm0
    go_enter Try.func34, Try.ntmps34
    go_wp2
    go_ret
    exact ⟨0, rfl, ⟨fun _ => rfl, fun h => ⟨by omega, by omega⟩⟩, HR.out, HS.out⟩
  have hd : ((m : Int) == 0) = false := by simpa using hm0
  by_cases hpm : p < m
  · obtain ⟨ad, rfl, hca, ha0, ha1⟩ := HC.out p hpm
    have q1 : 0 ≤ nth bs p % n := Int.emod_nonneg _ (by omega)
    have q2 : nth bs p % n < n := Int.emod_lt_of_pos _ (by omega)
    go_enter Try.func34, Try.ntmps34
    go_wp2
    go_ret
    exact ⟨_, rfl, ⟨fun h => by omega, fun _ => ⟨q1, q2⟩⟩, HR.out, HS.out⟩
  have hpm' : (m : Int) ≤ p := by omega
  go_enter Try.func34, Try.ntmps34
  go_wp2
  generalize w.setCell ⟨rb, 1, none⟩ (.int .i64 ((p : Int) + 1)) = W at *
  obtain ⟨i1, hi1⟩ : ∃ i1 : Nat, i1 = p % m := ⟨_, rfl⟩
  obtain ⟨i2, hi2⟩ : ∃ i2 : Nat, i2 = (p * 7 + 3) % m := ⟨_, rfl⟩
  obtain ⟨dv, hdv⟩ : ∃ dv : Nat, dv = p / m := ⟨_, rfl⟩
  have l1 : i1 < m := by rw [hi1]; exact Nat.mod_lt _ (by omega)
  have l2 : i2 < m := by rw [hi2]; exact Nat.mod_lt _ (by omega)
  have l3 : dv ≤ p := by rw [hdv]; exact Nat.div_le_self _ _
  have t1 : (p : Int) % (m : Int) = i1 := by rw [hi1]; rfl
  have t2 : ((p : Int) * 7 + 3) % (m : Int) = i2 := by rw [hi2]; rfl
  have t3 : (p : Int) / (m : Int) = dv := by rw [hdv]; rfl
  clear hi1 hi2 hdv
  obtain ⟨ad, rfl, hca, ha0, ha1⟩ := HC.out i1 l1
  obtain ⟨ad', e', hcb, hb0, hb1⟩ := HC.out i2 l2
  injection e' with e'; subst e'
  have l4 : (0 : Int) ≤ i1 := by omega
  have l5 : (0 : Int) ≤ i2 := by omega
  have l6 : (i1 : Int) < m := by omega
  have l7 : (i2 : Int) < m := by omega
  have w1 : IntKind.i64.wrap (nth bs i1 * 131) = nth bs i1 * 131 := IntWalk.i64_in _ ⟨by omega, by omega⟩
  have w2 : IntKind.i64.wrap ((p : Int) * 7) = (p : Int) * 7 := IntWalk.i64_in _ ⟨by omega, by omega⟩
  have w3 : IntKind.i64.wrap ((p : Int) * 7 + 3) = (p : Int) * 7 + 3 := IntWalk.i64_in _ ⟨by omega, by omega⟩
  have w4 : IntKind.i64.wrap (nth bs i2 * 1117) = nth bs i2 * 1117 := IntWalk.i64_in _ ⟨by omega, by omega⟩
  have w5 : IntKind.i64.wrap (nth bs i1 * 131 + nth bs i2 * 1117) = nth bs i1 * 131 + nth bs i2 * 1117 := IntWalk.i64_in _ ⟨by omega, by omega⟩
  have w6 : IntKind.i64.wrap ((p : Int) * 29) = (p : Int) * 29 := IntWalk.i64_in _ ⟨by omega, by omega⟩
  have w7 : IntKind.i64.wrap (nth bs i1 * 131 + nth bs i2 * 1117 + (p : Int) * 29) = nth bs i1 * 131 + nth bs i2 * 1117 + (p : Int) * 29 := IntWalk.i64_in _ ⟨by omega, by omega⟩
  have w8 : IntKind.i64.wrap ((dv : Int) * 53) = (dv : Int) * 53 := IntWalk.i64_in _ ⟨by omega, by omega⟩
  have w9 : IntKind.i64.wrap (nth bs i1 * 131 + nth bs i2 * 1117 + (p : Int) * 29 + (dv : Int) * 53) = nth bs i1 * 131 + nth bs i2 * 1117 + (p : Int) * 29 + (dv : Int) * 53 := IntWalk.i64_in _ ⟨by omega, by omega⟩
  obtain ⟨X, hX⟩ : ∃ X : Nat, nth bs i1 * 131 + nth bs i2 * 1117 + (p : Int) * 29 + (dv : Int) * 53 = X := ⟨(nth bs i1 * 131 + nth bs i2 * 1117 + (p : Int) * 29 + (dv : Int) * 53).toNat, by omega⟩
  have hXb : X ≤ 1000000000000 := by omega
  go_quiet (fail)
  clear t1 t2 t3 w1 w2 w3 w4 w5 w6 w7 w8 w9
  clear hX hca hcb ha0 ha1 hb0 hb1 l4 l5 l6 l7
  obtain ⟨y, hy⟩ : ∃ y : Nat, (X : Int) / 64 = y := ⟨X / 64, by omega⟩
  have hyb : y ≤ X := by omega
  obtain ⟨z, hz⟩ : ∃ z : Nat, X ^^^ y = z := ⟨_, rfl⟩
  have hzl : z < 2 ^ 40 := by rw [← hz]; exact Nat.xor_lt_two_pow (by omega) (by omega)
  have hxor : bits .xor .i64 (X : Int) (y : Int) = (z : Int) := by rw [← hz]; exact i64_xor_nat X y (by omega) (by omega)
  clear hz
  have q1 : 0 ≤ (z : Int) % n := Int.emod_nonneg _ (by omega)
  have q2 : (z : Int) % n < n := Int.emod_lt_of_pos _ (by omega)
  go_wp2
  go_ret
  exact ⟨_, rfl, ⟨fun h => by omega, fun _ => ⟨q1, q2⟩⟩, HR.out, HS.out.drewN _⟩
theorem one_any (rb N n c : Nat) (A : Option Addr) (xs : List Int) (w : World) (hN : N ≤ 1000000) (hn : 1 ≤ n) (hn2 : n ≤ 1000) (h : Rdr w rb N) (hI : Ints w A n xs) (hA : ∀ ad, A = some ad → rb < ad.block) :
    Calls Try.prog 35 #[.pointer (some ⟨rb, 0, none⟩), .slice A n c] w (Drew rb (N + 1) (· ∈ xs) w) := by
  go_enter Try.func35, Try.ntmps35
  go_wp2_with fail
  refine (pick_any rb N n _ hN h).mono ?_
  rintro e w1 ⟨v, rfl, hv, hR, hS⟩
  obtain ⟨v0, v1⟩ := hv.2 (by omega)
  obtain ⟨k, rfl⟩ := Int.eq_ofNat_of_zero_le v0
  have hk : k < n := by omega
  obtain ⟨ad, rfl, hb, hc⟩ := hI.2 k hk
  have hc1 : w1.cell? (ad.add k) = some (.int .i64 (nth xs k)) := by
    rw [World.cell?_of_block (w := w) (a := ad.add k) (by rw [block_add]; exact hS.block _ hb (fun e => by injection e with e; have := hA ad rfl; omega))]; exact hc
  have HM := hide (nth_mem (xs := xs) (k := k) (by rw [hI.1]; exact hk))
  have HRR := hide hR; have HSS := hide hS
  clear hv hI hA hR hS hc v0 v1 h
  go_wp2_with fail
  go_ret
  exact ⟨_, rfl, HM.out, HRR.out, HSS.out⟩
/-- one of the numbers of a literal -/
theorem one_lit (rb N : Nat) (W : World) (xs : List Int) (c : Array Value) (g n m : Nat) (hg : W.heap.size = g) (hc : c = (xs.map (.int .i64)).toArray) (hn : n = xs.length) (h1 : 1 ≤ xs.length ∧ xs.length ≤ 1000) (hN : N ≤ 1000000) (h : Rdr W rb N) :
    Calls Try.prog 35 #[.pointer (some ⟨rb, 0, none⟩),   .slice (some ⟨g, 0, none⟩) n m] (W.alloc (.cells c 3)) (Drew rb (N + 1) (· ∈ xs) W) := by
  subst hc hn hg
  refine (one_any rb N xs.length m _ xs _ hN h1.1 h1.2 (h.alloc _) ints_lit (fun ad e => by injection e with e; subst e; exact h.lt)).mono ?_
  rintro e w' ⟨v, he, hv, hR, hS⟩
  exact ⟨v, he, hv, hR, ((RS.refl rb W).alloc _).trans hS⟩
/-- one of the numbers of a literal, whatever they are -/
theorem one_arr (rb N : Nat) (W : World) (c : Array Value) (g n m : Nat) (hg : W.heap.size = g) (hn : n = c.size) (h1 : 1 ≤ c.size ∧ c.size ≤ 1000) (hc : ∀ u ∈ c.toList, ∃ x, u = .int .i64 x) (hN : N ≤ 1000000) (h : Rdr W rb N) :
    Calls Try.prog 35 #[.pointer (some ⟨rb, 0, none⟩), .slice (some ⟨g, 0, none⟩) n m] (W.alloc (.cells c 3)) (Drew rb (N + 1) (fun v => .int .i64 v ∈ c.toList) W) := by
  have e1 : ∀ l : List Value, (∀ u ∈ l, ∃ x, u = .int .i64 x) → l = (l.map fun u => match u with | .int _ x => x | _ => 0).map (.int .i64) := fun l => by
    induction l with
    | nil => intro _; rfl
    | cons a l ih =>
      intro h
      obtain ⟨x, rfl⟩ := h a (by simp)
      rw [List.map_cons, List.map_cons, ← ih fun u hu => h u (by simp [hu])]
  have e2 := e1 c.toList hc
  refine (one_lit rb N W (c.toList.map fun u => match u with | .int _ x => x | _ => 0) c g n m hg (by rw [← e2]) (by simpa using hn) (by simpa using h1) hN h).mono ?_
  rintro e w' ⟨v, he, hv, hR, hS⟩
  refine ⟨v, he, ?_, hR, hS⟩
  rw [e2]
  exact List.mem_map_of_mem hv
theorem newReader_any (A : Option Addr) (n c : Nat) (bs : List Int) (w : World) (hn : n ≤ 1048576) (hnc : n ≤ c) (hl : bs.length = n) (h : ∀ k, k < n → ∃ ad, A = some ad ∧ ad.block < w.heap.size ∧ w.cell? (ad.add k) = some (.int .u8 (nth bs k))) (hb : ∀ x ∈ bs, 0 ≤ x ∧ x ≤ 255) :
    Calls Try.prog 21 #[.slice A n c] w fun e w' => e = .returned (.pointer (some ⟨w.heap.size, 0, none⟩)) ∧ Rdr w' w.heap.size 0 ∧ Below w.heap.size w w' ∧ w'.heap.size = w.heap.size + 1 := by
  have HH := hide h; have HB := hide hb; have HL := hide hl; clear h hb hl
  by_cases hlt : (2000 : Int) < n
  · have hc2 : (2000 : Int) ≤ c := by omega
    go_enter Try.func21, Try.ntmps21
    go_wp2
    go_ret
    refine ⟨rfl, ⟨A, 2000, c, bs.take 2000, 0, by omega, by omega, by rw [List.length_take, HL.out]; omega, heap_alloc_new w _, fun k hk => ?_⟩, (Below.refl _ _).alloc (Nat.le_refl _) _, by simp⟩
    obtain ⟨ad, e, hlt2, hc⟩ := HH.out k (by omega)
    have := HB.out _ (nth_mem (xs := bs) (k := k) (by rw [HL.out]; omega))
    exact ⟨ad, e, hlt2, by rw [World.cell?_alloc_lt _ _ _ (by rw [block_add]; exact hlt2), nth_take hk]; exact hc, by rw [nth_take hk]; exact this⟩
  · have hle : (n : Int) ≤ 2000 := by omega
    go_enter Try.func21, Try.ntmps21
    go_wp2
    go_ret
    refine ⟨rfl, ⟨A, n, c, bs, 0, by omega, by omega, HL.out, heap_alloc_new w _, fun k hk => ?_⟩, (Below.refl _ _).alloc (Nat.le_refl _) _, by simp⟩
    obtain ⟨ad, e, hlt2, hc⟩ := HH.out k hk
    exact ⟨ad, e, hlt2, by rw [World.cell?_alloc_lt _ _ _ (by rw [block_add]; exact hlt2)]; exact hc, HB.out _ (nth_mem (by rw [HL.out]; exact hk))⟩
end Go.Proofs.Ytbbopnpmjhbffaa
