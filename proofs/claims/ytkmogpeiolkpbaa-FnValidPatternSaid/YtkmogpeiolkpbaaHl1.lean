/- Contracts of the laws' own helpers over lists. -/
import Derived.Test.YtkmogpeiolkpbaaInt2
import Derived.Laws.AppendOwnNone
namespace Go.Proofs.Ytkmogpeiolkpbaa
open Go.RowKit
set_option linter.unusedVariables false
set_option maxRecDepth 100000
section
variable {P : Program}
/-- a slice that reads as a list is appended to a slice of the call's own -/
theorem wpList_appL {w : World} {ops : Array Oper} {rest : List Oper} {o : Oper} {a : Act} {Q : Exit → Act → World → Prop} (hgd : o.guard = none) (s x : Operand) (t : TypeId)
    (ho : o.op = .call { callee := .builtin .append, args := #[s, x], argTypes := #[t, t] })
    (base : Nat) (e : TypeId) (ht : P.underlying t = some (.slice e)) (hinfo : (P.info? e).map (fun i => (i.zero, i.size, i.bytes)) = some (some (.int .i64 0), 1, 8))
    (v : Value) (n : Nat) (ys : List Int) (A : Option Addr) (m c : Nat) (zs : List Int) (hs : a.eval s = v) (hx : a.eval x = .slice A m c) (hown : w.ownsRow base e 1 v n (ys.map (.int .i64))) (hI : Ints w A m zs)
    (hn : n + m ≤ 1048576) (hbase : base ≤ w.heap.size)
    (h : ∀ v' w', w'.ownsRow base e 1 v' (n + m) ((ys ++ zs).map (.int .i64)) → Below base w w' → wpList P ops Q rest (a.put o.dst v') w') :
    wpList P ops Q (o :: rest) a w := by
  obtain ⟨i0, hi0, hz0, hz1, hz2⟩ := info_parts hinfo
  cases A with
  | none =>
    have hm : m = 0 := by
      rcases Nat.eq_zero_or_pos m with h0 | h0
      · exact h0
      · obtain ⟨ad, e, _⟩ := hI.2 0 h0; cases e
    subst hm
    have hz : zs = [] := List.eq_nil_of_length_eq_zero hI.1
    subst hz
    have hrun : (Builtin.append_ #[t, t] o.type #[v, .slice none 0 c]).run P w = .ok v w := by
      rcases hown.2 with ⟨rfl, rfl⟩ | ⟨g, cap, cur, rfl, _, _, hnc, _⟩
      · simp [Builtin.append_, run_underlying ht, sizeOf, typeInfo, hi0, Builtin.lenOf, Builtin.firstCells]
      · simp [Builtin.append_, run_underlying ht, sizeOf, typeInfo, hi0, Builtin.lenOf, Builtin.firstCells, hnc, storeCells]
    refine wpList_plain hgd fun K hK => ?_
    unfold Oper.wp
    simp [execOp, ho, resolve, invoke, builtin, hs, hx, hrun, Result.andThen]
    exact hK _ _ (h v w (by simpa using hown) (Below.refl _ _))
  | some ad =>
    refine wpList_append_own _ hgd s x t ho base e i0 (.int .i64 0) 1 8 ht hi0 hz0 hz1 hz2 rfl (by omega) v n (ys.map (.int .i64)) hs hown ad m c (zs.map (.int .i64)) hx (by simp [hI.1]) ?_ ?_ (by simp only [maxLen]; omega) (by omega) hbase ?_
    · intro j u hu
      rw [List.getElem?_map] at hu
      obtain ⟨y, hy, rfl⟩ := Option.map_eq_some_iff.1 hu
      obtain ⟨hj, hy⟩ := List.getElem?_eq_some_iff.1 hy
      obtain ⟨ad', e', _, hc⟩ := hI.2 j (by rw [← hI.1]; exact hj)
      injection e' with e'; subst e'
      rw [hc, nth_lt hj, hy]
    · intro u hu
      obtain ⟨y, _, rfl⟩ := List.mem_map.1 hu
      rfl
    · intro v' w' h1 h2 _
      exact h v' w' (by simpa using h1) ((Below.refl _ _).grown h2 hbase fun k hk => (hown.lt k hk).1)
end
theorem Ints.cut {w : World} {A : Option Addr} {n k c : Nat} {xs : List Int} (h : Ints w A n xs) (hk : k ≤ n) (hc : n ≤ c) : Ints w (if c = k then A else A.map (·.add k)) (n - k) (xs.drop k) := by
  refine ⟨by rw [List.length_drop, h.1], fun j hj => ?_⟩
  obtain ⟨ad, rfl, hb, hcl⟩ := h.2 (k + j) (by omega)
  rw [if_neg (by omega)]
  refine ⟨ad.add k, rfl, by rw [block_add]; exact hb, ?_⟩
  have e1 : (ad.add k).add j = ad.add (k + j) := by
    unfold Addr.add
    by_cases h1 : k = 0 <;> by_cases h2 : j = 0 <;> simp [h1, h2, Nat.add_assoc]
  have e2 : nth (xs.drop k) j = nth xs (k + j) := by simp [nth]
  rw [e1, e2]
  exact hcl
theorem join_any (A B : Option Addr) (n c m d : Nat) (xs ys : List Int) (w : World) (hn : n + m ≤ 1048576) (h : Ints w A n xs) (h' : Ints w B m ys) : Calls Try.prog 57 #[.slice A n c, .slice B m d] w (RetL (xs ++ ys) w) := by
  have HI := hide h; have HI' := hide h'
  go_enter Try.func57, Try.ntmps57
  go_wp2_with (first
    | (at_builtin; refine wpList_appL rfl (.tmp 5) (.tmp 6) _ rfl w.heap.size _ Try.underlying23 info_int _ 0 [] A n c xs (by rfl) (by rfl) (own_empty_row (Nat.le_refl _)) (HI.out.alloc _) (by omega) (by simp) ?_; intro v1 w1 hown1 hb1; have hB1 : Below w.heap.size w w1 := ((Below.refl _ _).alloc (Nat.le_refl _) _).trans hb1; have HB1 := hide hB1; have HO1 := hide hown1; clear hB1 hown1 hb1)
    | (at_builtin; refine wpList_appL rfl (.tmp 7) (.tmp 8) _ rfl w.heap.size _ Try.underlying23 info_int _ _ _ B m d ys (by rfl) (by rfl) HO1.out (HI'.out.below HB1.out) (by omega) HB1.out.size ?_; intro v2 w2 hown2 hb2))
  go_ret
  exact retL_row hown2 (HB1.out.trans hb2)
def wo (xs : List Int) (k : Nat) : List Int := xs.take k ++ xs.drop (k + 1)
theorem wo_mem {xs : List Int} {k : Nat} {x : Int} (h : x ∈ wo xs k) : x ∈ xs := by
  rcases List.mem_append.1 h with h | h
  · exact List.mem_of_mem_take h
  · exact List.mem_of_mem_drop h
theorem wo_len {xs : List Int} {k : Nat} (h : k < xs.length) : (wo xs k).length = xs.length - 1 := by simp [wo]; omega
theorem without_any (A : Option Addr) (n c k : Nat) (xs : List Int) (w : World) (hn : n ≤ 100000) (hk : k < n) (hnc : n ≤ c) (h : Ints w A n xs) : Calls Try.prog 22 #[.slice A n c, .int .i64 k] w (RetL (wo xs k) w) := by
  have HI1 := hide (h.take (m := k) (by omega))
  have hcut := h.cut (k := k + 1) (c := c) (by omega) hnc
  rw [show (fun x : Addr => x.add (k + 1)) = fun x => ⟨x.block, x.off + (k + 1), none⟩ by funext x; simp [Addr.add]] at hcut
  have k0 : (0 : Int) ≤ k := by omega
  have k1 : (k : Int) ≤ c := by omega
  have k2 : (k : Int) + 1 ≤ n := by omega
  have k3 : (0 : Int) ≤ (k : Int) + 1 := by omega
  have k4 : ((k : Int) + 1).toNat = k + 1 := by omega
  have k5 : (k : Int) ≤ n := by omega
  have e1 : IntKind.i64.wrap ((k : Int) + 1) = (k : Int) + 1 := IntWalk.i64_in _ ⟨by omega, by omega⟩
  clear h
  obtain ⟨A2, hA2⟩ : ∃ A2 : Option Addr, (if c = k + 1 then A else Option.map (fun x => (⟨x.block, x.off + (k + 1), none⟩ : Addr)) A) = A2 := ⟨_, rfl⟩
  rw [hA2] at hcut
  have HI2 := hide hcut; clear hcut
  go_enter Try.func22, Try.ntmps22
  go_wp2
  go_region_held3 (fun _ => True) (trivial)
    (first | (go_at_call 57; refine (join_any _ _ _ _ _ _ _ _ _ (by omega) HI1.out.drew HI2.out.drew).mono ?_; rintro e w' ⟨B', k', d', rfl, hO, hb, hkd⟩))
  clear hA2
  go_wp2
  go_ret
  exact ⟨B', k', d', rfl, hO, ((Below.refl w.heap.size w).drew).trans hb, hkd⟩
theorem rev_take {xs : List Int} {k : Nat} (h : k < xs.length) : xs.reverse.take (k + 1) = xs.reverse.take k ++ [nth xs (xs.length - 1 - k)] := by
  rw [take_nth (by simpa using h)]
  congr 2
  rw [nth_lt (by simpa using h), nth_lt (by omega), List.getElem_reverse]
theorem backwards_any (A : Option Addr) (n c : Nat) (xs : List Int) (w : World) (hn : n ≤ 1048576) (h : Ints w A n xs) : Calls Try.prog 23 #[.slice A n c] w (RetL xs.reverse w) := by
  go_enter Try.func23, Try.ntmps23
  go_wp2
  go_loopw [3, 4] (fun v i wr => ∃ k : Nat, k ≤ n ∧ i = .int .i64 ((n : Int) - 1 - k) ∧ wr.ownsRow w.heap.size 3 1 v k ((xs.reverse.take k).map (.int .i64)) ∧ Below w.heap.size w wr) (fun _ i _ => (intOf i + 1).toNat)
  case atStart => exact ⟨0, by omega, by simp, own_empty_row (Nat.le_refl _), (Below.refl _ _).alloc (Nat.le_refl _) _⟩
  case round =>
    obtain ⟨k, hk, rfl, hown, hB⟩ := hrel
    by_cases hlt : k < n
    · obtain ⟨j, hj⟩ : ∃ j : Nat, (n : Int) - 1 - k = j := ⟨n - 1 - k, by omega⟩
      have hjn : j < n := by omega
      have HJ := hide (show j = n - 1 - k by omega)
      obtain ⟨ad, rfl, hb, hc⟩ := (h.below hB).2 j hjn
      have HT := hide (rev_take (xs := xs) (k := k) (by rw [h.1]; exact hlt))
      have HN := hide h.1
      clear h
      go_wp2_with (at_builtin; refine wpList_app1 rfl _ _ _ rfl w.heap.size _ Try.underlying23 info_int _ _ _ _ _ (by rfl) (by rfl) hown (by omega) hB.size ?_; intro v' w1 hown' hb')
      go_roundw
      case rel => exact ⟨k + 1, by omega, by simp; omega, by rw [HT.out, HN.out, ← HJ.out]; exact hown', hB.trans hb'⟩
      case measure => simp [intOf]; omega
    · have : k = n := by omega
      subst this
      have hz : (k : Int) - 1 - k = -1 := by omega
      go_wp2
      go_ret
      rw [List.take_of_length_le (by simp [h.1])] at hown
      exact retL_row hown hB
theorem equalInts_same (A B : Option Addr) (n c d : Nat) (xs : List Int) (w : World) (hn : n ≤ 1048576) (h : Ints w A n xs) (h' : Ints w B n xs) :
    Calls Try.prog 16 #[.slice A n c, .slice B n d] w fun e w' => e = .returned (.bool true) ∧ Below w.heap.size w w' := by
  go_enter Try.func16, Try.ntmps16
  go_wp2
  go_loopw [5] (fun i wr => ∃ k m : Nat, k ≤ n ∧ i = .int .i64 k ∧ wr = w.drewN m) (fun i _ => n - (intOf i).toNat)
  case atStart => exact ⟨0, 0, by omega, rfl, rfl⟩
  case round =>
    obtain ⟨k, m, hk, rfl, rfl⟩ := hrel
    by_cases hlt : k < n
    · obtain ⟨ad, rfl, hb, hc⟩ := h.2 k hlt
      obtain ⟨ad', rfl, hb', hc'⟩ := h'.2 k hlt
      go_wp2
      go_quiet (fail)
      go_wp2
      go_roundw
      case rel => exact ⟨k + 1, _, by omega, by go_num, by first | rfl | exact World.drewN_drewN _ _ _⟩
      case measure => simp [intOf]; omega
    · have : k = n := by omega
      subst this
      go_wp2
      go_ret
      exact ⟨rfl, below_of_drewN _ _⟩
theorem lawsTotal (A : Option Addr) (n c : Nat) (xs : List Int) (w : World) (hn : n ≤ 1048576) (h : Ints w A n xs) (hx : ∀ x ∈ xs, 0 ≤ x ∧ x ≤ 1000000) :
    Calls Try.prog 18 #[.slice A n c] w fun e w' => e = .returned (.int .i64 (tot xs)) ∧ w = w' := by
  have HX := hide hx; clear hx
  go_enter Try.func18, Try.ntmps18
  go_wp2
  go_loop [3, 4] (fun s i => ∃ k : Nat, k ≤ n ∧ i = .int .i64 k ∧ s = .int .i64 (tot (xs.take k))) (fun _ i => n - (intOf i).toNat)
  case atStart => exact ⟨0, by omega, rfl, rfl⟩
  case round =>
    obtain ⟨k, hk, rfl, rfl⟩ := hrel
    obtain ⟨t1, t2⟩ := tot_pre HX.out (by rw [h.1]; exact hn) k
    by_cases hlt : k < n
    · have hx : k < xs.length := by rw [h.1]; exact hlt
      obtain ⟨ad, rfl, hb, hc⟩ := h.2 k hlt
      have t3 := HX.out _ (nth_mem hx)
      have HK := hide hx; clear hx h
      go_wp2
      go_round
      case rel => exact ⟨k + 1, by omega, by go_num, by rw [tot_take HK.out]⟩
      case measure => simp [intOf]; omega
    · have : k = n := by omega
      subst this
      go_wp2
      go_ret
      exact ⟨ret_int (by rw [List.take_of_length_le (by rw [h.1]; exact Nat.le_refl _)]), rfl⟩
end Go.Proofs.Ytkmogpeiolkpbaa
