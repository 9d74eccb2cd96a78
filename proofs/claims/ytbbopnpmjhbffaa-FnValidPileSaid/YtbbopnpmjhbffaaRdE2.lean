/- Contracts of drawn reels. -/
import Derived.Test.YtbbopnpmjhbffaaRdE1
namespace Go.Proofs.Ytbbopnpmjhbffaa
open Go.RowKit
attribute [local go_sem ↓] Go.wp_at_zero Go.wp_at_succ
set_option linter.unusedVariables false
set_option maxRecDepth 100000
theorem info_defect : (Try.prog.info? 43).map (fun i => (i.zero, i.size, i.bytes)) = some (some (dfc 0 0 0 0 0), 5, 40) := by kernel_rfl
/-- blocks whose elements are of another type stay -/
def Keeps (e : TypeId) (w w' : World) : Prop := ∀ T, T ≠ e → ∀ (g : Nat) (cs : Array Value), w.heap[g]? = some (.cells cs T (0, 0)) → w'.heap[g]? = w.heap[g]?
theorem Bk.keepT {w w' : World} {e g : Nat} {T : TypeId} {cs : Array Value} (h : Bk w g T cs) (hk : Keeps e w w') (hT : T ≠ e) : Bk w' g T cs := (hk T hT g cs h).trans h
theorem elem_own {w : World} {base e size n : Nat} {v : Value} {xs : List Value} (h : w.ownsRow base e size v n xs) {g : Nat} (hg : v.ownBlock = some g) : ∃ cs, w.heap[g]? = some (.cells cs e (0, 0)) := by
  rcases h.2 with ⟨rfl, _⟩ | ⟨g', cap, cur, rfl, _, hh, _⟩
  · simp [Value.ownBlock] at hg
  · have : g' = g := by simpa [Value.ownBlock] using hg
    subst this
    exact ⟨cur, hh⟩
theorem own_put {w : World} {base e size n : Nat} {v : Value} {xs : List Value} (h : w.ownsRow base e size v n xs) {p : Addr} {T : TypeId} {cs : Array Value} (hp : Bk w p.block T cs) (hT : T ≠ e) (u : Value) : (w.setCell p u).ownsRow base e size v n xs :=
  h.kept (row := some p.block) ⟨rfl, rfl, rfl, by simp [World.setCell], fun k _ hk => Below.heap_setCell _ _ _ _ (fun e => hk (by rw [e]))⟩ (by
    cases hv : v.ownBlock with
    | none => exact .inl rfl
    | some k => exact .inr (fun e' => by
        injection e' with e'
        obtain ⟨cs', h'⟩ := elem_own h hv
        unfold Bk at hp
        rw [← e'] at hp
        first
          | (rw [h'] at hp; injection hp with hp; injection hp with _ hp; exact hT hp.symm)
          | (rw [e', h'] at hp; injection hp with hp; injection hp with _ hp; exact hT hp.symm)))
theorem own_base {w : World} {b b' e size n : Nat} {v : Value} {xs : List Value} (h : w.ownsRow b e size v n xs) (hb : b' ≤ b) : w.ownsRow b' e size v n xs := by
  refine ⟨h.1, ?_⟩
  rcases h.2 with h' | ⟨g, cap, cur, e1, hg, r⟩
  · exact .inl h'
  · exact .inr ⟨g, cap, cur, e1, Nat.le_trans hb hg, r⟩
theorem app5_pre {W : World} {e base n : Nat} {v : Value} {ds : List D5} (l r f t g : Int) (hown : W.ownsRow base e 5 v n (flat ds)) (hbase : base ≤ W.heap.size) {v' : Value} {w' : World}
    (h2 : w'.ownsRow base e 5 v' (n + 1) (flat ds ++ [.int .i64 l, .int .i64 r, .int .i64 f, .int .i64 t, .int .i64 g]))
    (h3 : (W.alloc (.cells #[.int .i64 l, .int .i64 r, .int .i64 f, .int .i64 t, .int .i64 g] e)).grownBy w' v.ownBlock) :
    w'.ownsRow base e 5 v' (n + 1) (flat (ds ++ [⟨l, r, f, t, g⟩])) ∧ Below base W w' ∧ Keeps e W w' := by
  refine ⟨by rw [flat_append]; exact h2, ?_, ?_⟩
  · have h4 : Below base W (W.alloc (.cells #[.int .i64 l, .int .i64 r, .int .i64 f, .int .i64 t, .int .i64 g] e)) := (Below.refl _ _).alloc hbase _
    exact h4.grown h3 (by simp; omega) fun k hk => (hown.lt k hk).1
  · intro T hT b cs hg
    have hlt : b < W.heap.size := (Array.getElem?_eq_some_iff.1 hg).1
    have h5 : w'.heap[b]? = (W.alloc (.cells #[.int .i64 l, .int .i64 r, .int .i64 f, .int .i64 t, .int .i64 g] e)).heap[b]? := h3.block b (by simp; omega) (fun e' => by
      obtain ⟨cs', h'⟩ := elem_own hown e'.symm
      rw [hg] at h'
      injection h' with h'
      injection h' with _ h'
      exact hT h')
    rw [h5, Below.heap_alloc _ _ _ hlt]
theorem news5 {W : World} {e : TypeId} (l r f t g : Int) : ∀ j u, ([.int .i64 l, .int .i64 r, .int .i64 f, .int .i64 t, .int .i64 g] : List Value)[j]? = some u →
    (W.alloc (.cells #[.int .i64 l, .int .i64 r, .int .i64 f, .int .i64 t, .int .i64 g] e)).cell? ((⟨W.heap.size, 0, none⟩ : Addr).add j) = some u := fun j u hu => by
  rw [add_new, cell_of_row (W.alloc _) W.heap.size j _ e (0, 0) (heap_alloc_new W _)]
  simpa using hu
/-- one defect is appended to a slice of the call's own -/
theorem wp_app5 {o : Oper} {a : Act} {K : Act → World → Prop} {Q : Exit → Act → World → Prop} (s x : Operand) (ho : o.op = .call { callee := .builtin .append, args := #[s, x], argTypes := #[23, 23] })
    (base : Nat) (v : Value) (n : Nat) (ds : List D5) (l r f t g : Int) (W : World) (hs : a.eval s = v) (hx : a.eval x = .slice (some ⟨W.heap.size, 0, none⟩) 1 1) (hown : W.ownsRow base 43 5 v n (flat ds))
    (hn : n ≤ 1048576) (hbase : base ≤ W.heap.size)
    (h : ∀ v' w', w'.ownsRow base 43 5 v' (n + 1) (flat (ds ++ [⟨l, r, f, t, g⟩])) ∧ Below base W w' ∧ Keeps 43 W w' → K (a.put o.dst v') w') :
    o.wp Try.prog a (W.alloc (.cells #[.int .i64 l, .int .i64 r, .int .i64 f, .int .i64 t, .int .i64 g] 43)) K Q := by
  obtain ⟨i0, hi0, hz0, hz1, hz2⟩ := info_parts info_defect
  refine wp_append_own _ s x 23 ho base 43 i0 (dfc 0 0 0 0 0) 5 40 Try.underlying23 hi0 hz0 hz1 hz2 rfl (by omega) v n (flat ds) hs (hown.alloc _) ⟨W.heap.size, 0, none⟩ 1 1 [.int .i64 l, .int .i64 r, .int .i64 f, .int .i64 t, .int .i64 g] hx rfl (news5 l r f t g) (by
    intro u hu; simp only [List.mem_cons, List.not_mem_nil, or_false] at hu; rcases hu with rfl | rfl | rfl | rfl | rfl <;> rfl) (by simp only [maxLen]; omega) (by omega) (by simp; omega) ?_
  intro v' w' h2 h3 _
  exact h v' w' (app5_pre l r f t g hown hbase h2 h3)
theorem wpList_app5 {ops : Array Oper} {rest : List Oper} {o : Oper} {a : Act} {Q : Exit → Act → World → Prop} (hgd : o.guard = none) (s x : Operand) (ho : o.op = .call { callee := .builtin .append, args := #[s, x], argTypes := #[23, 23] })
    (base : Nat) (v : Value) (n : Nat) (ds : List D5) (l r f t g : Int) (W : World) (hs : a.eval s = v) (hx : a.eval x = .slice (some ⟨W.heap.size, 0, none⟩) 1 1) (hown : W.ownsRow base 43 5 v n (flat ds))
    (hn : n ≤ 1048576) (hbase : base ≤ W.heap.size)
    (h : ∀ v' w', w'.ownsRow base 43 5 v' (n + 1) (flat (ds ++ [⟨l, r, f, t, g⟩])) ∧ Below base W w' ∧ Keeps 43 W w' → wpList Try.prog ops Q rest (a.put o.dst v') w') :
    wpList Try.prog ops Q (o :: rest) a (W.alloc (.cells #[.int .i64 l, .int .i64 r, .int .i64 f, .int .i64 t, .int .i64 g] 43)) :=
  wpList_plain hgd fun _ hK => wp_app5 s x ho base v n ds l r f t g W hs hx hown hn hbase fun v' w' h2 => hK _ _ (h v' w' h2)
/-- a drawn reel: its defects lie in a row of the call's own -/
def DrewE (rb N : Nat) (w : World) (e : Ending) (w' : World) : Prop := ∃ (W L : Int) (v : Value) (ds : List D5), e = .returned (.agg #[.int .i64 W, .int .i64 L, v]) ∧ ((0 ≤ W ∧ W ≤ 61) ∧ (0 ≤ L ∧ L ≤ 401) ∧ ds.length ≤ 6) ∧ w'.ownsRow w.heap.size 43 5 v ds.length (flat ds) ∧ Rdr w' rb N ∧ RS rb w w'
def SomeE (rb N : Nat) (w : World) (e : Ending) (w' : World) : Prop := ∃ (W L : Int) (v : Value) (ds : List D5), e = .returned (.agg #[.int .i64 W, .int .i64 L, v]) ∧ ((1 ≤ W ∧ W ≤ 60) ∧ (1 ≤ L ∧ L ≤ 400) ∧ ds.length ≤ 5) ∧ w'.ownsRow w.heap.size 43 5 v ds.length (flat ds) ∧ Rdr w' rb (N + 28) ∧ RS rb w w'
set_option maxHeartbeats 8000000 in
theorem someReel_any (rb N : Nat) (w : World) (hN : N ≤ 10000) (h : Rdr w rb N) :
    Calls Try.prog 33 #[.pointer (some ⟨rb, 0, none⟩)] w (SomeE rb N w) := by
  have hrb := h.lt
  go_enter Try.func33, Try.ntmps33
  go_wp2_with fail
  refine (one_arr rb N _ _ _ _ _ (by simp) (by rfl) (by simp) (by simp) (by omega) (h.alloc _)).mono ?_
  rintro e w1 ⟨W, rfl, hy, hR1, hS1⟩
  have hW : 1 ≤ W ∧ W ≤ 60 := by simp at hy; omega
  obtain ⟨hW1, hW2⟩ := hW
  have KZ1 := hide ((Bk.made w 25 #[.int .i64 0, .int .i64 0, .slice none 0 0]).rs hS1 (by omega))
  have S1 := hide (((RS.refl rb w).alloc _).trans hS1); have R1 := hide hR1; clear hy hR1 hS1 h
  go_wp2_with fail
  refine (one_arr rb (N + 1) _ _ _ _ _ (by simp) (by rfl) (by simp) (by simp) (by omega) R1.out).mono ?_
  rintro e w2 ⟨L, rfl, hy, hR2, hS2⟩
  have hL : 1 ≤ L ∧ L ≤ 50 := by simp at hy; omega
  obtain ⟨hL1, hL2⟩ := hL
  have KZ2 := hide (KZ1.out.rs hS2 (by omega))
  have S2 := hide (S1.out.trans hS2); have R2 := hide hR2; clear hy hR2 hS2 KZ1 S1 R1
  have l2 : w.heap.size < w2.heap.size := KZ2.out.lt
  go_wp2_with fail
  refine (one_arr rb (N + 1 + 1) _ _ _ _ _ (by simp) (by rfl) (by simp) (by simp) (by omega) (R2.out.alloc _)).mono ?_
  rintro e w3 ⟨q0, rfl, hy, hR3, hS3⟩
  have hq : 0 ≤ q0 ∧ q0 ≤ 5 := by simp at hy; omega
  have KZ3 := hide ((KZ2.out.alloc (.cells #[.int .i64 W, .int .i64 L, .slice none 0 0] 25)).rs hS3 (by omega))
  have KT3 := hide ((Bk.made w2 25 #[.int .i64 W, .int .i64 L, .slice none 0 0]).rs hS3 (by omega))
  have S3 := hide ((S2.out.alloc (.cells #[.int .i64 W, .int .i64 L, .slice none 0 0] 25)).trans hS3); have R3 := hide hR3; clear hy hR3 hS3 KZ2 S2 R2
  obtain ⟨Q, rfl⟩ := Int.eq_ofNat_of_zero_le hq.1
  have hQ : Q ≤ 5 := by omega
  clear hq
  go_wp2_with fail
  go_loopw [4] (fun x wr => ∃ (j : Nat) (v : Value) (ds : List D5), j ≤ 5 ∧ x = .int .i64 j ∧ Hid (ds.length + j ≤ 5) ∧ Hid (wr.ownsRow w.heap.size 43 5 v ds.length (flat ds)) ∧ Hid (Bk wr w.heap.size 25 #[.int .i64 0, .int .i64 0, .slice none 0 0]) ∧ Hid (Bk wr w2.heap.size 25 #[.int .i64 W, .int .i64 L, v]) ∧ Hid (Rdr wr rb (N + 3 + 5 * (5 - j))) ∧ Hid (RS rb w wr)) (fun x _ => (intOf x).toNat)
  case atStart => exact ⟨Q, .slice none 0 0, [], hQ, rfl, hide (by simp; omega), hide (own_nil5 _ _), KZ3, KT3, hide (R3.out.mono (by omega)), S3⟩
  case round =>
    clear KZ3 KT3 R3 S3 hQ
    obtain ⟨j, v, ds, hj, rfl, hdl, hown, hKZ, hKT, hR, hS⟩ := hrel
    obtain ⟨Av, cv, hv, -, -⟩ := dfs_of_own hown.out
    subst hv
    obtain ⟨t0, t1, t2, f0, f1, f2⟩ := hKT.out.three
    by_cases hlt : 0 < j
    · have hj0 : (0 : Int) < j := by omega
      have lT := hKT.out.lt
      have lZ := hKZ.out.lt
      go_wp2_with fail
      refine (somePart_any rb (N + 3 + 5 * (5 - j)) W L _ (by omega) ⟨hW1, hW2⟩ ⟨hL1, by omega⟩ hR.out).mono ?_
      rintro e w5 ⟨l, r, f, t, rfl, ⟨⟨l0, l1⟩, ⟨r0, r1⟩, ⟨g0, g1⟩, ⟨i0, i1⟩⟩, hR5, hS5⟩
      have KZ5 := hide (hKZ.out.rs hS5 (by omega)); have KT5 := hide (hKT.out.rs hS5 (by omega))
      have O5 := hide (ownsRow_rs hown.out hS5 hrb)
      have S5 := hide (hS.out.trans hS5); have R5 := hide hR5
      clear hR5 hS5 t0 t1 t2 f0 f1 f2 lT lZ
      obtain ⟨t0, t1, t2, f0, f1, f2⟩ := KT5.out.three
      go_wp2_with fail
      have KZ6 := hide (KZ5.out.alloc (.cells #[.int .i64 l, .int .i64 r, .int .i64 f, .int .i64 t] 30)); have KT6 := hide (KT5.out.alloc (.cells #[.int .i64 l, .int .i64 r, .int .i64 f, .int .i64 t] 30)); have KP6 := hide (Bk.made w5 30 #[.int .i64 l, .int .i64 r, .int .i64 f, .int .i64 t])
      have O6 := hide (O5.out.alloc (.cells #[.int .i64 l, .int .i64 r, .int .i64 f, .int .i64 t] 30)); have S6 := hide (S5.out.alloc (.cells #[.int .i64 l, .int .i64 r, .int .i64 f, .int .i64 t] 30)); have R6 := hide (R5.out.alloc (.cells #[.int .i64 l, .int .i64 r, .int .i64 f, .int .i64 t] 30))
      have z5 : w.heap.size < w5.heap.size := KZ5.out.lt
      have z6 : w2.heap.size < w5.heap.size := KT5.out.lt
      clear KZ5 KT5 O5 S5 R5 t0 t1 t2 f0 f1 f2
      generalize hw6 : w5.alloc (.cells #[.int .i64 l, .int .i64 r, .int .i64 f, .int .i64 t] 30) = w6 at *
      clear hw6
      obtain ⟨t0, t1, t2, f0, f1, f2⟩ := KT6.out.three
      obtain ⟨p0, p1, p2, p3⟩ := KP6.out.four
      have ew1 : IntKind.i64.wrap (l + 4) = l + 4 := IntWalk.i64_in _ ⟨by omega, by omega⟩
      have ew2 : IntKind.i64.wrap (f + 6) = f + 6 := IntWalk.i64_in _ ⟨by omega, by omega⟩
      obtain ⟨rr, hrr⟩ : ∃ rr : Int, (if l + 4 < r then l + 4 else r) = rr := ⟨_, rfl⟩
      obtain ⟨tt, htt⟩ : ∃ tt : Int, (if f + 6 < t then f + 6 else t) = tt := ⟨_, rfl⟩
      have hdn : ds.length ≤ 1048576 := by have := hdl.out; omega
      have HDN := hide hdn; clear hdn
      refine wp_region_held_drew (S := fun w' => w'.cell? ⟨w5.heap.size, 0, none⟩ = some (.int .i64 l) ∧ w'.cell? ⟨w5.heap.size, 1, none⟩ = some (.int .i64 r) ∧ w'.cell? ⟨w5.heap.size, 2, none⟩ = some (.int .i64 f) ∧ w'.cell? ⟨w5.heap.size, 3, none⟩ = some (.int .i64 t)) (by kernel_rfl) ?hS1 (fun hHeld => ?_)
      case hS1 => ((try dsimp only); (repeat' apply And.intro) <;> (first | (with_reducible assumption) | (rw [World.cell?_drew]; with_reducible assumption) | (rw [World.cell?_setCell_other _ _ _ _ (fun e => by injection e with _ e; cases e)]; with_reducible assumption) | (simp [*]; done)))
      refine wpAnyH_take (i := 0) (v := ?v2) (by simp only [List.getElem?_toArray, List.getElem?_cons_zero]; rfl) (by kernel_rfl) (by kernel_rfl) (by kernel_rfl) (by exact fun _ _ _ h => h) (Or.inl ⟨by rfl, ?hy2⟩) (by assumption) ?rest2
      case hy2 => (intro w hSw; (try dsimp only at hSw); go_simp; (try with_reducible rfl))
      (try simp only [Act.put, List.setIfInBounds_toArray, List.set_cons_zero, List.set_cons_succ])
      refine wpAnyH_take (i := 2) (v := ?v3) (by simp only [List.getElem?_toArray, List.getElem?_cons_succ, List.getElem?_cons_zero]; rfl) (by kernel_rfl) (by kernel_rfl) (by kernel_rfl) (by exact fun _ _ _ h => h) (Or.inl ⟨by rfl, ?hy3⟩) (by assumption) ?rest3
      case hy3 => (intro w hSw; (try dsimp only at hSw); go_simp; (try with_reducible rfl))
      (try simp only [Act.put, List.setIfInBounds_toArray, List.set_cons_zero, List.set_cons_succ])
      refine wpAnyH_take (i := 3) (v := ?v4) (by simp only [List.getElem?_toArray, List.getElem?_cons_succ, List.getElem?_cons_zero]; rfl) (by kernel_rfl) (by kernel_rfl) (by kernel_rfl) (by exact fun _ _ _ h => h) (Or.inl ⟨by rfl, ?hy4⟩) (by assumption) ?rest4
      case hy4 => (intro w hSw; (try dsimp only at hSw); go_simp; (try with_reducible rfl))
      (try simp only [Act.put, List.setIfInBounds_toArray, List.set_cons_zero, List.set_cons_succ])
      refine wpAnyH_take (i := 4) (v := ?v5) (by simp only [List.getElem?_toArray, List.getElem?_cons_succ, List.getElem?_cons_zero]; rfl) (by kernel_rfl) (by kernel_rfl) (by kernel_rfl) (by exact fun _ _ _ h => h) (Or.inl ⟨by rfl, ?hy5⟩) (by assumption) ?rest5
      case hy5 => (intro w hSw; (try dsimp only at hSw); go_simp; (try with_reducible rfl))
      (try simp only [Act.put, List.setIfInBounds_toArray, List.set_cons_zero, List.set_cons_succ])
      refine wpAnyH_take (i := 5) (v := ?v6) (by simp only [List.getElem?_toArray, List.getElem?_cons_succ, List.getElem?_cons_zero]; rfl) (by kernel_rfl) (by kernel_rfl) (by kernel_rfl) (by exact fun _ _ _ h => h) (Or.inl ⟨by rfl, ?hy6⟩) (by assumption) ?rest6
      case hy6 => (intro w hSw; (try dsimp only at hSw); go_simp; (try with_reducible rfl))
      (try simp only [Act.put, List.setIfInBounds_toArray, List.set_cons_zero, List.set_cons_succ])
      refine wpAnyH_take (i := 6) (v := ?v7) (by simp only [List.getElem?_toArray, List.getElem?_cons_succ, List.getElem?_cons_zero]; rfl) (by kernel_rfl) (by kernel_rfl) (by kernel_rfl) (by exact fun _ _ _ h => h) (Or.inl ⟨by rfl, ?hy7⟩) (by assumption) ?rest7
      case hy7 => (intro w hSw; (try dsimp only at hSw); go_simp; (try with_reducible rfl))
      (try simp only [Act.put, List.setIfInBounds_toArray, List.set_cons_zero, List.set_cons_succ])
      refine wpAnyH_take (i := 7) (v := ?v8) (by simp only [List.getElem?_toArray, List.getElem?_cons_succ, List.getElem?_cons_zero]; rfl) (by kernel_rfl) (by kernel_rfl) (by kernel_rfl) (by exact fun _ _ _ h => h) (Or.inl ⟨by rfl, ?hy8⟩) (by assumption) ?rest8
      case hy8 => (intro w hSw; (try dsimp only at hSw); go_simp; (try with_reducible rfl))
      (try simp only [Act.put, List.setIfInBounds_toArray, List.set_cons_zero, List.set_cons_succ])
      refine wpAnyH_take (i := 8) (v := ?v9) (by simp only [List.getElem?_toArray, List.getElem?_cons_succ, List.getElem?_cons_zero]; rfl) (by kernel_rfl) (by kernel_rfl) (by kernel_rfl) (by exact fun _ _ _ h => h) (Or.inl ⟨by rfl, ?hy9⟩) (by assumption) ?rest9
      case hy9 => (intro w hSw; (try dsimp only at hSw); go_simp; (try with_reducible rfl))
      (try simp only [Act.put, List.setIfInBounds_toArray, List.set_cons_zero, List.set_cons_succ])
      refine wpAnyH_take (i := 9) (v := ?v10) (by simp only [List.getElem?_toArray, List.getElem?_cons_succ, List.getElem?_cons_zero]; rfl) (by kernel_rfl) (by kernel_rfl) (by kernel_rfl) (by exact fun _ _ _ h => h) (Or.inl ⟨by rfl, ?hy10⟩) (by assumption) ?rest10
      case hy10 => (intro w hSw; (try dsimp only at hSw); go_simp; (try with_reducible rfl))
      (try simp only [Act.put, List.setIfInBounds_toArray, List.set_cons_zero, List.set_cons_succ])
      (try simp only [hrr])
      refine wpAnyH_take (i := 10) (v := ?v11) (by simp only [List.getElem?_toArray, List.getElem?_cons_succ, List.getElem?_cons_zero]; rfl) (by kernel_rfl) (by kernel_rfl) (by kernel_rfl) (by exact fun _ _ _ h => h) (Or.inl ⟨by rfl, ?hy11⟩) (by assumption) ?rest11
      case hy11 => (intro w hSw; (try dsimp only at hSw); go_simp; (try with_reducible rfl))
      (try simp only [Act.put, List.setIfInBounds_toArray, List.set_cons_zero, List.set_cons_succ])
      refine wpAnyH_take (i := 11) (v := ?v12) (by simp only [List.getElem?_toArray, List.getElem?_cons_succ, List.getElem?_cons_zero]; rfl) (by kernel_rfl) (by kernel_rfl) (by kernel_rfl) (by exact fun _ _ _ h => h) (Or.inl ⟨by rfl, ?hy12⟩) (by assumption) ?rest12
      case hy12 => (intro w hSw; (try dsimp only at hSw); go_simp; (try with_reducible rfl))
      (try simp only [Act.put, List.setIfInBounds_toArray, List.set_cons_zero, List.set_cons_succ])
      refine wpAnyH_take (i := 12) (v := ?v13) (by simp only [List.getElem?_toArray, List.getElem?_cons_succ, List.getElem?_cons_zero]; rfl) (by kernel_rfl) (by kernel_rfl) (by kernel_rfl) (by exact fun _ _ _ h => h) (Or.inl ⟨by rfl, ?hy13⟩) (by assumption) ?rest13
      case hy13 => (intro w hSw; (try dsimp only at hSw); go_simp; (try with_reducible rfl))
      (try simp only [Act.put, List.setIfInBounds_toArray, List.set_cons_zero, List.set_cons_succ])
      refine wpAnyH_take (i := 13) (v := ?v14) (by simp only [List.getElem?_toArray, List.getElem?_cons_succ, List.getElem?_cons_zero]; rfl) (by kernel_rfl) (by kernel_rfl) (by kernel_rfl) (by exact fun _ _ _ h => h) (Or.inl ⟨by rfl, ?hy14⟩) (by assumption) ?rest14
      case hy14 => (intro w hSw; (try dsimp only at hSw); go_simp; (try with_reducible rfl))
      (try simp only [Act.put, List.setIfInBounds_toArray, List.set_cons_zero, List.set_cons_succ])
      refine wpAnyH_take (i := 14) (v := ?v15) (by simp only [List.getElem?_toArray, List.getElem?_cons_succ, List.getElem?_cons_zero]; rfl) (by kernel_rfl) (by kernel_rfl) (by kernel_rfl) (by exact fun _ _ _ h => h) (Or.inl ⟨by rfl, ?hy15⟩) (by assumption) ?rest15
      case hy15 => (intro w hSw; (try dsimp only at hSw); go_simp; (try with_reducible rfl))
      (try simp only [Act.put, List.setIfInBounds_toArray, List.set_cons_zero, List.set_cons_succ])
      refine wpAnyH_take (i := 15) (v := ?v16) (by simp only [List.getElem?_toArray, List.getElem?_cons_succ, List.getElem?_cons_zero]; rfl) (by kernel_rfl) (by kernel_rfl) (by kernel_rfl) (by exact fun _ _ _ h => h) (Or.inl ⟨by rfl, ?hy16⟩) (by assumption) ?rest16
      case hy16 => (intro w hSw; (try dsimp only at hSw); go_simp; (try with_reducible rfl))
      (try simp only [Act.put, List.setIfInBounds_toArray, List.set_cons_zero, List.set_cons_succ])
      refine wpAnyH_take (i := 16) (v := ?v17) (by simp only [List.getElem?_toArray, List.getElem?_cons_succ, List.getElem?_cons_zero]; rfl) (by kernel_rfl) (by kernel_rfl) (by kernel_rfl) (by exact fun _ _ _ h => h) (Or.inl ⟨by rfl, ?hy17⟩) (by assumption) ?rest17
      case hy17 => (intro w hSw; (try dsimp only at hSw); go_simp; (try with_reducible rfl))
      (try simp only [Act.put, List.setIfInBounds_toArray, List.set_cons_zero, List.set_cons_succ])
      refine wpAnyH_take (i := 17) (v := ?v18) (by simp only [List.getElem?_toArray, List.getElem?_cons_succ, List.getElem?_cons_zero]; rfl) (by kernel_rfl) (by kernel_rfl) (by kernel_rfl) (by exact fun _ _ _ h => h) (Or.inl ⟨by rfl, ?hy18⟩) (by assumption) ?rest18
      case hy18 => (intro w hSw; (try dsimp only at hSw); go_simp; (try with_reducible rfl))
      (try simp only [Act.put, List.setIfInBounds_toArray, List.set_cons_zero, List.set_cons_succ])
      (try simp only [htt])
      refine wpAnyH_take (i := 18) (v := ?v19) (by simp only [List.getElem?_toArray, List.getElem?_cons_succ, List.getElem?_cons_zero]; rfl) (by kernel_rfl) (by kernel_rfl) (by kernel_rfl) (by exact fun _ _ _ h => h) (Or.inl ⟨by rfl, ?hy19⟩) (by assumption) ?rest19
      case hy19 => (intro w hSw; (try dsimp only at hSw); go_simp; (try with_reducible rfl))
      (try simp only [Act.put, List.setIfInBounds_toArray, List.set_cons_zero, List.set_cons_succ])
      refine wpAnyH_ready (rs := [1, 19]) (by kernel_rfl) (by simp) (AllReadyH.cons (by simp only [List.getElem?_toArray, List.getElem?_cons_succ, List.getElem?_cons_zero]; rfl) (fun K hK => ?_) (AllReadyH.cons (by simp only [List.getElem?_toArray, List.getElem?_cons_succ, List.getElem?_cons_zero]; rfl) (fun K hK => ?_) AllReadyH.nil))
      · go_simp
        clear hHeld
        refine hK.out _ _ ?hS20 (fun hHeld => ?_)
        case hS20 => ((try dsimp only); (repeat' apply And.intro) <;> (first | (with_reducible assumption) | (rw [World.cell?_drew]; with_reducible assumption) | (rw [World.cell?_alloc_lt _ _ _ (by exact lP)]; with_reducible assumption) | (rw [World.cell?_setCell_other _ _ _ _ (fun e => by injection e with e; omega)]; with_reducible assumption) | (simp [*]; done)))
        clear hK K
        (try simp only [Act.put, List.setIfInBounds_toArray, List.set_cons_zero, List.set_cons_succ])
        refine wpAnyH_ready (rs := [19]) (by kernel_rfl) (by simp) (AllReadyH.cons (by simp only [List.getElem?_toArray, List.getElem?_cons_succ, List.getElem?_cons_zero]; rfl) (fun K hK => ?_) AllReadyH.nil)
        go_simp
        refine (pick_any rb (N + 3 + 5 * (5 - j) + 4) 9 _ (by omega) (R6.out.drewN 1)).mono ?_
        rintro e w7 ⟨gg, rfl, hc, hR7, hS7⟩
        obtain ⟨c0, c1⟩ := hc.2 (by omega)
        have KZ7 := hide (Bk.rs (Bk.drew KZ6.out) hS7 (by omega)); have KT7 := hide (Bk.rs (Bk.drew KT6.out) hS7 (by omega)); have KP7 := hide (Bk.rs (Bk.drew KP6.out) hS7 (by omega))
        have O7 := hide (ownsRow_rs (w := w6.drew) O6.out hS7 hrb); have S7 := hide ((S6.out.drewN 1).trans hS7); have R7 := hide hR7
        clear t0 t1 t2 f0 f1 f2 p0 p1 p2 p3
        obtain ⟨t0, t1, t2, f0, f1, f2⟩ := KT7.out.three
        obtain ⟨p0, p1, p2, p3⟩ := KP7.out.four
        have lP := KP7.out.lt
        have lT7 := KT7.out.lt
        have ew3 : IntKind.i64.wrap (1 + gg) = 1 + gg := IntWalk.i64_in _ ⟨by omega, by omega⟩
        have hb7 : w.heap.size ≤ w7.heap.size := S7.out.size
        clear hc hR7 hS7
        (try go_wp2_with fail)
        clear hHeld
        refine hK.out _ _ ?hS21 (fun hHeld => ?_)
        case hS21 => ((try dsimp only); (repeat' apply And.intro) <;> (first | (with_reducible assumption) | (rw [World.cell?_drew]; with_reducible assumption) | (rw [World.cell?_alloc_lt _ _ _ (by exact lP)]; with_reducible assumption) | (rw [World.cell?_setCell_other _ _ _ _ (fun e => by injection e with e; omega)]; with_reducible assumption) | (simp [*]; done)))
        clear hK K
        (try simp only [Act.put, List.setIfInBounds_toArray, List.set_cons_zero, List.set_cons_succ])
        refine wpAnyH_take (i := 20) (v := ?v22) (by simp only [List.getElem?_toArray, List.getElem?_cons_succ, List.getElem?_cons_zero]; rfl) (by kernel_rfl) (by kernel_rfl) (by kernel_rfl) (by exact fun _ _ _ h => h) (Or.inl ⟨by rfl, ?hy22⟩) (by assumption) ?rest22
        case hy22 => (intro w hSw; (try dsimp only at hSw); go_simp; (try with_reducible rfl))
        (try simp only [Act.put, List.setIfInBounds_toArray, List.set_cons_zero, List.set_cons_succ])
        refine wpAnyH_take (i := 21) (v := ?v23) (by simp only [List.getElem?_toArray, List.getElem?_cons_succ, List.getElem?_cons_zero]; rfl) (by kernel_rfl) (by kernel_rfl) (by kernel_rfl) (by exact fun _ _ _ h => h) (Or.inl ⟨by rfl, ?hy23⟩) (by assumption) ?rest23
        case hy23 => (intro w hSw; (try dsimp only at hSw); go_simp; (try with_reducible rfl))
        (try simp only [Act.put, List.setIfInBounds_toArray, List.set_cons_zero, List.set_cons_succ])
        refine wpAnyH_ready (rs := [22]) (by kernel_rfl) (by simp) (AllReadyH.cons (by simp only [List.getElem?_toArray, List.getElem?_cons_succ, List.getElem?_cons_zero]; rfl) (fun K hK => ?_) AllReadyH.nil)
        go_simp
        clear hHeld
        refine hK.out _ _ ?hS24 (fun hHeld => ?_)
        case hS24 => ((try dsimp only); (repeat' apply And.intro) <;> (first | (with_reducible assumption) | (rw [World.cell?_drew]; with_reducible assumption) | (rw [World.cell?_alloc_lt _ _ _ (by exact lP)]; with_reducible assumption) | (rw [World.cell?_setCell_other _ _ _ _ (fun e => by injection e with e; omega)]; with_reducible assumption) | (simp [*]; done)))
        clear hK K
        (try simp only [Act.put, List.setIfInBounds_toArray, List.set_cons_zero, List.set_cons_succ])
        refine wpAnyH_ready (rs := [23]) (by kernel_rfl) (by simp) (AllReadyH.cons (by simp only [List.getElem?_toArray, List.getElem?_cons_succ, List.getElem?_cons_zero]; rfl) (fun K hK => ?_) AllReadyH.nil)
        rw [if_pos (by rfl)]
        refine wp_app5 _ _ rfl w.heap.size _ ds.length ds l rr f tt (1 + gg) w7 (by rfl) (by rfl) O7.out HDN.out hb7 ?_
        rintro v' w8 ⟨ho8, hb8, hk8⟩
        obtain ⟨A8, c8, hv8, -, -⟩ := dfs_of_own ho8
        subst hv8
        have KZ8 := hide (KZ7.out.keepT hk8 (by decide)); have KT8 := hide (KT7.out.keepT hk8 (by decide)); have KP8 := hide (KP7.out.keepT hk8 (by decide))
        have O8 := hide ho8; have S8 := hide (S7.out.from_ hb8); have R8 := hide (R7.out.below hb8 hrb)
        clear t0 t1 t2 f0 f1 f2 p0 p1 p2 p3 ho8 hb8 hk8 lP lT7
        obtain ⟨t0, t1, t2, f0, f1, f2⟩ := KT8.out.three
        obtain ⟨p0, p1, p2, p3⟩ := KP8.out.four
        clear hHeld
        refine hK.out _ _ ?hS25 (fun hHeld => ?_)
        case hS25 => ((try dsimp only); (repeat' apply And.intro) <;> (first | (with_reducible assumption) | (rw [World.cell?_drew]; with_reducible assumption) | (rw [World.cell?_alloc_lt _ _ _ (by exact lP)]; with_reducible assumption) | (rw [World.cell?_setCell_other _ _ _ _ (fun e => by injection e with e; omega)]; with_reducible assumption) | (simp [*]; done)))
        clear hK K
        (try simp only [Act.put, List.setIfInBounds_toArray, List.set_cons_zero, List.set_cons_succ])
        refine wpAnyH_take (i := 24) (v := ?v26) (by simp only [List.getElem?_toArray, List.getElem?_cons_succ, List.getElem?_cons_zero]; rfl) (by kernel_rfl) (by kernel_rfl) (by kernel_rfl) (by exact fun _ _ _ h => h) (Or.inl ⟨by rfl, ?hy26⟩) (by assumption) ?rest26
        case hy26 => (intro w hSw; (try dsimp only at hSw); go_simp; (try with_reducible rfl))
        (try simp only [Act.put, List.setIfInBounds_toArray, List.set_cons_zero, List.set_cons_succ])
        refine wpAnyH_ready (rs := [25]) (by kernel_rfl) (by simp) (AllReadyH.cons (by simp only [List.getElem?_toArray, List.getElem?_cons_succ, List.getElem?_cons_zero]; rfl) (fun K hK => ?_) AllReadyH.nil)
        go_simp
        clear hHeld
        refine hK.out _ _ ?hS27 (fun hHeld => ?_)
        case hS27 => ((try dsimp only); (repeat' apply And.intro) <;> (first | (with_reducible assumption) | (rw [World.cell?_drew]; with_reducible assumption) | (rw [World.cell?_alloc_lt _ _ _ (by exact lP)]; with_reducible assumption) | (rw [World.cell?_setCell_other _ _ _ _ (fun e => by injection e with e; omega)]; with_reducible assumption) | (simp [*]; done)))
        clear hK K
        (try simp only [Act.put, List.setIfInBounds_toArray, List.set_cons_zero, List.set_cons_succ])
        refine wpAnyH_done (by kernel_rfl) ?_ _
        clear ew1 ew2 ew3 hrr htt
        go_wp2_with fail
        obtain ⟨i, hi⟩ : ∃ i : Nat, (j : Int) - 1 = i := ⟨j - 1, by omega⟩
        go_roundw
        case rel => exact ⟨j - 1, _, ds ++ [⟨l, rr, f, tt, 1 + gg⟩], by omega, by rw [show ((j - 1 : Nat) : Int) = (j : Int) - 1 by omega], hide (by have := hdl.out; simp; omega), hide (by rw [List.length_append]; exact own_put O8.out (p := ⟨w2.heap.size, 2, none⟩) KT8.out (by decide) _), hide (KZ8.out.far (p := ⟨w2.heap.size, 2, none⟩) (by simp; omega) _), hide (KT8.out.put 2 _), hide ((R8.out.mono (by omega)).set (by simp; omega) _), hide (S8.out.set (by simp; omega) _)⟩
        case measure => simp [intOf]; omega
      · go_simp
        refine (pick_any rb (N + 3 + 5 * (5 - j) + 4) 9 _ (by omega) (R6.out.drewN 1)).mono ?_
        rintro e w7 ⟨gg, rfl, hc, hR7, hS7⟩
        obtain ⟨c0, c1⟩ := hc.2 (by omega)
        have KZ7 := hide (Bk.rs (Bk.drew KZ6.out) hS7 (by omega)); have KT7 := hide (Bk.rs (Bk.drew KT6.out) hS7 (by omega)); have KP7 := hide (Bk.rs (Bk.drew KP6.out) hS7 (by omega))
        have O7 := hide (ownsRow_rs (w := w6.drew) O6.out hS7 hrb); have S7 := hide ((S6.out.drewN 1).trans hS7); have R7 := hide hR7
        clear t0 t1 t2 f0 f1 f2 p0 p1 p2 p3
        obtain ⟨t0, t1, t2, f0, f1, f2⟩ := KT7.out.three
        obtain ⟨p0, p1, p2, p3⟩ := KP7.out.four
        have lP := KP7.out.lt
        have lT7 := KT7.out.lt
        have ew3 : IntKind.i64.wrap (1 + gg) = 1 + gg := IntWalk.i64_in _ ⟨by omega, by omega⟩
        have hb7 : w.heap.size ≤ w7.heap.size := S7.out.size
        clear hc hR7 hS7
        (try go_wp2_with fail)
        clear hHeld
        refine hK.out _ _ ?hS28 (fun hHeld => ?_)
        case hS28 => ((try dsimp only); (repeat' apply And.intro) <;> (first | (with_reducible assumption) | (rw [World.cell?_drew]; with_reducible assumption) | (rw [World.cell?_alloc_lt _ _ _ (by exact lP)]; with_reducible assumption) | (rw [World.cell?_setCell_other _ _ _ _ (fun e => by injection e with e; omega)]; with_reducible assumption) | (simp [*]; done)))
        clear hK K
        (try simp only [Act.put, List.setIfInBounds_toArray, List.set_cons_zero, List.set_cons_succ])
        refine wpAnyH_take (i := 20) (v := ?v29) (by simp only [List.getElem?_toArray, List.getElem?_cons_succ, List.getElem?_cons_zero]; rfl) (by kernel_rfl) (by kernel_rfl) (by kernel_rfl) (by exact fun _ _ _ h => h) (Or.inl ⟨by rfl, ?hy29⟩) (by assumption) ?rest29
        case hy29 => (intro w hSw; (try dsimp only at hSw); go_simp; (try with_reducible rfl))
        (try simp only [Act.put, List.setIfInBounds_toArray, List.set_cons_zero, List.set_cons_succ])
        refine wpAnyH_take (i := 21) (v := ?v30) (by simp only [List.getElem?_toArray, List.getElem?_cons_succ, List.getElem?_cons_zero]; rfl) (by kernel_rfl) (by kernel_rfl) (by kernel_rfl) (by exact fun _ _ _ h => h) (Or.inl ⟨by rfl, ?hy30⟩) (by assumption) ?rest30
        case hy30 => (intro w hSw; (try dsimp only at hSw); go_simp; (try with_reducible rfl))
        (try simp only [Act.put, List.setIfInBounds_toArray, List.set_cons_zero, List.set_cons_succ])
        refine wpAnyH_ready (rs := [1, 22]) (by kernel_rfl) (by simp) (AllReadyH.cons (by simp only [List.getElem?_toArray, List.getElem?_cons_succ, List.getElem?_cons_zero]; rfl) (fun K hK => ?_) (AllReadyH.cons (by simp only [List.getElem?_toArray, List.getElem?_cons_succ, List.getElem?_cons_zero]; rfl) (fun K hK => ?_) AllReadyH.nil))
        · go_simp
          clear hHeld
          refine hK.out _ _ ?hS31 (fun hHeld => ?_)
          case hS31 => ((try dsimp only); (repeat' apply And.intro) <;> (first | (with_reducible assumption) | (rw [World.cell?_drew]; with_reducible assumption) | (rw [World.cell?_alloc_lt _ _ _ (by exact lP)]; with_reducible assumption) | (rw [World.cell?_setCell_other _ _ _ _ (fun e => by injection e with e; omega)]; with_reducible assumption) | (simp [*]; done)))
          clear hK K
          (try simp only [Act.put, List.setIfInBounds_toArray, List.set_cons_zero, List.set_cons_succ])
          refine wpAnyH_ready (rs := [22]) (by kernel_rfl) (by simp) (AllReadyH.cons (by simp only [List.getElem?_toArray, List.getElem?_cons_succ, List.getElem?_cons_zero]; rfl) (fun K hK => ?_) AllReadyH.nil)
          go_simp
          clear hHeld
          refine hK.out _ _ ?hS32 (fun hHeld => ?_)
          case hS32 => ((try dsimp only); (repeat' apply And.intro) <;> (first | (with_reducible assumption) | (rw [World.cell?_drew]; with_reducible assumption) | (rw [World.cell?_alloc_lt _ _ _ (by exact lP)]; with_reducible assumption) | (rw [World.cell?_setCell_other _ _ _ _ (fun e => by injection e with e; omega)]; with_reducible assumption) | (simp [*]; done)))
          clear hK K
          (try simp only [Act.put, List.setIfInBounds_toArray, List.set_cons_zero, List.set_cons_succ])
          refine wpAnyH_ready (rs := [23]) (by kernel_rfl) (by simp) (AllReadyH.cons (by simp only [List.getElem?_toArray, List.getElem?_cons_succ, List.getElem?_cons_zero]; rfl) (fun K hK => ?_) AllReadyH.nil)
          rw [if_pos (by rfl)]
          refine wp_app5 _ _ rfl w.heap.size _ ds.length ds l rr f tt (1 + gg) w7 (by rfl) (by rfl) O7.out HDN.out hb7 ?_
          rintro v' w8 ⟨ho8, hb8, hk8⟩
          obtain ⟨A8, c8, hv8, -, -⟩ := dfs_of_own ho8
          subst hv8
          have KZ8 := hide (KZ7.out.keepT hk8 (by decide)); have KT8 := hide (KT7.out.keepT hk8 (by decide)); have KP8 := hide (KP7.out.keepT hk8 (by decide))
          have O8 := hide ho8; have S8 := hide (S7.out.from_ hb8); have R8 := hide (R7.out.below hb8 hrb)
          clear t0 t1 t2 f0 f1 f2 p0 p1 p2 p3 ho8 hb8 hk8 lP lT7
          obtain ⟨t0, t1, t2, f0, f1, f2⟩ := KT8.out.three
          obtain ⟨p0, p1, p2, p3⟩ := KP8.out.four
          clear hHeld
          refine hK.out _ _ ?hS33 (fun hHeld => ?_)
          case hS33 => ((try dsimp only); (repeat' apply And.intro) <;> (first | (with_reducible assumption) | (rw [World.cell?_drew]; with_reducible assumption) | (rw [World.cell?_alloc_lt _ _ _ (by exact lP)]; with_reducible assumption) | (rw [World.cell?_setCell_other _ _ _ _ (fun e => by injection e with e; omega)]; with_reducible assumption) | (simp [*]; done)))
          clear hK K
          (try simp only [Act.put, List.setIfInBounds_toArray, List.set_cons_zero, List.set_cons_succ])
          refine wpAnyH_take (i := 24) (v := ?v34) (by simp only [List.getElem?_toArray, List.getElem?_cons_succ, List.getElem?_cons_zero]; rfl) (by kernel_rfl) (by kernel_rfl) (by kernel_rfl) (by exact fun _ _ _ h => h) (Or.inl ⟨by rfl, ?hy34⟩) (by assumption) ?rest34
          case hy34 => (intro w hSw; (try dsimp only at hSw); go_simp; (try with_reducible rfl))
          (try simp only [Act.put, List.setIfInBounds_toArray, List.set_cons_zero, List.set_cons_succ])
          refine wpAnyH_ready (rs := [25]) (by kernel_rfl) (by simp) (AllReadyH.cons (by simp only [List.getElem?_toArray, List.getElem?_cons_succ, List.getElem?_cons_zero]; rfl) (fun K hK => ?_) AllReadyH.nil)
          go_simp
          clear hHeld
          refine hK.out _ _ ?hS35 (fun hHeld => ?_)
          case hS35 => ((try dsimp only); (repeat' apply And.intro) <;> (first | (with_reducible assumption) | (rw [World.cell?_drew]; with_reducible assumption) | (rw [World.cell?_alloc_lt _ _ _ (by exact lP)]; with_reducible assumption) | (rw [World.cell?_setCell_other _ _ _ _ (fun e => by injection e with e; omega)]; with_reducible assumption) | (simp [*]; done)))
          clear hK K
          (try simp only [Act.put, List.setIfInBounds_toArray, List.set_cons_zero, List.set_cons_succ])
          refine wpAnyH_done (by kernel_rfl) ?_ _
          clear ew1 ew2 ew3 hrr htt
          go_wp2_with fail
          obtain ⟨i, hi⟩ : ∃ i : Nat, (j : Int) - 1 = i := ⟨j - 1, by omega⟩
          go_roundw
          case rel => exact ⟨j - 1, _, ds ++ [⟨l, rr, f, tt, 1 + gg⟩], by omega, by rw [show ((j - 1 : Nat) : Int) = (j : Int) - 1 by omega], hide (by have := hdl.out; simp; omega), hide (by rw [List.length_append]; exact own_put O8.out (p := ⟨w2.heap.size, 2, none⟩) KT8.out (by decide) _), hide (KZ8.out.far (p := ⟨w2.heap.size, 2, none⟩) (by simp; omega) _), hide (KT8.out.put 2 _), hide ((R8.out.mono (by omega)).set (by simp; omega) _), hide (S8.out.set (by simp; omega) _)⟩
          case measure => simp [intOf]; omega
        · go_simp
          clear hHeld
          refine hK.out _ _ ?hS36 (fun hHeld => ?_)
          case hS36 => ((try dsimp only); (repeat' apply And.intro) <;> (first | (with_reducible assumption) | (rw [World.cell?_drew]; with_reducible assumption) | (rw [World.cell?_alloc_lt _ _ _ (by exact lP)]; with_reducible assumption) | (rw [World.cell?_setCell_other _ _ _ _ (fun e => by injection e with e; omega)]; with_reducible assumption) | (simp [*]; done)))
          clear hK K
          (try simp only [Act.put, List.setIfInBounds_toArray, List.set_cons_zero, List.set_cons_succ])
          refine wpAnyH_ready (rs := [1]) (by kernel_rfl) (by simp) (AllReadyH.cons (by simp only [List.getElem?_toArray, List.getElem?_cons_succ, List.getElem?_cons_zero]; rfl) (fun K hK => ?_) AllReadyH.nil)
          go_simp
          clear hHeld
          refine hK.out _ _ ?hS37 (fun hHeld => ?_)
          case hS37 => ((try dsimp only); (repeat' apply And.intro) <;> (first | (with_reducible assumption) | (rw [World.cell?_drew]; with_reducible assumption) | (rw [World.cell?_alloc_lt _ _ _ (by exact lP)]; with_reducible assumption) | (rw [World.cell?_setCell_other _ _ _ _ (fun e => by injection e with e; omega)]; with_reducible assumption) | (simp [*]; done)))
          clear hK K
          (try simp only [Act.put, List.setIfInBounds_toArray, List.set_cons_zero, List.set_cons_succ])
          refine wpAnyH_ready (rs := [23]) (by kernel_rfl) (by simp) (AllReadyH.cons (by simp only [List.getElem?_toArray, List.getElem?_cons_succ, List.getElem?_cons_zero]; rfl) (fun K hK => ?_) AllReadyH.nil)
          rw [if_pos (by rfl)]
          refine wp_app5 _ _ rfl w.heap.size _ ds.length ds l rr f tt (1 + gg) w7 (by rfl) (by rfl) O7.out HDN.out hb7 ?_
          rintro v' w8 ⟨ho8, hb8, hk8⟩
          obtain ⟨A8, c8, hv8, -, -⟩ := dfs_of_own ho8
          subst hv8
          have KZ8 := hide (KZ7.out.keepT hk8 (by decide)); have KT8 := hide (KT7.out.keepT hk8 (by decide)); have KP8 := hide (KP7.out.keepT hk8 (by decide))
          have O8 := hide ho8; have S8 := hide (S7.out.from_ hb8); have R8 := hide (R7.out.below hb8 hrb)
          clear t0 t1 t2 f0 f1 f2 p0 p1 p2 p3 ho8 hb8 hk8 lP lT7
          obtain ⟨t0, t1, t2, f0, f1, f2⟩ := KT8.out.three
          obtain ⟨p0, p1, p2, p3⟩ := KP8.out.four
          clear hHeld
          refine hK.out _ _ ?hS38 (fun hHeld => ?_)
          case hS38 => ((try dsimp only); (repeat' apply And.intro) <;> (first | (with_reducible assumption) | (rw [World.cell?_drew]; with_reducible assumption) | (rw [World.cell?_alloc_lt _ _ _ (by exact lP)]; with_reducible assumption) | (rw [World.cell?_setCell_other _ _ _ _ (fun e => by injection e with e; omega)]; with_reducible assumption) | (simp [*]; done)))
          clear hK K
          (try simp only [Act.put, List.setIfInBounds_toArray, List.set_cons_zero, List.set_cons_succ])
          refine wpAnyH_take (i := 24) (v := ?v39) (by simp only [List.getElem?_toArray, List.getElem?_cons_succ, List.getElem?_cons_zero]; rfl) (by kernel_rfl) (by kernel_rfl) (by kernel_rfl) (by exact fun _ _ _ h => h) (Or.inl ⟨by rfl, ?hy39⟩) (by assumption) ?rest39
          case hy39 => (intro w hSw; (try dsimp only at hSw); go_simp; (try with_reducible rfl))
          (try simp only [Act.put, List.setIfInBounds_toArray, List.set_cons_zero, List.set_cons_succ])
          refine wpAnyH_ready (rs := [25]) (by kernel_rfl) (by simp) (AllReadyH.cons (by simp only [List.getElem?_toArray, List.getElem?_cons_succ, List.getElem?_cons_zero]; rfl) (fun K hK => ?_) AllReadyH.nil)
          go_simp
          clear hHeld
          refine hK.out _ _ ?hS40 (fun hHeld => ?_)
          case hS40 => ((try dsimp only); (repeat' apply And.intro) <;> (first | (with_reducible assumption) | (rw [World.cell?_drew]; with_reducible assumption) | (rw [World.cell?_alloc_lt _ _ _ (by exact lP)]; with_reducible assumption) | (rw [World.cell?_setCell_other _ _ _ _ (fun e => by injection e with e; omega)]; with_reducible assumption) | (simp [*]; done)))
          clear hK K
          (try simp only [Act.put, List.setIfInBounds_toArray, List.set_cons_zero, List.set_cons_succ])
          refine wpAnyH_done (by kernel_rfl) ?_ _
          clear ew1 ew2 ew3 hrr htt
          go_wp2_with fail
          obtain ⟨i, hi⟩ : ∃ i : Nat, (j : Int) - 1 = i := ⟨j - 1, by omega⟩
          go_roundw
          case rel => exact ⟨j - 1, _, ds ++ [⟨l, rr, f, tt, 1 + gg⟩], by omega, by rw [show ((j - 1 : Nat) : Int) = (j : Int) - 1 by omega], hide (by have := hdl.out; simp; omega), hide (by rw [List.length_append]; exact own_put O8.out (p := ⟨w2.heap.size, 2, none⟩) KT8.out (by decide) _), hide (KZ8.out.far (p := ⟨w2.heap.size, 2, none⟩) (by simp; omega) _), hide (KT8.out.put 2 _), hide ((R8.out.mono (by omega)).set (by simp; omega) _), hide (S8.out.set (by simp; omega) _)⟩
          case measure => simp [intOf]; omega
    · obtain rfl : j = 0 := by omega
      have hz : w.heap.size ≠ w2.heap.size := by omega
      obtain ⟨z0, z1, z2, y0, y1, y2⟩ := hKZ.out.three
      go_wp2_with fail
      have KF := ((hKZ.out.put 0 (.int .i64 W)).put 1 (.int .i64 L)).put 2 (.slice Av ds.length cv)
      obtain ⟨u0, u1, u2, -, -, -⟩ := Bk.three (a := .int .i64 W) (b := .int .i64 L) (c := .slice Av ds.length cv) KF
      refine bodyPost_ret (v := .agg #[.int .i64 W, .int .i64 L, .slice Av ds.length cv]) (by simp [results, Try.results33, go_sem, u0, u1, u2]) rfl ?_
      have K1 := hKZ.out.put 0 (.int .i64 W)
      have K2 := K1.put 1 (.int .i64 L)
      refine ⟨W, L, _, ds, rfl, ⟨⟨hW1, hW2⟩, ⟨hL1, by omega⟩, by have := hdl.out; omega⟩, own_put (own_put (own_put hown.out (p := ⟨w.heap.size, 0, none⟩) hKZ.out (by decide) _) (p := ⟨w.heap.size, 1, none⟩) K1 (by decide) _) (p := ⟨w.heap.size, 2, none⟩) K2 (by decide) _, ?_, (((hS.out.set (Nat.le_refl _) _).set (Nat.le_refl _) _).set (Nat.le_refl _) _)⟩
      exact (((hR.out.mono (by omega)).set hrb _).set hrb _).set hrb _
end Go.Proofs.Ytbbopnpmjhbffaa
