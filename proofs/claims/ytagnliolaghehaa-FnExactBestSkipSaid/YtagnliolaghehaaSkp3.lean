/- Contracts of the reference's BestSkip: the pieces of rolls. -/
import Derived.Test.YtagnliolaghehaaSkp1
import Derived.Deep.Slices
namespace Go.Proofs.Ytagnliolaghehaa
open Go.RowKit
set_option linter.unusedVariables false
set_option maxRecDepth 100000
/-- a piece: its parent, its roll, where it begins, its length -/
structure Q4 where
  p : Int
  r : Int
  f : Int
  n : Int
theorem info_piece : (Try.prog.info? 35).map (fun i => (i.zero, i.size, i.bytes)) = some (some (.agg #[.int .i64 0, .int .i64 0, .int .i64 0, .int .i64 0]), 4, 32) := by kernel_rfl
def cellsQ (d : Q4) : List Value := [.int .i64 d.p, .int .i64 d.r, .int .i64 d.f, .int .i64 d.n]
def flatQ (ds : List Q4) : List Value := ds.flatMap cellsQ
def nthQ (ds : List Q4) (k : Nat) : Q4 := ds.getD k ⟨0, 0, 0, 0⟩
theorem flatQ_len (ds : List Q4) : (flatQ ds).length = ds.length * 4 := by
  induction ds with
  | nil => rfl
  | cons d ds ih => simp only [flatQ, List.flatMap_cons, List.length_append] at ih ⊢; rw [ih]; simp [cellsQ]; omega
theorem flatQ_append (a b : List Q4) : flatQ (a ++ b) = flatQ a ++ flatQ b := by simp [flatQ]
theorem flatQ_at (ds : List Q4) (k j : Nat) (hk : k < ds.length) (hj : j < 4) : (flatQ ds)[k * 4 + j]? = (cellsQ (nthQ ds k))[j]? := by
  induction ds generalizing k with
  | nil => simp at hk
  | cons d ds ih =>
    have e : flatQ (d :: ds) = cellsQ d ++ flatQ ds := by simp [flatQ]
    have l4 : (cellsQ d).length = 4 := rfl
    rw [e]
    cases k with
    | zero => rw [Nat.zero_mul, Nat.zero_add, List.getElem?_append_left (by rw [l4]; exact hj)]; rfl
    | succ k =>
      rw [List.getElem?_append_right (by rw [l4]; omega), l4, show (k + 1) * 4 + j - 4 = k * 4 + j by omega, ih k (by simpa using hk)]
      rfl
/-- the rolls of pieces, as cells in a block from its first cell on -/
def Pcs (w : World) (lo : Nat) (A : Option Addr) (n : Nat) (ds : List Q4) : Prop :=
  ds.length = n ∧ (0 < n → ∃ g, A = some ⟨g, 0, none⟩ ∧ lo ≤ g ∧ ∀ k, k < n → w.cell? ⟨g, k * 4 + 1, none⟩ = some (.int .i64 (nthQ ds k).r))
theorem Pcs.set {w : World} {lo n : Nat} {A : Option Addr} {ds : List Q4} (h : Pcs w lo A n ds) {p : Addr} (hp : p.block < lo) (u : Value) : Pcs (w.setCell p u) lo A n ds :=
  ⟨h.1, fun h0 => by
    obtain ⟨g, e, hg, hc⟩ := h.2 h0
    exact ⟨g, e, hg, fun k hk => (World.cell?_of_block (w := w) (a := ⟨g, k * 4 + 1, none⟩) (Below.heap_setCell _ _ _ _ (by simp; omega))).trans (hc k hk)⟩⟩
theorem pcs_of_own {w : World} {base e n : Nat} {v : Value} {ds : List Q4} (h : w.ownsRow base e 4 v n (flatQ ds)) : ∃ A c, v = .slice A n c ∧ Pcs w base A n ds ∧ n ≤ c := by
  have hl : ds.length = n := by have := h.1; rw [flatQ_len] at this; omega
  rcases h.2 with ⟨rfl, rfl⟩ | ⟨g, cap, cur, rfl, hg, hh, hnc, _, hcs, ht⟩
  · exact ⟨none, 0, rfl, ⟨hl, fun h => by omega⟩, Nat.le_refl _⟩
  · refine ⟨_, cap, rfl, ⟨hl, fun _ => ⟨g, rfl, hg, fun k hk => ?_⟩⟩, hnc⟩
    have h1 : (cur.toList.take (n * 4))[k * 4 + 1]? = (cellsQ (nthQ ds k))[1]? := by rw [ht]; exact flatQ_at ds k 1 (by omega) (by omega)
    rw [List.getElem?_take, if_pos (by omega)] at h1
    simpa [World.cell?, hh, cellsQ] using h1
theorem own_emptyQ {w : World} {base e : Nat} (hb : base ≤ w.heap.size) : (w.alloc (.cells #[] e)).ownsRow base e 4 (.slice (some ⟨w.heap.size, 0, none⟩) 0 0) 0 (flatQ []) :=
  ⟨rfl, .inr ⟨w.heap.size, 0, #[], rfl, hb, heap_alloc_new w _, Nat.le_refl _, by simp [maxLen], rfl, rfl⟩⟩
/-- one piece is appended to a slice of the call's own -/
theorem wpList_appQ {ops : Array Oper} {rest : List Oper} {o : Oper} {a : Act} {Q : Exit → Act → World → Prop} (hgd : o.guard = none) (s x : Operand) (ho : o.op = .call { callee := .builtin .append, args := #[s, x], argTypes := #[32, 32] })
    (base : Nat) (v : Value) (n : Nat) (ds : List Q4) (p r f l : Int) (W : World) (hs : a.eval s = v) (hx : a.eval x = .slice (some ⟨W.heap.size, 0, none⟩) 1 1) (hown : W.ownsRow base 35 4 v n (flatQ ds))
    (hn : n ≤ 1048576) (hbase : base ≤ W.heap.size)
    (h : ∀ v' w', w'.ownsRow base 35 4 v' (n + 1) (flatQ (ds ++ [⟨p, r, f, l⟩])) → Below base W w' → wpList Try.prog ops Q rest (a.put o.dst v') w') :
    wpList Try.prog ops Q (o :: rest) a (W.alloc (.cells #[.int .i64 p, .int .i64 r, .int .i64 f, .int .i64 l] 35)) := by
  obtain ⟨i0, hi0, hz0, hz1, hz2⟩ := info_parts info_piece
  refine wpList_append_own _ hgd s x 32 ho base 35 i0 (.agg #[.int .i64 0, .int .i64 0, .int .i64 0, .int .i64 0]) 4 32 Try.underlying32 hi0 hz0 hz1 hz2 rfl (by omega) v n (flatQ ds) hs (hown.alloc _) ⟨W.heap.size, 0, none⟩ 1 1 [.int .i64 p, .int .i64 r, .int .i64 f, .int .i64 l] hx rfl ?_ ?_ (by simp only [maxLen]; omega) (by omega) (by simp; omega) ?_
  · intro j u hu
    rw [add_new, cell_of_row (W.alloc _) W.heap.size j _ 35 (0, 0) (heap_alloc_new W _)]
    simpa using hu
  · intro u hu
    simp only [List.mem_cons, List.not_mem_nil, or_false] at hu
    rcases hu with rfl | rfl | rfl | rfl <;> rfl
  · intro v' w' h1 h2 _
    refine h v' w' (by rw [flatQ_append]; exact h1) ?_
    have h3 : Below base W (W.alloc (.cells #[.int .i64 p, .int .i64 r, .int .i64 f, .int .i64 l] 35)) := (Below.refl _ _).alloc hbase _
    exact h3.grown h2 (by simp; omega) fun k hk => (hown.lt k hk).1
theorem cnt_le (f : Int → Bool) (n : Nat) : cnt f n ≤ n := by
  induction n with
  | zero => exact Nat.le_refl _
  | succ n ih => rw [cnt]; split <;> omega
/-- how many pieces end at a place -/
def pcN (ps ws : List Int) (s cur : Int) : Nat := cnt (pB ps ws s) cur.toNat
def Rolls (m : Nat) (qs : List Q4) : Prop := ∀ k, k < qs.length → ∃ r : Nat, r < m ∧ (nthQ qs k).r = r
theorem Rolls.snoc {m : Nat} {qs : List Q4} {p f l : Int} {r : Nat} (h : Rolls m qs) (hr : r < m) : Rolls m (qs ++ [⟨p, r, f, l⟩]) := by
  intro k hk
  by_cases e : k < qs.length
  · obtain ⟨r', h1, h2⟩ := h k e
    exact ⟨r', h1, by rw [← h2]; simp [nthQ, List.getElem?_append_left e]⟩
  · obtain rfl : k = qs.length := by simp at hk; omega
    exact ⟨r, hr, by simp [nthQ]⟩
/-- what holds between two pieces -/
structure PcI (ps ws : List Int) (m : Nat) (s cur : Int) (p : Nat) (a : Int) (qs : List Q4) : Prop where
  at_ : s + cur = tot (ps.take p) + a
  len : qs.length = pcN ps ws s cur
  rolls : Rolls m qs
def RetQ (ps ws : List Int) (s : Int) (m : Nat) (w : World) (e : Ending) (w' : World) : Prop := ∃ (v : Value) (qs : List Q4), e = .returned v ∧ w'.ownsRow w.heap.size 35 4 v qs.length (flatQ qs) ∧ Below w.heap.size w w' ∧ qs.length = pcN ps ws s (tot ws) ∧ Rolls m qs
set_option maxHeartbeats 4000000 in
theorem specPieces (A B : Option Addr) (n m c d : Nat) (ps ws : List Int) (s : Nat) (w : World) (hn : n ≤ 1048576) (hm : m ≤ 1048576) (h : Ints w A n ps) (h' : Ints w B m ws) (he : enoughB ps ws s = true) :
    Calls Try.prog 16 #[.slice A n c, .slice B m d, .int .i64 s] w (RetQ ps ws s m w) := by
  obtain ⟨v1, v2, e1, e2⟩ := enough_true he
  have b1 := vLen_tot v1
  have b2 := vLen_tot v2
  have hs2 : s ≤ 24000 := by omega
  have hp1 : ∀ x ∈ ps, 1 ≤ x ∧ x ≤ 400 := (vLen_true v1).2
  have hw1 : ∀ x ∈ ws, 1 ≤ x ∧ x ≤ 400 := (vLen_true v2).2
  have HP1 := hide hp1; have HW1 := hide hw1; have HP := hide fun x hx => (hp1 x hx).1; have HW := hide fun x hx => (hw1 x hx).1; have HE := hide e2; have B1 := hide b1; have B2 := hide b2; have LN := hide h.1; have LM := hide h'.1
  clear v1 v2 e1 e2 b1 b2 hp1 hw1 he
  go_enter Try.func16, Try.ntmps16
  go_wp2_with fail
  go_loopw [7, 8, 9, 10] (fun v pv av iv wr => ∃ (qs : List Q4) (p i : Nat) (a : Int), i ≤ m ∧ p ≤ n ∧ 0 ≤ a ∧ a ≤ 24000 ∧ pv = .int .i64 p ∧ av = .int .i64 a ∧ iv = .int .i64 i ∧ Hid (PcI ps ws m s (tot (ws.take i)) p a qs) ∧ Hid (wr.ownsRow w.heap.size 35 4 v qs.length (flatQ qs)) ∧ Hid (Below w.heap.size w wr)) (fun _ _ _ i _ => m - (intOf i).toNat)
  case atStart => exact ⟨[], 0, 0, s, by omega, by omega, by omega, by omega, rfl, rfl, rfl, hide ⟨by rw [tot_zero, tot_zero]; omega, by rw [tot_zero]; rfl, fun k hk => by simp at hk⟩, hide (own_emptyQ (Nat.le_refl _)), hide (by go_grown)⟩
  case round =>
    obtain ⟨qs, p, i, a, hi, hp, ha0, ha1, rfl, rfl, rfl, hI, hown, hB⟩ := hrel
    by_cases him : i < m
    · have hix : i < ws.length := by rw [LM.out]; exact him
      obtain ⟨ad, rfl, hb, hc⟩ := (h'.below hB.out).2 i him
      obtain ⟨t3, t4⟩ := HW1.out _ (nth_mem hix)
      have ht := tot_take hix
      have ht2 := take_le HW.out (i := i + 1) (by omega)
      have ht0 := take_pos HW.out (i := i) (by omega)
      have e2 := HE.out
      obtain ⟨y, hy⟩ : ∃ y, nth ws i = y := ⟨_, rfl⟩
      rw [hy] at hc t3 t4 ht
      obtain ⟨t0, ht0e⟩ : ∃ t0, tot (ws.take i) = t0 := ⟨_, rfl⟩
      have hst := pB_start (ps := ps) (s := s) hix
      rw [ht0e] at ht hI ht0 hst
      have HT0 := hide ht0e; have HT := hide ht
      have HTT := hide (show t0 + y ≤ tot ps - s by omega)
      have HST := hide hst
      have T00 := hide ht0
      clear ht0e ht ht2 e2 hst hy hix ht0
      go_wp2_with fail
      go_loopw [7, 8, 9, 11] (fun v pv av nv wr => ∃ (qs : List Q4) (p : Nat) (a need : Int), p ≤ n ∧ 0 ≤ a ∧ a ≤ 24000 ∧ 0 ≤ need ∧ need ≤ y ∧ pv = .int .i64 p ∧ av = .int .i64 a ∧ nv = .int .i64 need ∧ Hid (PcI ps ws m s (t0 + y - need) p a qs) ∧ Hid (0 < need → pB ps ws s (t0 + y - need) = true) ∧ Hid (wr.ownsRow w.heap.size 35 4 v qs.length (flatQ qs)) ∧ Hid (Below w.heap.size w wr)) (fun _ _ _ nv _ => (intOf nv).toNat)
      case atStart => exact ⟨qs, p, a, y, hp, ha0, ha1, by omega, by omega, rfl, rfl, rfl, hide (by rw [show t0 + y - y = t0 by omega]; exact hI.out), hide (fun _ => by rw [show t0 + y - y = t0 by omega]; exact HST.out), hown, hB⟩
      case round =>
        clear hI hown hB hb hc
        obtain ⟨qs, p, a, need, hp, ha0, ha1, hn0, hn1, rfl, rfl, rfl, hI, hPB, hown, hB⟩ := hrel
        by_cases hne : 0 < need
        · have hJ := h.below hB.out
          go_wp2_with fail
          go_loop [8, 9] (fun pv av => ∃ (p : Nat) (a : Int), p ≤ n ∧ 0 ≤ a ∧ a ≤ 24000 ∧ pv = .int .i64 p ∧ av = .int .i64 a ∧ Hid (PcI ps ws m s (t0 + y - need) p a qs)) (fun pv _ => n - (intOf pv).toNat)
          case atStart => exact ⟨p, a, hp, ha0, ha1, rfl, rfl, hI⟩
          case round =>
            clear hI hp ha0 ha1
            obtain ⟨p, a, hp, ha0, ha1, rfl, rfl, hI⟩ := hrel
            have hpn : p < n := by
              rcases Nat.lt_or_ge p n with q | q
              · exact q
              · obtain rfl : p = n := by omega
                have h1 := hI.out.at_
                rw [tot_full LN.out] at h1
                have h2 := HTT.out
                omega
            have hpx : p < ps.length := by rw [LN.out]; exact hpn
            obtain ⟨t5, t6⟩ := HP1.out _ (nth_mem hpx)
            obtain ⟨ad2, rfl, hb2, hc2⟩ := hJ.2 p hpn
            have htk := tot_take hpx
            obtain ⟨z, hz⟩ : ∃ z, nth ps p = z := ⟨_, rfl⟩
            rw [hz] at hc2 t5 t6 htk
            have HTK := hide htk; have HZ := hide hz; have HPX := hide hpx
            clear htk hz hpx
            by_cases hza : z ≤ a
            · go_wp2_with fail
              go_round
              case rel => exact ⟨p + 1, a - z, by omega, by omega, by omega, by go_num, rfl, hide ⟨by have h1 := hI.out.at_; rw [HTK.out]; omega, hI.out.len, hI.out.rolls⟩⟩
              case measure => simp [intOf]; omega
            · have hza2 : a < z := by omega
              have hpne : ((p : Int) == n) = false := by simp; omega
              have HLN := hide (show qs.length ≤ 1048576 by
                have h1 := hI.out.len
                have h2 := cnt_le (pB ps ws s) (t0 + y - need).toNat
                have h3 := HTT.out
                have h4 := B1.out
                unfold pcN at h1
                omega)
              have hbs : w.heap.size ≤ wr.heap.size := hB.out.size
              by_cases hmin : need < z - a
              · have hstep := hide (pc_step (ps := ps) (ws := ws) (s := s) HP.out HW.out (i := i) (p := p) (cur := t0 + y - need) (a := a) (need := need) (n := need) (by rw [LM.out]; exact him) HPX.out (by rw [HT.out]; omega) (by rw [HT0.out]; omega) hI.out.at_ ha0 (by rw [HZ.out]; omega) (by omega) hne (hPB.out hne))
                go_wp2_with (at_builtin; refine wpList_appQ rfl _ _ rfl w.heap.size _ _ _ _ _ _ _ _ (by rfl) (by rfl) hown.out HLN.out hbs ?_; intro v' w1 hown' hb')
                go_roundw
                case rel => exact ⟨_, p, a + need, 0, by omega, by omega, by omega, by omega, by omega, rfl, rfl, by simp, hide ⟨by have h1 := hI.out.at_; omega, by have h1 := hI.out.len; have h2 := hstep.out; simp only [List.length_append, List.length_singleton, h1, pcN, ← h2]; congr 2; omega, hI.out.rolls.snoc him⟩, hide (fun q => by omega), hide (by simpa using hown'), hide (hB.out.trans hb')⟩
                case measure => simp [intOf]; omega
              · have hmin2 : z - a ≤ need := by omega
                have hstep := hide (pc_step (ps := ps) (ws := ws) (s := s) HP.out HW.out (i := i) (p := p) (cur := t0 + y - need) (a := a) (need := need) (n := z - a) (by rw [LM.out]; exact him) HPX.out (by rw [HT.out]; omega) (by rw [HT0.out]; omega) hI.out.at_ ha0 (by rw [HZ.out]; omega) (by omega) (by omega) (hPB.out hne))
                go_wp2_with (at_builtin; refine wpList_appQ rfl _ _ rfl w.heap.size _ _ _ _ _ _ _ _ (by rfl) (by rfl) hown.out HLN.out hbs ?_; intro v' w1 hown' hb')
                go_roundw
                case rel =>
                  have hif : (if z - a < need then z - a else need) = z - a := by split <;> omega
                  exact ⟨_, p, a + (z - a), need - (z - a), by omega, by omega, by omega, by omega, by omega, rfl, by rw [hif], by rw [hif], hide ⟨by have h1 := hI.out.at_; omega, by have h1 := hI.out.len; have h2 := hstep.out; simp only [List.length_append, List.length_singleton, h1, pcN, ← h2]; congr 2; omega, hI.out.rolls.snoc him⟩, hide (fun q => pB_end HPX.out (by have h1 := hI.out.at_; rw [HTK.out]; omega)), hide (by simpa using hown'), hide (hB.out.trans hb')⟩
                case measure => simp [intOf]; omega
        · obtain rfl : need = 0 := by omega
          go_wp2_with fail
          go_roundw
          case rel => exact ⟨qs, p, i + 1, a, by omega, hp, ha0, ha1, rfl, rfl, by go_num, hide (by rw [HT.out]; have := hI.out; rwa [show t0 + y - 0 = t0 + y by omega] at this), hown, hB⟩
          case measure => simp [intOf]; omega
    · obtain rfl : i = m := by omega
      go_wp2_with fail
      go_ret
      have h1 := hI.out.len
      rw [tot_full LM.out] at h1
      exact ⟨_, qs, rfl, hown.out, hB.out, h1, hI.out.rolls⟩
end Go.Proofs.Ytagnliolaghehaa
