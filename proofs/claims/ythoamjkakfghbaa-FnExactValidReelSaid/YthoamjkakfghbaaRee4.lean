/- Contracts of the laws' own copies and comparisons of reels. -/
import Derived.Test.YthoamjkakfghbaaRee2
import Derived.Deep.OwnRows
namespace Go.Proofs.Ythoamjkakfghbaa
open Go.RowKit
attribute [local go_sem ↓] Go.wp_at_zero Go.wp_at_succ
set_option linter.unusedVariables false
set_option maxRecDepth 100000

theorem run_make5 {P : Program} (t e : TypeId) (z : Value) (bytes : Nat) (ht : P.underlying t = some (.slice e)) (hinfo : (P.info? e).map (fun i => (i.zero, i.size, i.bytes)) = some (some z, 5, bytes))
    (kl kc : IntKind) (n : Nat) (hbytes : bytes * n ≤ 281474976710656) (h63 : n ≤ 9223372036854775807) (w : World) :
    (Instr.makeSlice t (.int kl (n : Int)) (.int kc (n : Int))).run P w = .ok (.slice (some ⟨w.heap.size, 0, none⟩) n n) (w.alloc (.cells (madeCells z.cells (n * 5)) e)) := by
  obtain ⟨i, hi, hzz⟩ := Option.map_eq_some_iff.1 hinfo
  simp only [Prod.mk.injEq] at hzz
  obtain ⟨hz, hs, hb⟩ := hzz
  have hb' : (i.bytes : Int) * (n : Int) ≤ 281474976710656 := by
    have h : ((i.bytes * n : Nat) : Int) ≤ 281474976710656 := by rw [hb]; omega
    rwa [Int.natCast_mul] at h
  have hr := run_make (P := P) w t e i z ht hi hz kl kc n n (by omega) (Int.le_refl _) hb' (by omega)
  simp only [Int.toNat_natCast, hs] at hr
  exact hr
theorem info_defect : (Try.prog.info? 66).map (fun i => (i.zero, i.size, i.bytes)) = some (some (dfc 0 0 0 0 0), 5, 40) := by kernel_rfl
/-- the j-th cell of a list of defects -/
def fl (ds : List D5) (j : Nat) : Value := (flat ds).getD j undef
theorem fl_at {ds : List D5} {k j : Nat} (hk : k < ds.length) (hj : j < 5) : fl ds (k * 5 + j) = (cellsD (nthD ds k)).getD j undef := by
  unfold fl; rw [List.getD_eq_getElem?_getD, flat_at ds k j hk hj, ← List.getD_eq_getElem?_getD]
theorem dfs_of_row {w : World} {g T n : Nat} {ds : List D5} (hn : ds.length = n) (h : w.rowIs g T (n * 5) (fl ds)) : Dfs w (some ⟨g, 0, none⟩) n ds :=
  ⟨hn, fun _ => ⟨g, rfl, h.lt, fun k hk => by
    have e : ∀ j, j < 5 → w.cell? ⟨g, k * 5 + j, none⟩ = some ((cellsD (nthD ds k)).getD j undef) := fun j hj => by rw [h.cell (by omega), fl_at hk hj]
    exact ⟨e 0 (by omega), e 1 (by omega), e 2 (by omega), e 3 (by omega), e 4 (by omega)⟩⟩⟩

theorem toDefect_any (l r f t g : Int) (w : World) : Calls Try.prog 73 #[dfc l r f t g] w fun e w' => e = .returned (dfc l r f t g) ∧ Below w.heap.size w w' := by
  go_enter Try.func73, Try.ntmps73
  go_wp2
  refine bodyPost_ret (v := dfc l r f t g) (by simp [results, Try.results73, go_sem]) rfl ⟨rfl, by go_grown⟩
/-- what the copy of a slice of defects gives -/
def RetD (ds : List D5) (w : World) (e : Ending) (w' : World) : Prop := ∃ B k d, e = .returned (.slice B k d) ∧ (Dfs w' B k ds ∧ ∀ g, B = some ⟨g, 0, none⟩ → w.heap.size ≤ g) ∧ Below w.heap.size w w'
theorem dl0 {W : World} {l r f t g : Int} {p : Nat → Value} {b T n k : Nat} (h : W.rowIs b T n p) :
    (((((W.setCell ⟨b, k * 5, none⟩ (.int .i64 l)).setCell ⟨b, k * 5 + 1, none⟩ (.int .i64 r)).setCell ⟨b, k * 5 + 2, none⟩ (.int .i64 f)).setCell ⟨b, k * 5 + 3, none⟩ (.int .i64 t)).setCell ⟨b, k * 5 + 4, none⟩ (.int .i64 g)).rowIs b T n
      (fun j => if j = k * 5 + 4 then .int .i64 g else if j = k * 5 + 3 then .int .i64 t else if j = k * 5 + 2 then .int .i64 f else if j = k * 5 + 1 then .int .i64 r else if j = k * 5 then .int .i64 l else p j) :=
  ((((h.set _ _).set _ _).set _ _).set _ _).set _ _
set_option maxHeartbeats 2000000 in
theorem toDefectS_ret (A : Option Addr) (n c : Nat) (ds : List D5) (w : World) (hn : n ≤ 1048576) (h : DfA w A n ds) : Calls Try.prog 56 #[.slice A n c] w (RetD ds w) := by
  have hmk := fun W => run_make5 (P := Try.prog) 33 66 (dfc 0 0 0 0 0) 40 Try.underlying33 info_defect .i64 .i64 n (by omega) (by omega) W
  have HL := hide h.1
  have HH := hide h; clear h
  go_enter Try.func56, Try.ntmps56
  go_wp2
  clear hmk
  go_loopw [4] (fun i wr => ∃ k : Nat, k ≤ n ∧ i = .int .i64 k ∧ Hid (wr.rowIs w.heap.size 66 (n * 5) (fun j => if j < k * 5 then fl ds j else .int .i64 0)) ∧ Hid (Below w.heap.size w wr)) (fun i _ => n - (intOf i).toNat)
  case atStart =>
    refine ⟨0, by omega, rfl, hide ?_, hide (by go_grown)⟩
    refine ⟨_, heap_alloc_new _ _, by simp [size_madeCells], fun i hi => ?_⟩
    simp only [Nat.zero_mul, Nat.not_lt_zero, if_false]
    have : (#[Value.int .i64 0, .int .i64 0, .int .i64 0, .int .i64 0, .int .i64 0][i % 5]!) = .int .i64 0 := by
      have h5 : i % 5 < 5 := Nat.mod_lt _ (by omega)
      generalize i % 5 = q at h5
      match q, h5 with
      | 0, _ => rfl
      | 1, _ => rfl
      | 2, _ => rfl
      | 3, _ => rfl
      | 4, _ => rfl
    simp [madeCells, hi]
    simpa using this
  case round =>
    obtain ⟨k, hk, rfl, hrow, hB⟩ := hrel
    by_cases hlt : k < n
    · obtain ⟨ad, rfl, hb, c0, c1, c2, c3, c4⟩ := (HH.out.below hB.out).2 k hlt
      have HKL := hide (show k < ds.length by rw [HL.out]; exact hlt)
      obtain ⟨d, hd⟩ : ∃ d, nthD ds k = d := ⟨_, rfl⟩
      rw [hd] at c0 c1 c2 c3 c4
      have HDD := hide hd
      clear hd
      obtain ⟨l, r, f, t, g⟩ := d
      dsimp only at c0 c1 c2 c3 c4
      rw [← Go.Deep.add_add] at c1 c2 c3 c4
      have c1' : wr.cell? ⟨(ad.add (k * 5)).block, (ad.add (k * 5)).off + 1, none⟩ = some (.int .i64 r) := c1
      have c2' : wr.cell? ⟨(ad.add (k * 5)).block, (ad.add (k * 5)).off + 2, none⟩ = some (.int .i64 f) := c2
      have c3' : wr.cell? ⟨(ad.add (k * 5)).block, (ad.add (k * 5)).off + 3, none⟩ = some (.int .i64 t) := c3
      have c4' : wr.cell? ⟨(ad.add (k * 5)).block, (ad.add (k * 5)).off + 4, none⟩ = some (.int .i64 g) := c4
      clear c1 c2 c3 c4
      go_wp2_with fail
      refine (toDefect_any _ _ _ _ _ _).mono ?_; rintro e wx ⟨rfl, hbx⟩
      have hr := hrow.out.of_block (hbx.block w.heap.size (hrow.out.lt))
      have BX := hide (below_then hB.out hbx)
      have HR := hide hr
      have k5 : k * 5 + 5 ≤ n * 5 := by omega
      have o0 := hr.cell (i := k * 5) (by omega); have o1 := hr.cell (i := k * 5 + 1) (by omega); have o2 := hr.cell (i := k * 5 + 2) (by omega); have o3 := hr.cell (i := k * 5 + 3) (by omega); have o4 := hr.cell (i := k * 5 + 4) (by omega)
      have z0 := hr.frozen (k * 5); have z1 := hr.frozen (k * 5 + 1); have z2 := hr.frozen (k * 5 + 2); have z3 := hr.frozen (k * 5 + 3); have z4 := hr.frozen (k * 5 + 4)
      clear hr hbx c0 c1' c2' c3' c4' k5
      go_wp2_with fail
      go_roundw
      case rel =>
        refine ⟨k + 1, by omega, by go_num, hide ?_, hide (((((BX.out.setCell (Nat.le_refl _) _).setCell (Nat.le_refl _) _).setCell (Nat.le_refl _) _).setCell (Nat.le_refl _) _).setCell (Nat.le_refl _) _)⟩
        refine (dl0 HR.out).congr (fun j hj => ?_)
        have e := fun i (hi : i < 5) => fl_at (ds := ds) (k := k) (j := i) HKL.out hi
        simp only [HDD.out] at e
        by_cases e4 : j = k * 5 + 4
        · subst e4; rw [if_pos rfl, if_pos (by omega), e 4 (by omega)]; rfl
        rw [if_neg e4]
        by_cases e3 : j = k * 5 + 3
        · subst e3; rw [if_pos rfl, if_pos (by omega), e 3 (by omega)]; rfl
        rw [if_neg e3]
        by_cases e2 : j = k * 5 + 2
        · subst e2; rw [if_pos rfl, if_pos (by omega), e 2 (by omega)]; rfl
        rw [if_neg e2]
        by_cases e1 : j = k * 5 + 1
        · subst e1; rw [if_pos rfl, if_pos (by omega), e 1 (by omega)]; rfl
        rw [if_neg e1]
        by_cases e0 : j = k * 5
        · subst e0; rw [if_pos rfl, if_pos (by omega)]; exact (e 0 (by omega)).symm
        rw [if_neg e0]
        by_cases h1 : j < k * 5
        · rw [if_pos h1, if_pos (by omega)]
        · rw [if_neg h1, if_neg (by omega)]
      case measure => simp [intOf]; omega
    · have : k = n := by omega
      subst this
      go_wp2
      go_ret
      exact ⟨_, _, _, rfl, ⟨dfs_of_row HL.out (hrow.out.congr (fun j hj => by simp only [if_pos hj])), fun g e => by injection e with e; injection e with e; omega⟩, hB.out⟩
theorem toPart_any (l r f t : Int) (w : World) : Calls Try.prog 27 #[part l r f t] w fun e w' => e = .returned (part l r f t) ∧ Below w.heap.size w w' := by
  go_enter Try.func27, Try.ntmps27
  go_wp2
  refine bodyPost_ret (v := part l r f t) (by simp [results, Try.results27, go_sem]) rfl ⟨rfl, by go_grown⟩
end Go.Proofs.Ythoamjkakfghbaa
