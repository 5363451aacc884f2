/- (*slow.run).begin of function 0 without arguments and locals: a contract. -/
import Derived.Test.YtnapbjfmkofhcaaSl
import Derived.Test.YtnapbjfmkofhcaaReg
import Derived.Carry
import Derived.Maps.AppendAt
namespace Go.Proofs.Ytnapbjfmkofhcaa.Beg
set_option linter.unusedVariables false
set_option linter.unusedSimpArgs false
open Go.RowKit Wd Sl

theorem infoP : (Try.prog.info? 85).map (fun i => (i.zero, i.size, i.bytes)) = some (some (.pointer none), 1, 8) := by kernel_rfl

theorem cell_keep {w W : World} {p : Addr} {v : Value} (hb : Below w.heap.size w W) (h : w.cell? p = some v) : W.cell? p = some v := (hb.cell (cell_lt h)).trans h

theorem bel_alloc {w W : World} (h : Below w.heap.size w W) (o : Obj) : Below w.heap.size w (W.alloc o) := h.alloc h.size o
theorem bel_set {w W : World} (h : Below w.heap.size w W) (i : Nat) (u : Value) : Below w.heap.size w (W.setCell ⟨w.heap.size, i, none⟩ u) := h.setCell (p := ⟨w.heap.size, i, none⟩) (Nat.le_refl _) u
theorem bel_call {w W w1 : World} (k : Below W.heap.size W w1) (h : Below w.heap.size w W) : Below w.heap.size w w1 := below_thn k h h.size
theorem own_one {w : World} {base : Nat} {E : TypeId} {u v : Value} (h : w.ownsRow base E 1 v 1 [u]) : ∃ g c, v = .slice (some ⟨g, 0, none⟩) 1 c ∧ base ≤ g ∧ g < w.heap.size ∧ w.cell? ⟨g, 0, none⟩ = some u ∧ 1 ≤ c := by
  obtain ⟨hl, h | ⟨g, cap, cur, rfl, hb, hg, hn, hm, hs, ht⟩⟩ := h
  · cases h.2
  · refine ⟨g, cap, rfl, hb, (Array.getElem?_eq_some_iff.1 hg).1, ?_, hn⟩
    rw [cell_of_row w g 0 cur E (0, 0) hg]
    have h0 : (cur.toList.take (1 * 1))[0]? = some u := by rw [ht]; rfl
    rw [List.getElem?_take] at h0
    simpa using h0

/-- The block of a run. -/
abbrev runC (r0 r1 r2 r3 r4 r5 r6 r7 r8 r9 : Value) : Array Value := #[r0, r1, r2, r3, r4, r5, r6, r7, r8, r9]
/-- The block of a frame. -/
abbrev frC (f0 f1 f2 f3 f4 f5 f6 f7 f8 : Value) : Array Value := #[f0, f1, f2, f3, f4, f5, f6, f7, f8]

/-- Behind begin. -/
def BegPost (g : Nat) (r0 r1 r2 r3 r4 r5 r6 r7 r9 v1 v2 v4 m : Value) (w : World) (e : Ending) (w' : World) : Prop :=
  e = .returned (.tuple #[]) ∧ ∃ gf gs c slots left, w.heap.size ≤ gf ∧ w.heap.size ≤ gs ∧ gf ≠ gs ∧ 1 ≤ c ∧ Blk w' gf (frC (.slice none 0 0) v1 v2 (.slice none 0 0) v4 m (.int .i64 0) slots left) 91 ∧
    w'.cell? ⟨gs, 0, none⟩ = some (.pointer (some ⟨gf, 0, none⟩)) ∧ Blk w' g (runC r0 r1 r2 r3 r4 r5 r6 r7 (.slice (some ⟨gs, 0, none⟩) 1 c) r9) 60 ∧ w.grownBy w' (some g)

set_option maxHeartbeats 1000000 in
set_option maxRecDepth 100000 in
theorem begin_calls (g : Nat) (r0 r1 r2 r3 r4 r7 r9 : Value) (a1 : Option Addr) (n1 k1 : Nat) (a2 : Option Addr) (n2 k2 : Nat) (a4 : Option Addr) (n4 k4 : Nat) (a5 : Option Addr) (n5 k5 : Nat) (bF oF nF cF bM oM cM : Nat) (w : World)
    (hB : Blk w g (runC r0 r1 r2 r3 r4 (.slice (some ⟨bF, oF, none⟩) (nF + 1) cF) (.slice (some ⟨bM, oM, none⟩) 1 cM) r7 (.slice none 0 0) r9) 60)
    (h1 : w.cell? ⟨bF, oF, none⟩ = some (.slice a1 n1 k1)) (h2 : w.cell? ⟨bF, oF + 1, none⟩ = some (.slice a2 n2 k2)) (h3 : w.cell? ⟨bF, oF + 2, none⟩ = some (.slice none 0 0)) (h4 : w.cell? ⟨bF, oF + 3, none⟩ = some (.slice a4 n4 k4)) (hm : w.cell? ⟨bM, oM, none⟩ = some (.slice a5 n5 k5)) :
    Calls Try.prog 20 #[.pointer (some ⟨g, 0, none⟩), .int .i64 0, .slice none 0 0] w (BegPost g r0 r1 r2 r3 r4 (.slice (some ⟨bF, oF, none⟩) (nF + 1) cF) (.slice (some ⟨bM, oM, none⟩) 1 cM) r7 r9 (.slice a1 n1 k1) (.slice a2 n2 k2) (.slice a4 n4 k4) (.slice a5 n5 k5) w) := by
  have c5 : w.cell? ⟨g, 5, none⟩ = some (.slice (some ⟨bF, oF, none⟩) (nF + 1) cF) := blk_cell hB 5
  have c6 : w.cell? ⟨g, 6, none⟩ = some (.slice (some ⟨bM, oM, none⟩) 1 cM) := blk_cell hB 6
  have c8 : w.cell? ⟨g, 8, none⟩ = some (.slice none 0 0) := blk_cell hB 8
  have f8 := blk_frozen hB 8
  have hmm := @run_makeMap Try.prog
  obtain ⟨i0, hi, hz0, hz1, hz2⟩ := info_parts infoP
  have lg := blk_lt hB
  have lF := cell_lt h1
  have lM := cell_lt hm
  simp only at lF lM
  have HB := Lib.hid hB
  clear hB
  go_enter Try.func20, Try.ntmps20
  go_wp2_with fail
  go_region_held3 (fun W => Below w.heap.size w W ∧ W.cell? ⟨g, 5, none⟩ = some (.slice (some ⟨bF, oF, none⟩) (nF + 1) cF) ∧ W.cell? ⟨g, 6, none⟩ = some (.slice (some ⟨bM, oM, none⟩) 1 cM) ∧ W.cell? ⟨bF, oF, none⟩ = some (.slice a1 n1 k1) ∧ W.cell? ⟨bF, oF + 1, none⟩ = some (.slice a2 n2 k2) ∧ W.cell? ⟨bF, oF + 2, none⟩ = some (.slice none 0 0) ∧ W.cell? ⟨bF, oF + 3, none⟩ = some (.slice a4 n4 k4) ∧ W.cell? ⟨bM, oM, none⟩ = some (.slice a5 n5 k5))
    (first | (refine (fun hK : Below w.heap.size w _ => ⟨hK, cell_keep hK c5, cell_keep hK c6, cell_keep hK h1, cell_keep hK h2, cell_keep hK h3, cell_keep hK h4, cell_keep hK hm⟩) ?_; go_split_ands; (repeat (first | with_reducible exact Below.refl _ _ | with_reducible assumption | with_reducible refine Below.drew ?_ | with_reducible refine below_drewN ?_ _ | with_reducible refine bel_set ?_ _ _ | with_reducible refine bel_alloc ?_ _ | with_reducible refine bel_call (by with_reducible assumption) ?_))))
    (first | (go_at_call 35; refine (cloneV_calls none 0 0 [] rfl _ (by decide) (Rd.nil _ _ _ _) (fun _ => rfl)).mono ?_; rintro e w1 ⟨a9, c9, rfl, hown, hb⟩))
  all_goals
    have hbw : Below w.heap.size w w1 := by (repeat (first | with_reducible exact Below.refl _ _ | with_reducible assumption | with_reducible refine Below.drew ?_ | with_reducible refine below_drewN ?_ _ | with_reducible refine bel_set ?_ _ _ | with_reducible refine bel_alloc ?_ _ | with_reducible refine bel_call (by with_reducible assumption) ?_))
    have hs1 := hbw.size
    have d8 := cell_keep hbw c8
    have e8 := (hbw.frozen (p := ⟨g, 8, none⟩) lg).trans f8
    have lg1 : g < w1.heap.size := by omega
  · (have hW : Below w.heap.size w ((w1.alloc (.map #[] 0)).alloc (.cells (frC (.slice none 0 0) (.slice a1 n1 k1) (.slice a2 n2 k2) (.slice none 0 0) (.slice a4 n4 k4) (.slice a5 n5 k5) (.int .i64 0) (.slice a9 0 c9) (.map (some w1.heap.size))) 91)) := (by (repeat (first | with_reducible exact Below.refl _ _ | with_reducible assumption | with_reducible refine Below.drew ?_ | with_reducible refine below_drewN ?_ _ | with_reducible refine bel_set ?_ _ _ | with_reducible refine bel_alloc ?_ _ | with_reducible refine bel_call (by with_reducible assumption) ?_))); have hGF : ((w1.alloc (.map #[] 0)).alloc (.cells (frC (.slice none 0 0) (.slice a1 n1 k1) (.slice a2 n2 k2) (.slice none 0 0) (.slice a4 n4 k4) (.slice a5 n5 k5) (.int .i64 0) (.slice a9 0 c9) (.map (some w1.heap.size))) 91)).heap[w1.heap.size + 1]? = some (.cells (frC (.slice none 0 0) (.slice a1 n1 k1) (.slice a2 n2 k2) (.slice none 0 0) (.slice a4 n4 k4) (.slice a5 n5 k5) (.int .i64 0) (.slice a9 0 c9) _) 91 (0, 0)) := (by first | exact blk_new w1 _ | (have h := blk_new (w1.alloc (.map #[] 0)) (.cells (frC (.slice none 0 0) (.slice a1 n1 k1) (.slice a2 n2 k2) (.slice none 0 0) (.slice a4 n4 k4) (.slice a5 n5 k5) (.int .i64 0) (.slice a9 0 c9) (.map (some w1.heap.size))) 91); simp only [World.size_alloc] at h; exact h)); have hne : w.heap.size ≤ w1.heap.size + 1 := (by omega); have HW := Lib.hid hW; have HGF := Lib.hid hGF; have lg1 : g < (((w1.alloc (.map #[] 0)).alloc (.cells (frC (.slice none 0 0) (.slice a1 n1 k1) (.slice a2 n2 k2) (.slice none 0 0) (.slice a4 n4 k4) (.slice a5 n5 k5) (.int .i64 0) (.slice a9 0 c9) (.map (some w1.heap.size))) 91))).heap.size := Nat.lt_of_lt_of_le lg hW.size; have d8 := cell_keep hW c8; go_wp2_with fail; refine wp_loop_rounds 1 ?_; rw [rounds_succ]; go_wp2_with (at_builtin; refine wpList_append_own _ rfl _ _ 58 rfl (w1.heap.size + 1 + 1) 85 i0 (.pointer none) 1 8 Try.underlying58 hi hz0 hz1 hz2 rfl (by decide) _ _ _ rfl (World.ownsRow_nil _ _ _ _) ⟨w1.heap.size + 1 + 1, 0, none⟩ 1 1 [.pointer (some ⟨w1.heap.size + 1, 0, none⟩)] rfl rfl ?c1 ?c2 ?c3 ?c4 ?c5 ?_); (case c1 => (have h := cell_one_new (((w1.alloc (.map #[] 0)).alloc (.cells (frC (.slice none 0 0) (.slice a1 n1 k1) (.slice a2 n2 k2) (.slice none 0 0) (.slice a4 n4 k4) (.slice a5 n5 k5) (.int .i64 0) (.slice a9 0 c9) (.map (some w1.heap.size))) 91))) (.pointer (some ⟨w1.heap.size + 1, 0, none⟩)) 85; simp only [World.size_alloc] at h; exact h)); (case c2 => (intro u hu; simp at hu; subst hu; rfl)); (case c3 => (unfold maxLen; omega)); (case c4 => omega); (case c5 => (simp only [World.size_alloc]; omega)); intro v' w2 hown1 hg1 _; obtain ⟨gs, c, rfl, hgs, hgs2, hcs, hc1⟩ := own_one hown1; have hb1 : Below w.heap.size w ((((w1.alloc (.map #[] 0)).alloc (.cells (frC (.slice none 0 0) (.slice a1 n1 k1) (.slice a2 n2 k2) (.slice none 0 0) (.slice a4 n4 k4) (.slice a5 n5 k5) (.int .i64 0) (.slice a9 0 c9) (.map (some w1.heap.size))) 91))).alloc (.cells #[.pointer (some ⟨w1.heap.size + 1, 0, none⟩)] 85)) := bel_alloc HW.out _; have hb2 : Below w.heap.size w w2 := hb1.grown hg1 hb1.size (fun k hk => (by cases hk)); have hGF2 : w2.heap[w1.heap.size + 1]? = _ := (hg1.block _ (blk_lt (blk_alloc HGF.out _)) (by intro hk; cases hk)).trans (blk_alloc HGF.out _); have hg2 : w2.heap[g]? = _ := (hb2.block g lg).trans HB.out; have HG2 := Lib.hid hg2; have HGF2 := Lib.hid hGF2; have d82 := cell_keep hb2 c8; have e82 := (hb2.frozen (p := ⟨g, 8, none⟩) lg).trans f8; have hn1 : gs ≠ g := (by omega); have hn2 : w1.heap.size + 1 ≠ g := (by omega); have hn3 : w1.heap.size + 1 ≠ gs := (by omega); clear hg2 hGF2; go_wp2_with fail; go_end0; exact ⟨rfl, _, gs, c, _, _, hne, (by omega), hn3, hc1, blk_far HGF2.out hn2 _, (World.cell?_setCell_far _ _ _ _ (Ne.symm hn1)).trans hcs, blk_set HG2.out 8 _, grown_set (grown_below hb2) 8 _⟩)
  · (have hW : Below w.heap.size w (w1.alloc (.cells (frC (.slice none 0 0) (.slice a1 n1 k1) (.slice a2 n2 k2) (.slice none 0 0) (.slice a4 n4 k4) (.slice a5 n5 k5) (.int .i64 0) (.slice a9 0 c9) (.map (some w.heap.size))) 91)) := (by (repeat (first | with_reducible exact Below.refl _ _ | with_reducible assumption | with_reducible refine Below.drew ?_ | with_reducible refine below_drewN ?_ _ | with_reducible refine bel_set ?_ _ _ | with_reducible refine bel_alloc ?_ _ | with_reducible refine bel_call (by with_reducible assumption) ?_))); have hGF : (w1.alloc (.cells (frC (.slice none 0 0) (.slice a1 n1 k1) (.slice a2 n2 k2) (.slice none 0 0) (.slice a4 n4 k4) (.slice a5 n5 k5) (.int .i64 0) (.slice a9 0 c9) (.map (some w.heap.size))) 91)).heap[w1.heap.size]? = some (.cells (frC (.slice none 0 0) (.slice a1 n1 k1) (.slice a2 n2 k2) (.slice none 0 0) (.slice a4 n4 k4) (.slice a5 n5 k5) (.int .i64 0) (.slice a9 0 c9) _) 91 (0, 0)) := (by first | exact blk_new w1 _ | (have h := blk_new (w1.alloc (.map #[] 0)) (.cells (frC (.slice none 0 0) (.slice a1 n1 k1) (.slice a2 n2 k2) (.slice none 0 0) (.slice a4 n4 k4) (.slice a5 n5 k5) (.int .i64 0) (.slice a9 0 c9) (.map (some w1.heap.size))) 91); simp only [World.size_alloc] at h; exact h)); have hne : w.heap.size ≤ w1.heap.size := (by omega); have HW := Lib.hid hW; have HGF := Lib.hid hGF; have lg1 : g < ((w1.alloc (.cells (frC (.slice none 0 0) (.slice a1 n1 k1) (.slice a2 n2 k2) (.slice none 0 0) (.slice a4 n4 k4) (.slice a5 n5 k5) (.int .i64 0) (.slice a9 0 c9) (.map (some w.heap.size))) 91))).heap.size := Nat.lt_of_lt_of_le lg hW.size; have d8 := cell_keep hW c8; go_wp2_with fail; refine wp_loop_rounds 1 ?_; rw [rounds_succ]; go_wp2_with (at_builtin; refine wpList_append_own _ rfl _ _ 58 rfl (w1.heap.size + 1) 85 i0 (.pointer none) 1 8 Try.underlying58 hi hz0 hz1 hz2 rfl (by decide) _ _ _ rfl (World.ownsRow_nil _ _ _ _) ⟨w1.heap.size + 1, 0, none⟩ 1 1 [.pointer (some ⟨w1.heap.size, 0, none⟩)] rfl rfl ?c1 ?c2 ?c3 ?c4 ?c5 ?_); (case c1 => (have h := cell_one_new ((w1.alloc (.cells (frC (.slice none 0 0) (.slice a1 n1 k1) (.slice a2 n2 k2) (.slice none 0 0) (.slice a4 n4 k4) (.slice a5 n5 k5) (.int .i64 0) (.slice a9 0 c9) (.map (some w.heap.size))) 91))) (.pointer (some ⟨w1.heap.size, 0, none⟩)) 85; simp only [World.size_alloc] at h; exact h)); (case c2 => (intro u hu; simp at hu; subst hu; rfl)); (case c3 => (unfold maxLen; omega)); (case c4 => omega); (case c5 => (simp only [World.size_alloc]; omega)); intro v' w2 hown1 hg1 _; obtain ⟨gs, c, rfl, hgs, hgs2, hcs, hc1⟩ := own_one hown1; have hb1 : Below w.heap.size w (((w1.alloc (.cells (frC (.slice none 0 0) (.slice a1 n1 k1) (.slice a2 n2 k2) (.slice none 0 0) (.slice a4 n4 k4) (.slice a5 n5 k5) (.int .i64 0) (.slice a9 0 c9) (.map (some w.heap.size))) 91))).alloc (.cells #[.pointer (some ⟨w1.heap.size, 0, none⟩)] 85)) := bel_alloc HW.out _; have hb2 : Below w.heap.size w w2 := hb1.grown hg1 hb1.size (fun k hk => (by cases hk)); have hGF2 : w2.heap[w1.heap.size]? = _ := (hg1.block _ (blk_lt (blk_alloc HGF.out _)) (by intro hk; cases hk)).trans (blk_alloc HGF.out _); have hg2 : w2.heap[g]? = _ := (hb2.block g lg).trans HB.out; have HG2 := Lib.hid hg2; have HGF2 := Lib.hid hGF2; have d82 := cell_keep hb2 c8; have e82 := (hb2.frozen (p := ⟨g, 8, none⟩) lg).trans f8; have hn1 : gs ≠ g := (by omega); have hn2 : w1.heap.size ≠ g := (by omega); have hn3 : w1.heap.size ≠ gs := (by omega); clear hg2 hGF2; go_wp2_with fail; go_end0; exact ⟨rfl, _, gs, c, _, _, hne, (by omega), hn3, hc1, blk_far HGF2.out hn2 _, (World.cell?_setCell_far _ _ _ _ (Ne.symm hn1)).trans hcs, blk_set HG2.out 8 _, grown_set (grown_below hb2) 8 _⟩)
end Go.Proofs.Ytnapbjfmkofhcaa.Beg
