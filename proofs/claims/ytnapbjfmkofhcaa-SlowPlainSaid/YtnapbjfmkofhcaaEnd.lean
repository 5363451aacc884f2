/- (*slow.run).end of the only frame: a contract. -/
import Derived.Test.YtnapbjfmkofhcaaBeg
import Derived.Test.YtnapbjfmkofhcaaValB
namespace Go.Proofs.Ytnapbjfmkofhcaa.End
set_option linter.unusedVariables false
set_option linter.unusedSimpArgs false
open Go.RowKit Wd Sl Beg ValB

set_option maxHeartbeats 1000000 in
set_option maxRecDepth 100000 in
theorem end_calls (g gf gs c8 : Nat) (r0 r1 r2 r3 r4 r5 r6 r7 r9 : Value) (a : Option Addr) (c : Nat) (a2 : Option Addr) (c2 : Nat) (rs : List Int) (f1 f3 f4 f5 f6 f7 f8 : Value) (zs : List V) (w : World)
    (hR : Blk w g (runC r0 r1 r2 r3 r4 r5 r6 r7 (.slice (some ⟨gs, 0, none⟩) 1 c8) r9) 60) (hB : Blk w gf (frC (.slice a zs.length c) f1 (.slice a2 rs.length c2) f3 f4 f5 f6 f7 f8) 91) (hg : g ≠ gf)
    (hz : Rd encV 3 w a zs) (hn : zs.length ≤ 1000) (hi : Rd encI 1 w a2 rs) (hr : rs.length ≤ 1000) (hc : 1 ≤ c8) (hf : fits zs rs = true) :
    Calls Try.prog 57 #[.pointer (some ⟨g, 0, none⟩), .pointer (some ⟨gf, 0, none⟩)] w fun e w' => e = .returned (.bool true) ∧ (∃ r8, Blk w' g (runC (.slice a zs.length c) r1 r2 r3 r4 r5 r6 r7 r8 r9) 60) ∧ w.grownBy w' (some g) := by
  have hl : zs.length = rs.length := by unfold fits at hf; simp only [Bool.and_eq_true, beq_iff_eq] at hf; exact hf.1.1
  have lg := blk_lt hR
  have lf := blk_lt hB
  have c0 : w.cell? ⟨gf, 0, none⟩ = some (.slice a zs.length c) := blk_cell hB 0
  have d2 : w.cell? ⟨gf, 2, none⟩ = some (.slice a2 rs.length c2) := blk_cell hB 2
  have d8 : w.cell? ⟨g, 8, none⟩ = some (.slice (some ⟨gs, 0, none⟩) 1 c8) := blk_cell hR 8
  have e8 := blk_frozen hR 8
  have d0 : w.cell? ⟨g, 0, none⟩ = some r0 := blk_cell hR 0
  have e0 := blk_frozen hR 0
  have HR := Lib.hid hR
  have HB := Lib.hid hB
  have HF := Lib.hid hf
  have HZ := Lib.hid hz
  have HI := Lib.hid hi
  have hnn : ((zs.length : Int) != rs.length) = false := by simp [hl]
  have HL := Lib.hid hl
  clear hR hB hf hz hi hl
  go_enter Try.func57, Try.ntmps57
  go_wp2_with fail
  (go_region_held3 (fun W => Below w.heap.size w W ∧ W.cell? ⟨gf, 0, none⟩ = some (.slice a zs.length c) ∧ W.cell? ⟨gf, 2, none⟩ = some (.slice a2 rs.length c2)) (first | (refine (fun hK : Below w.heap.size w _ => ⟨hK, cell_keep hK c0, cell_keep hK d2⟩) ?_; go_split_ands; (repeat (first | with_reducible exact Below.refl _ _ | with_reducible assumption | with_reducible refine Below.drew ?_ | with_reducible refine below_drewN ?_ _ | with_reducible refine bel_set ?_ _ _ | with_reducible refine bel_alloc ?_ _ | with_reducible refine bel_call (by with_reducible assumption) ?_)))) (first | (go_at_call 19; refine (fits_calls a c zs a2 c2 rs _ (by omega) (by omega) (HZ.out.below (by (repeat (first | with_reducible exact Below.refl _ _ | with_reducible assumption | with_reducible refine Below.drew ?_ | with_reducible refine below_drewN ?_ _ | with_reducible refine bel_set ?_ _ _ | with_reducible refine bel_alloc ?_ _ | with_reducible refine bel_call (by with_reducible assumption) ?_))) (Nat.le_refl _)) (HI.out.below (by (repeat (first | with_reducible exact Below.refl _ _ | with_reducible assumption | with_reducible refine Below.drew ?_ | with_reducible refine below_drewN ?_ _ | with_reducible refine bel_set ?_ _ _ | with_reducible refine bel_alloc ?_ _ | with_reducible refine bel_call (by with_reducible assumption) ?_))) (Nat.le_refl _))).mono ?_; rw [HF.out]; rintro e w1 ⟨rfl, hb⟩; have hbw : Below w.heap.size w w1 := (by (repeat (first | with_reducible exact Below.refl _ _ | with_reducible assumption | with_reducible refine Below.drew ?_ | with_reducible refine below_drewN ?_ _ | with_reducible refine bel_set ?_ _ _ | with_reducible refine bel_alloc ?_ _ | with_reducible refine bel_call (by with_reducible assumption) ?_))))))
  go_wp2_with fail
  (go_region_held3 (fun W => Below w.heap.size w W ∧ W.cell? ⟨gf, 0, none⟩ = some (.slice a zs.length c) ∧ W.cell? ⟨gf, 2, none⟩ = some (.slice a2 rs.length c2)) (first | (refine (fun hK : Below w.heap.size w _ => ⟨hK, cell_keep hK c0, cell_keep hK d2⟩) ?_; go_split_ands; (repeat (first | with_reducible exact Below.refl _ _ | with_reducible assumption | with_reducible refine Below.drew ?_ | with_reducible refine below_drewN ?_ _ | with_reducible refine bel_set ?_ _ _ | with_reducible refine bel_alloc ?_ _ | with_reducible refine bel_call (by with_reducible assumption) ?_)))) (first | (go_at_call 19; refine (fits_calls a c zs a2 c2 rs _ (by omega) (by omega) (HZ.out.below (by (repeat (first | with_reducible exact Below.refl _ _ | with_reducible assumption | with_reducible refine Below.drew ?_ | with_reducible refine below_drewN ?_ _ | with_reducible refine bel_set ?_ _ _ | with_reducible refine bel_alloc ?_ _ | with_reducible refine bel_call (by with_reducible assumption) ?_))) (Nat.le_refl _)) (HI.out.below (by (repeat (first | with_reducible exact Below.refl _ _ | with_reducible assumption | with_reducible refine Below.drew ?_ | with_reducible refine below_drewN ?_ _ | with_reducible refine bel_set ?_ _ _ | with_reducible refine bel_alloc ?_ _ | with_reducible refine bel_call (by with_reducible assumption) ?_))) (Nat.le_refl _))).mono ?_; rw [HF.out]; rintro e w1 ⟨rfl, hb⟩; have hbw : Below w.heap.size w w1 := (by (repeat (first | with_reducible exact Below.refl _ _ | with_reducible assumption | with_reducible refine Below.drew ?_ | with_reducible refine below_drewN ?_ _ | with_reducible refine bel_set ?_ _ _ | with_reducible refine bel_alloc ?_ _ | with_reducible refine bel_call (by with_reducible assumption) ?_))))))
  have x8 := cell_keep hbw d8
  have x0 := cell_keep hbw c0
  have y8 := (hbw.frozen (p := ⟨g, 8, none⟩) lg).trans e8
  have y0 := (hbw.frozen (p := ⟨g, 0, none⟩) lg).trans e0
  have z0 := cell_keep hbw d0
  have hg' : gf ≠ g := fun h => hg h.symm
  have HR1 : RowKit.Hid (Blk w1 g (runC r0 r1 r2 r3 r4 r5 r6 r7 (.slice (some ⟨gs, 0, none⟩) 1 c8) r9) 60) := Lib.hid (blk_below HR.out hbw (Nat.le_refl _))
  go_wp2_with fail
  go_ret
  exact ⟨rfl, ⟨_, blk_set (blk_set HR1.out 8 _) 0 _⟩, grown_set (grown_set (grown_below hbw) 8 _) 0 _⟩
end Go.Proofs.Ytnapbjfmkofhcaa.End
