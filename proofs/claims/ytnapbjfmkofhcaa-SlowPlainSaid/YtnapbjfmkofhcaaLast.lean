/- (*slow.run).step behind the last instruction. -/
import Derived.Test.YtnapbjfmkofhcaaEnd
import Derived.Test.YtnapbjfmkofhcaaStep
namespace Go.Proofs.Ytnapbjfmkofhcaa.Step
set_option linter.unusedVariables false
set_option linter.unusedSimpArgs false
open Go.RowKit Wd Sl Beg

set_option maxHeartbeats 2000000 in
set_option maxRecDepth 100000 in
theorem step_last (g gf gs c8 : Nat) (r0 r1 r2 r3 r4 r5 r6 r7 r9 : Value) (a : Option Addr) (c : Nat) (a2 : Option Addr) (c2 : Nat) (rs : List Int) (f1 f3 f5 f7 f8 : Value) (a4 : Option Addr) (n4 c4 : Nat) (zs : List V) (w : World)
    (hR : Blk w g (runC r0 r1 r2 r3 r4 r5 r6 r7 (.slice (some ⟨gs, 0, none⟩) 1 c8) r9) 60) (hB : Blk w gf (frC (.slice a zs.length c) f1 (.slice a2 rs.length c2) f3 (.slice a4 n4 c4) f5 (.int .i64 (n4 : Int)) f7 f8) 91) (ds : w.cell? ⟨gs, 0, none⟩ = some (.pointer (some ⟨gf, 0, none⟩))) (hg : g ≠ gf)
    (hz : Rd encV 3 w a zs) (hn : zs.length ≤ 1000) (hi : Rd encI 1 w a2 rs) (hr : rs.length ≤ 1000) (hc : 1 ≤ c8) (hf : fits zs rs = true) :
    Calls Try.prog 38 #[.pointer (some ⟨g, 0, none⟩)] w fun e w' => e = .returned (.bool true) ∧ (∃ r8, Blk w' g (runC (.slice a zs.length c) r1 r2 r3 r4 r5 r6 r7 r8 r9) 60) ∧ w.grownBy w' (some g) := by
  have d8 : w.cell? ⟨g, 8, none⟩ = some (.slice (some ⟨gs, 0, none⟩) 1 c8) := blk_cell hR 8
  have d4 : w.cell? ⟨gf, 4, none⟩ = some (.slice a4 n4 c4) := blk_cell hB 4
  have d6 : w.cell? ⟨gf, 6, none⟩ = some (.int .i64 (n4 : Int)) := blk_cell hB 6
  have HE := fun (W : World) (hb : Below w.heap.size w W) => Lib.hid (End.end_calls g gf gs c8 r0 r1 r2 r3 r4 r5 r6 r7 r9 a c a2 c2 rs f1 f3 (.slice a4 n4 c4) f5 (.int .i64 (n4 : Int)) f7 f8 zs W (blk_below hR hb (Nat.le_refl _)) (blk_below hB hb (Nat.le_refl _)) hg (hz.below hb (Nat.le_refl _)) hn (hi.below hb (Nat.le_refl _)) hr hc hf)
  have l2 : ((n4 : Int) == n4) = true := by simp
  have hw0 : IntKind.i64.wrap (0 : Int) = 0 := by decide +kernel
  have hw1 : IntKind.i64.wrap ((1 : Int) - 1) = 0 := by decide +kernel
  clear hR hB hz hi hf
  go_enter Try.func38, Try.ntmps38
  go_wp2_with fail
  (go_region_held3 (fun W => Below w.heap.size w W ∧ W.cell? ⟨g, 8, none⟩ = some (.slice (some ⟨gs, 0, none⟩) 1 c8) ∧ W.cell? ⟨gs, 0, none⟩ = some (.pointer (some ⟨gf, 0, none⟩))) (first | (refine (fun hK : Below w.heap.size w _ => ⟨hK, cell_keep hK d8, cell_keep hK ds⟩) ?_; go_split_ands; (repeat (first | with_reducible exact Below.refl _ _ | with_reducible assumption | with_reducible refine Below.drew ?_ | with_reducible refine below_drewN ?_ _ | with_reducible refine bel_set ?_ _ _ | with_reducible refine bel_alloc ?_ _ | with_reducible refine bel_call (by with_reducible assumption) ?_)))) (first | fail))
  go_wp2_with fail
  (go_region_held3 (fun W => Below w.heap.size w W ∧ W.cell? ⟨gf, 4, none⟩ = some (.slice a4 n4 c4) ∧ W.cell? ⟨gf, 6, none⟩ = some (.int .i64 (n4 : Int))) (first | (refine (fun hK : Below w.heap.size w _ => ⟨hK, cell_keep hK d4, cell_keep hK d6⟩) ?_; go_split_ands; (repeat (first | with_reducible exact Below.refl _ _ | with_reducible assumption | with_reducible refine Below.drew ?_ | with_reducible refine below_drewN ?_ _ | with_reducible refine bel_set ?_ _ _ | with_reducible refine bel_alloc ?_ _ | with_reducible refine bel_call (by with_reducible assumption) ?_)))) (first | fail))
  go_wp2_with (go_at_call 57; refine Calls.mono (HE _ ?hbw).out ?_; (case hbw => (repeat (first | with_reducible exact Below.refl _ _ | with_reducible assumption | with_reducible refine Below.drew ?_ | with_reducible refine below_drewN ?_ _ | with_reducible refine bel_set ?_ _ _ | with_reducible refine bel_alloc ?_ _ | with_reducible refine bel_call (by with_reducible assumption) ?_))); rintro e w1 ⟨rfl, h1, h2⟩)
  go_ret
  exact ⟨rfl, h1, grown_trans (grown_below (by (repeat (first | with_reducible exact Below.refl _ _ | with_reducible assumption | with_reducible refine Below.drew ?_ | with_reducible refine below_drewN ?_ _ | with_reducible refine bel_set ?_ _ _ | with_reducible refine bel_alloc ?_ _ | with_reducible refine bel_call (by with_reducible assumption) ?_)))) h2⟩
end Go.Proofs.Ytnapbjfmkofhcaa.Step
