/- law12.knows: six times seven. -/
import Derived.Test.YtnapbjfmkofhcaaLawB
import Derived.Test.YtnapbjfmkofhcaaRun
import Derived.Test.YtnapbjfmkofhcaaRefB
namespace Go.Proofs.Ytnapbjfmkofhcaa.Know
set_option linter.unusedVariables false
set_option linter.unusedSimpArgs false
open Go.RowKit Wd Sl Beg OpA OpB OpD OpE Does Shp All Law Sto

def kx : List I := [⟨1, 6⟩, ⟨1, 7⟩, ⟨13, 0⟩]
theorem kexec : exec [] kx [] 0 = ([⟨1, 42, ⟨#[]⟩⟩], 4, 0) := by
  unfold kx
  rw [exec1 [] ⟨1, 6⟩ ⟨1, 6, ⟨#[]⟩⟩ _ _ _ in1 rfl co1, exec1 [] ⟨1, 7⟩ ⟨1, 7, ⟨#[]⟩⟩ _ _ _ in1 rfl co1, exec_last [] 13 (by decide) _ (by decide +kernel)]
  rw [if_pos (by decide), show (opRow 13).2.2.2.2 = 2 from by decide +kernel]
  simp [applyR, numR, numN, wrap64]
theorem kgood : good [] 100 kx [] 0 := by
  refine good1 [] 100 ⟨1, 6⟩ ⟨1, 6, ⟨#[]⟩⟩ _ _ _ in1 rfl co1 (.inl rfl) (by simp) (by omega) (by omega) ?_
  refine good1 [] 100 ⟨1, 7⟩ ⟨1, 7, ⟨#[]⟩⟩ _ _ _ in1 rfl co1 (.inl rfl) (by simp) (by omega) (by omega) ?_
  refine good_last [] 100 13 (by decide) (by decide) _ ?_ _ (by omega) (by rw [show (opRow 13).2.2.2.2 = 2 from by decide +kernel]; omega)
  rw [show inOf 13 = [1, 1] from by decide +kernel]
  unfold fits; simp [ok1]
theorem kright : Rt.rightS ⟨[], [⟨[], [1], [], kx⟩]⟩ = true := by decide +kernel
theorem ksimple : simple kx := by intro x hx; simp [kx] at hx; rcases hx with rfl | rfl | rfl <;> (left; decide)

set_option maxHeartbeats 1000000 in
set_option maxRecDepth 100000 in
theorem knows_calls (w : World) : Calls Try.prog 4 #[] w fun e w' => e = .returned (.bool true) ∧ Below w.heap.size w w' := by
  go_enter Try.func4, Try.ntmps4
  go_wp2_with fail
  obtain ⟨w1, hw1⟩ : ∃ w1, w1 = ((((w.alloc (.cells #[.int .i64 1] 3)).alloc (.cells #[.int .i64 1, .int .i64 6, .int .i64 1, .int .i64 7, .int .i64 13, .int .i64 0] 31)).alloc (.cells #[.slice none 0 0, .slice (some ⟨w.heap.size, 0, none⟩) 1 1, .slice none 0 0, .slice (some ⟨w.heap.size + 1, 0, none⟩) 3 3] 28)).alloc (.cells #[.slice none 0 0, .slice (some ⟨w.heap.size + 2, 0, none⟩) 1 1] 41)) := ⟨_, rfl⟩
  have B01 : Below w.heap.size w w1 := by rw [hw1]; (repeat (first | with_reducible exact Below.refl _ _ | with_reducible assumption | with_reducible refine Below.drew ?_ | with_reducible refine below_drewN ?_ _ | with_reducible refine bel_set ?_ _ _ | with_reducible refine bel_alloc ?_ _ | with_reducible refine bel_call (by with_reducible assumption) ?_))
  have I1 : Blk w1 w.heap.size #[.int .i64 1] 3 := by rw [hw1]; exact blk_alloc (blk_alloc (blk_alloc (blk_new w _) _) _) _
  have X1 : Blk w1 (w.heap.size + 1) #[.int .i64 1, .int .i64 6, .int .i64 1, .int .i64 7, .int .i64 13, .int .i64 0] 31 := by
    rw [hw1]; refine blk_alloc (blk_alloc ?_ _) _
    have h := blk_new (w.alloc (.cells #[.int .i64 1] 3)) (.cells #[.int .i64 1, .int .i64 6, .int .i64 1, .int .i64 7, .int .i64 13, .int .i64 0] 31)
    simp only [World.size_alloc] at h; exact h
  have F1 : Blk w1 (w.heap.size + 2) #[.slice none 0 0, .slice (some ⟨w.heap.size, 0, none⟩) 1 1, .slice none 0 0, .slice (some ⟨w.heap.size + 1, 0, none⟩) 3 3] 28 := by
    rw [hw1]; refine blk_alloc ?_ _
    have h := blk_new ((w.alloc (.cells #[.int .i64 1] 3)).alloc (.cells #[.int .i64 1, .int .i64 6, .int .i64 1, .int .i64 7, .int .i64 13, .int .i64 0] 31)) (.cells #[.slice none 0 0, .slice (some ⟨w.heap.size, 0, none⟩) 1 1, .slice none 0 0, .slice (some ⟨w.heap.size + 1, 0, none⟩) 3 3] 28)
    simp only [World.size_alloc] at h; exact h
  have hs1 : w1.heap.size = w.heap.size + 4 := by rw [hw1]; simp
  have S1 : Blk w1 (w.heap.size + 3) #[.slice none 0 0, .slice (some ⟨w.heap.size + 2, 0, none⟩) 1 1] 41 := by
    rw [hw1]
    have h := blk_new (((w.alloc (.cells #[.int .i64 1] 3)).alloc (.cells #[.int .i64 1, .int .i64 6, .int .i64 1, .int .i64 7, .int .i64 13, .int .i64 0] 31)).alloc (.cells #[.slice none 0 0, .slice (some ⟨w.heap.size, 0, none⟩) 1 1, .slice none 0 0, .slice (some ⟨w.heap.size + 1, 0, none⟩) 3 3] 28)) (.cells #[.slice none 0 0, .slice (some ⟨w.heap.size + 2, 0, none⟩) 1 1] 41)
    simp only [World.size_alloc] at h; exact h
  have hX : Sv encX 2 w1 (.slice (some ⟨w.heap.size + 1, 0, none⟩) 3 3) kx := by
    refine ⟨_, _, rfl, Nat.le_refl _, .inr ⟨_, _, rfl, fun i x hi j v hj => ?_⟩, fun h => by cases h⟩
    rw [blk_cell X1]
    match i, hi with
    | 0, hi => simp [kx] at hi; subst hi; match j, hj with
      | 0, hj => simpa [encX] using hj
      | 1, hj => simpa [encX] using hj
      | j + 2, hj => simp [encX] at hj
    | 1, hi => simp [kx] at hi; subst hi; match j, hj with
      | 0, hj => simpa [encX] using hj
      | 1, hj => simpa [encX] using hj
      | j + 2, hj => simp [encX] at hj
    | 2, hi => simp [kx] at hi; subst hi; match j, hj with
      | 0, hj => simpa [encX] using hj
      | 1, hj => simpa [encX] using hj
      | j + 2, hj => simp [encX] at hj
    | i + 3, hi => simp [kx] at hi
  have hI : Sv encI 1 w1 (.slice (some ⟨w.heap.size, 0, none⟩) 1 1) [1] := by
    refine ⟨_, _, rfl, Nat.le_refl _, .inr ⟨_, _, rfl, fun i x hi j v hj => ?_⟩, fun h => by cases h⟩
    rw [blk_cell I1]
    match i, hi with
    | 0, hi => simp at hi; subst hi; match j, hj with
      | 0, hj => simpa [encI] using hj
      | j + 1, hj => simp [encI] at hj
    | i + 1, hi => simp at hi
  have HRUN := fun (W : World) (hb : Below w1.heap.size w1 W) (t : Value) (ht : IsTx W t) => Lib.hid (Run.run_calls none 0 [] (w.heap.size + 2) 0 1 (some ⟨w.heap.size, 0, none⟩) 1 [1] (w.heap.size + 1) 0 3 kx t 100 W (Rd.nil _ _ _ _) (fun b hb => by cases hb) (by simp) (fun x hx => by cases hx)
    ((hb.cell (p := ⟨w.heap.size + 2, 0, none⟩) (by simp; omega)).trans (blk_cell F1 0)) ((hb.cell (p := ⟨w.heap.size + 2, 1, none⟩) (by simp; omega)).trans (blk_cell F1 1)) ((hb.cell (p := ⟨w.heap.size + 2, 2, none⟩) (by simp; omega)).trans (blk_cell F1 2)) ((hb.cell (p := ⟨w.heap.size + 2, 3, none⟩) (by simp; omega)).trans (blk_cell F1 3))
    (hI.below hb (Nat.le_refl _)) (hX.below hb (Nat.le_refl _)) (by decide) (by decide) (by decide) ksimple ht (by decide) (by decide) kright _ kexec kgood (fun _ => by unfold fits; simp [ok1]))
  have e0 : w1.cell? ⟨w.heap.size + 1 + 1 + 1, 0, none⟩ = some (.slice none 0 0) := blk_cell S1 0
  have e1 : w1.cell? ⟨w.heap.size + 1 + 1 + 1, 1, none⟩ = some (.slice (some ⟨w.heap.size + 2, 0, none⟩) 1 1) := blk_cell S1 1
  have hlt : w.heap.size + 1 + 1 + 1 < w1.heap.size := by omega
  rw [← hw1]
  clear hw1 I1 X1 F1 S1 hX hI hs1
  go_region_held3 (fun W => Below w1.heap.size w1 W ∧ W.cell? ⟨w.heap.size + 1 + 1 + 1, 0, none⟩ = some (.slice none 0 0) ∧ W.cell? ⟨w.heap.size + 1 + 1 + 1, 1, none⟩ = some (.slice (some ⟨w.heap.size + 2, 0, none⟩) 1 1))
    (first | (refine (fun hK : Below w1.heap.size w1 _ => ⟨hK, cell_keep hK e0, cell_keep hK e1⟩) ?_; go_split_ands; (repeat (first | with_reducible exact Below.refl _ _ | with_reducible assumption | with_reducible refine Below.drew ?_ | with_reducible refine bel_alloc ?_ _ | with_reducible refine bel_call (by with_reducible assumption) ?_ | (refine Below.setCell (p := ⟨_, _, none⟩) ?_ ?hsz _; (case hsz => (simp only []; omega)))))))
    (first
      | (go_at_call 10; refine (new_calls _).mono ?_; rintro e w2 ⟨⟨v2, rfl, hst⟩, hb2⟩; have B2 : Below w1.heap.size w1 w2 := (by (repeat (first | with_reducible exact Below.refl _ _ | with_reducible assumption | with_reducible refine Below.drew ?_ | with_reducible refine below_drewN ?_ _ | with_reducible refine bel_set ?_ _ _ | with_reducible refine bel_alloc ?_ _ | with_reducible refine bel_call (by with_reducible assumption) ?_))); have hs2 := B2.size; (try have T2 : Blk w2 w1.heap.size #[.slice none 0 0, .slice none 0 0, .int .i64 0, .int .i64 0] 37 := (by first | exact blk_below (w := w1.alloc _) (blk_new w1 _) hb2 (Nat.le_refl _) | exact blk_below (w := (w1.alloc _).drew) (blk_new w1 _) hb2 (Nat.le_refl _))))
      | (go_at_call 9; refine (begin_calls v2 _ (hst.below (by (repeat (first | with_reducible exact Below.refl _ _ | with_reducible assumption | with_reducible refine Below.drew ?_ | with_reducible refine below_drewN ?_ _ | with_reducible refine bel_set ?_ _ _ | with_reducible refine bel_alloc ?_ _ | with_reducible refine bel_call (by with_reducible assumption) ?_))) (Nat.le_refl _))).mono ?_; rintro e w3 ⟨⟨t3, rfl, htx⟩, hb3⟩; have B3 : Below w1.heap.size w1 w3 := (by (repeat (first | with_reducible exact Below.refl _ _ | with_reducible assumption | with_reducible refine Below.drew ?_ | with_reducible refine below_drewN ?_ _ | with_reducible refine bel_set ?_ _ _ | with_reducible refine bel_alloc ?_ _ | with_reducible refine bel_call (by with_reducible assumption) ?_))); have hs3 := B3.size; (try have T3 : Blk w3 w1.heap.size #[.slice none 0 0, .slice none 0 0, .int .i64 0, .int .i64 0] 37 := (by first | exact blk_below T2 hb3 (Nat.le_refl _) | exact blk_below (w := w2.drew) T2 hb3 (Nat.le_refl _))); (try have T3 : Blk w3 w2.heap.size #[.slice none 0 0, .slice none 0 0, .int .i64 0, .int .i64 0] 37 := (by first | exact blk_below (w := w2.alloc _) (blk_new w2 _) hb3 (Nat.le_refl _) | exact blk_below (w := (w2.alloc _).drew) (blk_new w2 _) hb3 (Nat.le_refl _))))
      | (go_at_call 8; refine Calls.mono (HRUN _ (by (repeat (first | with_reducible exact Below.refl _ _ | with_reducible assumption | with_reducible refine Below.drew ?_ | with_reducible refine below_drewN ?_ _ | with_reducible refine bel_set ?_ _ _ | with_reducible refine bel_alloc ?_ _ | with_reducible refine bel_call (by with_reducible assumption) ?_))) t3 (htx.below (by (repeat (first | with_reducible exact Below.refl _ _ | with_reducible assumption | with_reducible refine Below.drew ?_ | with_reducible refine below_drewN ?_ _ | with_reducible refine bel_set ?_ _ _ | with_reducible refine bel_alloc ?_ _ | with_reducible refine bel_call (by with_reducible assumption) ?_))) (Nat.le_refl _))).out ?_; rintro e w4 ⟨hb4, h4⟩; rw [if_pos rfl] at h4; obtain ⟨vo, rfl, av, cv, rfl, hv1, hv2, hv3⟩ := h4; have B4 : Below w1.heap.size w1 w4 := (by (repeat (first | with_reducible exact Below.refl _ _ | with_reducible assumption | with_reducible refine Below.drew ?_ | with_reducible refine below_drewN ?_ _ | with_reducible refine bel_set ?_ _ _ | with_reducible refine bel_alloc ?_ _ | with_reducible refine bel_call (by with_reducible assumption) ?_))); have hs4 := B4.size; (try have T4 : Blk w4 _ #[.slice none 0 0, .slice none 0 0, .int .i64 0, .int .i64 0] 37 := (by first | exact blk_below T3 hb4 (Nat.le_refl _) | exact blk_below (w := w3.drew) T3 hb4 (Nat.le_refl _))); (try have T4 : Blk w4 w3.heap.size #[.slice none 0 0, .slice none 0 0, .int .i64 0, .int .i64 0] 37 := (by first | exact blk_below (w := w3.alloc _) (blk_new w3 _) hb4 (Nat.le_refl _) | exact blk_below (w := (w3.alloc _).drew) (blk_new w3 _) hb4 (Nat.le_refl _))); (try have q0 := blk_cell T4 0); (try have q1 := blk_cell T4 1); (try have q2 := blk_cell T4 2); (try have q3 := blk_cell T4 3); (try have z0 := blk_frozen T4 0); (try have z1 := blk_frozen T4 1); (try have z2 := blk_frozen T4 2); (try have z3 := blk_frozen T4 3)))
  ·
    obtain ⟨b, o, rfl, hcv⟩ := hv2.vals (by simp)
    have c42 : w4.cell? ⟨b, o + 1, none⟩ = some (.int .i64 42) := by have h := (hcv 0 (by simp)).2.1; simpa using h
    have cst : w4.cell? ⟨b, o + 2, none⟩ = some (.string ⟨#[]⟩) := by have h := (hcv 0 (by simp)).2.2; simpa using h
    have lb := cell_lt c42
    simp only at lb
    obtain ⟨wf, hwf⟩ : ∃ wf, wf = w4.alloc (.cells #[.slice (some ⟨b, o, none⟩) 1 cv, .slice none 0 0, .int .i64 4, .int .i64 0] 37) := ⟨_, rfl⟩
    rw [← hwf]
    have TB : RowKit.Hid (Blk wf w4.heap.size #[.slice (some ⟨b, o, none⟩) 1 cv, .slice none 0 0, .int .i64 4, .int .i64 0] 37) := by rw [hwf]; exact blk_new _ _
    have cf : wf.cell? ⟨b, o + 1, none⟩ = some (.int .i64 42) := by rw [hwf]; exact (World.cell?_alloc_past _ _ _ lb).trans c42
    have BF : Below w.heap.size w wf := by rw [hwf]; exact (below_thn B4 B01 B01.size).alloc (below_thn B4 B01 B01.size).size _
    have n0 := blk_cell TB.out 0
    have n2 := blk_cell TB.out 2
    have n3 := blk_cell TB.out 3
    clear hwf hv2 hcv
    go_wp2_with (go_at_call 12; refine (RefB.num_calls _ _).mono ?_; rintro e w5 ⟨rfl, hb5⟩; have m0 := (blk_cell (blk_below TB.out hb5 (Nat.le_refl _)) 0); have m1 := (blk_cell (blk_below TB.out hb5 (Nat.le_refl _)) 2); have m2 := cell_keep hb5 cf; have B5 : Below w.heap.size w w5 := below_thn hb5 BF BF.size)
    go_ret
    exact ⟨rfl, by (repeat (first | with_reducible exact Below.refl _ _ | with_reducible assumption | with_reducible refine Below.drew ?_ | with_reducible refine below_drewN ?_ _ | with_reducible refine bel_set ?_ _ _ | with_reducible refine bel_alloc ?_ _ | with_reducible refine bel_call (by with_reducible assumption) ?_))⟩
  ·
    obtain ⟨b, o, rfl, hcv⟩ := hv2.vals (by simp)
    have c42 : w4.cell? ⟨b, o + 1, none⟩ = some (.int .i64 42) := by have h := (hcv 0 (by simp)).2.1; simpa using h
    have cst : w4.cell? ⟨b, o + 2, none⟩ = some (.string ⟨#[]⟩) := by have h := (hcv 0 (by simp)).2.2; simpa using h
    have lb := cell_lt c42
    simp only at lb
    have hne : b ≠ w3.heap.size := by
      intro e
      rw [e, blk_cell T4] at cst
      match o, cst with
      | 0, h => simp at h
      | 1, h => simp at h
      | o + 2, h => simp at h
    obtain ⟨wf, hwf⟩ : ∃ wf, wf = ((((w4.setCell ⟨w3.heap.size, 0, none⟩ (.slice (some ⟨b, o, none⟩) 1 cv)).setCell ⟨w3.heap.size, 1, none⟩ (.slice none 0 0)).setCell ⟨w3.heap.size, 2, none⟩ (.int .i64 4)).setCell ⟨w3.heap.size, 3, none⟩ (.int .i64 0)) := ⟨_, rfl⟩
    rw [← hwf]
    have TB : RowKit.Hid (Blk wf w3.heap.size #[.slice (some ⟨b, o, none⟩) 1 cv, .slice none 0 0, .int .i64 4, .int .i64 0] 37) := by rw [hwf]; exact blk_set (blk_set (blk_set (blk_set T4 0 _) 1 _) 2 _) 3 _
    have cf : wf.cell? ⟨b, o + 1, none⟩ = some (.int .i64 42) := by
      rw [hwf]
      exact (World.cell?_setCell_far _ _ _ _ hne.symm).trans ((World.cell?_setCell_far _ _ _ _ hne.symm).trans ((World.cell?_setCell_far _ _ _ _ hne.symm).trans ((World.cell?_setCell_far _ _ _ _ hne.symm).trans c42)))
    have hTw : w.heap.size ≤ w3.heap.size := Nat.le_trans B01.size (by omega)
    have BF : Below w.heap.size w wf := by
      rw [hwf]
      exact ((((below_thn B4 B01 B01.size).setCell (p := ⟨w3.heap.size, 0, none⟩) hTw _).setCell (p := ⟨w3.heap.size, 1, none⟩) hTw _).setCell (p := ⟨w3.heap.size, 2, none⟩) hTw _).setCell (p := ⟨w3.heap.size, 3, none⟩) hTw _
    have n0 := blk_cell TB.out 0
    have n2 := blk_cell TB.out 2
    have n3 := blk_cell TB.out 3
    clear hwf hv2 hcv q0 q1 q2 q3 z0 z1 z2 z3 T4
    go_wp2_with (go_at_call 12; refine (RefB.num_calls _ _).mono ?_; rintro e w5 ⟨rfl, hb5⟩; have m0 := (blk_cell (blk_below TB.out hb5 (Nat.le_refl _)) 0); have m1 := (blk_cell (blk_below TB.out hb5 (Nat.le_refl _)) 2); have m2 := cell_keep hb5 cf; have B5 : Below w.heap.size w w5 := below_thn hb5 BF BF.size)
    go_ret
    exact ⟨rfl, by (repeat (first | with_reducible exact Below.refl _ _ | with_reducible assumption | with_reducible refine Below.drew ?_ | with_reducible refine below_drewN ?_ _ | with_reducible refine bel_set ?_ _ _ | with_reducible refine bel_alloc ?_ _ | with_reducible refine bel_call (by with_reducible assumption) ?_))⟩
  ·
    obtain ⟨b, o, rfl, hcv⟩ := hv2.vals (by simp)
    have c42 : w4.cell? ⟨b, o + 1, none⟩ = some (.int .i64 42) := by have h := (hcv 0 (by simp)).2.1; simpa using h
    have cst : w4.cell? ⟨b, o + 2, none⟩ = some (.string ⟨#[]⟩) := by have h := (hcv 0 (by simp)).2.2; simpa using h
    have lb := cell_lt c42
    simp only at lb
    have hne : b ≠ w2.heap.size := by
      intro e
      rw [e, blk_cell T4] at cst
      match o, cst with
      | 0, h => simp at h
      | 1, h => simp at h
      | o + 2, h => simp at h
    obtain ⟨wf, hwf⟩ : ∃ wf, wf = ((((w4.setCell ⟨w2.heap.size, 0, none⟩ (.slice (some ⟨b, o, none⟩) 1 cv)).setCell ⟨w2.heap.size, 1, none⟩ (.slice none 0 0)).setCell ⟨w2.heap.size, 2, none⟩ (.int .i64 4)).setCell ⟨w2.heap.size, 3, none⟩ (.int .i64 0)) := ⟨_, rfl⟩
    rw [← hwf]
    have TB : RowKit.Hid (Blk wf w2.heap.size #[.slice (some ⟨b, o, none⟩) 1 cv, .slice none 0 0, .int .i64 4, .int .i64 0] 37) := by rw [hwf]; exact blk_set (blk_set (blk_set (blk_set T4 0 _) 1 _) 2 _) 3 _
    have cf : wf.cell? ⟨b, o + 1, none⟩ = some (.int .i64 42) := by
      rw [hwf]
      exact (World.cell?_setCell_far _ _ _ _ hne.symm).trans ((World.cell?_setCell_far _ _ _ _ hne.symm).trans ((World.cell?_setCell_far _ _ _ _ hne.symm).trans ((World.cell?_setCell_far _ _ _ _ hne.symm).trans c42)))
    have hTw : w.heap.size ≤ w2.heap.size := Nat.le_trans B01.size (by omega)
    have BF : Below w.heap.size w wf := by
      rw [hwf]
      exact ((((below_thn B4 B01 B01.size).setCell (p := ⟨w2.heap.size, 0, none⟩) hTw _).setCell (p := ⟨w2.heap.size, 1, none⟩) hTw _).setCell (p := ⟨w2.heap.size, 2, none⟩) hTw _).setCell (p := ⟨w2.heap.size, 3, none⟩) hTw _
    have n0 := blk_cell TB.out 0
    have n2 := blk_cell TB.out 2
    have n3 := blk_cell TB.out 3
    clear hwf hv2 hcv q0 q1 q2 q3 z0 z1 z2 z3 T4
    go_wp2_with (go_at_call 12; refine (RefB.num_calls _ _).mono ?_; rintro e w5 ⟨rfl, hb5⟩; have m0 := (blk_cell (blk_below TB.out hb5 (Nat.le_refl _)) 0); have m1 := (blk_cell (blk_below TB.out hb5 (Nat.le_refl _)) 2); have m2 := cell_keep hb5 cf; have B5 : Below w.heap.size w w5 := below_thn hb5 BF BF.size)
    go_ret
    exact ⟨rfl, by (repeat (first | with_reducible exact Below.refl _ _ | with_reducible assumption | with_reducible refine Below.drew ?_ | with_reducible refine below_drewN ?_ _ | with_reducible refine bel_set ?_ _ _ | with_reducible refine bel_alloc ?_ _ | with_reducible refine bel_call (by with_reducible assumption) ?_))⟩
  ·
    obtain ⟨b, o, rfl, hcv⟩ := hv2.vals (by simp)
    have c42 : w4.cell? ⟨b, o + 1, none⟩ = some (.int .i64 42) := by have h := (hcv 0 (by simp)).2.1; simpa using h
    have cst : w4.cell? ⟨b, o + 2, none⟩ = some (.string ⟨#[]⟩) := by have h := (hcv 0 (by simp)).2.2; simpa using h
    have lb := cell_lt c42
    simp only at lb
    have hne : b ≠ w1.heap.size := by
      intro e
      rw [e, blk_cell T4] at cst
      match o, cst with
      | 0, h => simp at h
      | 1, h => simp at h
      | o + 2, h => simp at h
    obtain ⟨wf, hwf⟩ : ∃ wf, wf = ((((w4.setCell ⟨w1.heap.size, 0, none⟩ (.slice (some ⟨b, o, none⟩) 1 cv)).setCell ⟨w1.heap.size, 1, none⟩ (.slice none 0 0)).setCell ⟨w1.heap.size, 2, none⟩ (.int .i64 4)).setCell ⟨w1.heap.size, 3, none⟩ (.int .i64 0)) := ⟨_, rfl⟩
    rw [← hwf]
    have TB : RowKit.Hid (Blk wf w1.heap.size #[.slice (some ⟨b, o, none⟩) 1 cv, .slice none 0 0, .int .i64 4, .int .i64 0] 37) := by rw [hwf]; exact blk_set (blk_set (blk_set (blk_set T4 0 _) 1 _) 2 _) 3 _
    have cf : wf.cell? ⟨b, o + 1, none⟩ = some (.int .i64 42) := by
      rw [hwf]
      exact (World.cell?_setCell_far _ _ _ _ hne.symm).trans ((World.cell?_setCell_far _ _ _ _ hne.symm).trans ((World.cell?_setCell_far _ _ _ _ hne.symm).trans ((World.cell?_setCell_far _ _ _ _ hne.symm).trans c42)))
    have hTw : w.heap.size ≤ w1.heap.size := Nat.le_trans B01.size (by omega)
    have BF : Below w.heap.size w wf := by
      rw [hwf]
      exact ((((below_thn B4 B01 B01.size).setCell (p := ⟨w1.heap.size, 0, none⟩) hTw _).setCell (p := ⟨w1.heap.size, 1, none⟩) hTw _).setCell (p := ⟨w1.heap.size, 2, none⟩) hTw _).setCell (p := ⟨w1.heap.size, 3, none⟩) hTw _
    have n0 := blk_cell TB.out 0
    have n2 := blk_cell TB.out 2
    have n3 := blk_cell TB.out 3
    clear hwf hv2 hcv q0 q1 q2 q3 z0 z1 z2 z3 T4
    go_wp2_with (go_at_call 12; refine (RefB.num_calls _ _).mono ?_; rintro e w5 ⟨rfl, hb5⟩; have m0 := (blk_cell (blk_below TB.out hb5 (Nat.le_refl _)) 0); have m1 := (blk_cell (blk_below TB.out hb5 (Nat.le_refl _)) 2); have m2 := cell_keep hb5 cf; have B5 : Below w.heap.size w w5 := below_thn hb5 BF BF.size)
    go_ret
    exact ⟨rfl, by (repeat (first | with_reducible exact Below.refl _ _ | with_reducible assumption | with_reducible refine Below.drew ?_ | with_reducible refine below_drewN ?_ _ | with_reducible refine bel_set ?_ _ _ | with_reducible refine bel_alloc ?_ _ | with_reducible refine bel_call (by with_reducible assumption) ?_))⟩
end Go.Proofs.Ytnapbjfmkofhcaa.Know
