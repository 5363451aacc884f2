/- The reference of layer 3: the operations on bytes. -/
import Derived.Test.YtnapbjfmkofhcaaRefD
namespace Go.Proofs.Ytnapbjfmkofhcaa.RefE
set_option linter.unusedVariables false
set_option linter.unusedSimpArgs false
open Go.RowKit Wd Sl Beg OpB OpD OpE Sto

def truthN (b : Bool) : Int := if b = true then 1 else 0
theorem truthN_calls (b : Bool) (w : World) : Calls Try.prog 41 #[.bool b] w fun e w' => e = .returned (.agg #[.int .i64 3, .int .i64 (truthN b), .string ⟨#[]⟩]) ∧ Below w.heap.size w w' := RefB.truth_calls b w

set_option maxHeartbeats 1000000 in
set_option maxRecDepth 100000 in
theorem bytes32 (a : V) (A : Option Addr) (c : Nat) (hn : a.s.size ≤ 1000000) (w : World) (hx : Rd encV 3 w A [a]) : Calls Try.prog 44 #[.string ⟨#[108, 101, 110]⟩, .slice A 1 c] w fun e w' => e = .returned (.tuple #[.agg #[.int .i64 (1), .int .i64 (a.s.size), .string (⟨#[]⟩)], .int .i64 0]) ∧ Below w.heap.size w w' := by
  obtain ⟨b0, o0, rfl, hc0⟩ := hx.vals (by simp); have hc := hc0 0 (by simp); simp only [Nat.zero_mul, Nat.add_zero, List.getElem_cons_zero] at hc; obtain ⟨x0, x1, x2⟩ := hc; clear hc0 hx; have lb := cell_lt x0; simp only at lb
  go_enter Try.func44, Try.ntmps44
  go_wp2_with fail
  exact bodyPost_ret (v := .tuple #[.agg #[.int .i64 (1), .int .i64 (a.s.size), .string (⟨#[]⟩)], .int .i64 0]) (by simp [results, Try.results44, go_sem, *]) rfl ⟨rfl, by (repeat (first | with_reducible exact Below.refl _ _ | with_reducible assumption | with_reducible refine Below.drew ?_ | with_reducible refine below_drewN ?_ _ | with_reducible refine bel_set ?_ _ _ | with_reducible refine bel_alloc ?_ _ | with_reducible refine bel_call (by with_reducible assumption) ?_))⟩

set_option maxHeartbeats 1000000 in
set_option maxRecDepth 100000 in
theorem bytes38 (a : V) (A : Option Addr) (c : Nat)  (w : World) (hx : Rd encV 3 w A [a]) : Calls Try.prog 44 #[.string ⟨#[112, 97, 99, 107]⟩, .slice A 1 c] w fun e w' => e = .returned (.tuple #[.agg #[.int .i64 (2), .int .i64 (0), .string (⟨(be8 a.n).toArray⟩)], .int .i64 0]) ∧ Below w.heap.size w w' := by
  obtain ⟨b0, o0, rfl, hc0⟩ := hx.vals (by simp); have hc := hc0 0 (by simp); simp only [Nat.zero_mul, Nat.add_zero, List.getElem_cons_zero] at hc; obtain ⟨x0, x1, x2⟩ := hc; clear hc0 hx; have lb := cell_lt x0; simp only at lb
  go_enter Try.func44, Try.ntmps44
  go_wp2_with (go_at_call 66; refine (RefD.packed_calls a.n _).mono ?_; rintro e w1 ⟨rfl, hb1⟩; have RK0 : Blk w1 w.heap.size #[.int .i64 0, .int .i64 0, .string ⟨#[]⟩] 33 := (by first | exact blk_below (blk_new w _) hb1 (Nat.le_refl _) | exact blk_below (w := (w.alloc _).drew) (blk_new w _) hb1 (Nat.le_refl _) | exact blk_below (w := (w.alloc _).drew.drew) (blk_new w _) hb1 (Nat.le_refl _)); have r0 := blk_cell RK0 0; have r1 := blk_cell RK0 1; have r2 := blk_cell RK0 2; have fz0 := blk_frozen RK0 0; have fz1 := blk_frozen RK0 1; have fz2 := blk_frozen RK0 2; have RK := Lib.hid RK0; clear RK0)
  have RB := blk_set (blk_set (blk_set RK.out 0 (.int .i64 (2))) 1 (.int .i64 (0))) 2 (.string (⟨(be8 a.n).toArray⟩)); exact bodyPost_ret (v := .tuple #[.agg #[.int .i64 (2), .int .i64 (0), .string (⟨(be8 a.n).toArray⟩)], .int .i64 0]) (by have w0 := blk_cell RB 0; have w1 := blk_cell RB 1; have w2 := blk_cell RB 2; simp at w0 w1 w2; simp [results, Try.results44, go_sem, w0, w1, w2]) rfl ⟨rfl, by (repeat (first | with_reducible exact Below.refl _ _ | with_reducible assumption | with_reducible refine Below.drew ?_ | with_reducible refine below_drewN ?_ _ | with_reducible refine bel_set ?_ _ _ | with_reducible refine bel_alloc ?_ _ | with_reducible refine bel_call (by with_reducible assumption) ?_))⟩

set_option maxHeartbeats 1000000 in
set_option maxRecDepth 100000 in
theorem bytes39z (a : V) (A : Option Addr) (c : Nat) (h : 8 < a.s.size) (w : World) (hx : Rd encV 3 w A [a]) : Calls Try.prog 44 #[.string ⟨#[117, 110, 112, 97, 99, 107]⟩, .slice A 1 c] w fun e w' => e = .returned (.tuple #[.agg #[.int .i64 (0), .int .i64 (0), .string (⟨#[]⟩)], .int .i64 41]) ∧ Below w.heap.size w w' := by
  obtain ⟨b0, o0, rfl, hc0⟩ := hx.vals (by simp); have hc := hc0 0 (by simp); simp only [Nat.zero_mul, Nat.add_zero, List.getElem_cons_zero] at hc; obtain ⟨x0, x1, x2⟩ := hc; clear hc0 hx; have lb := cell_lt x0; simp only at lb
  have HU := Lib.hid (RefD.unpacked_calls a.s)
  rw [if_pos h, if_pos h, if_pos h] at HU
  go_enter Try.func44, Try.ntmps44
  go_wp2_with (go_at_call 67; refine (HU.out _).mono ?_; rintro e w1 ⟨rfl, hb1⟩; have RK0 : Blk w1 w.heap.size #[.int .i64 0, .int .i64 0, .string ⟨#[]⟩] 33 := (by first | exact blk_below (blk_new w _) hb1 (Nat.le_refl _) | exact blk_below (w := (w.alloc _).drew) (blk_new w _) hb1 (Nat.le_refl _) | exact blk_below (w := (w.alloc _).drew.drew) (blk_new w _) hb1 (Nat.le_refl _)); have r0 := blk_cell RK0 0; have r1 := blk_cell RK0 1; have r2 := blk_cell RK0 2; have fz0 := blk_frozen RK0 0; have fz1 := blk_frozen RK0 1; have fz2 := blk_frozen RK0 2; have RK := Lib.hid RK0; clear RK0)
  have RB := blk_set (blk_set (blk_set RK.out 0 (.int .i64 (0))) 1 (.int .i64 (0))) 2 (.string (⟨#[]⟩)); exact bodyPost_ret (v := .tuple #[.agg #[.int .i64 (0), .int .i64 (0), .string (⟨#[]⟩)], .int .i64 41]) (by have w0 := blk_cell RB 0; have w1 := blk_cell RB 1; have w2 := blk_cell RB 2; simp at w0 w1 w2; simp [results, Try.results44, go_sem, w0, w1, w2]) rfl ⟨rfl, by (repeat (first | with_reducible exact Below.refl _ _ | with_reducible assumption | with_reducible refine Below.drew ?_ | with_reducible refine below_drewN ?_ _ | with_reducible refine bel_set ?_ _ _ | with_reducible refine bel_alloc ?_ _ | with_reducible refine bel_call (by with_reducible assumption) ?_))⟩

set_option maxHeartbeats 1000000 in
set_option maxRecDepth 100000 in
theorem bytes39 (a : V) (A : Option Addr) (c : Nat) (h : ¬ 8 < a.s.size) (w : World) (hx : Rd encV 3 w A [a]) : Calls Try.prog 44 #[.string ⟨#[117, 110, 112, 97, 99, 107]⟩, .slice A 1 c] w fun e w' => e = .returned (.tuple #[.agg #[.int .i64 (1), .int .i64 (wrap64 (RefD.unpackU a.s.data.toList)), .string (⟨#[]⟩)], .int .i64 0]) ∧ Below w.heap.size w w' := by
  obtain ⟨b0, o0, rfl, hc0⟩ := hx.vals (by simp); have hc := hc0 0 (by simp); simp only [Nat.zero_mul, Nat.add_zero, List.getElem_cons_zero] at hc; obtain ⟨x0, x1, x2⟩ := hc; clear hc0 hx; have lb := cell_lt x0; simp only at lb
  have HU := Lib.hid (RefD.unpacked_calls a.s)
  rw [if_neg h, if_neg h, if_neg h] at HU
  go_enter Try.func44, Try.ntmps44
  go_wp2_with (go_at_call 67; refine (HU.out _).mono ?_; rintro e w1 ⟨rfl, hb1⟩; have RK0 : Blk w1 w.heap.size #[.int .i64 0, .int .i64 0, .string ⟨#[]⟩] 33 := (by first | exact blk_below (blk_new w _) hb1 (Nat.le_refl _) | exact blk_below (w := (w.alloc _).drew) (blk_new w _) hb1 (Nat.le_refl _) | exact blk_below (w := (w.alloc _).drew.drew) (blk_new w _) hb1 (Nat.le_refl _)); have r0 := blk_cell RK0 0; have r1 := blk_cell RK0 1; have r2 := blk_cell RK0 2; have fz0 := blk_frozen RK0 0; have fz1 := blk_frozen RK0 1; have fz2 := blk_frozen RK0 2; have RK := Lib.hid RK0; clear RK0)
  have RB := blk_set (blk_set (blk_set RK.out 0 (.int .i64 (1))) 1 (.int .i64 (wrap64 (RefD.unpackU a.s.data.toList)))) 2 (.string (⟨#[]⟩)); exact bodyPost_ret (v := .tuple #[.agg #[.int .i64 (1), .int .i64 (wrap64 (RefD.unpackU a.s.data.toList)), .string (⟨#[]⟩)], .int .i64 0]) (by have w0 := blk_cell RB 0; have w1 := blk_cell RB 1; have w2 := blk_cell RB 2; simp at w0 w1 w2; simp [results, Try.results44, go_sem, w0, w1, w2]) rfl ⟨rfl, by (repeat (first | with_reducible exact Below.refl _ _ | with_reducible assumption | with_reducible refine Below.drew ?_ | with_reducible refine below_drewN ?_ _ | with_reducible refine bel_set ?_ _ _ | with_reducible refine bel_alloc ?_ _ | with_reducible refine bel_call (by with_reducible assumption) ?_))⟩

set_option maxHeartbeats 1000000 in
set_option maxRecDepth 100000 in
theorem bytes33z (a b : V) (A : Option Addr) (c : Nat) (hn : a.s.size ≤ 1000000) (hm : b.s.size ≤ 1000000) (h : 256 < a.s.size + b.s.size) (w : World) (hx : Rd encV 3 w A [a, b]) : Calls Try.prog 44 #[.string ⟨#[106, 111, 105, 110]⟩, .slice A 2 c] w fun e w' => e = .returned (.tuple #[.agg #[.int .i64 (0), .int .i64 (0), .string (⟨#[]⟩)], .int .i64 41]) ∧ Below w.heap.size w w' := by
  obtain ⟨b0, o0, rfl, hc0⟩ := hx.vals (by simp); have hc := hc0 0 (by simp); have hd := hc0 1 (by simp); simp only [Nat.zero_mul, Nat.add_zero, Nat.one_mul, List.getElem_cons_zero, List.getElem_cons_succ, Nat.add_assoc, Nat.reduceAdd] at hc hd; obtain ⟨x0, x1, x2⟩ := hc; obtain ⟨y0, y1, y2⟩ := hd; clear hc0 hx; have lb := cell_lt x0; simp only at lb
  have hd : decide ((256 : Int) < (a.s.size : Int) + b.s.size) = true := by simp; omega
  go_enter Try.func44, Try.ntmps44
  go_wp2_with fail
  go_quiet (fail)
  go_wp2_with fail
  exact bodyPost_ret (v := .tuple #[.agg #[.int .i64 (0), .int .i64 (0), .string (⟨#[]⟩)], .int .i64 41]) (by simp [results, Try.results44, go_sem, *]) rfl ⟨rfl, by (repeat (first | with_reducible exact Below.refl _ _ | with_reducible assumption | with_reducible refine Below.drew ?_ | with_reducible refine below_drewN ?_ _ | with_reducible refine bel_set ?_ _ _ | with_reducible refine bel_alloc ?_ _ | with_reducible refine bel_call (by with_reducible assumption) ?_))⟩

set_option maxHeartbeats 1000000 in
set_option maxRecDepth 100000 in
theorem bytes33 (a b : V) (A : Option Addr) (c : Nat) (hn : a.s.size ≤ 1000000) (hm : b.s.size ≤ 1000000) (h : ¬ 256 < a.s.size + b.s.size) (w : World) (hx : Rd encV 3 w A [a, b]) : Calls Try.prog 44 #[.string ⟨#[106, 111, 105, 110]⟩, .slice A 2 c] w fun e w' => e = .returned (.tuple #[.agg #[.int .i64 (2), .int .i64 (0), .string (a.s ++ b.s)], .int .i64 0]) ∧ Below w.heap.size w w' := by
  obtain ⟨b0, o0, rfl, hc0⟩ := hx.vals (by simp); have hc := hc0 0 (by simp); have hd := hc0 1 (by simp); simp only [Nat.zero_mul, Nat.add_zero, Nat.one_mul, List.getElem_cons_zero, List.getElem_cons_succ, Nat.add_assoc, Nat.reduceAdd] at hc hd; obtain ⟨x0, x1, x2⟩ := hc; obtain ⟨y0, y1, y2⟩ := hd; clear hc0 hx; have lb := cell_lt x0; simp only at lb
  have hd : decide ((256 : Int) < (a.s.size : Int) + b.s.size) = false := by simp; omega
  go_enter Try.func44, Try.ntmps44
  go_wp2_with fail
  go_quiet (fail)
  go_wp2_with fail
  go_region_with (fail)
  all_goals
    go_wp2_with fail
    exact bodyPost_ret (v := .tuple #[.agg #[.int .i64 (2), .int .i64 (0), .string (a.s ++ b.s)], .int .i64 0]) (by simp [results, Try.results44, go_sem, *]) rfl ⟨rfl, by (repeat (first | with_reducible exact Below.refl _ _ | with_reducible assumption | with_reducible refine Below.drew ?_ | with_reducible refine below_drewN ?_ _ | with_reducible refine bel_set ?_ _ _ | with_reducible refine bel_alloc ?_ _ | with_reducible refine bel_call (by with_reducible assumption) ?_))⟩

set_option maxHeartbeats 1000000 in
set_option maxRecDepth 100000 in
theorem bytes36 (a b : V) (A : Option Addr) (c : Nat) (hn : a.s.size ≤ 1000000) (hm : b.s.size ≤ 1000000) (w : World) (hx : Rd encV 3 w A [a, b]) : Calls Try.prog 44 #[.string ⟨#[115, 97, 109, 101]⟩, .slice A 2 c] w fun e w' => e = .returned (.tuple #[.agg #[.int .i64 (3), .int .i64 (truthN (a.s.toList == b.s.toList)), .string (⟨#[]⟩)], .int .i64 0]) ∧ Below w.heap.size w w' := by
  obtain ⟨b0, o0, rfl, hc0⟩ := hx.vals (by simp); have hc := hc0 0 (by simp); have hd := hc0 1 (by simp); simp only [Nat.zero_mul, Nat.add_zero, Nat.one_mul, List.getElem_cons_zero, List.getElem_cons_succ, Nat.add_assoc, Nat.reduceAdd] at hc hd; obtain ⟨x0, x1, x2⟩ := hc; obtain ⟨y0, y1, y2⟩ := hd; clear hc0 hx; have lb := cell_lt x0; simp only at lb
  go_enter Try.func44, Try.ntmps44
  go_wp2_with fail
  (go_region_held3 (fun W => Below w.heap.size w W ∧ W.cell? ⟨b0, o0 + 2, none⟩ = some (.string a.s) ∧ W.cell? ⟨b0, o0 + 5, none⟩ = some (.string b.s)) (first | (refine (fun hK : Below w.heap.size w _ => ⟨hK, cell_keep hK x2, cell_keep hK y2⟩) ?_; go_split_ands; (repeat (first | with_reducible exact Below.refl _ _ | with_reducible assumption | with_reducible refine Below.drew ?_ | with_reducible refine below_drewN ?_ _ | with_reducible refine bel_set ?_ _ _ | with_reducible refine bel_alloc ?_ _ | with_reducible refine bel_call (by with_reducible assumption) ?_)))) (first | (go_at_call 41; refine (truthN_calls _ _).mono ?_; rintro e w1 ⟨rfl, hb1⟩; have RK0 : Blk w1 w.heap.size #[.int .i64 0, .int .i64 0, .string ⟨#[]⟩] 33 := (by first | exact blk_below (blk_new w _) hb1 (Nat.le_refl _) | exact blk_below (w := (w.alloc _).drew) (blk_new w _) hb1 (Nat.le_refl _) | exact blk_below (w := (w.alloc _).drew.drew) (blk_new w _) hb1 (Nat.le_refl _)); have r0 := blk_cell RK0 0; have r1 := blk_cell RK0 1; have r2 := blk_cell RK0 2; have fz0 := blk_frozen RK0 0; have fz1 := blk_frozen RK0 1; have fz2 := blk_frozen RK0 2; have RK := Lib.hid RK0; clear RK0)))
  go_wp2_with fail
  have RB := blk_set (blk_set (blk_set RK.out 0 (.int .i64 (3))) 1 (.int .i64 (truthN (a.s.toList == b.s.toList)))) 2 (.string (⟨#[]⟩)); exact bodyPost_ret (v := .tuple #[.agg #[.int .i64 (3), .int .i64 (truthN (a.s.toList == b.s.toList)), .string (⟨#[]⟩)], .int .i64 0]) (by have w0 := blk_cell RB 0; have w1 := blk_cell RB 1; have w2 := blk_cell RB 2; simp at w0 w1 w2; simp [results, Try.results44, go_sem, w0, w1, w2]) rfl ⟨rfl, by (repeat (first | with_reducible exact Below.refl _ _ | with_reducible assumption | with_reducible refine Below.drew ?_ | with_reducible refine below_drewN ?_ _ | with_reducible refine bel_set ?_ _ _ | with_reducible refine bel_alloc ?_ _ | with_reducible refine bel_call (by with_reducible assumption) ?_))⟩

set_option maxHeartbeats 1000000 in
set_option maxRecDepth 100000 in
theorem bytes37 (a b : V) (A : Option Addr) (c : Nat) (hn : a.s.size ≤ 1000000) (hm : b.s.size ≤ 1000000) (w : World) (hx : Rd encV 3 w A [a, b]) : Calls Try.prog 44 #[.string ⟨#[108, 101, 115, 115]⟩, .slice A 2 c] w fun e w' => e = .returned (.tuple #[.agg #[.int .i64 (3), .int .i64 (truthN (Op.bytesLess a.s.toList b.s.toList)), .string (⟨#[]⟩)], .int .i64 0]) ∧ Below w.heap.size w w' := by
  obtain ⟨b0, o0, rfl, hc0⟩ := hx.vals (by simp); have hc := hc0 0 (by simp); have hd := hc0 1 (by simp); simp only [Nat.zero_mul, Nat.add_zero, Nat.one_mul, List.getElem_cons_zero, List.getElem_cons_succ, Nat.add_assoc, Nat.reduceAdd] at hc hd; obtain ⟨x0, x1, x2⟩ := hc; obtain ⟨y0, y1, y2⟩ := hd; clear hc0 hx; have lb := cell_lt x0; simp only at lb
  go_enter Try.func44, Try.ntmps44
  go_wp2_with fail
  (go_region_held3 (fun W => Below w.heap.size w W ∧ W.cell? ⟨b0, o0 + 2, none⟩ = some (.string a.s) ∧ W.cell? ⟨b0, o0 + 5, none⟩ = some (.string b.s)) (first | (refine (fun hK : Below w.heap.size w _ => ⟨hK, cell_keep hK x2, cell_keep hK y2⟩) ?_; go_split_ands; (repeat (first | with_reducible exact Below.refl _ _ | with_reducible assumption | with_reducible refine Below.drew ?_ | with_reducible refine below_drewN ?_ _ | with_reducible refine bel_set ?_ _ _ | with_reducible refine bel_alloc ?_ _ | with_reducible refine bel_call (by with_reducible assumption) ?_)))) (first | (go_at_call 41; refine (truthN_calls _ _).mono ?_; rintro e w1 ⟨rfl, hb1⟩; have RK0 : Blk w1 w.heap.size #[.int .i64 0, .int .i64 0, .string ⟨#[]⟩] 33 := (by first | exact blk_below (blk_new w _) hb1 (Nat.le_refl _) | exact blk_below (w := (w.alloc _).drew) (blk_new w _) hb1 (Nat.le_refl _) | exact blk_below (w := (w.alloc _).drew.drew) (blk_new w _) hb1 (Nat.le_refl _)); have r0 := blk_cell RK0 0; have r1 := blk_cell RK0 1; have r2 := blk_cell RK0 2; have fz0 := blk_frozen RK0 0; have fz1 := blk_frozen RK0 1; have fz2 := blk_frozen RK0 2; have RK := Lib.hid RK0; clear RK0)))
  go_wp2_with fail
  have RB := blk_set (blk_set (blk_set RK.out 0 (.int .i64 (3))) 1 (.int .i64 (truthN (Op.bytesLess a.s.toList b.s.toList)))) 2 (.string (⟨#[]⟩)); exact bodyPost_ret (v := .tuple #[.agg #[.int .i64 (3), .int .i64 (truthN (Op.bytesLess a.s.toList b.s.toList)), .string (⟨#[]⟩)], .int .i64 0]) (by have w0 := blk_cell RB 0; have w1 := blk_cell RB 1; have w2 := blk_cell RB 2; simp at w0 w1 w2; simp [results, Try.results44, go_sem, w0, w1, w2]) rfl ⟨rfl, by (repeat (first | with_reducible exact Below.refl _ _ | with_reducible assumption | with_reducible refine Below.drew ?_ | with_reducible refine below_drewN ?_ _ | with_reducible refine bel_set ?_ _ _ | with_reducible refine bel_alloc ?_ _ | with_reducible refine bel_call (by with_reducible assumption) ?_))⟩

set_option maxHeartbeats 1000000 in
set_option maxRecDepth 100000 in
theorem bytes35n (a b : V) (A : Option Addr) (c : Nat) (hn : a.s.size ≤ 1000000) (h : b.n < 0) (w : World) (hx : Rd encV 3 w A [a, b]) : Calls Try.prog 44 #[.string ⟨#[97, 116]⟩, .slice A 2 c] w fun e w' => e = .returned (.tuple #[.agg #[.int .i64 (0), .int .i64 (0), .string (⟨#[]⟩)], .int .i64 42]) ∧ Below w.heap.size w w' := by
  obtain ⟨b0, o0, rfl, hc0⟩ := hx.vals (by simp); have hc := hc0 0 (by simp); have hd := hc0 1 (by simp); simp only [Nat.zero_mul, Nat.add_zero, Nat.one_mul, List.getElem_cons_zero, List.getElem_cons_succ, Nat.add_assoc, Nat.reduceAdd] at hc hd; obtain ⟨x0, x1, x2⟩ := hc; obtain ⟨y0, y1, y2⟩ := hd; clear hc0 hx; have lb := cell_lt x0; simp only at lb
  have hd : decide (b.n < 0) = true := decide_eq_true h
  go_enter Try.func44, Try.ntmps44
  go_wp2_with fail
  go_quiet (fail)
  go_wp2_with fail
  exact bodyPost_ret (v := .tuple #[.agg #[.int .i64 (0), .int .i64 (0), .string (⟨#[]⟩)], .int .i64 42]) (by simp [results, Try.results44, go_sem, *]) rfl ⟨rfl, by (repeat (first | with_reducible exact Below.refl _ _ | with_reducible assumption | with_reducible refine Below.drew ?_ | with_reducible refine below_drewN ?_ _ | with_reducible refine bel_set ?_ _ _ | with_reducible refine bel_alloc ?_ _ | with_reducible refine bel_call (by with_reducible assumption) ?_))⟩

set_option maxHeartbeats 1000000 in
set_option maxRecDepth 100000 in
theorem bytes35z (a b : V) (A : Option Addr) (c : Nat) (hn : a.s.size ≤ 1000000) (h : ¬ b.n < 0) (h2 : (a.s.size : Int) ≤ b.n) (w : World) (hx : Rd encV 3 w A [a, b]) : Calls Try.prog 44 #[.string ⟨#[97, 116]⟩, .slice A 2 c] w fun e w' => e = .returned (.tuple #[.agg #[.int .i64 (0), .int .i64 (0), .string (⟨#[]⟩)], .int .i64 42]) ∧ Below w.heap.size w w' := by
  obtain ⟨b0, o0, rfl, hc0⟩ := hx.vals (by simp); have hc := hc0 0 (by simp); have hd := hc0 1 (by simp); simp only [Nat.zero_mul, Nat.add_zero, Nat.one_mul, List.getElem_cons_zero, List.getElem_cons_succ, Nat.add_assoc, Nat.reduceAdd] at hc hd; obtain ⟨x0, x1, x2⟩ := hc; obtain ⟨y0, y1, y2⟩ := hd; clear hc0 hx; have lb := cell_lt x0; simp only at lb
  have hd : decide (b.n < 0) = false := decide_eq_false h
  have hd2 : decide ((a.s.size : Int) ≤ b.n) = true := decide_eq_true h2
  go_enter Try.func44, Try.ntmps44
  go_wp2_with fail
  go_quiet (fail)
  go_wp2_with fail
  exact bodyPost_ret (v := .tuple #[.agg #[.int .i64 (0), .int .i64 (0), .string (⟨#[]⟩)], .int .i64 42]) (by simp [results, Try.results44, go_sem, *]) rfl ⟨rfl, by (repeat (first | with_reducible exact Below.refl _ _ | with_reducible assumption | with_reducible refine Below.drew ?_ | with_reducible refine below_drewN ?_ _ | with_reducible refine bel_set ?_ _ _ | with_reducible refine bel_alloc ?_ _ | with_reducible refine bel_call (by with_reducible assumption) ?_))⟩

set_option maxHeartbeats 1000000 in
set_option maxRecDepth 100000 in
theorem bytes40 (a : V) (A : Option Addr) (c : Nat)  (w : World) (hx : Rd encV 3 w A [a]) : Calls Try.prog 44 #[.string ⟨#[111, 110, 101]⟩, .slice A 1 c] w fun e w' => e = .returned (.tuple #[.agg #[.int .i64 (2), .int .i64 (0), .string (⟨(one a.n).toArray⟩)], .int .i64 0]) ∧ Below w.heap.size w w' := by
  obtain ⟨b0, o0, rfl, hc0⟩ := hx.vals (by simp); have hc := hc0 0 (by simp); simp only [Nat.zero_mul, Nat.add_zero, List.getElem_cons_zero] at hc; obtain ⟨x0, x1, x2⟩ := hc; clear hc0 hx; have lb := cell_lt x0; simp only at lb
  have hconv : ∀ (W : World), (convert 75 9 (.slice (some ⟨W.heap.size, 0, none⟩) 1 1)).run Try.prog (W.alloc (.cells #[.int .u8 (a.n % 256)] 5)) = .ok (.string ⟨(one a.n).toArray⟩) (W.alloc (.cells #[.int .u8 (a.n % 256)] 5)) := by
    intro W
    refine run_convert_bytes_back _ 75 9 5 ⟨W.heap.size, 0, none⟩ 1 (one a.n) Try.underlying75 Try.underlying5 Try.underlying9 (fun j hj => ?_)
    have hj1 : j < 1 := hj
    obtain rfl : j = 0 := by omega
    have ha : (⟨W.heap.size, 0, none⟩ : Addr).add 0 = ⟨W.heap.size, 0, none⟩ := by unfold Addr.add; split <;> simp_all
    rw [ha, cell_of_row _ _ _ _ _ _ (blk_new W _)]
    simp [one, byteAt_toNat]
  have hc0 := hconv (w.alloc (.cells #[.int .i64 0, .int .i64 0, .string ⟨#[]⟩] 33))
  simp only [World.size_alloc] at hc0
  clear hconv
  go_enter Try.func44, Try.ntmps44
  go_wp2_with fail
  exact bodyPost_ret (v := .tuple #[.agg #[.int .i64 (2), .int .i64 (0), .string (⟨(one a.n).toArray⟩)], .int .i64 0]) (by simp [results, Try.results44, go_sem, *]) rfl ⟨rfl, by (repeat (first | with_reducible exact Below.refl _ _ | with_reducible assumption | with_reducible refine Below.drew ?_ | with_reducible refine below_drewN ?_ _ | with_reducible refine bel_set ?_ _ _ | with_reducible refine bel_alloc ?_ _ | with_reducible refine bel_call (by with_reducible assumption) ?_))⟩

set_option maxHeartbeats 1000000 in
set_option maxRecDepth 100000 in
theorem bytes35 (a b : V) (A : Option Addr) (c : Nat) (n : Nat) (hbn : b.n = n) (h : n < a.s.size) (w : World) (hx : Rd encV 3 w A [a, b]) : Calls Try.prog 44 #[.string ⟨#[97, 116]⟩, .slice A 2 c] w fun e w' => e = .returned (.tuple #[.agg #[.int .i64 (1), .int .i64 (((a.s[n]'h).toNat : Int)), .string (⟨#[]⟩)], .int .i64 0]) ∧ Below w.heap.size w w' := by
  obtain ⟨b0, o0, rfl, hc0⟩ := hx.vals (by simp); have hc := hc0 0 (by simp); have hd := hc0 1 (by simp); simp only [Nat.zero_mul, Nat.add_zero, Nat.one_mul, List.getElem_cons_zero, List.getElem_cons_succ, Nat.add_assoc, Nat.reduceAdd] at hc hd; obtain ⟨x0, x1, x2⟩ := hc; obtain ⟨y0, y1, y2⟩ := hd; clear hc0 hx; have lb := cell_lt x0; simp only at lb
  rw [hbn] at y1
  have hd : decide ((n : Int) < 0) = false := decide_eq_false (by omega)
  have hd2 : decide ((a.s.size : Int) ≤ n) = false := decide_eq_false (by omega)
  have hi0 : (0 : Int) ≤ n := by omega
  have hi1 : (n : Int) < a.s.size := by omega
  have hw : IntKind.i64.wrap ((a.s[n]'h).toNat : Int) = ((a.s[n]'h).toNat : Int) := by have h3 := (a.s[n]'h).toNat_lt; rw [IntKind.wrap_i64]; omega
  clear hbn
  go_enter Try.func44, Try.ntmps44
  go_wp2_with fail
  go_quiet (fail)
  go_wp2_with fail
  (go_region_held3 (fun W => Below w.heap.size w W ∧ W.cell? ⟨b0, o0 + 2, none⟩ = some (.string a.s) ∧ W.cell? ⟨b0, o0 + 4, none⟩ = some (.int .i64 (n : Int))) (first | (refine (fun hK : Below w.heap.size w _ => ⟨hK, cell_keep hK x2, cell_keep hK y1⟩) ?_; go_split_ands; (repeat (first | with_reducible exact Below.refl _ _ | with_reducible assumption | with_reducible refine Below.drew ?_ | with_reducible refine below_drewN ?_ _ | with_reducible refine bel_set ?_ _ _ | with_reducible refine bel_alloc ?_ _ | with_reducible refine bel_call (by with_reducible assumption) ?_)))) (first | fail))
  go_wp2_with fail
  exact bodyPost_ret (v := .tuple #[.agg #[.int .i64 (1), .int .i64 (((a.s[n]'h).toNat : Int)), .string (⟨#[]⟩)], .int .i64 0]) (by simp [results, Try.results44, go_sem, *]) rfl ⟨rfl, by (repeat (first | with_reducible exact Below.refl _ _ | with_reducible assumption | with_reducible refine Below.drew ?_ | with_reducible refine below_drewN ?_ _ | with_reducible refine bel_set ?_ _ _ | with_reducible refine bel_alloc ?_ _ | with_reducible refine bel_call (by with_reducible assumption) ?_))⟩

end Go.Proofs.Ytnapbjfmkofhcaa.RefE
