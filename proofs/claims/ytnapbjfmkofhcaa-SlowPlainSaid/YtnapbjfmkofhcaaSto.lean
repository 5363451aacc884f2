/- store.New, Begin, (*Tx).none, Wipe of a long key, slow.made: contracts. -/
import Derived.Test.YtnapbjfmkofhcaaWd
import Derived.WalkSpells
import Derived.Carry
import Derived.Laws.MakeOwn
import Derived.Laws.OwnMore
import Derived.Lib.ConvBytes
namespace Go.Proofs.Ytnapbjfmkofhcaa.Sto
set_option linter.unusedVariables false
set_option linter.unusedSimpArgs false
open Go.RowKit Wd

/-- A store that somebody made. -/
def IsStore (w : World) (v : Value) : Prop := ∃ g, v = .pointer (some ⟨g, 0, none⟩) ∧ w.cell? ⟨g, 3, none⟩ = some (.bool true)
/-- A transaction that somebody made. -/
def IsTx (w : World) (v : Value) : Prop := ∃ g m, v = .pointer (some ⟨g, 0, none⟩) ∧ w.cell? ⟨g, 1, none⟩ = some (.map (some m))
theorem IsStore.below {w w1 : World} {v : Value} {B : Nat} (h : IsStore w v) (hb : Below B w w1) (hB : w.heap.size ≤ B) : IsStore w1 v :=
  let ⟨g, e, c⟩ := h; ⟨g, e, (hb.cell (Nat.lt_of_lt_of_le (cell_lt c) hB)).trans c⟩
theorem IsTx.below {w w1 : World} {v : Value} {B : Nat} (h : IsTx w v) (hb : Below B w w1) (hB : w.heap.size ≤ B) : IsTx w1 v :=
  let ⟨g, m, e, c⟩ := h; ⟨g, m, e, (hb.cell (Nat.lt_of_lt_of_le (cell_lt c) hB)).trans c⟩

theorem infoN : (Try.prog.info? 146).map (fun i => (i.zero, i.size, i.bytes)) = some (some (.agg #[.slice none 0 0, .slice none 0 0]), 2, 48) := by kernel_rfl
theorem infoB : (Try.prog.info? 5).map (fun i => (i.zero, i.size, i.bytes)) = some (some (.int .u8 0), 1, 1) := by kernel_rfl

set_option maxRecDepth 100000 in
theorem new_calls (w : World) : Calls Try.prog 10 #[] w fun e w' => (∃ v, e = .returned v ∧ IsStore w' v) ∧ Below w.heap.size w w' := by
  obtain ⟨i0, hi0, hz0, hz1, hz2⟩ := info_parts infoN
  obtain ⟨X, hmk⟩ : ∃ X : Array Value, ∀ w : World, (Instr.makeSlice 69 (.int .i64 1) (.int .i64 1)).run Try.prog w = .ok (.slice (some ⟨w.heap.size, 0, none⟩) 1 1) (w.alloc (.cells X 146)) :=
    ⟨_, fun w => run_make (P := Try.prog) w 69 146 i0 _ Try.underlying69 hi0 hz0 .i64 .i64 1 1 (by omega) (Int.le_refl _) (by rw [hz2]; omega) (by omega)⟩
  go_enter Try.func10, Try.ntmps10
  go_wp2_with fail
  go_ret
  exact ⟨⟨_, rfl, _, rfl, (blk_cell (g := w.heap.size + 1) (by simpa using blk_new (w.alloc (.cells X 146)) _) 3).trans rfl⟩, by (repeat (first | with_reducible exact Below.refl _ _ | with_reducible assumption | with_reducible refine Below.drew ?_ | with_reducible refine below_drewN ?_ _ | with_reducible refine Below.alloc ?_ ?_ _ | with_reducible refine Below.setCell ?_ ?_ _ | with_reducible refine below_thn (by with_reducible assumption) ?_ ?_ | (simp only [World.size_alloc, World.size_setCell, World.size_drew, size_drewN]; omega) | omega))⟩

set_option maxRecDepth 100000 in
theorem none_calls (v : Value) (w : World) (h : IsStore w v) : Calls Try.prog 22 #[v] w fun e w' => e = .returned (.bool false) ∧ Below w.heap.size w w' := by
  obtain ⟨g, rfl, hc⟩ := h
  go_enter Try.func22, Try.ntmps22
  go_wp2_with fail
  go_ret
  exact ⟨rfl, by (repeat (first | with_reducible exact Below.refl _ _ | with_reducible assumption | with_reducible refine Below.drew ?_ | with_reducible refine below_drewN ?_ _ | with_reducible refine Below.alloc ?_ ?_ _ | with_reducible refine Below.setCell ?_ ?_ _ | with_reducible refine below_thn (by with_reducible assumption) ?_ ?_ | (simp only [World.size_alloc, World.size_setCell, World.size_drew, size_drewN]; omega) | omega))⟩

set_option maxRecDepth 100000 in
theorem txnone_calls (v : Value) (w : World) (h : IsTx w v) : Calls Try.prog 45 #[v] w fun e w' => e = .returned (.bool false) ∧ Below w.heap.size w w' := by
  obtain ⟨g, m, rfl, hc⟩ := h
  have hme : ∀ (w : World) (r : Option Nat), (binOp .eql 66 (.map r) (.map none)).run Try.prog w = .ok (.bool r.isNone) w := fun w r => run_eql_map_nil w 66 _ _ r Try.underlying66
  go_enter Try.func45, Try.ntmps45
  go_wp2_with fail
  go_ret
  exact ⟨rfl, by (repeat (first | with_reducible exact Below.refl _ _ | with_reducible assumption | with_reducible refine Below.drew ?_ | with_reducible refine below_drewN ?_ _ | with_reducible refine Below.alloc ?_ ?_ _ | with_reducible refine Below.setCell ?_ ?_ _ | with_reducible refine below_thn (by with_reducible assumption) ?_ ?_ | (simp only [World.size_alloc, World.size_setCell, World.size_drew, size_drewN]; omega) | omega))⟩

set_option maxRecDepth 100000 in
theorem begin_calls (v : Value) (w : World) (h : IsStore w v) : Calls Try.prog 9 #[v] w fun e w' => (∃ t, e = .returned t ∧ IsTx w' t) ∧ Below w.heap.size w w' := by
  have HH := Lib.hid h
  obtain ⟨g, rfl, hc⟩ := h
  have hmm := @run_makeMap Try.prog
  go_enter Try.func9, Try.ntmps9
  go_wp2_with (go_at_call 22; refine (none_calls _ _ HH.out).mono ?_; rintro e w1 ⟨rfl, hb⟩)
  go_ret
  have hz1 := hb.size
  exact ⟨⟨_, rfl, w1.heap.size + 1, w1.heap.size, rfl, (blk_cell (g := w1.heap.size + 1) (by simpa using blk_new (w1.alloc (.map #[] 0)) _) 1).trans rfl⟩, by (repeat (first | with_reducible exact Below.refl _ _ | with_reducible assumption | with_reducible refine Below.drew ?_ | with_reducible refine below_drewN ?_ _ | with_reducible refine Below.alloc ?_ ?_ _ | with_reducible refine Below.setCell ?_ ?_ _ | with_reducible refine below_thn (by with_reducible assumption) ?_ ?_ | (simp only [World.size_alloc, World.size_setCell, World.size_drew, size_drewN]; omega) | omega))⟩

set_option maxRecDepth 100000 in
/-- A key that is too long changes nothing. -/
theorem wipe_calls (v : Value) (s : ByteArray) (w : World) (h : IsTx w v) (hs : 32 < s.size) : Calls Try.prog 25 #[v, .string s] w fun e w' => e = .returned (.int .i64 41) ∧ Below w.heap.size w w' := by
  have h1 : decide ((32 : Int) < s.size) = true := decide_eq_true (by omega)
  have HH := Lib.hid h
  clear h
  go_enter Try.func25, Try.ntmps25
  go_wp2_with (go_at_call 45; refine (txnone_calls _ _ HH.out).mono ?_; rintro e w1 ⟨rfl, hb⟩)
  go_ret
  exact ⟨rfl, by (repeat (first | with_reducible exact Below.refl _ _ | with_reducible assumption | with_reducible refine Below.drew ?_ | with_reducible refine below_drewN ?_ _ | with_reducible refine Below.alloc ?_ ?_ _ | with_reducible refine Below.setCell ?_ ?_ _ | with_reducible refine below_thn (by with_reducible assumption) ?_ ?_ | (simp only [World.size_alloc, World.size_setCell, World.size_drew, size_drewN]; omega) | omega))⟩

set_option maxRecDepth 100000 in
theorem made_calls (v : Value) (w : World) (h : IsTx w v) : Calls Try.prog 16 #[v] w fun e w' => e = .returned (.tuple #[v, .int .i64 0]) ∧ Below w.heap.size w w' := by
  obtain ⟨i0, hi0, hz0, hz1, hz2⟩ := info_parts infoB
  obtain ⟨X, hmk, hX⟩ : ∃ X : Array Value, (∀ w : World, (Instr.makeSlice 75 (.int .i64 33) (.int .i64 33)).run Try.prog w = .ok (.slice (some ⟨w.heap.size, 0, none⟩) 33 33) (w.alloc (.cells X 5))) ∧ X = (List.replicate 33 (Value.int .u8 0)).toArray :=
    ⟨_, fun w => run_make (P := Try.prog) w 75 5 i0 _ Try.underlying75 hi0 hz0 .i64 .i64 33 33 (by omega) (Int.le_refl _) (by rw [hz2]; omega) (by omega), by rw [hz1, Nat.mul_one, ← toList_madeCells_one]; rfl⟩
  have hconv : ∀ (W : World), (convert 75 9 (.slice (some ⟨W.heap.size, 0, none⟩) 33 33)).run Try.prog (W.alloc (.cells X 5)) = .ok (.string ⟨(List.replicate 33 (0 : UInt8)).toArray⟩) (W.alloc (.cells X 5)) := by
    intro W
    refine run_convert_bytes_back _ 75 9 5 ⟨W.heap.size, 0, none⟩ 33 (List.replicate 33 0) Try.underlying75 Try.underlying5 Try.underlying9 (fun j hj => ?_)
    have ha : (⟨W.heap.size, 0, none⟩ : Addr).add j = ⟨W.heap.size, j, none⟩ := by unfold Addr.add; split <;> simp_all
    have hj8 : j < 33 := by simpa using hj
    rw [ha, cell_of_row _ _ _ _ _ _ (blk_new W _), hX]
    simp only [Nat.zero_add, List.getElem?_toArray, List.getElem?_replicate_of_lt hj8, List.getElem_replicate]
    rfl
  have HH := Lib.hid (h.below ((Below.refl w.heap.size w).alloc (Nat.le_refl _) (.cells X 5)) (Nat.le_refl _))
  have hc0 := hconv w
  clear h hconv hX
  go_enter Try.func16, Try.ntmps16
  go_wp2_with (go_at_call 25; refine (wipe_calls _ _ _ HH.out (by decide)).mono ?_; rintro e w1 ⟨rfl, hb⟩)
  go_ret2
  exact ⟨rfl, by (repeat (first | with_reducible exact Below.refl _ _ | with_reducible assumption | with_reducible refine Below.drew ?_ | with_reducible refine below_drewN ?_ _ | with_reducible refine Below.alloc ?_ ?_ _ | with_reducible refine Below.setCell ?_ ?_ _ | with_reducible refine below_thn (by with_reducible assumption) ?_ ?_ | (simp only [World.size_alloc, World.size_setCell, World.size_drew, size_drewN]; omega) | omega))⟩
end Go.Proofs.Ytnapbjfmkofhcaa.Sto
