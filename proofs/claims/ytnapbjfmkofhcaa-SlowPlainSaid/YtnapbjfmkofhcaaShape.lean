/- shape.Match of code without blocks, shape.Next: contracts. -/
import Derived.Test.YtnapbjfmkofhcaaRep
namespace Go.Proofs.Ytnapbjfmkofhcaa.Shp
set_option linter.unusedVariables false
set_option linter.unusedSimpArgs false
open Go.RowKit Wd Sl Rep

theorem see_calls (i : Int) (a : Option Addr) (n c : Nat) (w : World) : Calls Try.prog 33 #[.int .i64 i, .slice a n c] w fun e w' => e = .returned (.tuple #[]) ∧ w = w' := by
  go_enter Try.func33, Try.ntmps33
  go_wp2_with fail
  go_end0
  exact ⟨rfl, rfl⟩

theorem own_below {w w' : World} {B e size n : Nat} {v : Value} {xs : List Value} (h : w.ownsRow B e size v n xs) (hb : Below w.heap.size w w') : w'.ownsRow B e size v n xs := by
  refine ⟨h.1, ?_⟩
  rcases h.2 with hn | ⟨g, cap, cur, rfl, hg, hgg, rest⟩
  · exact .inl hn
  · exact .inr ⟨g, cap, cur, rfl, hg, by rw [hb.block g (Array.getElem?_eq_some_iff.1 hgg).1]; exact hgg, rest⟩

/-- No instruction of blocks. -/
def simple (xs : List I) : Prop := ∀ x ∈ xs, x.op < 48 ∨ 52 < x.op

set_option maxRecDepth 100000 in
set_option maxHeartbeats 1000000 in
theorem scan_calls (a : Option Addr) (c : Nat) (xs : List I) (w : World) (hx : Rd encX 2 w a xs) (hn : xs.length ≤ 256) (hs : simple xs) :
    Calls Try.prog 32 #[.slice a xs.length c, .func (.func 33) #[] #[]] w fun e w' => ∃ a1 c1, e = .returned (.tuple #[.slice a1 xs.length c1, .int .i64 0]) ∧ w'.ownsRow w.heap.size 3 1 (.slice a1 xs.length c1) xs.length (flat encI (List.replicate xs.length (-1))) ∧ Below w.heap.size w w' := by
  have HX := Lib.hid hx
  have HS := Lib.hid hs
  clear hx hs
  have hnew := blk_new (w.alloc (.cells #[.slice a xs.length c] 26)) (.cells #[.int .i64 (-1)] 3)
  rw [World.size_alloc] at hnew
  have HR1 := Lib.hid (show Rd encI 1 ((w.alloc (.cells #[.slice a xs.length c] 26)).alloc (.cells #[.int .i64 (-1)] 3)) (some ⟨w.heap.size + 1, 0, none⟩) [-1] from
    (rd_at (by omega) encI_len).2 (.inr ⟨_, _, rfl, fun j v hj => by rw [Nat.zero_add, cell_of_row _ _ _ _ _ _ hnew]; simpa [flat, encI] using hj⟩))
  have HBX := Lib.hid (show Blk ((w.alloc (.cells #[.slice a xs.length c] 26)).alloc (.cells #[.int .i64 (-1)] 3)) w.heap.size #[.slice a xs.length c] 26 from blk_alloc (blk_new w _) _)
  clear hnew
  go_enter Try.func32, Try.ntmps32
  go_wp2_with (go_at_call 52; refine (repeat_calls _ _ (-1) xs.length (by omega) _ HR1.out).mono ?_; rintro e w1 ⟨a1, c1, rfl, hown, hb⟩; have hB0 := blk_below HBX.out hb (Nat.le_refl _); have y1 : w1.cell? ⟨w.heap.size, 0, none⟩ = some (.slice a xs.length c) := blk_cell hB0 0; have y2 : w1.frozen? ⟨w.heap.size, 0, none⟩ = false := blk_frozen hB0 0; have hlt0 : w.heap.size < w1.heap.size := blk_lt hB0; clear hB0)
  go_loopw [24] (fun i wr => ∃ k : Nat, k ≤ xs.length ∧ i = .int .i64 k ∧ wr.cell? ⟨w1.heap.size, 0, none⟩ = some (.slice none 0 0) ∧ wr.frozen? ⟨w1.heap.size, 0, none⟩ = false ∧ w1.heap.size < wr.heap.size ∧ Below w1.heap.size w1 wr) (fun i _ => xs.length - (intOf i).toNat)
  case atStart => exact ⟨0, Nat.zero_le _, rfl, by rw [blk_cell (blk_new w1 _)]; rfl, blk_frozen (blk_new w1 _) 0, by simp, (Below.refl _ _).alloc (Nat.le_refl _) _⟩
  case round =>
    obtain ⟨k, hk, rfl, j1, j2, hlt1, hB⟩ := hrel
    have hlt2 : w.heap.size < wr.heap.size := by omega
    by_cases hlt : k < xs.length
    · have hBw : Below w.heap.size w wr := below_thn hB (by (repeat (first | with_reducible exact Below.refl _ _ | with_reducible assumption | with_reducible refine Below.drew ?_ | with_reducible refine below_drewN ?_ _ | with_reducible refine Below.alloc ?_ ?_ _ | with_reducible refine Below.setCell ?_ ?_ _ | with_reducible refine below_thn (by with_reducible assumption) ?_ ?_ | (simp only [World.size_alloc, World.size_setCell, World.size_drew, size_drewN]; omega) | omega))) (Nat.le_of_lt hlt0)
      obtain ⟨b, o, rfl, hcx⟩ := (HX.out.below hBw (Nat.le_refl _)).instrs (by omega)
      obtain ⟨m1, m2⟩ := hcx k hlt
      clear hcx
      have hop := HS.out _ (List.getElem_mem hlt)
      have o1 : (xs[k].op == 48) = false := by simp; omega
      have o2 : (xs[k].op == 49) = false := by simp; omega
      have o3 : (xs[k].op == 50) = false := by simp; omega
      have o4 : (xs[k].op == 51) = false := by simp; omega
      have o5 : (xs[k].op == 52) = false := by simp; omega
      clear hop
      revert m1 m2 o1 o2 o3 o4 o5
      generalize xs[k] = x
      intro m1 m2 o1 o2 o3 o4 o5
      go_wp2_with (go_at_call 33; refine (see_calls _ _ _ _ _).mono ?_; rintro e w5 ⟨rfl, rfl⟩)
      go_roundw
      case rel => exact ⟨k + 1, by omega, by go_num, (((Below.refl wr.heap.size wr).alloc (Nat.le_refl _) _).cell (p := ⟨w1.heap.size, 0, none⟩) hlt1).trans j1, (((Below.refl wr.heap.size wr).alloc (Nat.le_refl _) _).frozen (p := ⟨w1.heap.size, 0, none⟩) hlt1).trans j2, by simp; omega, by (repeat (first | with_reducible exact Below.refl _ _ | with_reducible assumption | with_reducible refine Below.drew ?_ | with_reducible refine below_drewN ?_ _ | with_reducible refine Below.alloc ?_ ?_ _ | with_reducible refine Below.setCell ?_ ?_ _ | with_reducible refine below_thn (by with_reducible assumption) ?_ ?_ | (simp only [World.size_alloc, World.size_setCell, World.size_drew, size_drewN]; omega) | omega))⟩
      case measure => simp [intOf]; omega
    · obtain rfl : k = xs.length := by omega
      go_wp2_with fail
      go_ret2
      exact ⟨a1, c1, rfl, World.ownsRow.mono (own_below hown hB) (by simp; omega), by (repeat (first | with_reducible exact Below.refl _ _ | with_reducible assumption | with_reducible refine Below.drew ?_ | with_reducible refine below_drewN ?_ _ | with_reducible refine Below.alloc ?_ ?_ _ | with_reducible refine Below.setCell ?_ ?_ _ | with_reducible refine below_thn (by with_reducible assumption) ?_ ?_ | (simp only [World.size_alloc, World.size_setCell, World.size_drew, size_drewN]; omega) | omega))⟩
end Go.Proofs.Ytnapbjfmkofhcaa.Shp
