/- op.holds, types, In, packed, text, Apply: contracts. -/
import Derived.Test.YtnapbjfmkofhcaaOpB
import Derived.Test.YtnapbjfmkofhcaaSl
import Derived.Test.YtnapbjfmkofhcaaValB
import Derived.Lib.ConvBytes
import Derived.Maps.AppendAt
namespace Go.Proofs.Ytnapbjfmkofhcaa.OpD
set_option linter.unusedVariables false
set_option linter.unusedSimpArgs false
open Go.RowKit Wd OpA OpB Val ValB Sl

def holdsB (op a b : Int) : Bool := if op = 23 then a == b else if op = 24 then a != b else if op = 25 then decide (a < b) else if op = 26 then decide (a ≤ b) else if op = 27 then decide (b < a) else decide (b ≤ a)
set_option maxHeartbeats 2000000 in
theorem holds_calls (op a b : Int) (h0 : 23 ≤ op) (h1 : op ≤ 28) (w : World) : Calls Try.prog 91 #[.int .i64 op, .int .i64 a, .int .i64 b] w fun e w' => e = .returned (.bool (holdsB op a b)) ∧ Below w.heap.size w w' := by
  obtain rfl | rfl | rfl | rfl | rfl | rfl : op = 23 ∨ op = 24 ∨ op = 25 ∨ op = 26 ∨ op = 27 ∨ op = 28 := by omega
  all_goals
    rcases Int.lt_trichotomy a b with hab | hab | hab
    all_goals
      first | (have he : (a == b) = false := by (simp; omega)) | (have he : (a == b) = true := by (simp; omega))
      go_enter Try.func91, Try.ntmps91
      go_wp2_with fail
      all_goals (go_ret; exact ⟨by simp [holdsB, *] <;> first | omega | (intro _; omega) | (rw [Bool.eq_iff_iff]; simp only [decide_eq_true_eq, Bool.not_eq_true', decide_eq_false_iff_not]; omega), by (repeat (first | with_reducible exact Below.refl _ _ | with_reducible assumption | with_reducible refine Below.drew ?_ | with_reducible refine below_drewN ?_ _ | with_reducible refine Below.alloc ?_ ?_ _ | with_reducible refine Below.setCell ?_ ?_ _ | with_reducible refine below_thn (by with_reducible assumption) ?_ ?_ | (simp only [World.size_alloc, World.size_setCell, World.size_drew, size_drewN]; omega) | omega))⟩)

/-- Types by digits. -/
def typesOf (s : ByteArray) : List Int := s.data.toList.map fun c => IntKind.u8.wrap ((c.toNat : Int) - 48)
theorem typesOf_length (s : ByteArray) : (typesOf s).length = s.size := by unfold typesOf; rw [List.length_map, Array.length_toList]; rfl

theorem typesOf_get (s : ByteArray) (k : Nat) (h : k < (typesOf s).length) : (typesOf s)[k] = IntKind.u8.wrap (((s.data.toList.getD k 0).toNat : Int) - 48) := by
  have h1 : k < s.data.toList.length := by rw [typesOf_length] at h; rw [Array.length_toList]; exact h
  have h2 : (typesOf s)[k]? = some (IntKind.u8.wrap (((s.data.toList.getD k 0).toNat : Int) - 48)) := by
    unfold typesOf
    rw [List.getElem?_map, List.getElem?_eq_getElem h1, List.getD_eq_getElem?_getD, List.getElem?_eq_getElem h1]; rfl
  exact Option.some.inj ((List.getElem?_eq_getElem h).symm.trans h2)

theorem flatI_take_succ (l : List Int) (k : Nat) (h : k < l.length) : flat encI (l.take (k + 1)) = flat encI (l.take k) ++ [.int .i64 l[k]] := by
  rw [List.take_succ_eq_append_getElem h, flat_append]; rfl

set_option maxHeartbeats 1000000 in
set_option maxRecDepth 100000 in
theorem types_calls (s : ByteArray) (hs : s.size ≤ 1000000) (w : World) : Calls Try.prog 80 #[.string s] w (Owned 3 1 s.size (flat encI (typesOf s)) w) := by
  obtain ⟨i0, hi, hz0, hz1, hz2⟩ := info_parts infoI
  have kb := fun (W : World) => Lib.run_convert_string_bytes (P := Try.prog) W 9 75 5 s Try.underlying9 Try.underlying75 Try.underlying5
  have hcells := Lib.bytesWorld_cell w 5 s
  have hB0 : Below w.heap.size w (Lib.bytesWorld w 5 s) := ⟨rfl, rfl, rfl, by rw [Lib.bytesWorld_size]; omega, fun i hi => Lib.bytesWorld_at_old w 5 s i hi⟩
  have hz := Lib.bytesWorld_size w 5 s
  generalize hW : Lib.bytesWorld w 5 s = W0 at hcells hB0 hz
  have kb0 := kb w
  rw [hW] at kb0
  have HC := Lib.hid hcells
  have HZ := Lib.hid hz
  have hz' : w.heap.size < W0.heap.size := by omega
  have hlen := typesOf_length s
  have HLEN := Lib.hid hlen
  clear kb hW hcells hz hlen
  go_enter Try.func80, Try.ntmps80
  go_wp2_with fail
  go_loopw [3, 9] (fun v i wr => ∃ k : Nat, k ≤ s.size ∧ i = .int .i64 k ∧ wr.ownsRow (w.heap.size + 1) 3 1 v k (flat encI ((typesOf s).take k)) ∧ Below (w.heap.size + 1) W0 wr) (fun _ i _ => s.size - (intOf i).toNat)
  case atStart => exact ⟨0, Nat.zero_le _, rfl, World.ownsRow_nil _ _ _ _, Below.refl _ _⟩
  case round =>
    obtain ⟨k, hk, rfl, hown, hB⟩ := hrel
    have hzB := hB.size
    by_cases hlt : k < s.size
    · have hcell : wr.cell? ⟨w.heap.size, k, none⟩ = some (.int .u8 (s.data.toList.getD k 0).toNat) := by
        rw [hB.cell (p := ⟨w.heap.size, k, none⟩) (by simp)]; exact HC.out k hlt
      have hk2 : k < (typesOf s).length := by rw [HLEN.out]; exact hlt
      have ht := typesOf_get s k hk2
      have hfl := flatI_take_succ (typesOf s) k hk2
      rw [ht] at hfl
      have HFL := Lib.hid hfl
      clear ht hfl
      generalize (s.data.toList.getD k 0).toNat = cc at hcell HFL
      go_wp2_with (at_builtin; refine wpList_append_own _ rfl _ _ 23 rfl (w.heap.size + 1) 3 i0 (.int .i64 0) 1 8 Try.underlying23 hi hz0 hz1 hz2 rfl (by decide) _ _ _ rfl (hown.alloc _) ⟨wr.heap.size, 0, none⟩ 1 1 [.int .i64 (IntKind.u8.wrap ((cc : Int) - 48))] rfl rfl ?c1 ?c2 ?c3 ?c4 ?c5 ?_)
      case c1 => exact cell_one_new _ _ _
      case c2 => intro u hu; simp at hu; subst hu; rfl
      case c3 => unfold maxLen; omega
      case c4 => omega
      case c5 => simp; omega
      intro v' w1 hown1 hg1 _
      go_wp2_with fail
      go_roundw
      case rel => exact ⟨k + 1, by omega, by go_num, by rw [HFL.out]; exact hown1, (hB.alloc (by omega) _).grown hg1 (by simp; omega) (fun j hj => (hown.lt j hj).1)⟩
      case measure => simp [intOf]; omega
    · obtain rfl : k = s.size := by omega
      have hT : (typesOf s).take s.size = typesOf s := List.take_of_length_le (by rw [HLEN.out]; exact Nat.le_refl _)
      rw [hT] at hown
      clear hT
      go_wp2_with fail
      go_ret
      exact owned_of rfl (World.ownsRow.mono hown (by omega)) (hB0.trans (hB.mono (by omega)))

theorem in_size (op : Int) : (opRow op).2.2.1.size ≤ 3 := by
  unfold opRow
  split
  · rename_i h
    have key : ∀ n : Nat, n < 54 → (rows.getD n (⟨#[]⟩, 0, ⟨#[]⟩, ⟨#[]⟩, 0)).2.2.1.size ≤ 3 := by decide +kernel
    exact key _ (by omega)
  · decide

/-- The types that an operation takes. -/
def inOf (op : Int) : List Int := typesOf (opRow op).2.2.1
theorem inOf_length (op : Int) : (inOf op).length ≤ 3 := by unfold inOf; rw [typesOf_length]; exact in_size op

set_option maxRecDepth 100000 in
theorem in_calls (op : Int) (w : World) : Calls Try.prog 61 #[.int .i64 op] w (Owned 3 1 (inOf op).length (flat encI (inOf op)) w) := by
  have hl := typesOf_length (opRow op).2.2.1
  have hs := in_size op
  unfold inOf
  rw [hl]
  clear hl
  revert hs
  generalize hr : opRow op = r
  intro hs
  have HR := Lib.hid hr
  clear hr
  have hfl : ∀ w, (Instr.field 126 (.agg #[.string r.1, .int .i64 r.2.1, .string r.2.2.1, .string r.2.2.2.1, .int .i64 r.2.2.2.2]) 2).run Try.prog w = .ok (.string r.2.2.1) w := fun w => field_row2 _ _ _ _ _ w
  go_enter Try.func61, Try.ntmps61
  go_wp2_with (first | (go_at_call 69; refine (at_calls' _ r HR.out _).mono ?_; rintro e w1 ⟨rfl, hb⟩) | (go_at_call 80; refine (types_calls _ (by omega) _).mono ?_; rintro e w2 ⟨a, c, rfl, hown, hb2⟩))
  go_ret
  exact ⟨a, c, rfl, World.ownsRow.mono hown hb.size, hb.trans (hb2.mono hb.size)⟩
end Go.Proofs.Ytnapbjfmkofhcaa.OpD
