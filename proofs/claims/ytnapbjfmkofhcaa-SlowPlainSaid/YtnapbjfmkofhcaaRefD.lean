/- The reference of layer 3: packed, unpacked, and the operations on bytes. -/
import Derived.Test.YtnapbjfmkofhcaaRefB
import Derived.Test.YtnapbjfmkofhcaaOpI
import Derived.Test.YtnapbjfmkofhcaaSto
import Derived.Maps.AppendAt
namespace Go.Proofs.Ytnapbjfmkofhcaa.RefD
set_option linter.unusedVariables false
set_option linter.unusedSimpArgs false
open Go.RowKit Wd Sl Beg OpB OpD OpE Sto RefB

theorem be8_get (n : Int) : ∀ k : Nat, k < 8 → ((be8 n).take (k + 1)).map (fun c => Value.int .u8 (c.toNat : Int)) = ((be8 n).take k).map (fun c => Value.int .u8 (c.toNat : Int)) ++ [.int .u8 (IntKind.u64.wrap n / 2 ^ (56 - 8 * k) % 256)]
  | 0, _ => by simp [be8, byteAt_toNat]
  | 1, _ => by simp [be8, byteAt_toNat]
  | 2, _ => by simp [be8, byteAt_toNat]
  | 3, _ => by simp [be8, byteAt_toNat]
  | 4, _ => by simp [be8, byteAt_toNat]
  | 5, _ => by simp [be8, byteAt_toNat]
  | 6, _ => by simp [be8, byteAt_toNat]
  | 7, _ => by simp [be8, byteAt_toNat]
  | k + 8, h => absurd h (by omega)

set_option maxHeartbeats 1000000 in
set_option maxRecDepth 100000 in
theorem packed_calls (n : Int) (w : World) : Calls Try.prog 66 #[.int .i64 n] w fun e w' => e = .returned (.string ⟨(be8 n).toArray⟩) ∧ Below w.heap.size w w' := by
  obtain ⟨i0, hi, hz0, hz1, hz2⟩ := info_parts infoB
  go_enter Try.func66, Try.ntmps66
  go_wp2_with fail
  go_loopw [3, 4] (fun v i wr => ∃ k : Nat, k ≤ 8 ∧ i = .int .i64 (56 - 8 * (k : Int)) ∧ wr.ownsRow w.heap.size 5 1 v k (((be8 n).take k).map fun c => .int .u8 c.toNat) ∧ Below w.heap.size w wr) (fun _ i _ => (intOf i + 8).toNat)
  case atStart => exact ⟨0, Nat.zero_le _, rfl, World.ownsRow_nil _ _ _ _, Below.refl _ _⟩
  case round =>
    obtain ⟨k, hk, rfl, hown, hB⟩ := hrel
    have hzB := hB.size
    by_cases hlt : k < 8
    · have t1 : decide ((0 : Int) ≤ 56 - 8 * (k : Int)) = true := decide_eq_true (by omega)
      have HFL := Lib.hid (be8_get n k hlt)
      go_wp2_with (at_builtin; refine wpList_append_own _ rfl _ _ 75 rfl w.heap.size 5 i0 (.int .u8 0) 1 1 Try.underlying75 hi hz0 hz1 hz2 rfl (by decide) _ _ _ rfl (hown.alloc _) ⟨wr.heap.size, 0, none⟩ 1 1 [.int .u8 (IntKind.u64.wrap n / 2 ^ (56 - 8 * k) % 256)] rfl rfl ?c1 ?c2 ?c3 ?c4 ?c5 ?_)
      case c1 => exact cell_one_new _ _ _
      case c2 => intro u hu; simp at hu; subst hu; rfl
      case c3 => unfold maxLen; omega
      case c4 => omega
      case c5 => simp; omega
      intro v' w1 hown1 hg1 _
      go_wp2_with fail
      go_roundw
      case rel => exact ⟨k + 1, by omega, by go_num, by rw [HFL.out, List.map_take]; exact hown1, (hB.alloc (by omega) _).grown hg1 (by simp; omega) (fun j hj => (hown.lt j hj).1)⟩
      case measure => simp [intOf]; omega
    · obtain rfl : k = 8 := by omega
      have t1 : decide ((0 : Int) ≤ 56 - 8 * ((8 : Nat) : Int)) = false := by decide
      obtain ⟨av, cv, rfl, hcv, hat, hbv⟩ := own_at hown
      have ha : ∃ b o, av = some ⟨b, o, none⟩ ∧ ∀ j v, ((be8 n).map fun c => Value.int .u8 (c.toNat : Int))[j]? = some v → wr.cell? ⟨b, o + j, none⟩ = some v := by
        rcases hat with h | h
        · simp [be8] at h
        · exact h
      obtain ⟨b, o, rfl, hcells⟩ := ha
      have hconv : (convert 75 9 (.slice (some ⟨b, o, none⟩) 8 cv)).run Try.prog wr = .ok (.string ⟨(be8 n).toArray⟩) wr := by
        refine run_convert_bytes_back _ 75 9 5 ⟨b, o, none⟩ cv (be8 n) Try.underlying75 Try.underlying5 Try.underlying9 (fun j hj => ?_)
        have ha : (⟨b, o, none⟩ : Addr).add j = ⟨b, o + j, none⟩ := by unfold Addr.add; split <;> simp_all
        rw [ha]
        exact hcells j _ (by rw [List.getElem?_map, List.getElem?_eq_getElem hj]; rfl)
      clear hcells hat hown
      go_wp2_with fail
      go_ret
      exact ⟨rfl, by (repeat (first | with_reducible exact Below.refl _ _ | with_reducible assumption | with_reducible refine Below.drew ?_ | with_reducible refine below_drewN ?_ _ | with_reducible refine bel_set ?_ _ _ | with_reducible refine bel_alloc ?_ _ | with_reducible refine bel_call (by with_reducible assumption) ?_))⟩

/-- Bytes as an unsigned number. -/
def unpackU (l : List UInt8) : Int := l.foldl (fun n c => Go.bits .or .u64 (IntKind.u64.wrap (n * 256)) (IntKind.u64.wrap (c.toNat : Int))) 0
theorem unpackU_succ (s : ByteArray) (k : Nat) (h : k < s.size) : unpackU (s.data.toList.take (k + 1)) = Go.bits .or .u64 (IntKind.u64.wrap (unpackU (s.data.toList.take k) * 256)) (IntKind.u64.wrap ((s[k]'h).toNat : Int)) := by
  unfold unpackU
  rw [List.take_succ_eq_append_getElem (by rw [Array.length_toList]; exact h), List.foldl_append]
  rfl
set_option maxHeartbeats 1000000 in
set_option maxRecDepth 100000 in
theorem unpacked_calls (s : ByteArray) (w : World) : Calls Try.prog 67 #[.string s] w fun e w' => e = .returned (.tuple #[.agg #[.int .i64 (if 8 < s.size then 0 else 1), .int .i64 (if 8 < s.size then 0 else wrap64 (unpackU s.data.toList)), .string ⟨#[]⟩], .int .i64 (if 8 < s.size then 41 else 0)]) ∧ Below w.heap.size w w' := by
  by_cases h8 : 8 < s.size
  · have t1 : decide ((8 : Int) < s.size) = true := decide_eq_true (by omega)
    rw [if_pos h8, if_pos h8, if_pos h8]
    go_enter Try.func67, Try.ntmps67
    go_wp2_with fail
    exact bodyPost_ret (v := .tuple #[.agg #[.int .i64 0, .int .i64 0, .string ⟨#[]⟩], .int .i64 41]) (by simp [results, Try.results67, go_sem]) rfl ⟨rfl, by (repeat (first | with_reducible exact Below.refl _ _ | with_reducible assumption | with_reducible refine Below.drew ?_ | with_reducible refine below_drewN ?_ _ | with_reducible refine bel_set ?_ _ _ | with_reducible refine bel_alloc ?_ _ | with_reducible refine bel_call (by with_reducible assumption) ?_))⟩
  · have t1 : decide ((8 : Int) < s.size) = false := decide_eq_false (by omega)
    rw [if_neg h8, if_neg h8, if_neg h8]
    go_enter Try.func67, Try.ntmps67
    go_wp2_with fail
    go_loopw [4, 5] (fun v i wr => ∃ k : Nat, k ≤ s.size ∧ i = .int .i64 k ∧ v = .int .u64 (unpackU (s.data.toList.take k)) ∧ Below w.heap.size w wr ∧ Blk wr w.heap.size #[.int .i64 0, .int .i64 0, .string ⟨#[]⟩] 33) (fun _ i _ => s.size - (intOf i).toNat)
    case atStart => exact ⟨0, Nat.zero_le _, rfl, rfl, by (repeat (first | with_reducible exact Below.refl _ _ | with_reducible assumption | with_reducible refine Below.drew ?_ | with_reducible refine below_drewN ?_ _ | with_reducible refine bel_set ?_ _ _ | with_reducible refine bel_alloc ?_ _ | with_reducible refine bel_call (by with_reducible assumption) ?_)), blk_new _ _⟩
    case round =>
      obtain ⟨k, hk, rfl, rfl, hB, hP⟩ := hrel
      have hzB := hB.size
      by_cases hlt : k < s.size
      · have l0 : decide ((k : Int) < 0) = false := decide_eq_false (by omega)
        have l1 : decide ((s.size : Int) ≤ k) = false := decide_eq_false (by omega)
        have HP := Lib.hid hP
        clear hP
        generalize hu : unpackU (s.data.toList.take k) = u
        have HU := Lib.hid hu
        clear hu
        go_wp2_with fail
        go_roundw
        case rel => exact ⟨k + 1, by omega, by go_num, by rw [unpackU_succ s k hlt, HU.out], hB, HP.out⟩
        case measure => simp [intOf]; omega
      · obtain rfl : k = s.size := by omega
        have hP0 := blk_cell hP 0
        have hP1 := blk_cell hP 1
        have hP2 := blk_cell hP 2
        have f0 := blk_frozen hP 0
        have f1 := blk_frozen hP 1
        have f2 := blk_frozen hP 2
        have HP := Lib.hid hP
        clear hP
        have hT : s.data.toList.take s.size = s.data.toList := List.take_of_length_le (by rw [Array.length_toList]; exact Nat.le_refl _)
        rw [hT]
        clear hT
        go_wp2_with fail
        have RB := blk_set (blk_set (blk_set HP.out 0 (.int .i64 1)) 1 (.int .i64 (wrap64 (unpackU s.data.toList)))) 2 (.string ⟨#[]⟩)
        exact bodyPost_ret (v := .tuple #[.agg #[.int .i64 1, .int .i64 (wrap64 (unpackU s.data.toList)), .string ⟨#[]⟩], .int .i64 0]) (by have w0 := blk_cell RB 0; have w1 := blk_cell RB 1; have w2 := blk_cell RB 2; simp at w0 w1 w2; simp [results, Try.results67, go_sem, w0, w1, w2]) rfl ⟨rfl, ((hB.setCell (p := ⟨w.heap.size, 0, none⟩) (Nat.le_refl _) _).setCell (p := ⟨w.heap.size, 1, none⟩) (Nat.le_refl _) _).setCell (p := ⟨w.heap.size, 2, none⟩) (Nat.le_refl _) _⟩
end Go.Proofs.Ytnapbjfmkofhcaa.RefD
