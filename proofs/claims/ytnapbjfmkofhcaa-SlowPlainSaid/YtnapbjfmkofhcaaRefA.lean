/- The reference of layer 3: its tables. -/
import Derived.Test.YtnapbjfmkofhcaaOpD
import Derived.Test.YtnapbjfmkofhcaaBeg
import Derived.Maps.AppendAt
namespace Go.Proofs.Ytnapbjfmkofhcaa.RefA
set_option linter.unusedVariables false
set_option linter.unusedSimpArgs false
open Go.RowKit Wd Sl OpA Beg

theorem tab_get (f : (ByteArray × Int × ByteArray × ByteArray × Int) → Value) (op : Int) (h0 : 1 ≤ op) (h1 : op ≤ 53) : (rows.map f)[op.toNat]? = some (f (opRow op)) := by
  have hl : rows.length = 54 := by decide
  rw [List.getElem?_map, opRow, if_pos ⟨h0, h1⟩, List.getD_eq_getElem?_getD, List.getElem?_eq_getElem (by omega)]; rfl

set_option maxHeartbeats 4000000 in
set_option maxRecDepth 100000 in
theorem name_calls (op : Int) (h0 : 1 ≤ op) (h1 : op ≤ 53) (w : World) : Calls Try.prog 40 #[.int .i64 op] w fun e w' => e = .returned (.string (opRow op).1) ∧ Below w.heap.size w w' := by
  have hT : ([Value.string ⟨#[]⟩, Value.string ⟨#[105, 110, 116]⟩, Value.string ⟨#[99, 111, 110, 115, 116]⟩, Value.string ⟨#[116, 114, 117, 101]⟩, Value.string ⟨#[102, 97, 108, 115, 101]⟩, Value.string ⟨#[100, 114, 111, 112]⟩, Value.string ⟨#[100, 117, 112]⟩, Value.string ⟨#[115, 119, 97, 112]⟩, Value.string ⟨#[111, 118, 101, 114]⟩, Value.string ⟨#[103, 101, 116]⟩, Value.string ⟨#[115, 101, 116]⟩, Value.string ⟨#[97, 100, 100]⟩, Value.string ⟨#[115, 117, 98]⟩, Value.string ⟨#[109, 117, 108]⟩, Value.string ⟨#[100, 105, 118]⟩, Value.string ⟨#[114, 101, 109]⟩, Value.string ⟨#[110, 101, 103]⟩, Value.string ⟨#[97, 110, 100]⟩, Value.string ⟨#[111, 114]⟩, Value.string ⟨#[120, 111, 114]⟩, Value.string ⟨#[105, 110, 118]⟩, Value.string ⟨#[115, 104, 108]⟩, Value.string ⟨#[115, 104, 114]⟩, Value.string ⟨#[101, 113]⟩, Value.string ⟨#[110, 101]⟩, Value.string ⟨#[108, 116]⟩, Value.string ⟨#[108, 101]⟩, Value.string ⟨#[103, 116]⟩, Value.string ⟨#[103, 101]⟩, Value.string ⟨#[98, 111, 116, 104]⟩, Value.string ⟨#[101, 105, 116, 104, 101, 114]⟩, Value.string ⟨#[110, 111, 116]⟩, Value.string ⟨#[108, 101, 110]⟩, Value.string ⟨#[106, 111, 105, 110]⟩, Value.string ⟨#[99, 117, 116]⟩, Value.string ⟨#[97, 116]⟩, Value.string ⟨#[115, 97, 109, 101]⟩, Value.string ⟨#[108, 101, 115, 115]⟩, Value.string ⟨#[112, 97, 99, 107]⟩, Value.string ⟨#[117, 110, 112, 97, 99, 107]⟩, Value.string ⟨#[111, 110, 101]⟩, Value.string ⟨#[108, 111, 97, 100]⟩, Value.string ⟨#[104, 97, 115]⟩, Value.string ⟨#[115, 97, 118, 101]⟩, Value.string ⟨#[119, 105, 112, 101]⟩, Value.string ⟨#[110, 101, 120, 116]⟩, Value.string ⟨#[101, 109, 105, 116]⟩, Value.string ⟨#[97, 98, 111, 114, 116]⟩, Value.string ⟨#[105, 102]⟩, Value.string ⟨#[101, 108, 115, 101]⟩, Value.string ⟨#[101, 110, 100]⟩, Value.string ⟨#[108, 111, 111, 112]⟩, Value.string ⟨#[108, 101, 97, 118, 101]⟩, Value.string ⟨#[99, 97, 108, 108]⟩] : List Value)[op.toNat]? = some (.string (opRow op).1) := tab_get (fun r => .string r.1) op h0 h1
  have t1 : decide (op < 1) = false := decide_eq_false (by omega)
  have t2 : decide (53 < op) = false := decide_eq_false (by omega)
  have t3 : decide (op < 0) = false := decide_eq_false (by omega)
  have t4 : decide (54 ≤ op) = false := decide_eq_false (by omega)
  go_enter Try.func40, Try.ntmps40
  go_wp2_with fail
  go_ret
  exact ⟨rfl, by (repeat (first | with_reducible exact Below.refl _ _ | with_reducible assumption | with_reducible refine Below.drew ?_ | with_reducible refine below_drewN ?_ _ | with_reducible refine Below.alloc ?_ ?_ _ | with_reducible refine Below.setCell ?_ ?_ _ | with_reducible refine below_thn (by with_reducible assumption) ?_ ?_ | (simp only [World.size_alloc, World.size_setCell, World.size_drew, size_drewN]; omega) | omega))⟩

set_option maxHeartbeats 4000000 in
set_option maxRecDepth 100000 in
theorem cost_calls (op : Int) (h0 : 1 ≤ op) (h1 : op ≤ 53) (w : World) : Calls Try.prog 14 #[.int .i64 op] w fun e w' => e = .returned (.int .i64 (opRow op).2.2.2.2) ∧ Below w.heap.size w w' := by
  have hT : ([Value.int .i64 0, Value.int .i64 1, Value.int .i64 1, Value.int .i64 1, Value.int .i64 1, Value.int .i64 1, Value.int .i64 1, Value.int .i64 1, Value.int .i64 1, Value.int .i64 1, Value.int .i64 1, Value.int .i64 1, Value.int .i64 1, Value.int .i64 2, Value.int .i64 4, Value.int .i64 4, Value.int .i64 1, Value.int .i64 1, Value.int .i64 1, Value.int .i64 1, Value.int .i64 1, Value.int .i64 1, Value.int .i64 1, Value.int .i64 1, Value.int .i64 1, Value.int .i64 1, Value.int .i64 1, Value.int .i64 1, Value.int .i64 1, Value.int .i64 1, Value.int .i64 1, Value.int .i64 1, Value.int .i64 1, Value.int .i64 6, Value.int .i64 6, Value.int .i64 2, Value.int .i64 4, Value.int .i64 4, Value.int .i64 3, Value.int .i64 3, Value.int .i64 2, Value.int .i64 20, Value.int .i64 15, Value.int .i64 30, Value.int .i64 25, Value.int .i64 20, Value.int .i64 10, Value.int .i64 1, Value.int .i64 1, Value.int .i64 1, Value.int .i64 1, Value.int .i64 2, Value.int .i64 1, Value.int .i64 5] : List Value)[op.toNat]? = some (.int .i64 (opRow op).2.2.2.2) := tab_get (fun r => .int .i64 r.2.2.2.2) op h0 h1
  have t1 : decide (op < 1) = false := decide_eq_false (by omega)
  have t2 : decide (53 < op) = false := decide_eq_false (by omega)
  have t3 : decide (op < 0) = false := decide_eq_false (by omega)
  have t4 : decide (54 ≤ op) = false := decide_eq_false (by omega)
  go_enter Try.func14, Try.ntmps14
  go_wp2_with fail
  go_ret
  exact ⟨rfl, by (repeat (first | with_reducible exact Below.refl _ _ | with_reducible assumption | with_reducible refine Below.drew ?_ | with_reducible refine below_drewN ?_ _ | with_reducible refine Below.alloc ?_ ?_ _ | with_reducible refine Below.setCell ?_ ?_ _ | with_reducible refine below_thn (by with_reducible assumption) ?_ ?_ | (simp only [World.size_alloc, World.size_setCell, World.size_drew, size_drewN]; omega) | omega))⟩

set_option maxHeartbeats 1000000 in
set_option maxRecDepth 100000 in
theorem list_calls (s : ByteArray) (hs : s.size ≤ 1000000) (w : World) : Calls Try.prog 15 #[.string s] w (Owned 3 1 s.size (flat encI (OpD.typesOf s)) w) := by
  obtain ⟨i0, hi, hz0, hz1, hz2⟩ := info_parts infoI
  have HLEN := Lib.hid (OpD.typesOf_length s)
  go_enter Try.func15, Try.ntmps15
  go_wp2_with fail
  go_loopw [3, 4] (fun v i wr => ∃ k : Nat, k ≤ s.size ∧ i = .int .i64 k ∧ wr.ownsRow w.heap.size 3 1 v k (flat encI ((OpD.typesOf s).take k)) ∧ Below w.heap.size w wr) (fun _ i _ => s.size - (intOf i).toNat)
  case atStart => exact ⟨0, Nat.zero_le _, rfl, World.ownsRow_nil _ _ _ _, Below.refl _ _⟩
  case round =>
    obtain ⟨k, hk, rfl, hown, hB⟩ := hrel
    have hzB := hB.size
    by_cases hlt : k < s.size
    · have hk2 : k < (OpD.typesOf s).length := by rw [HLEN.out]; exact hlt
      have ht := OpD.typesOf_get s k hk2
      have hfl := OpD.flatI_take_succ (OpD.typesOf s) k hk2
      rw [ht] at hfl
      have hel : IntKind.u8.wrap (((s.data.toList.getD k 0).toNat : Int) - 48) = (((s[k]'hlt).toNat : Int) - 48) % 256 := by
        rw [show s.data.toList.getD k 0 = s[k]'hlt from by rw [List.getD_eq_getElem?_getD, Array.getElem?_toList, Array.getElem?_eq_getElem hlt]; rfl]
        rfl
      rw [hel] at hfl
      have HFL := Lib.hid hfl
      clear hel
      have l0 : decide ((k : Int) < 0) = false := decide_eq_false (by omega)
      have l1 : decide ((s.size : Int) ≤ k) = false := decide_eq_false (by omega)
      clear ht hfl
      go_wp2_with (at_builtin; refine wpList_append_own _ rfl _ _ 23 rfl w.heap.size 3 i0 (.int .i64 0) 1 8 Try.underlying23 hi hz0 hz1 hz2 rfl (by decide) _ _ _ rfl (hown.alloc _) ⟨wr.heap.size, 0, none⟩ 1 1 [.int .i64 ((((s[k]'hlt).toNat : Int) - 48) % 256)] rfl rfl ?c1 ?c2 ?c3 ?c4 ?c5 ?_)
      case c1 => exact cell_one_new _ _ _
      case c2 => intro u hu; simp at hu; subst hu; rfl
      case c3 => unfold maxLen; omega
      case c4 => omega
      case c5 => simp; omega
      intro v' w1 hown1 hg1 _
      go_wp2_with fail
      go_roundw
      case rel => exact ⟨k + 1, by omega, by go_num, by rw [HFL.out]; exact hown1, (hB.alloc (by omega) _).grown hg1 (by simp; omega) (fun j hj => (hown.lt j hj).1)⟩
      case measure => simp [intOf]; omega
    · obtain rfl : k = s.size := by omega
      have hT : (OpD.typesOf s).take s.size = OpD.typesOf s := List.take_of_length_le (by rw [HLEN.out]; exact Nat.le_refl _)
      rw [hT] at hown
      clear hT
      go_wp2_with fail
      go_ret
      exact owned_of rfl hown hB

theorem tab_size (op : Int) (f : (ByteArray × Int × ByteArray × ByteArray × Int) → ByteArray) (h : ∀ n : Nat, n < 54 → (f (rows.getD n (⟨#[]⟩, 0, ⟨#[]⟩, ⟨#[]⟩, 0))).size ≤ 3) : (f (opRow op)).size ≤ 1000000 := by
  unfold opRow
  split
  · have := h op.toNat (by omega); omega
  · have h0 := h 0 (by omega)
    have e : rows.getD 0 (⟨#[]⟩, 0, ⟨#[]⟩, ⟨#[]⟩, 0) = (⟨#[]⟩, 0, ⟨#[]⟩, ⟨#[]⟩, 0) := rfl
    rw [e] at h0; omega

set_option maxHeartbeats 4000000 in
set_option maxRecDepth 100000 in
theorem in_calls (op : Int) (h0 : 1 ≤ op) (h1 : op ≤ 53) (w : World) : Calls Try.prog 5 #[.int .i64 op] w (Owned 3 1 (opRow op).2.2.1.size (flat encI (OpD.typesOf (opRow op).2.2.1)) w) := by
  have hT : ([Value.string ⟨#[]⟩, Value.string ⟨#[]⟩, Value.string ⟨#[]⟩, Value.string ⟨#[]⟩, Value.string ⟨#[]⟩, Value.string ⟨#[48]⟩, Value.string ⟨#[48]⟩, Value.string ⟨#[48, 48]⟩, Value.string ⟨#[48, 48]⟩, Value.string ⟨#[]⟩, Value.string ⟨#[48]⟩, Value.string ⟨#[49, 49]⟩, Value.string ⟨#[49, 49]⟩, Value.string ⟨#[49, 49]⟩, Value.string ⟨#[49, 49]⟩, Value.string ⟨#[49, 49]⟩, Value.string ⟨#[49]⟩, Value.string ⟨#[49, 49]⟩, Value.string ⟨#[49, 49]⟩, Value.string ⟨#[49, 49]⟩, Value.string ⟨#[49]⟩, Value.string ⟨#[49, 49]⟩, Value.string ⟨#[49, 49]⟩, Value.string ⟨#[49, 49]⟩, Value.string ⟨#[49, 49]⟩, Value.string ⟨#[49, 49]⟩, Value.string ⟨#[49, 49]⟩, Value.string ⟨#[49, 49]⟩, Value.string ⟨#[49, 49]⟩, Value.string ⟨#[51, 51]⟩, Value.string ⟨#[51, 51]⟩, Value.string ⟨#[51]⟩, Value.string ⟨#[50]⟩, Value.string ⟨#[50, 50]⟩, Value.string ⟨#[50, 49, 49]⟩, Value.string ⟨#[50, 49]⟩, Value.string ⟨#[50, 50]⟩, Value.string ⟨#[50, 50]⟩, Value.string ⟨#[49]⟩, Value.string ⟨#[50]⟩, Value.string ⟨#[49]⟩, Value.string ⟨#[50]⟩, Value.string ⟨#[50]⟩, Value.string ⟨#[50, 50]⟩, Value.string ⟨#[50]⟩, Value.string ⟨#[50]⟩, Value.string ⟨#[50]⟩, Value.string ⟨#[]⟩, Value.string ⟨#[51]⟩, Value.string ⟨#[]⟩, Value.string ⟨#[]⟩, Value.string ⟨#[]⟩, Value.string ⟨#[51]⟩, Value.string ⟨#[]⟩] : List Value)[op.toNat]? = some (.string (opRow op).2.2.1) := tab_get (fun r => .string r.2.2.1) op h0 h1
  have HSZ := Lib.hid (tab_size op (fun r => r.2.2.1) (by decide))
  have t1 : decide (op < 1) = false := decide_eq_false (by omega)
  have t2 : decide (53 < op) = false := decide_eq_false (by omega)
  have t3 : decide (op < 0) = false := decide_eq_false (by omega)
  have t4 : decide (54 ≤ op) = false := decide_eq_false (by omega)
  go_enter Try.func5, Try.ntmps5
  go_wp2_with (go_at_call 15; refine Calls.mono (list_calls _ HSZ.out _) ?_; rintro e w1 ⟨a1, c1, rfl, hown, hb⟩)
  go_ret
  exact ⟨a1, c1, rfl, World.ownsRow.mono hown (by simp), by (repeat (first | with_reducible exact Below.refl _ _ | with_reducible assumption | with_reducible refine Below.drew ?_ | with_reducible refine below_drewN ?_ _ | with_reducible refine bel_set ?_ _ _ | with_reducible refine bel_alloc ?_ _ | with_reducible refine bel_call (by with_reducible assumption) ?_))⟩

set_option maxHeartbeats 4000000 in
set_option maxRecDepth 100000 in
theorem out_calls (op : Int) (h0 : 1 ≤ op) (h1 : op ≤ 53) (w : World) : Calls Try.prog 7 #[.int .i64 op] w (Owned 3 1 (opRow op).2.2.2.1.size (flat encI (OpD.typesOf (opRow op).2.2.2.1)) w) := by
  have hT : ([Value.string ⟨#[]⟩, Value.string ⟨#[49]⟩, Value.string ⟨#[50]⟩, Value.string ⟨#[51]⟩, Value.string ⟨#[51]⟩, Value.string ⟨#[]⟩, Value.string ⟨#[48, 48]⟩, Value.string ⟨#[48, 48]⟩, Value.string ⟨#[48, 48, 48]⟩, Value.string ⟨#[48]⟩, Value.string ⟨#[]⟩, Value.string ⟨#[49]⟩, Value.string ⟨#[49]⟩, Value.string ⟨#[49]⟩, Value.string ⟨#[49]⟩, Value.string ⟨#[49]⟩, Value.string ⟨#[49]⟩, Value.string ⟨#[49]⟩, Value.string ⟨#[49]⟩, Value.string ⟨#[49]⟩, Value.string ⟨#[49]⟩, Value.string ⟨#[49]⟩, Value.string ⟨#[49]⟩, Value.string ⟨#[51]⟩, Value.string ⟨#[51]⟩, Value.string ⟨#[51]⟩, Value.string ⟨#[51]⟩, Value.string ⟨#[51]⟩, Value.string ⟨#[51]⟩, Value.string ⟨#[51]⟩, Value.string ⟨#[51]⟩, Value.string ⟨#[51]⟩, Value.string ⟨#[49]⟩, Value.string ⟨#[50]⟩, Value.string ⟨#[50]⟩, Value.string ⟨#[49]⟩, Value.string ⟨#[51]⟩, Value.string ⟨#[51]⟩, Value.string ⟨#[50]⟩, Value.string ⟨#[49]⟩, Value.string ⟨#[50]⟩, Value.string ⟨#[50, 51]⟩, Value.string ⟨#[51]⟩, Value.string ⟨#[]⟩, Value.string ⟨#[]⟩, Value.string ⟨#[50, 51]⟩, Value.string ⟨#[]⟩, Value.string ⟨#[]⟩, Value.string ⟨#[]⟩, Value.string ⟨#[]⟩, Value.string ⟨#[]⟩, Value.string ⟨#[]⟩, Value.string ⟨#[]⟩, Value.string ⟨#[]⟩] : List Value)[op.toNat]? = some (.string (opRow op).2.2.2.1) := tab_get (fun r => .string r.2.2.2.1) op h0 h1
  have HSZ := Lib.hid (tab_size op (fun r => r.2.2.2.1) (by decide))
  have t1 : decide (op < 1) = false := decide_eq_false (by omega)
  have t2 : decide (53 < op) = false := decide_eq_false (by omega)
  have t3 : decide (op < 0) = false := decide_eq_false (by omega)
  have t4 : decide (54 ≤ op) = false := decide_eq_false (by omega)
  go_enter Try.func7, Try.ntmps7
  go_wp2_with (go_at_call 15; refine Calls.mono (list_calls _ HSZ.out _) ?_; rintro e w1 ⟨a1, c1, rfl, hown, hb⟩)
  go_ret
  exact ⟨a1, c1, rfl, World.ownsRow.mono hown (by simp), by (repeat (first | with_reducible exact Below.refl _ _ | with_reducible assumption | with_reducible refine Below.drew ?_ | with_reducible refine below_drewN ?_ _ | with_reducible refine bel_set ?_ _ _ | with_reducible refine bel_alloc ?_ _ | with_reducible refine bel_call (by with_reducible assumption) ?_))⟩

end Go.Proofs.Ytnapbjfmkofhcaa.RefA
