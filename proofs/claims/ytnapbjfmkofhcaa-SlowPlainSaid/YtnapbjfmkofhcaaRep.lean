/- bits.Mul of one, slices.Repeat of one element: contracts. -/
import Derived.Test.YtnapbjfmkofhcaaSl
import Derived.Laws.CopyOwn
import Derived.Laws.OwnMore
import Derived.Deep.RegionLaw
namespace Go.Proofs.Ytnapbjfmkofhcaa.Rep
set_option linter.unusedVariables false
set_option linter.unusedSimpArgs false
open Go.RowKit Wd Sl

theorem and_n : ∀ n : Nat, n < 1025 → bits .and .u64 (n : Int) 4294967295 = (n : Int) := by decide +kernel
theorem wrap_n : ∀ n : Nat, n < 1025 → IntKind.u64.wrap (n : Int) = (n : Int) := by decide +kernel

set_option maxRecDepth 100000 in
set_option maxHeartbeats 1000000 in
theorem mul64_calls (n : Nat) (h : n ≤ 1024) (w : World) : Calls Try.prog 84 #[.int .u64 1, .int .u64 n] w fun e w' => e = .returned (.tuple #[.int .u64 0, .int .u64 n]) ∧ Below w.heap.size w w' := by
  have h1 := and_n n (by omega)
  have h2 := wrap_n n (by omega)
  have h3 : (n : Int) / 4294967296 = 0 := by omega
  have h4 : bits .and .u64 1 4294967295 = 1 := by decide +kernel
  have h5 : bits .and .u64 0 4294967295 = 0 := by decide +kernel
  go_enter Try.func84, Try.ntmps84
  go_wp2_with fail
  go_ret2
  exact ⟨by simp [h1, h2, h3, h4, h5], by (repeat (first | with_reducible exact Below.refl _ _ | with_reducible assumption | with_reducible refine Below.drew ?_ | with_reducible refine below_drewN ?_ _ | with_reducible refine Below.alloc ?_ ?_ _ | with_reducible refine Below.setCell ?_ ?_ _ | with_reducible refine below_thn (by with_reducible assumption) ?_ ?_ | (simp only [World.size_alloc, World.size_setCell, World.size_drew, size_drewN]; omega) | omega))⟩
set_option maxRecDepth 100000 in
set_option maxHeartbeats 1000000 in
theorem mul_calls (n : Nat) (h : n ≤ 1024) (w : World) : Calls Try.prog 70 #[.int .u64 1, .int .u64 n] w fun e w' => e = .returned (.tuple #[.int .u64 0, .int .u64 n]) ∧ Below w.heap.size w w' := by
  have h2 := wrap_n n (by omega)
  go_enter Try.func70, Try.ntmps70
  go_wp2_with (go_at_call 84; refine (mul64_calls n h _).mono ?_; rintro e w1 ⟨rfl, hb⟩)
  go_ret2
  exact ⟨by simp [h2], by (repeat (first | with_reducible exact Below.refl _ _ | with_reducible assumption | with_reducible refine Below.drew ?_ | with_reducible refine below_drewN ?_ _ | with_reducible refine Below.alloc ?_ ?_ _ | with_reducible refine Below.setCell ?_ ?_ _ | with_reducible refine below_thn (by with_reducible assumption) ?_ ?_ | (simp only [World.size_alloc, World.size_setCell, World.size_drew, size_drewN]; omega) | omega))⟩

/-- A row of n cells, the first k of them filled. -/
def rowK (x : Int) (n k : Nat) : List Value := List.replicate k (.int .i64 x) ++ List.replicate (n - k) (.int .i64 0)
theorem rowK_zero (x : Int) (n : Nat) : rowK x n 0 = List.replicate n (.int .i64 0) := by simp [rowK]
theorem rowK_length (x : Int) (n k : Nat) (h : k ≤ n) : (rowK x n k).length = n := by simp [rowK]; omega
theorem rowK_full (x : Int) (n : Nat) : rowK x n n = flat encI (List.replicate n x) := by
  have : ∀ m, flat encI (List.replicate m x) = List.replicate m (.int .i64 x) := by
    intro m; induction m with
    | zero => rfl
    | succ m ih => rw [List.replicate_succ, List.replicate_succ, ← ih]; rfl
  rw [this]; simp [rowK]
theorem rowK_splice (x : Int) (n k m : Nat) (h : k + m ≤ n) : splice (rowK x n k) k (List.replicate m (.int .i64 x)) = rowK x n (k + m) := by
  unfold splice rowK
  rw [List.take_append_of_le_length (by simp), List.take_of_length_le (by simp), List.length_replicate, List.drop_append, List.drop_eq_nil_of_le (by simp), List.nil_append, List.length_replicate, List.drop_replicate, ← List.append_assoc, List.replicate_append_replicate]
  congr 2
  omega
theorem rowK_get (x : Int) (n k j : Nat) (h : j < k) : (rowK x n k)[j]? = some (.int .i64 x) := by
  unfold rowK
  rw [List.getElem?_append_left (by simpa using h)]
  simp [h]

set_option maxRecDepth 100000 in
set_option maxHeartbeats 400000 in
theorem repeat_calls (a : Option Addr) (c : Nat) (x : Int) (n : Nat) (h : n ≤ 1024) (w : World) (hx : Rd encI 1 w a [x]) :
    Calls Try.prog 52 #[.slice a 1 c, .int .i64 n] w (Owned 3 1 n (flat encI (List.replicate n x)) w) := by
  have h2 := wrap_n n (by omega)
  have h3 : IntKind.u64.wrap (1 : Int) = 1 := by decide +kernel
  have h4 : decide ((n : Int) < 0) = false := decide_eq_false (by omega)
  obtain ⟨i0, hi0, hz0, hz1, hz2⟩ := info_parts infoI
  have hmk : ∀ w : World, (Instr.makeSlice 23 (.int .i64 (n : Int)) (.int .i64 (n : Int))).run Try.prog w = .ok (.slice (some ⟨w.heap.size, 0, none⟩) n n) (w.alloc (.cells (rowK x n 0).toArray 3)) := by
    intro w
    have hm := run_make (P := Try.prog) w 23 3 i0 _ Try.underlying23 hi0 hz0 .i64 .i64 n n (by omega) (Int.le_refl _) (by rw [hz2]; omega) (by omega)
    rw [hm, hz1, rowK_zero]
    simp only [Int.toNat_natCast, Nat.mul_one]
    rw [show madeCells (Value.cells (.int .i64 0)) n = (List.replicate n (Value.int .i64 0)).toArray from by rw [← toList_madeCells_one]; rfl]
  obtain ⟨b, o, rfl, hc⟩ := hx.ints (by simp)
  have hc0 : w.cell? ⟨b, o, none⟩ = some (.int .i64 x) := by simpa using hc 0 (by simp)
  have hblt := cell_lt hc0
  have hsz : (Try.prog.info? 3).map (·.size) = some 1 := by rw [hi0]; simp [hz1]
  have HC := Lib.hid hc0
  have HSZ := Lib.hid hsz
  clear hc hc0 hx hsz hi0 hz0 hz1 hz2
  obtain ⟨m0, hm0⟩ : ∃ m, m = min 1 n := ⟨_, rfl⟩
  have HM := Lib.hid (show m0 = Nat.min 1 n from hm0)
  have hm1 : m0 ≤ 1 ∧ m0 ≤ n ∧ (n = 0 ∨ m0 = 1) := by omega
  clear hm0
  go_enter Try.func52, Try.ntmps52
  go_wp2_with (first | (go_at_call 70; refine (mul_calls n h _).mono ?_; rintro e w1 ⟨rfl, hb⟩) | ((with_reducible show wpList _ _ _ _ _ _); refine wpList_copy_splice (o := ⟨some 33, _, _, _, _, _⟩) rfl (.tmp 31) (.tmp 32) 23 23 rfl 3 Try.underlying23 HSZ.out _ _ _ _ _ _ rfl rfl w1.heap.size 0 (rowK x n 0) 3 (blk_new w1 _) (List.replicate m0 (.int .i64 x)) ?cn ?cpos ?cfit ?cone w.heap.size w ?cb ?cB ?_))
  case cn => rw [List.length_replicate]; exact HM.out
  case cpos =>
    intro _ j v hj
    have hj1 : j < m0 := by simpa using (List.getElem?_eq_some_iff.1 hj).1
    obtain rfl : j = 0 := by omega
    have hv : v = .int .i64 x := by
      obtain ⟨_, hv⟩ := List.getElem?_eq_some_iff.1 hj
      rw [← hv]; simp
    subst hv
    have hbb := (hb.cell (p := ⟨b, o, none⟩) hblt).trans HC.out
    rw [Nat.add_zero, World.cell?_alloc_past _ _ _ (cell_lt hbb)]
    exact hbb
  case cfit => rw [rowK_length _ _ _ (Nat.zero_le _), List.length_replicate]; omega
  case cone => intro v hv; rw [List.eq_of_mem_replicate hv]; rfl
  case cb => exact hb.alloc hb.size _
  case cB => exact hb.size
  intro w2 HG2 hb2
  rw [show splice (rowK x n 0) 0 (List.replicate m0 (.int .i64 x)) = rowK x n m0 from by rw [rowK_splice _ _ _ _ (by omega), Nat.zero_add]] at HG2
  have hg0 := hb.size
  generalize w1.heap.size = g at HG2 hg0
  go_wp2_with fail
  go_loopw [8] (fun i wr => ∃ k : Nat, k ≤ n ∧ (n = 0 ∨ 1 ≤ k) ∧ i = .int .i64 k ∧ RowKit.Hid (wr.heap[g]? = some (.cells (rowK x n k).toArray 3 (0, 0))) ∧ Below w.heap.size w wr) (fun i _ => n - (intOf i).toNat)
  case atStart => exact ⟨m0, by omega, by omega, rfl, HG2, hb2⟩
  case round =>
    obtain ⟨k, hk, hk1, rfl, HG, hB⟩ := hrel
    by_cases hlt : k < n
    · obtain ⟨m, hm⟩ : ∃ m, m = min k (n - k) := ⟨_, rfl⟩
      have HM2 := Lib.hid (show m = Nat.min k (n - k) from hm)
      have hmle : 1 ≤ m ∧ k + m ≤ n ∧ m ≤ k := by omega
      clear hm
      have hle1 : k ≤ n := hk
      have hnk : ¬ n = k := by omega
      have HGD : RowKit.Hid (wr.drew.heap[g]? = some (.cells (rowK x n k).toArray 3 (0, 0))) := HG
      have hBd : Below w.heap.size w wr.drew := hB.drew
      have hone : ∀ v ∈ List.replicate m (Value.int .i64 x), v.oneCell' = true := fun v hv => by rw [List.eq_of_mem_replicate hv]; rfl
      have HONE := Lib.hid hone
      have hfit : k + (List.replicate m (Value.int .i64 x)).length ≤ (rowK x n k).length := by rw [rowK_length _ _ _ hk, List.length_replicate]; omega
      have HFIT := Lib.hid hfit
      have hsrc : ∀ j v, (List.replicate m (Value.int .i64 x))[j]? = some v → wr.drew.cell? ⟨g, j, none⟩ = some v := by
        intro j v hj
        have hj1 : j < m := by simpa using (List.getElem?_eq_some_iff.1 hj).1
        have hv : v = .int .i64 x := by
          obtain ⟨_, hv⟩ := List.getElem?_eq_some_iff.1 hj
          rw [← hv]; simp
        rw [blk_cell HGD.out, hv, List.getElem?_toArray, rowK_get _ _ _ _ (by omega)]
      have HSRC := Lib.hid hsrc
      have hspl : splice (rowK x n k) k (List.replicate m (.int .i64 x)) = rowK x n (k + m) := rowK_splice _ _ _ _ hmle.2.1
      have HSPL := Lib.hid hspl
      have add0 : ∀ j : Nat, (⟨g, 0, none⟩ : Addr).add j = ⟨g, j, none⟩ := by intro j; unfold Addr.add; split <;> simp_all
      clear hone hfit hsrc hspl
      go_wp2_with fail
      go_region_law (refine step_copy_splice rfl (.tmp 41) (.tmp 44) 23 23 rfl 3 Try.underlying23 HSZ.out (some ⟨g, k, none⟩) (some ⟨g, 0, none⟩) (n - k) (n - k) k n (by simp [go_sem]) (by simp [go_sem]) g k (rowK x n k) 3 HGD.out (List.replicate m (.int .i64 x)) (by rw [List.length_replicate]; exact HM2.out) (fun _ => ⟨rfl, _, rfl, fun j v hj => by rw [add0]; exact HSRC.out j v hj⟩) HFIT.out HONE.out w.heap.size w hBd hg0 ?_; intro w4 hg4 hb4)
      rw [HSPL.out] at hg4
      have hsum : IntKind.i64.wrap ((k : Int) + m) = ((k + m : Nat) : Int) := by rw [IntKind.wrap_i64]; omega
      have HSUM := Lib.hid hsum
      clear hsum
      simp [go_sem, HSUM.out]
      go_roundw
      case rel => exact ⟨.int .i64 ((k : Int) + m), _, _, _, _, _, _, _, _, _, _, _, _, _, ⟨k + m, by omega, by omega, by simp, hg4, hb4⟩, rfl⟩
      case measure => simp [intOf]; omega
    · obtain rfl : k = n := by omega
      go_wp2_with fail
      go_ret
      refine ⟨_, _, rfl, ⟨by rw [flat_length encI_len, List.length_replicate, Nat.mul_one], .inr ⟨g, k, _, rfl, hg0, HG, Nat.le_refl _, by unfold maxLen; omega, by rw [List.size_toArray, rowK_length _ _ _ (Nat.le_refl _), Nat.mul_one], by rw [← rowK_full, Nat.mul_one]; exact List.take_of_length_le (Nat.le_of_eq (rowK_length _ _ _ (Nat.le_refl _)))⟩⟩, hB⟩
end Go.Proofs.Ytnapbjfmkofhcaa.Rep
