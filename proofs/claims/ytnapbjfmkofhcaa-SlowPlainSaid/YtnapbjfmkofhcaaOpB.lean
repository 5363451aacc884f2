/- op.Name, Takes, Cost, Plain, number, holds: contracts. -/
import Derived.Test.YtnapbjfmkofhcaaOpA
import Derived.Test.YtnapbjfmkofhcaaVal
namespace Go.Proofs.Ytnapbjfmkofhcaa.OpB
set_option linter.unusedVariables false
set_option linter.unusedSimpArgs false
open Go.RowKit Wd OpA Val

theorem field_row0 (a i o : ByteArray) (t c : Int) (w : World) : (Instr.field 126 (.agg #[.string a, .int .i64 t, .string i, .string o, .int .i64 c]) 0).run Try.prog w = .ok (.string a) w := by kernel_rfl
theorem field_row1 (a i o : ByteArray) (t c : Int) (w : World) : (Instr.field 126 (.agg #[.string a, .int .i64 t, .string i, .string o, .int .i64 c]) 1).run Try.prog w = .ok (.int .i64 t) w := by kernel_rfl
theorem field_row2 (a i o : ByteArray) (t c : Int) (w : World) : (Instr.field 126 (.agg #[.string a, .int .i64 t, .string i, .string o, .int .i64 c]) 2).run Try.prog w = .ok (.string i) w := by kernel_rfl
theorem field_row3 (a i o : ByteArray) (t c : Int) (w : World) : (Instr.field 126 (.agg #[.string a, .int .i64 t, .string i, .string o, .int .i64 c]) 3).run Try.prog w = .ok (.string o) w := by kernel_rfl
theorem field_row4 (a i o : ByteArray) (t c : Int) (w : World) : (Instr.field 126 (.agg #[.string a, .int .i64 t, .string i, .string o, .int .i64 c]) 4).run Try.prog w = .ok (.int .i64 c) w := by kernel_rfl

set_option maxRecDepth 100000 in
theorem name_calls (op : Int) (w : World) : Calls Try.prog 51 #[.int .i64 op] w fun e w' => e = .returned (.string (opRow op).1) ∧ Below w.heap.size w w' := by
  generalize hr : opRow op = r
  have HR := Lib.hid hr
  clear hr
  have hfl : ∀ w, (Instr.field 126 (.agg #[.string r.1, .int .i64 r.2.1, .string r.2.2.1, .string r.2.2.2.1, .int .i64 r.2.2.2.2]) 0).run Try.prog w = .ok (.string r.1) w := fun w => field_row0 _ _ _ _ _ w
  go_enter Try.func51, Try.ntmps51
  go_wp2_with (go_at_call 69; refine (at_calls' _ r HR.out _).mono ?_; rintro e w1 ⟨rfl, hb⟩)
  go_ret
  exact ⟨rfl, hb⟩

set_option maxRecDepth 100000 in
theorem takes_calls (op : Int) (w : World) : Calls Try.prog 50 #[.int .i64 op] w fun e w' => e = .returned (.int .i64 (opRow op).2.1) ∧ Below w.heap.size w w' := by
  generalize hr : opRow op = r
  have HR := Lib.hid hr
  clear hr
  have hfl : ∀ w, (Instr.field 126 (.agg #[.string r.1, .int .i64 r.2.1, .string r.2.2.1, .string r.2.2.2.1, .int .i64 r.2.2.2.2]) 1).run Try.prog w = .ok (.int .i64 r.2.1) w := fun w => field_row1 _ _ _ _ _ w
  go_enter Try.func50, Try.ntmps50
  go_wp2_with (go_at_call 69; refine (at_calls' _ r HR.out _).mono ?_; rintro e w1 ⟨rfl, hb⟩)
  go_ret
  exact ⟨rfl, hb⟩

set_option maxRecDepth 100000 in
theorem cost_calls (op : Int) (w : World) : Calls Try.prog 58 #[.int .i64 op] w fun e w' => e = .returned (.int .i64 (opRow op).2.2.2.2) ∧ Below w.heap.size w w' := by
  generalize hr : opRow op = r
  have HR := Lib.hid hr
  clear hr
  have hfl : ∀ w, (Instr.field 126 (.agg #[.string r.1, .int .i64 r.2.1, .string r.2.2.1, .string r.2.2.2.1, .int .i64 r.2.2.2.2]) 4).run Try.prog w = .ok (.int .i64 r.2.2.2.2) w := fun w => field_row4 _ _ _ _ _ w
  go_enter Try.func58, Try.ntmps58
  go_wp2_with (go_at_call 69; refine (at_calls' _ r HR.out _).mono ?_; rintro e w1 ⟨rfl, hb⟩)
  go_ret
  exact ⟨rfl, hb⟩

def plainB (op : Int) : Bool := op == 3 || op == 4 || (decide (11 ≤ op) && decide (op ≤ 40))
theorem plain_calls (op : Int) (w : World) : Calls Try.prog 89 #[.int .i64 op] w fun e w' => e = .returned (.bool (plainB op)) ∧ Below w.heap.size w w' := by
  cases h3 : (op == 3) <;> cases h4 : (op == 4) <;> by_cases h5 : 11 ≤ op
  all_goals
    go_enter Try.func89, Try.ntmps89
    go_wp2_with fail
    all_goals (go_ret; exact ⟨by simp [plainB, *]; try omega, by (repeat (first | with_reducible exact Below.refl _ _ | with_reducible assumption | with_reducible refine Below.drew ?_ | with_reducible refine below_drewN ?_ _ | with_reducible refine Below.alloc ?_ ?_ _ | with_reducible refine Below.setCell ?_ ?_ _ | with_reducible refine below_thn (by with_reducible assumption) ?_ ?_ | (simp only [World.size_alloc, World.size_setCell, World.size_drew, size_drewN]; omega) | omega))⟩)

theorem i64_and63 (n : Int) : bits .and .i64 n 63 = n % 64 := by
  have h63 : (BitVec.ofInt 64 63).toNat = 2 ^ 6 - 1 := by decide
  have key : (BitVec.ofInt 64 n &&& BitVec.ofInt 64 63).toNat = (n % ((2 ^ 64 : Nat) : Int)).toNat % 2 ^ 6 := by
    rw [BitVec.toNat_and, BitVec.toNat_ofInt, h63, Nat.and_two_pow_sub_one_eq_mod]
  show IntKind.i64.wrap ((BitVec.ofInt 64 n &&& BitVec.ofInt 64 63).toNat : Nat) = n % 64
  rw [key, IntKind.wrap_i64]
  omega

set_option maxHeartbeats 1000000 in
set_option maxRecDepth 100000 in
theorem number_calls11 (a b : Int) (w : World) : Calls Try.prog 90 #[.int .i64 11, .int .i64 a, .int .i64 b] w fun e w' => e = .returned (.tuple #[.agg #[.int .i64 1, .int .i64 (wrap64 (a + b)), .string ⟨#[]⟩], .int .i64 0]) ∧ Below w.heap.size w w' := by
  go_enter Try.func90, Try.ntmps90
  go_wp2_with (go_at_call 72; refine (number_calls _ _).mono ?_; rintro e w1 ⟨rfl, hb⟩; obtain ⟨hc, hf, hz⟩ := bcell hb; (try simp only [World.size_alloc, World.size_drew, World.size_setCell] at hc hf hz))
  exact bodyPost_ret (v := .tuple #[.agg #[.int .i64 1, .int .i64 (wrap64 (a + b)), .string ⟨#[]⟩], .int .i64 0]) (by simp [results, Try.results90, go_sem, *]) rfl ⟨rfl, by (repeat (first | with_reducible exact Below.refl _ _ | with_reducible assumption | with_reducible refine Below.drew ?_ | with_reducible refine below_drewN ?_ _ | with_reducible refine Below.alloc ?_ ?_ _ | with_reducible refine Below.setCell ?_ ?_ _ | with_reducible refine below_thn (by with_reducible assumption) ?_ ?_ | (simp only [World.size_alloc, World.size_setCell, World.size_drew, size_drewN]; omega) | omega))⟩

set_option maxHeartbeats 1000000 in
set_option maxRecDepth 100000 in
theorem number_calls12 (a b : Int) (w : World) : Calls Try.prog 90 #[.int .i64 12, .int .i64 a, .int .i64 b] w fun e w' => e = .returned (.tuple #[.agg #[.int .i64 1, .int .i64 (wrap64 (a + wrap64 (-b))), .string ⟨#[]⟩], .int .i64 0]) ∧ Below w.heap.size w w' := by
  go_enter Try.func90, Try.ntmps90
  go_wp2_with (go_at_call 72; refine (number_calls _ _).mono ?_; rintro e w1 ⟨rfl, hb⟩; obtain ⟨hc, hf, hz⟩ := bcell hb; (try simp only [World.size_alloc, World.size_drew, World.size_setCell] at hc hf hz))
  exact bodyPost_ret (v := .tuple #[.agg #[.int .i64 1, .int .i64 (wrap64 (a + wrap64 (-b))), .string ⟨#[]⟩], .int .i64 0]) (by simp [results, Try.results90, go_sem, *]) rfl ⟨rfl, by (repeat (first | with_reducible exact Below.refl _ _ | with_reducible assumption | with_reducible refine Below.drew ?_ | with_reducible refine below_drewN ?_ _ | with_reducible refine Below.alloc ?_ ?_ _ | with_reducible refine Below.setCell ?_ ?_ _ | with_reducible refine below_thn (by with_reducible assumption) ?_ ?_ | (simp only [World.size_alloc, World.size_setCell, World.size_drew, size_drewN]; omega) | omega))⟩

set_option maxHeartbeats 1000000 in
set_option maxRecDepth 100000 in
theorem number_calls13 (a b : Int) (w : World) : Calls Try.prog 90 #[.int .i64 13, .int .i64 a, .int .i64 b] w fun e w' => e = .returned (.tuple #[.agg #[.int .i64 1, .int .i64 (wrap64 (a * b)), .string ⟨#[]⟩], .int .i64 0]) ∧ Below w.heap.size w w' := by
  go_enter Try.func90, Try.ntmps90
  go_wp2_with (go_at_call 72; refine (number_calls _ _).mono ?_; rintro e w1 ⟨rfl, hb⟩; obtain ⟨hc, hf, hz⟩ := bcell hb; (try simp only [World.size_alloc, World.size_drew, World.size_setCell] at hc hf hz))
  exact bodyPost_ret (v := .tuple #[.agg #[.int .i64 1, .int .i64 (wrap64 (a * b)), .string ⟨#[]⟩], .int .i64 0]) (by simp [results, Try.results90, go_sem, *]) rfl ⟨rfl, by (repeat (first | with_reducible exact Below.refl _ _ | with_reducible assumption | with_reducible refine Below.drew ?_ | with_reducible refine below_drewN ?_ _ | with_reducible refine Below.alloc ?_ ?_ _ | with_reducible refine Below.setCell ?_ ?_ _ | with_reducible refine below_thn (by with_reducible assumption) ?_ ?_ | (simp only [World.size_alloc, World.size_setCell, World.size_drew, size_drewN]; omega) | omega))⟩

set_option maxHeartbeats 1000000 in
set_option maxRecDepth 100000 in
theorem number_calls14 (a b : Int) (hb0 : ¬ b = 0) (w : World) : Calls Try.prog 90 #[.int .i64 14, .int .i64 a, .int .i64 b] w fun e w' => e = .returned (.tuple #[.agg #[.int .i64 1, .int .i64 (wrap64 (a.tdiv b)), .string ⟨#[]⟩], .int .i64 0]) ∧ Below w.heap.size w w' := by
  go_enter Try.func90, Try.ntmps90
  go_wp2_with (go_at_call 72; refine (number_calls _ _).mono ?_; rintro e w1 ⟨rfl, hb⟩; obtain ⟨hc, hf, hz⟩ := bcell hb; (try simp only [World.size_alloc, World.size_drew, World.size_setCell] at hc hf hz))
  exact bodyPost_ret (v := .tuple #[.agg #[.int .i64 1, .int .i64 (wrap64 (a.tdiv b)), .string ⟨#[]⟩], .int .i64 0]) (by simp [results, Try.results90, go_sem, *]) rfl ⟨rfl, by (repeat (first | with_reducible exact Below.refl _ _ | with_reducible assumption | with_reducible refine Below.drew ?_ | with_reducible refine below_drewN ?_ _ | with_reducible refine Below.alloc ?_ ?_ _ | with_reducible refine Below.setCell ?_ ?_ _ | with_reducible refine below_thn (by with_reducible assumption) ?_ ?_ | (simp only [World.size_alloc, World.size_setCell, World.size_drew, size_drewN]; omega) | omega))⟩

set_option maxHeartbeats 1000000 in
set_option maxRecDepth 100000 in
theorem number_calls15 (a b : Int) (hb0 : ¬ b = 0) (w : World) : Calls Try.prog 90 #[.int .i64 15, .int .i64 a, .int .i64 b] w fun e w' => e = .returned (.tuple #[.agg #[.int .i64 1, .int .i64 (a.tmod b), .string ⟨#[]⟩], .int .i64 0]) ∧ Below w.heap.size w w' := by
  go_enter Try.func90, Try.ntmps90
  go_wp2_with (go_at_call 72; refine (number_calls _ _).mono ?_; rintro e w1 ⟨rfl, hb⟩; obtain ⟨hc, hf, hz⟩ := bcell hb; (try simp only [World.size_alloc, World.size_drew, World.size_setCell] at hc hf hz))
  exact bodyPost_ret (v := .tuple #[.agg #[.int .i64 1, .int .i64 (a.tmod b), .string ⟨#[]⟩], .int .i64 0]) (by simp [results, Try.results90, go_sem, *]) rfl ⟨rfl, by (repeat (first | with_reducible exact Below.refl _ _ | with_reducible assumption | with_reducible refine Below.drew ?_ | with_reducible refine below_drewN ?_ _ | with_reducible refine Below.alloc ?_ ?_ _ | with_reducible refine Below.setCell ?_ ?_ _ | with_reducible refine below_thn (by with_reducible assumption) ?_ ?_ | (simp only [World.size_alloc, World.size_setCell, World.size_drew, size_drewN]; omega) | omega))⟩

set_option maxHeartbeats 1000000 in
set_option maxRecDepth 100000 in
theorem number_calls16 (a b : Int) (w : World) : Calls Try.prog 90 #[.int .i64 16, .int .i64 a, .int .i64 b] w fun e w' => e = .returned (.tuple #[.agg #[.int .i64 1, .int .i64 (wrap64 (-a)), .string ⟨#[]⟩], .int .i64 0]) ∧ Below w.heap.size w w' := by
  go_enter Try.func90, Try.ntmps90
  go_wp2_with (go_at_call 72; refine (number_calls _ _).mono ?_; rintro e w1 ⟨rfl, hb⟩; obtain ⟨hc, hf, hz⟩ := bcell hb; (try simp only [World.size_alloc, World.size_drew, World.size_setCell] at hc hf hz))
  exact bodyPost_ret (v := .tuple #[.agg #[.int .i64 1, .int .i64 (wrap64 (-a)), .string ⟨#[]⟩], .int .i64 0]) (by simp [results, Try.results90, go_sem, *]) rfl ⟨rfl, by (repeat (first | with_reducible exact Below.refl _ _ | with_reducible assumption | with_reducible refine Below.drew ?_ | with_reducible refine below_drewN ?_ _ | with_reducible refine Below.alloc ?_ ?_ _ | with_reducible refine Below.setCell ?_ ?_ _ | with_reducible refine below_thn (by with_reducible assumption) ?_ ?_ | (simp only [World.size_alloc, World.size_setCell, World.size_drew, size_drewN]; omega) | omega))⟩

set_option maxHeartbeats 1000000 in
set_option maxRecDepth 100000 in
theorem number_calls17 (a b : Int) (w : World) : Calls Try.prog 90 #[.int .i64 17, .int .i64 a, .int .i64 b] w fun e w' => e = .returned (.tuple #[.agg #[.int .i64 1, .int .i64 (Go.bits .and .i64 a b), .string ⟨#[]⟩], .int .i64 0]) ∧ Below w.heap.size w w' := by
  go_enter Try.func90, Try.ntmps90
  go_wp2_with (go_at_call 72; refine (number_calls _ _).mono ?_; rintro e w1 ⟨rfl, hb⟩; obtain ⟨hc, hf, hz⟩ := bcell hb; (try simp only [World.size_alloc, World.size_drew, World.size_setCell] at hc hf hz))
  exact bodyPost_ret (v := .tuple #[.agg #[.int .i64 1, .int .i64 (Go.bits .and .i64 a b), .string ⟨#[]⟩], .int .i64 0]) (by simp [results, Try.results90, go_sem, *]) rfl ⟨rfl, by (repeat (first | with_reducible exact Below.refl _ _ | with_reducible assumption | with_reducible refine Below.drew ?_ | with_reducible refine below_drewN ?_ _ | with_reducible refine Below.alloc ?_ ?_ _ | with_reducible refine Below.setCell ?_ ?_ _ | with_reducible refine below_thn (by with_reducible assumption) ?_ ?_ | (simp only [World.size_alloc, World.size_setCell, World.size_drew, size_drewN]; omega) | omega))⟩

set_option maxHeartbeats 1000000 in
set_option maxRecDepth 100000 in
theorem number_calls18 (a b : Int) (w : World) : Calls Try.prog 90 #[.int .i64 18, .int .i64 a, .int .i64 b] w fun e w' => e = .returned (.tuple #[.agg #[.int .i64 1, .int .i64 (Go.bits .or .i64 a b), .string ⟨#[]⟩], .int .i64 0]) ∧ Below w.heap.size w w' := by
  go_enter Try.func90, Try.ntmps90
  go_wp2_with (go_at_call 72; refine (number_calls _ _).mono ?_; rintro e w1 ⟨rfl, hb⟩; obtain ⟨hc, hf, hz⟩ := bcell hb; (try simp only [World.size_alloc, World.size_drew, World.size_setCell] at hc hf hz))
  exact bodyPost_ret (v := .tuple #[.agg #[.int .i64 1, .int .i64 (Go.bits .or .i64 a b), .string ⟨#[]⟩], .int .i64 0]) (by simp [results, Try.results90, go_sem, *]) rfl ⟨rfl, by (repeat (first | with_reducible exact Below.refl _ _ | with_reducible assumption | with_reducible refine Below.drew ?_ | with_reducible refine below_drewN ?_ _ | with_reducible refine Below.alloc ?_ ?_ _ | with_reducible refine Below.setCell ?_ ?_ _ | with_reducible refine below_thn (by with_reducible assumption) ?_ ?_ | (simp only [World.size_alloc, World.size_setCell, World.size_drew, size_drewN]; omega) | omega))⟩

set_option maxHeartbeats 1000000 in
set_option maxRecDepth 100000 in
theorem number_calls19 (a b : Int) (w : World) : Calls Try.prog 90 #[.int .i64 19, .int .i64 a, .int .i64 b] w fun e w' => e = .returned (.tuple #[.agg #[.int .i64 1, .int .i64 (Go.bits .xor .i64 a b), .string ⟨#[]⟩], .int .i64 0]) ∧ Below w.heap.size w w' := by
  go_enter Try.func90, Try.ntmps90
  go_wp2_with (go_at_call 72; refine (number_calls _ _).mono ?_; rintro e w1 ⟨rfl, hb⟩; obtain ⟨hc, hf, hz⟩ := bcell hb; (try simp only [World.size_alloc, World.size_drew, World.size_setCell] at hc hf hz))
  exact bodyPost_ret (v := .tuple #[.agg #[.int .i64 1, .int .i64 (Go.bits .xor .i64 a b), .string ⟨#[]⟩], .int .i64 0]) (by simp [results, Try.results90, go_sem, *]) rfl ⟨rfl, by (repeat (first | with_reducible exact Below.refl _ _ | with_reducible assumption | with_reducible refine Below.drew ?_ | with_reducible refine below_drewN ?_ _ | with_reducible refine Below.alloc ?_ ?_ _ | with_reducible refine Below.setCell ?_ ?_ _ | with_reducible refine below_thn (by with_reducible assumption) ?_ ?_ | (simp only [World.size_alloc, World.size_setCell, World.size_drew, size_drewN]; omega) | omega))⟩

set_option maxHeartbeats 1000000 in
set_option maxRecDepth 100000 in
theorem number_calls20 (a b : Int) (w : World) : Calls Try.prog 90 #[.int .i64 20, .int .i64 a, .int .i64 b] w fun e w' => e = .returned (.tuple #[.agg #[.int .i64 1, .int .i64 (Go.bits .xor .i64 (-1) a), .string ⟨#[]⟩], .int .i64 0]) ∧ Below w.heap.size w w' := by
  go_enter Try.func90, Try.ntmps90
  go_wp2_with (go_at_call 72; refine (number_calls _ _).mono ?_; rintro e w1 ⟨rfl, hb⟩; obtain ⟨hc, hf, hz⟩ := bcell hb; (try simp only [World.size_alloc, World.size_drew, World.size_setCell] at hc hf hz))
  exact bodyPost_ret (v := .tuple #[.agg #[.int .i64 1, .int .i64 (Go.bits .xor .i64 (-1) a), .string ⟨#[]⟩], .int .i64 0]) (by simp [results, Try.results90, go_sem, *]) rfl ⟨rfl, by (repeat (first | with_reducible exact Below.refl _ _ | with_reducible assumption | with_reducible refine Below.drew ?_ | with_reducible refine below_drewN ?_ _ | with_reducible refine Below.alloc ?_ ?_ _ | with_reducible refine Below.setCell ?_ ?_ _ | with_reducible refine below_thn (by with_reducible assumption) ?_ ?_ | (simp only [World.size_alloc, World.size_setCell, World.size_drew, size_drewN]; omega) | omega))⟩

set_option maxHeartbeats 1000000 in
set_option maxRecDepth 100000 in
theorem number_calls21 (a b : Int) (w : World) : Calls Try.prog 90 #[.int .i64 21, .int .i64 a, .int .i64 b] w fun e w' => e = .returned (.tuple #[.agg #[.int .i64 1, .int .i64 (wrap64 (a * 2 ^ (b % 64).toNat)), .string ⟨#[]⟩], .int .i64 0]) ∧ Below w.heap.size w w' := by
  have h63 := i64_and63 b
  have hm0 : 0 ≤ b % 64 := by omega
  have hm1 : b % 64 ≤ 63 := by omega
  go_enter Try.func90, Try.ntmps90
  go_wp2_with (go_at_call 72; refine (number_calls _ _).mono ?_; rintro e w1 ⟨rfl, hb⟩; obtain ⟨hc, hf, hz⟩ := bcell hb; (try simp only [World.size_alloc, World.size_drew, World.size_setCell] at hc hf hz))
  exact bodyPost_ret (v := .tuple #[.agg #[.int .i64 1, .int .i64 (wrap64 (a * 2 ^ (b % 64).toNat)), .string ⟨#[]⟩], .int .i64 0]) (by simp [results, Try.results90, go_sem, *]) rfl ⟨rfl, by (repeat (first | with_reducible exact Below.refl _ _ | with_reducible assumption | with_reducible refine Below.drew ?_ | with_reducible refine below_drewN ?_ _ | with_reducible refine Below.alloc ?_ ?_ _ | with_reducible refine Below.setCell ?_ ?_ _ | with_reducible refine below_thn (by with_reducible assumption) ?_ ?_ | (simp only [World.size_alloc, World.size_setCell, World.size_drew, size_drewN]; omega) | omega))⟩

set_option maxHeartbeats 1000000 in
set_option maxRecDepth 100000 in
theorem number_calls22 (a b : Int) (w : World) : Calls Try.prog 90 #[.int .i64 22, .int .i64 a, .int .i64 b] w fun e w' => e = .returned (.tuple #[.agg #[.int .i64 1, .int .i64 (a / 2 ^ (b % 64).toNat), .string ⟨#[]⟩], .int .i64 0]) ∧ Below w.heap.size w w' := by
  have h63 := i64_and63 b
  have hm0 : 0 ≤ b % 64 := by omega
  have hm1 : b % 64 ≤ 63 := by omega
  go_enter Try.func90, Try.ntmps90
  go_wp2_with (go_at_call 72; refine (number_calls _ _).mono ?_; rintro e w1 ⟨rfl, hb⟩; obtain ⟨hc, hf, hz⟩ := bcell hb; (try simp only [World.size_alloc, World.size_drew, World.size_setCell] at hc hf hz))
  exact bodyPost_ret (v := .tuple #[.agg #[.int .i64 1, .int .i64 (a / 2 ^ (b % 64).toNat), .string ⟨#[]⟩], .int .i64 0]) (by simp [results, Try.results90, go_sem, *]) rfl ⟨rfl, by (repeat (first | with_reducible exact Below.refl _ _ | with_reducible assumption | with_reducible refine Below.drew ?_ | with_reducible refine below_drewN ?_ _ | with_reducible refine Below.alloc ?_ ?_ _ | with_reducible refine Below.setCell ?_ ?_ _ | with_reducible refine below_thn (by with_reducible assumption) ?_ ?_ | (simp only [World.size_alloc, World.size_setCell, World.size_drew, size_drewN]; omega) | omega))⟩

set_option maxHeartbeats 1000000 in
set_option maxRecDepth 100000 in
theorem number_calls14z (a : Int) (w : World) : Calls Try.prog 90 #[.int .i64 14, .int .i64 a, .int .i64 0] w fun e w' => e = .returned (.tuple #[.agg #[.int .i64 0, .int .i64 0, .string ⟨#[]⟩], .int .i64 40]) ∧ Below w.heap.size w w' := by
  go_enter Try.func90, Try.ntmps90
  go_wp2_with (go_at_call 72; refine (number_calls _ _).mono ?_; rintro e w1 ⟨rfl, hb⟩; obtain ⟨hc, hf, hz⟩ := bcell hb; (try simp only [World.size_alloc, World.size_drew, World.size_setCell] at hc hf hz))
  exact bodyPost_ret (v := .tuple #[.agg #[.int .i64 0, .int .i64 0, .string ⟨#[]⟩], .int .i64 40]) (by simp [results, Try.results90, go_sem, *]) rfl ⟨rfl, by (repeat (first | with_reducible exact Below.refl _ _ | with_reducible assumption | with_reducible refine Below.drew ?_ | with_reducible refine below_drewN ?_ _ | with_reducible refine Below.alloc ?_ ?_ _ | with_reducible refine Below.setCell ?_ ?_ _ | with_reducible refine below_thn (by with_reducible assumption) ?_ ?_ | (simp only [World.size_alloc, World.size_setCell, World.size_drew, size_drewN]; omega) | omega))⟩

set_option maxHeartbeats 1000000 in
set_option maxRecDepth 100000 in
theorem number_calls15z (a : Int) (w : World) : Calls Try.prog 90 #[.int .i64 15, .int .i64 a, .int .i64 0] w fun e w' => e = .returned (.tuple #[.agg #[.int .i64 0, .int .i64 0, .string ⟨#[]⟩], .int .i64 40]) ∧ Below w.heap.size w w' := by
  go_enter Try.func90, Try.ntmps90
  go_wp2_with (go_at_call 72; refine (number_calls _ _).mono ?_; rintro e w1 ⟨rfl, hb⟩; obtain ⟨hc, hf, hz⟩ := bcell hb; (try simp only [World.size_alloc, World.size_drew, World.size_setCell] at hc hf hz))
  exact bodyPost_ret (v := .tuple #[.agg #[.int .i64 0, .int .i64 0, .string ⟨#[]⟩], .int .i64 40]) (by simp [results, Try.results90, go_sem, *]) rfl ⟨rfl, by (repeat (first | with_reducible exact Below.refl _ _ | with_reducible assumption | with_reducible refine Below.drew ?_ | with_reducible refine below_drewN ?_ _ | with_reducible refine Below.alloc ?_ ?_ _ | with_reducible refine Below.setCell ?_ ?_ _ | with_reducible refine below_thn (by with_reducible assumption) ?_ ?_ | (simp only [World.size_alloc, World.size_setCell, World.size_drew, size_drewN]; omega) | omega))⟩

/-- What a numeric operation answers. -/
def numN (op a b : Int) : Int :=
  if op = 11 then wrap64 (a + b) else if op = 12 then wrap64 (a + wrap64 (-b)) else if op = 13 then wrap64 (a * b) else if op = 14 then wrap64 (a.tdiv b) else if op = 15 then a.tmod b else if op = 16 then wrap64 (-a)
  else if op = 17 then Go.bits .and .i64 a b else if op = 18 then Go.bits .or .i64 a b else if op = 19 then Go.bits .xor .i64 a b else if op = 20 then Go.bits .xor .i64 (-1) a else if op = 21 then wrap64 (a * 2 ^ (b % 64).toNat) else a / 2 ^ (b % 64).toNat
def numR (op a b : Int) : V × Int := if (op = 14 ∨ op = 15) ∧ b = 0 then (⟨0, 0, ⟨#[]⟩⟩, 40) else (⟨1, numN op a b, ⟨#[]⟩⟩, 0)

theorem numR_calls (op a b : Int) (h0 : 11 ≤ op) (h1 : op ≤ 22) (w : World) : Calls Try.prog 90 #[.int .i64 op, .int .i64 a, .int .i64 b] w fun e w' => e = .returned (.tuple #[aggV (numR op a b).1, .int .i64 (numR op a b).2]) ∧ Below w.heap.size w w' := by
  obtain rfl | rfl | rfl | rfl | rfl | rfl | rfl | rfl | rfl | rfl | rfl | rfl : op = 11 ∨ op = 12 ∨ op = 13 ∨ op = 14 ∨ op = 15 ∨ op = 16 ∨ op = 17 ∨ op = 18 ∨ op = 19 ∨ op = 20 ∨ op = 21 ∨ op = 22 := by omega
  · exact number_calls11 a b w
  · exact number_calls12 a b w
  · exact number_calls13 a b w
  · by_cases hb0 : b = 0
    · subst hb0; exact number_calls14z a w
    · have e : numR 14 a b = (⟨1, numN 14 a b, ⟨#[]⟩⟩, 0) := by unfold numR; rw [if_neg (fun h => hb0 h.2)]
      rw [e]; exact number_calls14 a b hb0 w
  · by_cases hb0 : b = 0
    · subst hb0; exact number_calls15z a w
    · have e : numR 15 a b = (⟨1, numN 15 a b, ⟨#[]⟩⟩, 0) := by unfold numR; rw [if_neg (fun h => hb0 h.2)]
      rw [e]; exact number_calls15 a b hb0 w
  · exact number_calls16 a b w
  · exact number_calls17 a b w
  · exact number_calls18 a b w
  · exact number_calls19 a b w
  · exact number_calls20 a b w
  · exact number_calls21 a b w
  · exact number_calls22 a b w

end Go.Proofs.Ytnapbjfmkofhcaa.OpB
