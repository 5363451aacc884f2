/- The reference of layer 3: numbers, parts, compares. -/
import Derived.Test.YtnapbjfmkofhcaaRefB
import Derived.Test.YtnapbjfmkofhcaaOpD
namespace Go.Proofs.Ytnapbjfmkofhcaa.RefC
set_option linter.unusedVariables false
set_option linter.unusedSimpArgs false
open Go.RowKit Wd Beg OpB OpD

theorem quo_m1 (a : Int) : a.tdiv (-1) = -a := by simp

theorem rem_eq (a b : Int) (h0 : -9223372036854775808 ≤ a) (h1 : a ≤ 9223372036854775807) (q : Int) (hq : wrap64 q = wrap64 (a.tdiv b)) : wrap64 (a - wrap64 (q * b)) = a.tmod b := by
  have hm := Int.tmod_add_tdiv_mul a b
  have hmul : wrap64 (q * b) = wrap64 (a.tdiv b * b) := by
    have e1 : (q - a.tdiv b) % 18446744073709551616 = 0 := by unfold wrap64 at hq; omega
    obtain ⟨c, hc⟩ := Int.dvd_of_emod_eq_zero e1
    have e2 : q * b = a.tdiv b * b + 18446744073709551616 * (c * b) := by
      rw [show q = a.tdiv b + 18446744073709551616 * c by omega, Int.add_mul, Int.mul_assoc]
    rw [e2]; unfold wrap64; omega
  rw [hmul]
  have ht : -9223372036854775808 ≤ a.tmod b ∧ a.tmod b ≤ 9223372036854775807 := by
    have h2 : (a.tmod b).natAbs ≤ a.natAbs := by rw [Int.natAbs_tmod]; exact Nat.mod_le _ _
    rcases Int.le_total 0 a with ha | ha
    · have := Int.tmod_nonneg b ha; omega
    · have h3 := Int.tmod_nonneg (a := -a) b (by omega)
      rw [Int.neg_tmod] at h3; omega
  generalize a.tdiv b * b = p at hm
  generalize a.tmod b = m at hm ht
  unfold wrap64; omega

theorem shl_eq (a : Int) (k : Nat) : wrap64 (IntKind.u64.wrap (IntKind.u64.wrap a * 2 ^ k)) = wrap64 (a * 2 ^ k) := by
  have e : IntKind.u64.wrap a = a % 18446744073709551616 := rfl
  rw [e]
  have h := Int.emod_add_mul_ediv a 18446744073709551616
  have h2 : a * 2 ^ k = a % 18446744073709551616 * 2 ^ k + 18446744073709551616 * (a / 18446744073709551616 * 2 ^ k) := by
    conv => lhs; rw [← h]
    rw [Int.add_mul, Int.mul_assoc]
  rw [h2]
  generalize a % 18446744073709551616 * 2 ^ k = p
  generalize a / 18446744073709551616 * 2 ^ k = q
  have e2 : IntKind.u64.wrap p = p % 18446744073709551616 := rfl
  rw [e2]
  unfold wrap64; omega

set_option maxRecDepth 100000 in
theorem num11 (a b : Int) (w : World) : Calls Try.prog 42 #[.string ⟨#[97, 100, 100]⟩, .int .i64 a, .int .i64 b] w fun e w' => e = .returned (.tuple #[.int .i64 (numN 11 a b), .int .i64 0]) ∧ Below w.heap.size w w' := by
  go_enter Try.func42, Try.ntmps42
  go_wp2_with fail
  go_ret2
  exact ⟨by simp [numR, numN], by (repeat (first | with_reducible exact Below.refl _ _ | with_reducible assumption | with_reducible refine Below.drew ?_ | with_reducible refine below_drewN ?_ _ | with_reducible refine bel_set ?_ _ _ | with_reducible refine bel_alloc ?_ _ | with_reducible refine bel_call (by with_reducible assumption) ?_))⟩

set_option maxRecDepth 100000 in
theorem num12 (a b : Int) (w : World) : Calls Try.prog 42 #[.string ⟨#[115, 117, 98]⟩, .int .i64 a, .int .i64 b] w fun e w' => e = .returned (.tuple #[.int .i64 (numN 12 a b), .int .i64 0]) ∧ Below w.heap.size w w' := by
  go_enter Try.func42, Try.ntmps42
  go_wp2_with fail
  go_ret2
  exact ⟨by simp [numR, numN]; try (unfold wrap64; omega), by (repeat (first | with_reducible exact Below.refl _ _ | with_reducible assumption | with_reducible refine Below.drew ?_ | with_reducible refine below_drewN ?_ _ | with_reducible refine bel_set ?_ _ _ | with_reducible refine bel_alloc ?_ _ | with_reducible refine bel_call (by with_reducible assumption) ?_))⟩

set_option maxRecDepth 100000 in
theorem num13 (a b : Int) (w : World) : Calls Try.prog 42 #[.string ⟨#[109, 117, 108]⟩, .int .i64 a, .int .i64 b] w fun e w' => e = .returned (.tuple #[.int .i64 (numN 13 a b), .int .i64 0]) ∧ Below w.heap.size w w' := by
  go_enter Try.func42, Try.ntmps42
  go_wp2_with fail
  go_ret2
  exact ⟨by simp [numR, numN], by (repeat (first | with_reducible exact Below.refl _ _ | with_reducible assumption | with_reducible refine Below.drew ?_ | with_reducible refine below_drewN ?_ _ | with_reducible refine bel_set ?_ _ _ | with_reducible refine bel_alloc ?_ _ | with_reducible refine bel_call (by with_reducible assumption) ?_))⟩

set_option maxRecDepth 100000 in
theorem num17 (a b : Int) (w : World) : Calls Try.prog 42 #[.string ⟨#[97, 110, 100]⟩, .int .i64 a, .int .i64 b] w fun e w' => e = .returned (.tuple #[.int .i64 (numN 17 a b), .int .i64 0]) ∧ Below w.heap.size w w' := by
  go_enter Try.func42, Try.ntmps42
  go_wp2_with fail
  go_ret2
  exact ⟨by simp [numR, numN], by (repeat (first | with_reducible exact Below.refl _ _ | with_reducible assumption | with_reducible refine Below.drew ?_ | with_reducible refine below_drewN ?_ _ | with_reducible refine bel_set ?_ _ _ | with_reducible refine bel_alloc ?_ _ | with_reducible refine bel_call (by with_reducible assumption) ?_))⟩

set_option maxRecDepth 100000 in
theorem num18 (a b : Int) (w : World) : Calls Try.prog 42 #[.string ⟨#[111, 114]⟩, .int .i64 a, .int .i64 b] w fun e w' => e = .returned (.tuple #[.int .i64 (numN 18 a b), .int .i64 0]) ∧ Below w.heap.size w w' := by
  go_enter Try.func42, Try.ntmps42
  go_wp2_with fail
  go_ret2
  exact ⟨by simp [numR, numN], by (repeat (first | with_reducible exact Below.refl _ _ | with_reducible assumption | with_reducible refine Below.drew ?_ | with_reducible refine below_drewN ?_ _ | with_reducible refine bel_set ?_ _ _ | with_reducible refine bel_alloc ?_ _ | with_reducible refine bel_call (by with_reducible assumption) ?_))⟩

set_option maxRecDepth 100000 in
theorem num19 (a b : Int) (w : World) : Calls Try.prog 42 #[.string ⟨#[120, 111, 114]⟩, .int .i64 a, .int .i64 b] w fun e w' => e = .returned (.tuple #[.int .i64 (numN 19 a b), .int .i64 0]) ∧ Below w.heap.size w w' := by
  go_enter Try.func42, Try.ntmps42
  go_wp2_with fail
  go_ret2
  exact ⟨by simp [numR, numN], by (repeat (first | with_reducible exact Below.refl _ _ | with_reducible assumption | with_reducible refine Below.drew ?_ | with_reducible refine below_drewN ?_ _ | with_reducible refine bel_set ?_ _ _ | with_reducible refine bel_alloc ?_ _ | with_reducible refine bel_call (by with_reducible assumption) ?_))⟩

set_option maxRecDepth 100000 in
theorem num21 (a b : Int) (w : World) : Calls Try.prog 42 #[.string ⟨#[115, 104, 108]⟩, .int .i64 a, .int .i64 b] w fun e w' => e = .returned (.tuple #[.int .i64 (numN 21 a b), .int .i64 0]) ∧ Below w.heap.size w w' := by
  have h63 := i64_and63 b
  have hm0 : 0 ≤ b % 64 := by omega
  have hm1 : b % 64 ≤ 63 := by omega
  have hu : IntKind.u64.wrap (b % 64) = b % 64 := by show b % 64 % 18446744073709551616 = b % 64; omega
  have hmin : min (b % 64).toNat 64 = (b % 64).toNat := by omega
  have hs := shl_eq a (b % 64).toNat
  have HM := Lib.hid hmin
  have HS := Lib.hid hs
  clear hmin hs
  go_enter Try.func42, Try.ntmps42
  go_wp2_with fail
  go_ret2
  exact ⟨by simp [numR, numN, h63, hu, HM.out, HS.out], by (repeat (first | with_reducible exact Below.refl _ _ | with_reducible assumption | with_reducible refine Below.drew ?_ | with_reducible refine below_drewN ?_ _ | with_reducible refine bel_set ?_ _ _ | with_reducible refine bel_alloc ?_ _ | with_reducible refine bel_call (by with_reducible assumption) ?_))⟩

set_option maxRecDepth 100000 in
theorem num22 (a b : Int) (w : World) : Calls Try.prog 42 #[.string ⟨#[115, 104, 114]⟩, .int .i64 a, .int .i64 b] w fun e w' => e = .returned (.tuple #[.int .i64 (numN 22 a b), .int .i64 0]) ∧ Below w.heap.size w w' := by
  have h63 := i64_and63 b
  have hm0 : 0 ≤ b % 64 := by omega
  have hm1 : b % 64 ≤ 63 := by omega
  have hu : IntKind.u64.wrap (b % 64) = b % 64 := by show b % 64 % 18446744073709551616 = b % 64; omega
  have hmin : min (b % 64).toNat 64 = (b % 64).toNat := by omega
  have hs := shl_eq a (b % 64).toNat
  have HM := Lib.hid hmin
  have HS := Lib.hid hs
  clear hmin hs
  go_enter Try.func42, Try.ntmps42
  go_wp2_with fail
  go_ret2
  exact ⟨by simp [numR, numN, h63, hu, HM.out, HS.out], by (repeat (first | with_reducible exact Below.refl _ _ | with_reducible assumption | with_reducible refine Below.drew ?_ | with_reducible refine below_drewN ?_ _ | with_reducible refine bel_set ?_ _ _ | with_reducible refine bel_alloc ?_ _ | with_reducible refine bel_call (by with_reducible assumption) ?_))⟩

set_option maxRecDepth 100000 in
theorem parts_calls (nm : ByteArray) (op : Int) (a b : Int) (hn : (op = 14 ∧ nm = ⟨#[100, 105, 118]⟩) ∨ (op = 15 ∧ nm = ⟨#[114, 101, 109]⟩)) (h0 : -9223372036854775808 ≤ a) (h1 : a ≤ 9223372036854775807) (w : World) : Calls Try.prog 65 #[.string nm, .int .i64 a, .int .i64 b] w fun e w' => e = .returned (.tuple #[.int .i64 (if b = 0 then 0 else numN op a b), .int .i64 (if b = 0 then 40 else 0)]) ∧ Below w.heap.size w w' := by
  by_cases hb : b = 0
  · subst hb
    go_enter Try.func65, Try.ntmps65
    go_wp2_with fail
    go_ret2
    exact ⟨rfl, by (repeat (first | with_reducible exact Below.refl _ _ | with_reducible assumption | with_reducible refine Below.drew ?_ | with_reducible refine below_drewN ?_ _ | with_reducible refine bel_set ?_ _ _ | with_reducible refine bel_alloc ?_ _ | with_reducible refine bel_call (by with_reducible assumption) ?_))⟩
  · rw [if_neg hb, if_neg hb]
    have hb0 : (b == 0) = false := by simpa using hb
    by_cases hm : b = -1
    · subst hm
      have hq := rem_eq a (-1) h0 h1 (wrap64 (-a)) (by rw [quo_m1]; unfold wrap64; omega)
      rw [Int.mul_neg, Int.mul_one] at hq
      have HQ := Lib.hid hq
      have hd : wrap64 (-a) = numN 14 a (-1) := by simp [numN, quo_m1]
      have HD := Lib.hid hd
      have hr : a.tmod (-1) = numN 15 a (-1) := by simp [numN]
      have HR := Lib.hid hr
      clear hq hd hr
      rcases hn with ⟨rfl, rfl⟩ | ⟨rfl, rfl⟩
      all_goals
        go_enter Try.func65, Try.ntmps65
        go_wp2_with fail
        go_ret2
      · exact ⟨by rw [← HD.out]; rfl, by (repeat (first | with_reducible exact Below.refl _ _ | with_reducible assumption | with_reducible refine Below.drew ?_ | with_reducible refine below_drewN ?_ _ | with_reducible refine bel_set ?_ _ _ | with_reducible refine bel_alloc ?_ _ | with_reducible refine bel_call (by with_reducible assumption) ?_))⟩
      · exact ⟨by rw [← HR.out, ← HQ.out]; rfl, by (repeat (first | with_reducible exact Below.refl _ _ | with_reducible assumption | with_reducible refine Below.drew ?_ | with_reducible refine below_drewN ?_ _ | with_reducible refine bel_set ?_ _ _ | with_reducible refine bel_alloc ?_ _ | with_reducible refine bel_call (by with_reducible assumption) ?_))⟩
    · have hm1 : (b == -1) = false := by simpa using hm
      have hq := rem_eq a b h0 h1 (wrap64 (a.tdiv b)) (by unfold wrap64; omega)
      have HQ := Lib.hid hq
      have hd : wrap64 (a.tdiv b) = numN 14 a b := by simp [numN]
      have HD := Lib.hid hd
      have hr : a.tmod b = numN 15 a b := by simp [numN]
      have HR := Lib.hid hr
      clear hq hd hr
      rcases hn with ⟨rfl, rfl⟩ | ⟨rfl, rfl⟩
      all_goals
        go_enter Try.func65, Try.ntmps65
        go_wp2_with fail
        go_ret2
      · exact ⟨by rw [← HD.out]; rfl, by (repeat (first | with_reducible exact Below.refl _ _ | with_reducible assumption | with_reducible refine Below.drew ?_ | with_reducible refine below_drewN ?_ _ | with_reducible refine bel_set ?_ _ _ | with_reducible refine bel_alloc ?_ _ | with_reducible refine bel_call (by with_reducible assumption) ?_))⟩
      · exact ⟨by rw [← HR.out, ← HQ.out]; rfl, by (repeat (first | with_reducible exact Below.refl _ _ | with_reducible assumption | with_reducible refine Below.drew ?_ | with_reducible refine below_drewN ?_ _ | with_reducible refine bel_set ?_ _ _ | with_reducible refine bel_alloc ?_ _ | with_reducible refine bel_call (by with_reducible assumption) ?_))⟩

set_option maxRecDepth 100000 in
theorem num14 (a b : Int) (h0 : -9223372036854775808 ≤ a) (h1 : a ≤ 9223372036854775807) (w : World) : Calls Try.prog 42 #[.string ⟨#[100, 105, 118]⟩, .int .i64 a, .int .i64 b] w fun e w' => e = .returned (.tuple #[.int .i64 (if b = 0 then 0 else numN 14 a b), .int .i64 (if b = 0 then 40 else 0)]) ∧ Below w.heap.size w w' := by
  have HP := Lib.hid (parts_calls ⟨#[100, 105, 118]⟩ 14 a b (by simp) h0 h1)
  by_cases hb : b = 0
  · subst hb
    rw [if_pos rfl, if_pos rfl]
    have HP1 : RowKit.Hid (∀ w : World, Calls Try.prog 65 #[.string ⟨#[100, 105, 118]⟩, .int .i64 a, .int .i64 0] w fun e w' => e = .returned (.tuple #[.int .i64 0, .int .i64 40]) ∧ Below w.heap.size w w') := Lib.hid (by have h := HP.out; rw [if_pos rfl, if_pos rfl] at h; exact h)
    go_enter Try.func42, Try.ntmps42
    go_wp2_with (go_at_call 65; refine (HP1.out _).mono ?_; rintro e w1 ⟨rfl, hb1⟩)
    go_ret2
    exact ⟨rfl, by (repeat (first | with_reducible exact Below.refl _ _ | with_reducible assumption | with_reducible refine Below.drew ?_ | with_reducible refine below_drewN ?_ _ | with_reducible refine bel_set ?_ _ _ | with_reducible refine bel_alloc ?_ _ | with_reducible refine bel_call (by with_reducible assumption) ?_))⟩
  · rw [if_neg hb, if_neg hb]
    have HP1 : RowKit.Hid (∀ w : World, Calls Try.prog 65 #[.string ⟨#[100, 105, 118]⟩, .int .i64 a, .int .i64 b] w fun e w' => e = .returned (.tuple #[.int .i64 (numN 14 a b), .int .i64 0]) ∧ Below w.heap.size w w') := Lib.hid (by have h := HP.out; rw [if_neg hb, if_neg hb] at h; exact h)
    go_enter Try.func42, Try.ntmps42
    go_wp2_with (go_at_call 65; refine (HP1.out _).mono ?_; rintro e w1 ⟨rfl, hb1⟩)
    go_ret2
    exact ⟨rfl, by (repeat (first | with_reducible exact Below.refl _ _ | with_reducible assumption | with_reducible refine Below.drew ?_ | with_reducible refine below_drewN ?_ _ | with_reducible refine bel_set ?_ _ _ | with_reducible refine bel_alloc ?_ _ | with_reducible refine bel_call (by with_reducible assumption) ?_))⟩

set_option maxRecDepth 100000 in
theorem num15 (a b : Int) (h0 : -9223372036854775808 ≤ a) (h1 : a ≤ 9223372036854775807) (w : World) : Calls Try.prog 42 #[.string ⟨#[114, 101, 109]⟩, .int .i64 a, .int .i64 b] w fun e w' => e = .returned (.tuple #[.int .i64 (if b = 0 then 0 else numN 15 a b), .int .i64 (if b = 0 then 40 else 0)]) ∧ Below w.heap.size w w' := by
  have HP := Lib.hid (parts_calls ⟨#[114, 101, 109]⟩ 15 a b (by simp) h0 h1)
  by_cases hb : b = 0
  · subst hb
    rw [if_pos rfl, if_pos rfl]
    have HP1 : RowKit.Hid (∀ w : World, Calls Try.prog 65 #[.string ⟨#[114, 101, 109]⟩, .int .i64 a, .int .i64 0] w fun e w' => e = .returned (.tuple #[.int .i64 0, .int .i64 40]) ∧ Below w.heap.size w w') := Lib.hid (by have h := HP.out; rw [if_pos rfl, if_pos rfl] at h; exact h)
    go_enter Try.func42, Try.ntmps42
    go_wp2_with (go_at_call 65; refine (HP1.out _).mono ?_; rintro e w1 ⟨rfl, hb1⟩)
    go_ret2
    exact ⟨rfl, by (repeat (first | with_reducible exact Below.refl _ _ | with_reducible assumption | with_reducible refine Below.drew ?_ | with_reducible refine below_drewN ?_ _ | with_reducible refine bel_set ?_ _ _ | with_reducible refine bel_alloc ?_ _ | with_reducible refine bel_call (by with_reducible assumption) ?_))⟩
  · rw [if_neg hb, if_neg hb]
    have HP1 : RowKit.Hid (∀ w : World, Calls Try.prog 65 #[.string ⟨#[114, 101, 109]⟩, .int .i64 a, .int .i64 b] w fun e w' => e = .returned (.tuple #[.int .i64 (numN 15 a b), .int .i64 0]) ∧ Below w.heap.size w w') := Lib.hid (by have h := HP.out; rw [if_neg hb, if_neg hb] at h; exact h)
    go_enter Try.func42, Try.ntmps42
    go_wp2_with (go_at_call 65; refine (HP1.out _).mono ?_; rintro e w1 ⟨rfl, hb1⟩)
    go_ret2
    exact ⟨rfl, by (repeat (first | with_reducible exact Below.refl _ _ | with_reducible assumption | with_reducible refine Below.drew ?_ | with_reducible refine below_drewN ?_ _ | with_reducible refine bel_set ?_ _ _ | with_reducible refine bel_alloc ?_ _ | with_reducible refine bel_call (by with_reducible assumption) ?_))⟩

set_option maxRecDepth 100000 in
theorem cmp23 (a b : Int) (w : World) : Calls Try.prog 43 #[.string ⟨#[101, 113]⟩, .int .i64 a, .int .i64 b] w fun e w' => e = .returned (.bool (holdsB 23 a b)) ∧ Below w.heap.size w w' := by
  go_enter Try.func43, Try.ntmps43
  go_wp2_with fail
  go_ret
  exact ⟨by simp [holdsB], by (repeat (first | with_reducible exact Below.refl _ _ | with_reducible assumption | with_reducible refine Below.drew ?_ | with_reducible refine below_drewN ?_ _ | with_reducible refine bel_set ?_ _ _ | with_reducible refine bel_alloc ?_ _ | with_reducible refine bel_call (by with_reducible assumption) ?_))⟩

set_option maxRecDepth 100000 in
theorem cmp24 (a b : Int) (w : World) : Calls Try.prog 43 #[.string ⟨#[110, 101]⟩, .int .i64 a, .int .i64 b] w fun e w' => e = .returned (.bool (holdsB 24 a b)) ∧ Below w.heap.size w w' := by
  go_enter Try.func43, Try.ntmps43
  go_wp2_with fail
  go_ret
  exact ⟨by simp [holdsB], by (repeat (first | with_reducible exact Below.refl _ _ | with_reducible assumption | with_reducible refine Below.drew ?_ | with_reducible refine below_drewN ?_ _ | with_reducible refine bel_set ?_ _ _ | with_reducible refine bel_alloc ?_ _ | with_reducible refine bel_call (by with_reducible assumption) ?_))⟩

set_option maxRecDepth 100000 in
theorem cmp25 (a b : Int) (w : World) : Calls Try.prog 43 #[.string ⟨#[108, 116]⟩, .int .i64 a, .int .i64 b] w fun e w' => e = .returned (.bool (holdsB 25 a b)) ∧ Below w.heap.size w w' := by
  go_enter Try.func43, Try.ntmps43
  go_wp2_with fail
  go_ret
  exact ⟨by simp [holdsB], by (repeat (first | with_reducible exact Below.refl _ _ | with_reducible assumption | with_reducible refine Below.drew ?_ | with_reducible refine below_drewN ?_ _ | with_reducible refine bel_set ?_ _ _ | with_reducible refine bel_alloc ?_ _ | with_reducible refine bel_call (by with_reducible assumption) ?_))⟩

set_option maxRecDepth 100000 in
theorem cmp26 (a b : Int) (w : World) : Calls Try.prog 43 #[.string ⟨#[108, 101]⟩, .int .i64 a, .int .i64 b] w fun e w' => e = .returned (.bool (holdsB 26 a b)) ∧ Below w.heap.size w w' := by
  go_enter Try.func43, Try.ntmps43
  go_wp2_with fail
  go_ret
  exact ⟨by simp [holdsB], by (repeat (first | with_reducible exact Below.refl _ _ | with_reducible assumption | with_reducible refine Below.drew ?_ | with_reducible refine below_drewN ?_ _ | with_reducible refine bel_set ?_ _ _ | with_reducible refine bel_alloc ?_ _ | with_reducible refine bel_call (by with_reducible assumption) ?_))⟩

set_option maxRecDepth 100000 in
theorem cmp27 (a b : Int) (w : World) : Calls Try.prog 43 #[.string ⟨#[103, 116]⟩, .int .i64 a, .int .i64 b] w fun e w' => e = .returned (.bool (holdsB 27 a b)) ∧ Below w.heap.size w w' := by
  go_enter Try.func43, Try.ntmps43
  go_wp2_with fail
  go_ret
  exact ⟨by simp [holdsB], by (repeat (first | with_reducible exact Below.refl _ _ | with_reducible assumption | with_reducible refine Below.drew ?_ | with_reducible refine below_drewN ?_ _ | with_reducible refine bel_set ?_ _ _ | with_reducible refine bel_alloc ?_ _ | with_reducible refine bel_call (by with_reducible assumption) ?_))⟩

set_option maxRecDepth 100000 in
theorem cmp28 (a b : Int) (w : World) : Calls Try.prog 43 #[.string ⟨#[103, 101]⟩, .int .i64 a, .int .i64 b] w fun e w' => e = .returned (.bool (holdsB 28 a b)) ∧ Below w.heap.size w w' := by
  go_enter Try.func43, Try.ntmps43
  go_wp2_with fail
  go_ret
  exact ⟨by simp [holdsB], by (repeat (first | with_reducible exact Below.refl _ _ | with_reducible assumption | with_reducible refine Below.drew ?_ | with_reducible refine below_drewN ?_ _ | with_reducible refine bel_set ?_ _ _ | with_reducible refine bel_alloc ?_ _ | with_reducible refine bel_call (by with_reducible assumption) ?_))⟩

end Go.Proofs.Ytnapbjfmkofhcaa.RefC
