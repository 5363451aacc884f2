/- The reference of layers 2 and 3: Plain, Truth, Right, All, Fits; law2.Same, num. -/
import Derived.Test.YtnapbjfmkofhcaaValB
import Derived.Test.YtnapbjfmkofhcaaOpB
import Derived.Test.YtnapbjfmkofhcaaBeg
namespace Go.Proofs.Ytnapbjfmkofhcaa.RefB
set_option linter.unusedVariables false
set_option linter.unusedSimpArgs false
open Go.RowKit Wd Val ValB Beg OpB

theorem plain_calls (op : Int) (w : World) : Calls Try.prog 6 #[.int .i64 op] w fun e w' => e = .returned (.bool (plainB op)) ∧ Below w.heap.size w w' := by
  cases h3 : (op == 3) <;> cases h4 : (op == 4) <;> by_cases h5 : 11 ≤ op
  all_goals
    go_enter Try.func6, Try.ntmps6
    go_wp2_with fail
    all_goals (go_ret; exact ⟨by simp [plainB, *]; try omega, by (repeat (first | with_reducible exact Below.refl _ _ | with_reducible assumption | with_reducible refine Below.drew ?_ | with_reducible refine below_drewN ?_ _ | with_reducible refine Below.alloc ?_ ?_ _ | with_reducible refine Below.setCell ?_ ?_ _ | with_reducible refine below_thn (by with_reducible assumption) ?_ ?_ | (simp only [World.size_alloc, World.size_setCell, World.size_drew, size_drewN]; omega) | omega))⟩)

theorem num_calls (n : Int) (w : World) : Calls Try.prog 12 #[.int .i64 n] w fun e w' => e = .returned (.int .i64 n) ∧ Below w.heap.size w w' := by
  go_enter Try.func12, Try.ntmps12
  go_wp2_with fail
  go_ret
  exact ⟨rfl, by (repeat (first | with_reducible exact Below.refl _ _ | with_reducible assumption | with_reducible refine Below.drew ?_ | with_reducible refine below_drewN ?_ _ | with_reducible refine Below.alloc ?_ ?_ _ | with_reducible refine Below.setCell ?_ ?_ _ | with_reducible refine below_thn (by with_reducible assumption) ?_ ?_ | (simp only [World.size_alloc, World.size_setCell, World.size_drew, size_drewN]; omega) | omega))⟩

theorem truth_calls (b : Bool) (w : World) : Calls Try.prog 41 #[.bool b] w fun e w' => e = .returned (.agg #[.int .i64 3, .int .i64 (if b then 1 else 0), .string ⟨#[]⟩]) ∧ Below w.heap.size w w' := by
  cases b <;>
  · go_enter Try.func41, Try.ntmps41
    go_wp2_with fail
    refine bodyPost_ret (v := .agg #[.int .i64 3, .int .i64 _, .string ⟨#[]⟩]) (by simp [results, Try.results41, go_sem]; try rfl) rfl ⟨rfl, ?_⟩
    (repeat (first | with_reducible exact Below.refl _ _ | with_reducible assumption | with_reducible refine Below.drew ?_ | with_reducible refine below_drewN ?_ _ | with_reducible refine bel_set ?_ _ _ | with_reducible refine bel_alloc ?_ _ | with_reducible refine bel_call (by with_reducible assumption) ?_))

set_option maxRecDepth 100000 in
theorem right_calls (v : V) (w : World) : Calls Try.prog 64 #[aggV v] w fun e w' => e = .returned (.bool v.ok) ∧ Below w.heap.size w w' := by
  obtain ⟨t, n, s⟩ := v
  by_cases t1 : t = 1
  · subst t1
    unfold aggV
    go_enter Try.func64, Try.ntmps64
    go_wp2_with fail
    go_ret
    exact ⟨by simp [V.ok], by (repeat (first | with_reducible exact Below.refl _ _ | with_reducible assumption | with_reducible refine Below.drew ?_ | with_reducible refine below_drewN ?_ _ | with_reducible refine bel_set ?_ _ _ | with_reducible refine bel_alloc ?_ _ | with_reducible refine bel_call (by with_reducible assumption) ?_))⟩
  by_cases t2 : t = 2
  · subst t2
    unfold aggV
    cases hn : (n == 0)
    all_goals
      go_enter Try.func64, Try.ntmps64
      go_wp2_with fail
      go_ret
      exact ⟨by simp [V.ok, *]; try omega, by (repeat (first | with_reducible exact Below.refl _ _ | with_reducible assumption | with_reducible refine Below.drew ?_ | with_reducible refine below_drewN ?_ _ | with_reducible refine bel_set ?_ _ _ | with_reducible refine bel_alloc ?_ _ | with_reducible refine bel_call (by with_reducible assumption) ?_))⟩
  by_cases t3 : t = 3
  · subst t3
    unfold aggV
    cases hn : (n == 0) <;> cases h1 : (n == 1)
    all_goals
      go_enter Try.func64, Try.ntmps64
      go_wp2_with fail
      go_ret
      exact ⟨by simp [V.ok, *]; try omega, by (repeat (first | with_reducible exact Below.refl _ _ | with_reducible assumption | with_reducible refine Below.drew ?_ | with_reducible refine below_drewN ?_ _ | with_reducible refine bel_set ?_ _ _ | with_reducible refine bel_alloc ?_ _ | with_reducible refine bel_call (by with_reducible assumption) ?_))⟩
  have e1 : (t == 1) = false := by simpa using t1
  have e2 : (t == 2) = false := by simpa using t2
  have e3 : (t == 3) = false := by simpa using t3
  unfold aggV
  go_enter Try.func64, Try.ntmps64
  go_wp2_with fail
  go_ret
  exact ⟨by simp [V.ok, t1, t2, t3], by (repeat (first | with_reducible exact Below.refl _ _ | with_reducible assumption | with_reducible refine Below.drew ?_ | with_reducible refine below_drewN ?_ _ | with_reducible refine bel_set ?_ _ _ | with_reducible refine bel_alloc ?_ _ | with_reducible refine bel_call (by with_reducible assumption) ?_))⟩

set_option maxHeartbeats 400000 in
theorem all_calls (a : Option Addr) (c : Nat) (xs : List V) (w : World) (hn : xs.length ≤ 9223372036854775807) (hx : Rd encV 3 w a xs) :
    Calls Try.prog 39 #[.slice a xs.length c] w fun e w' => e = .returned (.bool (xs.all V.ok)) ∧ Below w.heap.size w w' := by
  go_enter Try.func39, Try.ntmps39
  go_wp2_with fail
  go_loopw [3] (fun i wr => ∃ k : Nat, k ≤ xs.length ∧ i = .int .i64 k ∧ (xs.take k).all V.ok = true ∧ Below w.heap.size w wr) (fun i _ => xs.length - (intOf i).toNat)
  case atStart => exact ⟨0, Nat.zero_le _, rfl, by simp, Below.refl _ _⟩
  case round =>
    obtain ⟨k, hk, rfl, hall, hB⟩ := hrel
    have hzB := hB.size
    by_cases hlt : k < xs.length
    · obtain ⟨b, o, rfl, hc0⟩ := (hx.below hB (Nat.le_refl _)).vals (by omega)
      obtain ⟨h1, h2, h3⟩ := hc0 k hlt
      have hts := all_take_succ hlt
      have HTS := Lib.hid hts
      have HALL := Lib.hid hall
      clear hts hall
      cases hok : (xs[k]).ok
      · have hfin := all_false hlt hok
        have HF := Lib.hid hfin
        clear hfin
        go_wp2_with (go_at_call 64; refine (right_calls xs[k] _).mono ?_; rintro e w1 ⟨rfl, hb⟩)
        go_ret
        exact ⟨by rw [HF.out]; rfl, by (repeat (first | with_reducible exact Below.refl _ _ | with_reducible assumption | with_reducible refine Below.drew ?_ | with_reducible refine below_drewN ?_ _ | with_reducible refine Below.alloc ?_ ?_ _ | with_reducible refine Below.setCell ?_ ?_ _ | with_reducible refine below_thn (by with_reducible assumption) ?_ ?_ | (simp only [World.size_alloc, World.size_setCell, World.size_drew, size_drewN]; omega) | omega))⟩
      · go_wp2_with (go_at_call 64; refine (right_calls xs[k] _).mono ?_; rintro e w1 ⟨rfl, hb⟩)
        go_roundw
        case rel => exact ⟨k + 1, by omega, by go_num, by rw [HTS.out, HALL.out, hok]; rfl, by (repeat (first | with_reducible exact Below.refl _ _ | with_reducible assumption | with_reducible refine Below.drew ?_ | with_reducible refine below_drewN ?_ _ | with_reducible refine Below.alloc ?_ ?_ _ | with_reducible refine Below.setCell ?_ ?_ _ | with_reducible refine below_thn (by with_reducible assumption) ?_ ?_ | (simp only [World.size_alloc, World.size_setCell, World.size_drew, size_drewN]; omega) | omega))⟩
        case measure => simp [intOf]; omega
    · have hfin : xs.all V.ok = true := by rw [List.take_of_length_le (by omega)] at hall; exact hall
      have HF := Lib.hid hfin
      clear hfin hall
      go_wp2_with fail
      go_ret
      exact ⟨by rw [HF.out]; rfl, by (repeat (first | with_reducible exact Below.refl _ _ | with_reducible assumption | with_reducible refine Below.drew ?_ | with_reducible refine below_drewN ?_ _ | with_reducible refine Below.alloc ?_ ?_ _ | with_reducible refine Below.setCell ?_ ?_ _ | with_reducible refine below_thn (by with_reducible assumption) ?_ ?_ | (simp only [World.size_alloc, World.size_setCell, World.size_drew, size_drewN]; omega) | omega))⟩

set_option maxRecDepth 100000 in
set_option maxHeartbeats 1000000 in
theorem fits_calls (a : Option Addr) (c : Nat) (xs : List V) (a2 : Option Addr) (c2 : Nat) (ts : List Int) (w : World) (hn : xs.length ≤ 1000000) (hn2 : ts.length ≤ 1000000) (hx : Rd encV 3 w a xs) (ht : Rd encI 1 w a2 ts) :
    Calls Try.prog 23 #[.slice a xs.length c, .slice a2 ts.length c2] w fun e w' => e = .returned (.bool (fits xs ts)) ∧ Below w.heap.size w w' := by
  by_cases hl : xs.length = ts.length
  · cases ha : xs.all V.ok
    · have hfin := fits_all (ts := ts) ha
      have HF := Lib.hid hfin
      have hb : ((xs.length : Int) != ts.length) = false := by simp [hl]
      have HA := Lib.hid ha
      clear hl hfin ha
      go_enter Try.func23, Try.ntmps23
      go_wp2_with (go_at_call 39; refine (all_calls a c xs _ (by omega) hx).mono ?_; rw [HA.out]; rintro e w1 ⟨rfl, hb⟩)
      go_ret
      exact ⟨by rw [HF.out]; rfl, by (repeat (first | with_reducible exact Below.refl _ _ | with_reducible assumption | with_reducible refine Below.drew ?_ | with_reducible refine below_drewN ?_ _ | with_reducible refine Below.alloc ?_ ?_ _ | with_reducible refine Below.setCell ?_ ?_ _ | with_reducible refine below_thn (by with_reducible assumption) ?_ ?_ | (simp only [World.size_alloc, World.size_setCell, World.size_drew, size_drewN]; omega) | omega))⟩
    · have HA := Lib.hid ha
      have HL := Lib.hid hl
      have hb : ((xs.length : Int) != ts.length) = false := by simp [hl]
      clear ha hl
      go_enter Try.func23, Try.ntmps23
      go_wp2_with (go_at_call 39; refine (all_calls a c xs _ (by omega) hx).mono ?_; rw [HA.out]; rintro e w1 ⟨rfl, hb⟩)
      go_loopw [5] (fun i wr => ∃ k : Nat, k ≤ xs.length ∧ i = .int .i64 k ∧ (xs.take k).map (·.t) = ts.take k ∧ Below w.heap.size w wr) (fun i _ => xs.length - (intOf i).toNat)
      case atStart => exact ⟨0, Nat.zero_le _, rfl, rfl, by (repeat (first | with_reducible exact Below.refl _ _ | with_reducible assumption | with_reducible refine Below.drew ?_ | with_reducible refine below_drewN ?_ _ | with_reducible refine Below.alloc ?_ ?_ _ | with_reducible refine Below.setCell ?_ ?_ _ | with_reducible refine below_thn (by with_reducible assumption) ?_ ?_ | (simp only [World.size_alloc, World.size_setCell, World.size_drew, size_drewN]; omega) | omega))⟩
      case round =>
        obtain ⟨k, hk, rfl, hmap, hB⟩ := hrel
        have hzB := hB.size
        by_cases hlt : k < xs.length
        · have hlt2 : k < ts.length := by have := HL.out; omega
          obtain ⟨b, o, rfl, hc0⟩ := (hx.below hB (Nat.le_refl _)).vals (by omega)
          obtain ⟨h1, h2, h3⟩ := hc0 k hlt
          obtain ⟨b2, o2, rfl, hd0⟩ := (ht.below hB (Nat.le_refl _)).ints (by omega)
          have h4 := hd0 k hlt2
          clear hc0 hd0
          by_cases he : xs[k].t = ts[k]
          · have hm := map_take_succ hlt hlt2 hmap he
            have HM := Lib.hid hm
            have hne : (xs[k].t != ts[k]) = false := by simp [he]
            clear hmap he hm
            go_wp2_with fail
            go_quiet (fail)
            go_wp2_with fail
            go_roundw
            case rel => exact ⟨k + 1, by omega, by go_num, HM.out, by (repeat (first | with_reducible exact Below.refl _ _ | with_reducible assumption | with_reducible refine Below.drew ?_ | with_reducible refine below_drewN ?_ _ | with_reducible refine Below.alloc ?_ ?_ _ | with_reducible refine Below.setCell ?_ ?_ _ | with_reducible refine below_thn (by with_reducible assumption) ?_ ?_ | (simp only [World.size_alloc, World.size_setCell, World.size_drew, size_drewN]; omega) | omega))⟩
            case measure => simp [intOf]; omega
          · have hfin := fits_at hlt hlt2 he
            have HF := Lib.hid hfin
            have hne : (xs[k].t != ts[k]) = true := by simp [he]
            clear hmap he hfin
            go_wp2_with fail
            go_quiet (fail)
            go_wp2_with fail
            go_ret
            exact ⟨by rw [HF.out]; rfl, by (repeat (first | with_reducible exact Below.refl _ _ | with_reducible assumption | with_reducible refine Below.drew ?_ | with_reducible refine below_drewN ?_ _ | with_reducible refine Below.alloc ?_ ?_ _ | with_reducible refine Below.setCell ?_ ?_ _ | with_reducible refine below_thn (by with_reducible assumption) ?_ ?_ | (simp only [World.size_alloc, World.size_setCell, World.size_drew, size_drewN]; omega) | omega))⟩
        · have hfin : fits xs ts = true := by
            have h1 := HL.out
            rw [List.take_of_length_le (by omega), List.take_of_length_le (by omega)] at hmap
            unfold fits
            rw [hmap, HA.out]
            simp [h1]
          have HF := Lib.hid hfin
          clear hfin hmap
          go_wp2_with fail
          go_ret
          exact ⟨by rw [HF.out]; rfl, by (repeat (first | with_reducible exact Below.refl _ _ | with_reducible assumption | with_reducible refine Below.drew ?_ | with_reducible refine below_drewN ?_ _ | with_reducible refine Below.alloc ?_ ?_ _ | with_reducible refine Below.setCell ?_ ?_ _ | with_reducible refine below_thn (by with_reducible assumption) ?_ ?_ | (simp only [World.size_alloc, World.size_setCell, World.size_drew, size_drewN]; omega) | omega))⟩
  · have hb : ((xs.length : Int) != ts.length) = true := by simp; omega
    have hfin := fits_ne hl
    have HF := Lib.hid hfin
    clear hl hfin
    go_enter Try.func23, Try.ntmps23
    go_wp2_with fail
    go_ret
    exact ⟨by rw [HF.out]; rfl, Below.refl _ _⟩


theorem bne_str (s : ByteArray) : (s.toList != s.toList) = false := by simp
set_option maxHeartbeats 1000000 in
set_option maxRecDepth 100000 in
/-- law2.Same of two lists that are the same. -/
theorem same_calls (a : Option Addr) (c : Nat) (xs : List V) (a2 : Option Addr) (c2 : Nat) (w : World) (hn : xs.length ≤ 1000000) (hx : Rd encV 3 w a xs) (hy : Rd encV 3 w a2 xs) :
    Calls Try.prog 13 #[.slice a xs.length c, .slice a2 xs.length c2] w fun e w' => e = .returned (.bool true) ∧ Below w.heap.size w w' := by
  have hb : ((xs.length : Int) != xs.length) = false := by simp
  go_enter Try.func13, Try.ntmps13
  go_wp2_with fail
  go_loopw [5] (fun i wr => ∃ k : Nat, k ≤ xs.length ∧ i = .int .i64 k ∧ Below w.heap.size w wr) (fun i _ => xs.length - (intOf i).toNat)
  case atStart => exact ⟨0, Nat.zero_le _, rfl, Below.refl _ _⟩
  case round =>
    obtain ⟨k, hk, rfl, hB⟩ := hrel
    have hzB := hB.size
    by_cases hlt : k < xs.length
    · obtain ⟨b, o, rfl, hc0⟩ := (hx.below hB (Nat.le_refl _)).vals (by omega)
      obtain ⟨h1, h2, h3⟩ := hc0 k hlt
      obtain ⟨b2, o2, rfl, hd0⟩ := (hy.below hB (Nat.le_refl _)).vals (by omega)
      obtain ⟨i1, i2, i3⟩ := hd0 k hlt
      clear hc0 hd0
      have e1 : (xs[k].t != xs[k].t) = false := by simp
      have e2 : (xs[k].n != xs[k].n) = false := by simp
      have e3 := bne_str xs[k].s
      go_wp2_with fail
      go_quiet (fail)
      go_wp2_with fail
      go_roundw
      case rel => exact ⟨k + 1, by omega, by go_num, by (repeat (first | with_reducible exact Below.refl _ _ | with_reducible assumption | with_reducible refine Below.drew ?_ | with_reducible refine below_drewN ?_ _ | with_reducible refine Below.alloc ?_ ?_ _ | with_reducible refine Below.setCell ?_ ?_ _ | with_reducible refine below_thn (by with_reducible assumption) ?_ ?_ | (simp only [World.size_alloc, World.size_setCell, World.size_drew, size_drewN]; omega) | omega))⟩
      case measure => simp [intOf]; omega
    · go_wp2_with fail
      go_ret
      exact ⟨rfl, by (repeat (first | with_reducible exact Below.refl _ _ | with_reducible assumption | with_reducible refine Below.drew ?_ | with_reducible refine below_drewN ?_ _ | with_reducible refine Below.alloc ?_ ?_ _ | with_reducible refine Below.setCell ?_ ?_ _ | with_reducible refine below_thn (by with_reducible assumption) ?_ ?_ | (simp only [World.size_alloc, World.size_setCell, World.size_drew, size_drewN]; omega) | omega))⟩
end Go.Proofs.Ytnapbjfmkofhcaa.RefB
