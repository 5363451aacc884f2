/- value.all, Fits, Zero: contracts. -/
import Derived.Test.YtnapbjfmkofhcaaVal
namespace Go.Proofs.Ytnapbjfmkofhcaa.ValB
set_option linter.unusedVariables false
set_option linter.unusedSimpArgs false
open Go.RowKit Wd Val

theorem all_take_succ {xs : List V} {k : Nat} (h : k < xs.length) : (xs.take (k + 1)).all V.ok = ((xs.take k).all V.ok && (xs[k]).ok) := by
  rw [List.take_succ_eq_append_getElem h, List.all_append]; simp

theorem all_false {xs : List V} {k : Nat} (h : k < xs.length) (hf : (xs[k]).ok = false) : xs.all V.ok = false := by
  cases hx : xs.all V.ok with
  | false => rfl
  | true => rw [List.all_eq_true.1 hx _ (List.getElem_mem h)] at hf; cases hf

set_option maxHeartbeats 400000 in
theorem all_calls (a : Option Addr) (c : Nat) (xs : List V) (w : World) (hn : xs.length ≤ 9223372036854775807) (hx : Rd encV 3 w a xs) :
    Calls Try.prog 34 #[.slice a xs.length c] w fun e w' => e = .returned (.bool (xs.all V.ok)) ∧ Below w.heap.size w w' := by
  go_enter Try.func34, Try.ntmps34
  go_wp2_with fail
  go_loopw [7] (fun i wr => ∃ k : Nat, k ≤ xs.length ∧ i = .int .i64 k ∧ (xs.take k).all V.ok = true ∧ Below w.heap.size w wr) (fun i _ => xs.length - (intOf i).toNat)
  case atStart => exact ⟨0, Nat.zero_le _, rfl, by simp, Below.refl _ _⟩
  case round =>
    obtain ⟨k, hk, rfl, hall, hB⟩ := hrel
    have hzB := hB.size
    by_cases hlt : k < xs.length
    · obtain ⟨b, o, rfl, hc0⟩ := (hx.below hB (Nat.le_refl _)).vals (by omega)
      obtain ⟨h1, h2, h3⟩ := hc0 k hlt
      have hts := all_take_succ hlt
      have HTS := Lib.hid hts
      have HALL := Lib.hid hall
      clear hts hall
      cases hok : (xs[k]).ok
      · have hfin := all_false hlt hok
        have HF := Lib.hid hfin
        clear hfin
        go_wp2_with (go_at_call 56; refine (right_calls xs[k] _).mono ?_; rintro e w1 ⟨rfl, hb⟩)
        go_ret
        exact ⟨by rw [HF.out]; rfl, by (repeat (first | with_reducible exact Below.refl _ _ | with_reducible assumption | with_reducible refine Below.drew ?_ | with_reducible refine below_drewN ?_ _ | with_reducible refine Below.alloc ?_ ?_ _ | with_reducible refine Below.setCell ?_ ?_ _ | with_reducible refine below_thn (by with_reducible assumption) ?_ ?_ | (simp only [World.size_alloc, World.size_setCell, World.size_drew, size_drewN]; omega) | omega))⟩
      · go_wp2_with (go_at_call 56; refine (right_calls xs[k] _).mono ?_; rintro e w1 ⟨rfl, hb⟩)
        go_roundw
        case rel => exact ⟨k + 1, by omega, by go_num, by rw [HTS.out, HALL.out, hok]; rfl, by (repeat (first | with_reducible exact Below.refl _ _ | with_reducible assumption | with_reducible refine Below.drew ?_ | with_reducible refine below_drewN ?_ _ | with_reducible refine Below.alloc ?_ ?_ _ | with_reducible refine Below.setCell ?_ ?_ _ | with_reducible refine below_thn (by with_reducible assumption) ?_ ?_ | (simp only [World.size_alloc, World.size_setCell, World.size_drew, size_drewN]; omega) | omega))⟩
        case measure => simp [intOf]; omega
    · have hfin : xs.all V.ok = true := by rw [List.take_of_length_le (by omega)] at hall; exact hall
      have HF := Lib.hid hfin
      clear hfin hall
      go_wp2_with fail
      go_ret
      exact ⟨by rw [HF.out]; rfl, by (repeat (first | with_reducible exact Below.refl _ _ | with_reducible assumption | with_reducible refine Below.drew ?_ | with_reducible refine below_drewN ?_ _ | with_reducible refine Below.alloc ?_ ?_ _ | with_reducible refine Below.setCell ?_ ?_ _ | with_reducible refine below_thn (by with_reducible assumption) ?_ ?_ | (simp only [World.size_alloc, World.size_setCell, World.size_drew, size_drewN]; omega) | omega))⟩

theorem fits_ne {xs : List V} {ts : List Int} (h : xs.length ≠ ts.length) : fits xs ts = false := by unfold fits; simp [h]
theorem fits_all {xs : List V} {ts : List Int} (h : xs.all V.ok = false) : fits xs ts = false := by unfold fits; simp [h]
theorem map_take_succ {xs : List V} {ts : List Int} {k : Nat} (h : k < xs.length) (h2 : k < ts.length) (hp : (xs.take k).map (·.t) = ts.take k) (he : xs[k].t = ts[k]) : (xs.take (k + 1)).map (·.t) = ts.take (k + 1) := by
  rw [List.take_succ_eq_append_getElem h, List.take_succ_eq_append_getElem h2, List.map_append, hp]; simp [he]
theorem fits_at {xs : List V} {ts : List Int} {k : Nat} (h : k < xs.length) (h2 : k < ts.length) (he : xs[k].t ≠ ts[k]) : fits xs ts = false := by
  unfold fits
  have : (xs.map (·.t) == ts) = false := by
    rw [beq_eq_false_iff_ne]
    intro hq
    apply he
    have h3 : k < (xs.map (·.t)).length := by simpa using h
    have : (xs.map (·.t))[k] = ts[k] := by simp only [hq]
    simpa using this
  rw [this]; simp

set_option maxRecDepth 100000 in
set_option maxHeartbeats 1000000 in
theorem fits_calls (a : Option Addr) (c : Nat) (xs : List V) (a2 : Option Addr) (c2 : Nat) (ts : List Int) (w : World) (hn : xs.length ≤ 1000000) (hn2 : ts.length ≤ 1000000) (hx : Rd encV 3 w a xs) (ht : Rd encI 1 w a2 ts) :
    Calls Try.prog 19 #[.slice a xs.length c, .slice a2 ts.length c2] w fun e w' => e = .returned (.bool (fits xs ts)) ∧ Below w.heap.size w w' := by
  by_cases hl : xs.length = ts.length
  · cases ha : xs.all V.ok
    · have hfin := fits_all (ts := ts) ha
      have HF := Lib.hid hfin
      have hb : ((xs.length : Int) != ts.length) = false := by simp [hl]
      have HA := Lib.hid ha
      clear hl hfin ha
      go_enter Try.func19, Try.ntmps19
      go_wp2_with (go_at_call 34; refine (all_calls a c xs _ (by omega) hx).mono ?_; rw [HA.out]; rintro e w1 ⟨rfl, hb⟩)
      go_ret
      exact ⟨by rw [HF.out]; rfl, by (repeat (first | with_reducible exact Below.refl _ _ | with_reducible assumption | with_reducible refine Below.drew ?_ | with_reducible refine below_drewN ?_ _ | with_reducible refine Below.alloc ?_ ?_ _ | with_reducible refine Below.setCell ?_ ?_ _ | with_reducible refine below_thn (by with_reducible assumption) ?_ ?_ | (simp only [World.size_alloc, World.size_setCell, World.size_drew, size_drewN]; omega) | omega))⟩
    · have HA := Lib.hid ha
      have HL := Lib.hid hl
      have hb : ((xs.length : Int) != ts.length) = false := by simp [hl]
      clear ha hl
      go_enter Try.func19, Try.ntmps19
      go_wp2_with (go_at_call 34; refine (all_calls a c xs _ (by omega) hx).mono ?_; rw [HA.out]; rintro e w1 ⟨rfl, hb⟩)
      go_loopw [19] (fun i wr => ∃ k : Nat, k ≤ xs.length ∧ i = .int .i64 k ∧ (xs.take k).map (·.t) = ts.take k ∧ Below w.heap.size w wr) (fun i _ => xs.length - (intOf i).toNat)
      case atStart => exact ⟨0, Nat.zero_le _, rfl, rfl, by (repeat (first | with_reducible exact Below.refl _ _ | with_reducible assumption | with_reducible refine Below.drew ?_ | with_reducible refine below_drewN ?_ _ | with_reducible refine Below.alloc ?_ ?_ _ | with_reducible refine Below.setCell ?_ ?_ _ | with_reducible refine below_thn (by with_reducible assumption) ?_ ?_ | (simp only [World.size_alloc, World.size_setCell, World.size_drew, size_drewN]; omega) | omega))⟩
      case round =>
        obtain ⟨k, hk, rfl, hmap, hB⟩ := hrel
        have hzB := hB.size
        by_cases hlt : k < xs.length
        · have hlt2 : k < ts.length := by have := HL.out; omega
          obtain ⟨b, o, rfl, hc0⟩ := (hx.below hB (Nat.le_refl _)).vals (by omega)
          obtain ⟨h1, h2, h3⟩ := hc0 k hlt
          obtain ⟨b2, o2, rfl, hd0⟩ := (ht.below hB (Nat.le_refl _)).ints (by omega)
          have h4 := hd0 k hlt2
          clear hc0 hd0
          have hl1 := cell_lt h4
          simp only at hl1
          have h5 : (wr.alloc (.cells #[.int .i64 xs[k].t, .int .i64 xs[k].n, .string xs[k].s] 33)).cell? ⟨b2, o2 + k, none⟩ = some (.int .i64 ts[k]) := (World.cell?_alloc_past _ _ _ hl1).trans h4
          by_cases he : xs[k].t = ts[k]
          · have hm := map_take_succ hlt hlt2 hmap he
            have HM := Lib.hid hm
            have hne : (xs[k].t != ts[k]) = false := by simp [he]
            clear hmap he hm
            go_wp2_with fail
            go_quiet (fail)
            go_wp2_with fail
            go_roundw
            case rel => exact ⟨k + 1, by omega, by go_num, HM.out, by (repeat (first | with_reducible exact Below.refl _ _ | with_reducible assumption | with_reducible refine Below.drew ?_ | with_reducible refine below_drewN ?_ _ | with_reducible refine Below.alloc ?_ ?_ _ | with_reducible refine Below.setCell ?_ ?_ _ | with_reducible refine below_thn (by with_reducible assumption) ?_ ?_ | (simp only [World.size_alloc, World.size_setCell, World.size_drew, size_drewN]; omega) | omega))⟩
            case measure => simp [intOf]; omega
          · have hfin := fits_at hlt hlt2 he
            have HF := Lib.hid hfin
            have hne : (xs[k].t != ts[k]) = true := by simp [he]
            clear hmap he hfin
            go_wp2_with fail
            go_quiet (fail)
            go_wp2_with fail
            go_ret
            exact ⟨by rw [HF.out]; rfl, by (repeat (first | with_reducible exact Below.refl _ _ | with_reducible assumption | with_reducible refine Below.drew ?_ | with_reducible refine below_drewN ?_ _ | with_reducible refine Below.alloc ?_ ?_ _ | with_reducible refine Below.setCell ?_ ?_ _ | with_reducible refine below_thn (by with_reducible assumption) ?_ ?_ | (simp only [World.size_alloc, World.size_setCell, World.size_drew, size_drewN]; omega) | omega))⟩
        · have hfin : fits xs ts = true := by
            have h1 := HL.out
            rw [List.take_of_length_le (by omega), List.take_of_length_le (by omega)] at hmap
            unfold fits
            rw [hmap, HA.out]
            simp [h1]
          have HF := Lib.hid hfin
          clear hfin hmap
          go_wp2_with fail
          go_ret
          exact ⟨by rw [HF.out]; rfl, by (repeat (first | with_reducible exact Below.refl _ _ | with_reducible assumption | with_reducible refine Below.drew ?_ | with_reducible refine below_drewN ?_ _ | with_reducible refine Below.alloc ?_ ?_ _ | with_reducible refine Below.setCell ?_ ?_ _ | with_reducible refine below_thn (by with_reducible assumption) ?_ ?_ | (simp only [World.size_alloc, World.size_setCell, World.size_drew, size_drewN]; omega) | omega))⟩
  · have hb : ((xs.length : Int) != ts.length) = true := by simp; omega
    have hfin := fits_ne hl
    have HF := Lib.hid hfin
    clear hl hfin
    go_enter Try.func19, Try.ntmps19
    go_wp2_with fail
    go_ret
    exact ⟨by rw [HF.out]; rfl, Below.refl _ _⟩

def zeroV (t : Int) : V := if t = 1 ∨ t = 2 ∨ t = 3 then ⟨t, 0, ⟨#[]⟩⟩ else ⟨0, 0, ⟨#[]⟩⟩
theorem zero_calls (t : Int) (h1 : 1 ≤ t) (h3 : t ≤ 3) (w : World) : Calls Try.prog 36 #[.int .i64 t] w fun e w' => e = .returned (aggV (zeroV t)) ∧ Below w.heap.size w w' := by
  have hz : zeroV t = ⟨t, 0, ⟨#[]⟩⟩ := by unfold zeroV; rw [if_pos (by omega)]
  rw [hz]
  unfold aggV
  clear hz
  obtain rfl | rfl | rfl : t = 1 ∨ t = 2 ∨ t = 3 := by omega
  all_goals
    go_enter Try.func36, Try.ntmps36
    go_wp2_with fail
    exact bodyPost_ret (v := .agg #[.int .i64 _, .int .i64 0, .string ⟨#[]⟩]) (by simp [results, Try.results36, go_sem]; try rfl) rfl ⟨rfl, by (repeat (first | with_reducible exact Below.refl _ _ | with_reducible assumption | with_reducible refine Below.drew ?_ | with_reducible refine below_drewN ?_ _ | with_reducible refine Below.alloc ?_ ?_ _ | with_reducible refine Below.setCell ?_ ?_ _ | with_reducible refine below_thn (by with_reducible assumption) ?_ ?_ | (simp only [World.size_alloc, World.size_setCell, World.size_drew, size_drewN]; omega) | omega))⟩
end Go.Proofs.Ytnapbjfmkofhcaa.ValB
