/- code.Right and what it asks: contracts. -/
import Derived.Test.YtnapbjfmkofhcaaOpB
import Derived.Test.YtnapbjfmkofhcaaSl
namespace Go.Proofs.Ytnapbjfmkofhcaa.Code
set_option linter.unusedVariables false
set_option linter.unusedSimpArgs false
open Go.RowKit Wd OpA OpB Sl

/-- The least and the greatest number of an instruction. -/
def lim (s : Sc) (slots : Int) (t : Int) : Int × Int :=
  if t = 2 then (0, (s.consts.length : Int) - 1) else if t = 3 then (0, slots - 1) else if t = 4 then (1, 64) else if t = 5 then (0, (s.funcs.length : Int) - 1) else (0, 0)
/-- May an instruction be? -/
def rightI (s : Sc) (slots : Int) (x : I) : Bool :=
  (opRow x.op).2.1 == 1 || (!(opRow x.op).1.toList.isEmpty && decide ((lim s slots (opRow x.op).2.1).1 ≤ x.a) && decide (x.a ≤ (lim s slots (opRow x.op).2.1).2))

theorem bad_calls (n : Int) (w : World) : Calls Try.prog 30 #[.int .i64 n] w fun e w' => e = .returned (.bool (decide (n < 1) || decide (3 < n))) ∧ Below w.heap.size w w' := by
  by_cases h : n < 1
  · have hd : decide (n < 1) = true := by simp; omega
    go_enter Try.func30, Try.ntmps30
    go_wp2_with fail
    go_ret
    exact ⟨by simp [h], Below.refl _ _⟩
  · have hd : decide (n < 1) = false := by simp; omega
    go_enter Try.func30, Try.ntmps30
    go_wp2_with fail
    go_ret
    exact ⟨by simp [hd], Below.refl _ _⟩

theorem long_calls (s : ByteArray) (hs : s.size ≤ 9223372036854775807) (w : World) : Calls Try.prog 26 #[.string s] w fun e w' => e = .returned (.bool (decide (256 < s.size))) ∧ Below w.heap.size w w' := by
  by_cases h : 256 < s.size
  · have hd : decide ((256 : Int) < s.size) = true := by simp; omega
    go_enter Try.func26, Try.ntmps26
    go_wp2_with fail
    go_ret
    exact ⟨by simp [h], Below.refl _ _⟩
  · have hd : decide ((256 : Int) < s.size) = false := by simp; omega
    go_enter Try.func26, Try.ntmps26
    go_wp2_with fail
    go_ret
    exact ⟨by simp [h], Below.refl _ _⟩

theorem takes_range (op : Int) : 0 ≤ (opRow op).2.1 ∧ (opRow op).2.1 ≤ 5 := by
  unfold opRow
  split
  · rename_i h
    have key : ∀ n : Nat, n < 54 → 0 ≤ (rows.getD n (⟨#[]⟩, 0, ⟨#[]⟩, ⟨#[]⟩, 0)).2.1 ∧ (rows.getD n (⟨#[]⟩, 0, ⟨#[]⟩, ⟨#[]⟩, 0)).2.1 ≤ 5 := by decide +kernel
    exact key _ (by omega)
  · decide

set_option maxRecDepth 100000 in
set_option maxHeartbeats 2000000 in
theorem rightI_calls (s : Sc) (slots : Int) (x : I) (a1 : Option Addr) (c1 : Nat) (a2 : Option Addr) (c2 : Nat) (h1 : s.consts.length ≤ 1000000) (h2 : s.funcs.length ≤ 1000000) (h3 : 0 ≤ slots) (h4 : slots ≤ 1000000) (w : World) :
    Calls Try.prog 31 #[.agg #[.slice a1 s.consts.length c1, .slice a2 s.funcs.length c2], .int .i64 slots, .agg #[.int .i64 x.op, .int .i64 x.a]] w fun e w' => e = .returned (.bool (rightI s slots x)) ∧ Below w.heap.size w w' := by
  obtain ⟨op, a⟩ := x
  simp only
  obtain ⟨ht0, ht5⟩ := takes_range op
  generalize hn : (opRow op).1 = nm
  generalize ht : (opRow op).2.1 = t at ht0 ht5
  have hR : rightI s slots ⟨op, a⟩ = (t == 1 || (!nm.toList.isEmpty && decide ((lim s slots t).1 ≤ a) && decide (a ≤ (lim s slots t).2))) := by unfold rightI; rw [hn, ht]
  rw [hR]
  have HN := Lib.hid hn
  have HT := Lib.hid ht
  clear hn ht hR
  by_cases t1 : t = 1
  · subst t1
    go_enter Try.func31, Try.ntmps31
    go_wp2_with (first | (go_at_call 50; refine (takes_calls _ _).mono ?_; rw [HT.out]; rintro e w1 ⟨rfl, hb⟩; obtain ⟨hc, hf, hz⟩ := bcell hb; (try simp only [World.size_alloc, World.size_drew, World.size_setCell] at hc hf hz)) | (go_at_call 51; refine (name_calls _ _).mono ?_; rw [HN.out]; rintro e w2 ⟨rfl, hb2⟩; replace hb := below_thn hb2 hb hb.size; clear hc hf hz hb2; obtain ⟨hc, hf, hz⟩ := bcell hb; (try simp only [World.size_alloc, World.size_drew, World.size_setCell] at hc hf hz)))
    go_ret
    exact ⟨by simp, by (repeat (first | with_reducible exact Below.refl _ _ | with_reducible assumption | with_reducible refine Below.drew ?_ | with_reducible refine below_drewN ?_ _ | with_reducible refine Below.alloc ?_ ?_ _ | with_reducible refine Below.setCell ?_ ?_ _ | with_reducible refine below_thn (by with_reducible assumption) ?_ ?_ | (simp only [World.size_alloc, World.size_setCell, World.size_drew, size_drewN]; omega) | omega))⟩
  · cases he : nm.toList.isEmpty
    · have hl : ∃ lo hi, lim s slots t = (lo, hi) := ⟨_, _, rfl⟩
      obtain ⟨lo, hi, hl⟩ := hl
      rw [hl]
      unfold lim at hl
      have ht' : t = 0 ∨ t = 2 ∨ t = 3 ∨ t = 4 ∨ t = 5 := by omega
      rcases ht' with rfl | rfl | rfl | rfl | rfl
      all_goals
        simp at hl
        obtain ⟨rfl, rfl⟩ := hl
        cases hlo : decide (_ ≤ a)
        all_goals
          go_enter Try.func31, Try.ntmps31
          go_wp2_with (first | (go_at_call 50; refine (takes_calls _ _).mono ?_; rw [HT.out]; rintro e w1 ⟨rfl, hb⟩; obtain ⟨hc, hf, hz⟩ := bcell hb; (try simp only [World.size_alloc, World.size_drew, World.size_setCell] at hc hf hz)) | (go_at_call 51; refine (name_calls _ _).mono ?_; rw [HN.out]; rintro e w2 ⟨rfl, hb2⟩; replace hb := below_thn hb2 hb hb.size; clear hc hf hz hb2; obtain ⟨hc, hf, hz⟩ := bcell hb; (try simp only [World.size_alloc, World.size_drew, World.size_setCell] at hc hf hz)))
          go_ret
          exact ⟨by simp [*], by (repeat (first | with_reducible exact Below.refl _ _ | with_reducible assumption | with_reducible refine Below.drew ?_ | with_reducible refine below_drewN ?_ _ | with_reducible refine Below.alloc ?_ ?_ _ | with_reducible refine Below.setCell ?_ ?_ _ | with_reducible refine below_thn (by with_reducible assumption) ?_ ?_ | (simp only [World.size_alloc, World.size_setCell, World.size_drew, size_drewN]; omega) | omega))⟩
    · go_enter Try.func31, Try.ntmps31
      go_wp2_with (first | (go_at_call 50; refine (takes_calls _ _).mono ?_; rw [HT.out]; rintro e w1 ⟨rfl, hb⟩; obtain ⟨hc, hf, hz⟩ := bcell hb; (try simp only [World.size_alloc, World.size_drew, World.size_setCell] at hc hf hz)) | (go_at_call 51; refine (name_calls _ _).mono ?_; rw [HN.out]; rintro e w2 ⟨rfl, hb2⟩; replace hb := below_thn hb2 hb hb.size; clear hc hf hz hb2; obtain ⟨hc, hf, hz⟩ := bcell hb; (try simp only [World.size_alloc, World.size_drew, World.size_setCell] at hc hf hz)))
      all_goals (go_ret; exact ⟨by simp [*], by (repeat (first | with_reducible exact Below.refl _ _ | with_reducible assumption | with_reducible refine Below.drew ?_ | with_reducible refine below_drewN ?_ _ | with_reducible refine Below.alloc ?_ ?_ _ | with_reducible refine Below.setCell ?_ ?_ _ | with_reducible refine below_thn (by with_reducible assumption) ?_ ?_ | (simp only [World.size_alloc, World.size_setCell, World.size_drew, size_drewN]; omega) | omega))⟩)

def badB (n : Int) : Bool := decide (n < 1) || decide (3 < n)
def longB (s : ByteArray) : Bool := decide (256 < s.size)
set_option maxRecDepth 100000 in
set_option maxHeartbeats 1000000 in
theorem indexI_calls (a : Option Addr) (c : Nat) (xs : List Int) (w : World) (hn : xs.length ≤ 1000000) (hx : Rd encI 1 w a xs) :
    Calls Try.prog 48 #[.slice a xs.length c, .func (.func 30) #[] #[]] w fun e w' => (∃ n : Int, e = .returned (.int .i64 n) ∧ decide (0 ≤ n) = xs.any badB) ∧ Below w.heap.size w w' := by
  go_enter Try.func48, Try.ntmps48
  go_wp2_with fail
  go_loopw [8] (fun i wr => ∃ k : Nat, k ≤ xs.length ∧ i = .int .i64 k ∧ (xs.take k).any badB = false ∧ Below w.heap.size w wr) (fun i _ => xs.length - (intOf i).toNat)
  case atStart => exact ⟨0, Nat.zero_le _, rfl, by simp, Below.refl _ _⟩
  case round =>
    obtain ⟨k, hk, rfl, hany, hB⟩ := hrel
    have hzB := hB.size
    by_cases hlt : k < xs.length
    · obtain ⟨b, o, rfl, hc0⟩ := (hx.below hB (Nat.le_refl _)).ints (by omega)
      have h1 := hc0 k hlt
      clear hc0
      have hts : (xs.take (k + 1)).any badB = ((xs.take k).any badB || badB xs[k]) := by rw [List.take_succ_eq_append_getElem hlt, List.any_append]; simp
      have HTS := Lib.hid hts
      have HANY := Lib.hid hany
      have hall : badB xs[k] = true → xs.any badB = true := fun h => List.any_eq_true.2 ⟨_, List.getElem_mem hlt, h⟩
      have HALL := Lib.hid hall
      clear hts hany hall
      cases hp : badB xs[k]
      all_goals
        have HP := Lib.hid hp
        clear hp
        go_wp2_with (go_at_call 30; refine (bad_calls xs[k] _).mono ?_; rw [show (decide (xs[k] < 1) || decide (3 < xs[k])) = badB xs[k] from rfl, HP.out]; rintro e w1 ⟨rfl, hb⟩)
      · go_roundw
        case rel => exact ⟨k + 1, by omega, by go_num, by rw [HTS.out, HANY.out, HP.out]; rfl, by (repeat (first | with_reducible exact Below.refl _ _ | with_reducible assumption | with_reducible refine Below.drew ?_ | with_reducible refine below_drewN ?_ _ | with_reducible refine Below.alloc ?_ ?_ _ | with_reducible refine Below.setCell ?_ ?_ _ | with_reducible refine below_thn (by with_reducible assumption) ?_ ?_ | (simp only [World.size_alloc, World.size_setCell, World.size_drew, size_drewN]; omega) | omega))⟩
        case measure => simp [intOf]; omega
      · go_ret
        exact ⟨⟨k, rfl, by rw [HALL.out HP.out]; simp⟩, by (repeat (first | with_reducible exact Below.refl _ _ | with_reducible assumption | with_reducible refine Below.drew ?_ | with_reducible refine below_drewN ?_ _ | with_reducible refine Below.alloc ?_ ?_ _ | with_reducible refine Below.setCell ?_ ?_ _ | with_reducible refine below_thn (by with_reducible assumption) ?_ ?_ | (simp only [World.size_alloc, World.size_setCell, World.size_drew, size_drewN]; omega) | omega))⟩
    · have hfin : xs.any badB = false := by rw [List.take_of_length_le (by omega)] at hany; exact hany
      have HF := Lib.hid hfin
      clear hfin hany
      go_wp2_with fail
      go_ret
      exact ⟨⟨-1, rfl, by rw [HF.out]; rfl⟩, by (repeat (first | with_reducible exact Below.refl _ _ | with_reducible assumption | with_reducible refine Below.drew ?_ | with_reducible refine below_drewN ?_ _ | with_reducible refine Below.alloc ?_ ?_ _ | with_reducible refine Below.setCell ?_ ?_ _ | with_reducible refine below_thn (by with_reducible assumption) ?_ ?_ | (simp only [World.size_alloc, World.size_setCell, World.size_drew, size_drewN]; omega) | omega))⟩

set_option maxRecDepth 100000 in
theorem containsI_calls (a : Option Addr) (c : Nat) (xs : List Int) (w : World) (hn : xs.length ≤ 1000000) (hx : Rd encI 1 w a xs) :
    Calls Try.prog 28 #[.slice a xs.length c, .func (.func 30) #[] #[]] w fun e w' => e = .returned (.bool (xs.any badB)) ∧ Below w.heap.size w w' := by
  have HX := Lib.hid hx
  clear hx
  go_enter Try.func28, Try.ntmps28
  go_wp2_with (go_at_call 48; refine (indexI_calls a c xs _ hn HX.out).mono ?_; rintro e w1 ⟨⟨n, rfl, hd⟩, hb⟩; have HD := Lib.hid hd; clear hd)
  go_ret
  exact ⟨by rw [← HD.out]; rfl, by (repeat (first | with_reducible exact Below.refl _ _ | with_reducible assumption | with_reducible refine Below.drew ?_ | with_reducible refine below_drewN ?_ _ | with_reducible refine Below.alloc ?_ ?_ _ | with_reducible refine Below.setCell ?_ ?_ _ | with_reducible refine below_thn (by with_reducible assumption) ?_ ?_ | (simp only [World.size_alloc, World.size_setCell, World.size_drew, size_drewN]; omega) | omega))⟩

set_option maxRecDepth 100000 in
set_option maxHeartbeats 1000000 in
theorem indexS_calls (a : Option Addr) (c : Nat) (xs : List ByteArray) (w : World) (hn : xs.length ≤ 1000000) (hs : ∀ x ∈ xs, x.size ≤ 9223372036854775807) (hx : Rd encS 1 w a xs) :
    Calls Try.prog 47 #[.slice a xs.length c, .func (.func 26) #[] #[]] w fun e w' => (∃ n : Int, e = .returned (.int .i64 n) ∧ decide (0 ≤ n) = xs.any longB) ∧ Below w.heap.size w w' := by
  go_enter Try.func47, Try.ntmps47
  go_wp2_with fail
  go_loopw [8] (fun i wr => ∃ k : Nat, k ≤ xs.length ∧ i = .int .i64 k ∧ (xs.take k).any longB = false ∧ Below w.heap.size w wr) (fun i _ => xs.length - (intOf i).toNat)
  case atStart => exact ⟨0, Nat.zero_le _, rfl, by simp, Below.refl _ _⟩
  case round =>
    obtain ⟨k, hk, rfl, hany, hB⟩ := hrel
    have hzB := hB.size
    by_cases hlt : k < xs.length
    · obtain ⟨b, o, rfl, hc0⟩ := (hx.below hB (Nat.le_refl _)).strs (by omega)
      have h1 := hc0 k hlt
      clear hc0
      have hts : (xs.take (k + 1)).any longB = ((xs.take k).any longB || longB xs[k]) := by rw [List.take_succ_eq_append_getElem hlt, List.any_append]; simp
      have HTS := Lib.hid hts
      have HANY := Lib.hid hany
      have hall : longB xs[k] = true → xs.any longB = true := fun h => List.any_eq_true.2 ⟨_, List.getElem_mem hlt, h⟩
      have HALL := Lib.hid hall
      have hsz := hs xs[k] (List.getElem_mem hlt)
      clear hts hany hall
      cases hp : longB xs[k]
      all_goals
        have HP := Lib.hid hp
        clear hp
        go_wp2_with (go_at_call 26; refine (long_calls xs[k] hsz _).mono ?_; rw [show decide (256 < xs[k].size) = longB xs[k] from rfl, HP.out]; rintro e w1 ⟨rfl, hb⟩)
      · go_roundw
        case rel => exact ⟨k + 1, by omega, by go_num, by rw [HTS.out, HANY.out, HP.out]; rfl, by (repeat (first | with_reducible exact Below.refl _ _ | with_reducible assumption | with_reducible refine Below.drew ?_ | with_reducible refine below_drewN ?_ _ | with_reducible refine Below.alloc ?_ ?_ _ | with_reducible refine Below.setCell ?_ ?_ _ | with_reducible refine below_thn (by with_reducible assumption) ?_ ?_ | (simp only [World.size_alloc, World.size_setCell, World.size_drew, size_drewN]; omega) | omega))⟩
        case measure => simp [intOf]; omega
      · go_ret
        exact ⟨⟨k, rfl, by rw [HALL.out HP.out]; simp⟩, by (repeat (first | with_reducible exact Below.refl _ _ | with_reducible assumption | with_reducible refine Below.drew ?_ | with_reducible refine below_drewN ?_ _ | with_reducible refine Below.alloc ?_ ?_ _ | with_reducible refine Below.setCell ?_ ?_ _ | with_reducible refine below_thn (by with_reducible assumption) ?_ ?_ | (simp only [World.size_alloc, World.size_setCell, World.size_drew, size_drewN]; omega) | omega))⟩
    · have hfin : xs.any longB = false := by rw [List.take_of_length_le (by omega)] at hany; exact hany
      have HF := Lib.hid hfin
      clear hfin hany
      go_wp2_with fail
      go_ret
      exact ⟨⟨-1, rfl, by rw [HF.out]; rfl⟩, by (repeat (first | with_reducible exact Below.refl _ _ | with_reducible assumption | with_reducible refine Below.drew ?_ | with_reducible refine below_drewN ?_ _ | with_reducible refine Below.alloc ?_ ?_ _ | with_reducible refine Below.setCell ?_ ?_ _ | with_reducible refine below_thn (by with_reducible assumption) ?_ ?_ | (simp only [World.size_alloc, World.size_setCell, World.size_drew, size_drewN]; omega) | omega))⟩

set_option maxRecDepth 100000 in
theorem containsS_calls (a : Option Addr) (c : Nat) (xs : List ByteArray) (w : World) (hn : xs.length ≤ 1000000) (hs : ∀ x ∈ xs, x.size ≤ 9223372036854775807) (hx : Rd encS 1 w a xs) :
    Calls Try.prog 27 #[.slice a xs.length c, .func (.func 26) #[] #[]] w fun e w' => e = .returned (.bool (xs.any longB)) ∧ Below w.heap.size w w' := by
  have HX := Lib.hid hx
  have HS := Lib.hid hs
  clear hs
  clear hx
  go_enter Try.func27, Try.ntmps27
  go_wp2_with (go_at_call 47; refine (indexS_calls a c xs _ hn HS.out HX.out).mono ?_; rintro e w1 ⟨⟨n, rfl, hd⟩, hb⟩; have HD := Lib.hid hd; clear hd)
  go_ret
  exact ⟨by rw [← HD.out]; rfl, by (repeat (first | with_reducible exact Below.refl _ _ | with_reducible assumption | with_reducible refine Below.drew ?_ | with_reducible refine below_drewN ?_ _ | with_reducible refine Below.alloc ?_ ?_ _ | with_reducible refine Below.setCell ?_ ?_ _ | with_reducible refine below_thn (by with_reducible assumption) ?_ ?_ | (simp only [World.size_alloc, World.size_setCell, World.size_drew, size_drewN]; omega) | omega))⟩

end Go.Proofs.Ytnapbjfmkofhcaa.Code
