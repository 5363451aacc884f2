/- (*slow.stack).put, take; (*slow.frame).check; slow.must: contracts. -/
import Derived.Test.YtnapbjfmkofhcaaSl
namespace Go.Proofs.Ytnapbjfmkofhcaa.Stk
set_option linter.unusedVariables false
set_option linter.unusedSimpArgs false
open Go.RowKit Wd Sl

/-- Behind put: the stack's slice is a new one. -/
def PutPost (g : Nat) (cs : Array Value) (T : TypeId) (n : Nat) (zs : List V) (w : World) (e : Ending) (w' : World) : Prop :=
  e = .returned (.tuple #[]) ∧ ∃ a c, Blk w' g (cs.setIfInBounds 0 (.slice a n c)) T ∧ w'.ownsRow w.heap.size 33 3 (.slice a n c) n (flat encV zs) ∧ w.grownBy w' (some g)

set_option maxRecDepth 100000 in
theorem put_calls (g : Nat) (cs : Array Value) (T : TypeId) (v0 v1 : Value) (xs ys : List V) (w : World) (hB : Blk w g cs T) (h0 : cs[0]? = some v0) (hx : Sv encV 3 w v0 xs) (hy : Sv encV 3 w v1 ys) (hn : (xs.length + ys.length) * 32 ≤ lim47) :
    Calls Try.prog 75 #[.pointer (some ⟨g, 0, none⟩), v1] w (PutPost g cs T (xs.length + ys.length) (xs ++ ys) w) := by
  have hx' := hx
  have hy' := hy
  obtain ⟨a0, c0, rfl, l0, r0, n0⟩ := hx
  obtain ⟨a1, c1, rfl, l1, r1, n1⟩ := hy
  have hc := (blk_cell hB 0).trans h0
  have hf := blk_frozen hB 0
  have hR : Rows2 encV 3 (w.alloc (.cells #[.slice a0 xs.length c0, .slice a1 ys.length c1] 29)) [.slice a0 xs.length c0, .slice a1 ys.length c1] [xs, ys] := by
    refine ⟨rfl, fun i v zs hv hz => ?_⟩
    match i, hv, hz with
    | 0, hv, hz => cases hv; cases hz; exact hx'.below ((Below.refl _ _).alloc (Nat.le_refl _) _) (Nat.le_refl _)
    | 1, hv, hz => cases hv; cases hz; exact hy'.below ((Below.refl _ _).alloc (Nat.le_refl _) _) (Nat.le_refl _)
    | i + 2, hv, hz => simp at hv
  have hAt : At (w.alloc (.cells #[.slice a0 xs.length c0, .slice a1 ys.length c1] 29)) (some ⟨w.heap.size, 0, none⟩) [.slice a0 xs.length c0, .slice a1 ys.length c1] := by
    refine .inr ⟨_, _, rfl, fun j v hj => ?_⟩
    rw [Nat.zero_add, cell_of_row _ _ _ _ _ _ (blk_new w _)]
    simpa using hj
  have hfl : ([xs, ys] : List (List V)).flatten = xs ++ ys := by simp
  have HFL := Lib.hid hfl
  have HB := Lib.hid hB
  have HR := Lib.hid hR
  have HAt := Lib.hid hAt
  clear hfl hB hR hAt hx' hy' r0 r1 n0 n1 l0 l1
  go_enter Try.func75, Try.ntmps75
  go_wp2_with (go_at_call 86; refine (concatV_calls _ _ [.slice a0 xs.length c0, .slice a1 ys.length c1] [xs, ys] 2 (xs.length + ys.length) rfl (by rw [HFL.out, List.length_append]) _ (by decide) hn HAt.out HR.out).mono ?_; rintro e w1 ⟨a9, c9, rfl, hown, hb⟩; have hb1 := blk_below (blk_alloc HB.out (.cells #[.slice a0 xs.length c0, .slice a1 ys.length c1] 29)) hb (Nat.le_refl _); have hc1 := (blk_cell hb1 0).trans h0; have hf1 := blk_frozen hb1 0; have HB1 := Lib.hid hb1; clear hb1)
  go_end0
  rw [HFL.out] at hown
  refine ⟨rfl, a9, c9, blk_set HB1.out 0 _, ?_, ?_⟩
  · have hne : (Value.slice a9 (xs.length + ys.length) c9).ownBlock ≠ some g := fun e => by
      have h1 := hown.lt g e
      have h2 := blk_lt HB.out
      simp at h1
      omega
    have h1 := ownsRow_setCell_other hown (a := ⟨g, 0, none⟩) hne (.slice a9 (xs.length + ys.length) c9)
    exact World.ownsRow.mono h1 (by simp)
  · exact grown_set (grown_below (by (repeat (first | with_reducible exact Below.refl _ _ | with_reducible assumption | with_reducible refine Below.drew ?_ | with_reducible refine below_drewN ?_ _ | with_reducible refine Below.alloc ?_ ?_ _ | with_reducible refine Below.setCell ?_ ?_ _ | with_reducible refine below_thn (by with_reducible assumption) ?_ ?_ | (simp only [World.size_alloc, World.size_setCell, World.size_drew, size_drewN]; omega) | omega)))) 0 _

/-- Behind a check of the stack's height. -/
def CheckPost (n : Nat) (w : World) (e : Ending) (w' : World) : Prop :=
  w = w' ∧ if n ≤ 32 then e = .returned (.tuple #[]) else e = .panicked [{ v := .iface 35 (.int .i64 32), recovered := false }]

theorem check_calls (g : Nat) (cs : Array Value) (T : TypeId) (a : Option Addr) (n c : Nat) (w : World) (hB : Blk w g cs T) (h0 : cs[0]? = some (.slice a n c)) (hn : n ≤ 9223372036854775807) :
    Calls Try.prog 63 #[.pointer (some ⟨g, 0, none⟩)] w (CheckPost n w) := by
  have hc := (blk_cell hB 0).trans h0
  by_cases h : n ≤ 32
  · have h' : decide ((32 : Int) < n) = false := by simp; omega
    go_enter Try.func63, Try.ntmps63
    go_wp2_with fail
    go_end0
    exact ⟨rfl, by rw [if_pos h]⟩
  · have h' : decide ((32 : Int) < n) = true := by simp; omega
    go_enter Try.func63, Try.ntmps63
    go_wp2_with fail
    exact ⟨rfl, rfl, by rw [if_neg h]⟩

def MustPost (n : Int) (w : World) (e : Ending) (w' : World) : Prop :=
  w = w' ∧ if n = 0 then e = .returned (.tuple #[]) else e = .panicked [{ v := .iface 35 (.int .i64 n), recovered := false }]

theorem must_calls (n : Int) (w : World) : Calls Try.prog 76 #[.int .i64 n] w (MustPost n w) := by
  by_cases h : n = 0
  · subst h
    go_enter Try.func76, Try.ntmps76
    go_wp2_with fail
    go_end0
    exact ⟨rfl, by rw [if_pos rfl]⟩
  · have h' : (n != 0) = true := by simpa using h
    go_enter Try.func76, Try.ntmps76
    go_wp2_with fail
    exact ⟨rfl, rfl, by rw [if_neg h]⟩

/-- What take finds wrong: the stack and the types, the last ones first. -/
def takeErr : List V → List Int → Int
  | _, [] => 0
  | [], _ :: _ => 32
  | v :: vs, t :: ts => if t ≠ 0 ∧ v.t ≠ t then 33 else takeErr vs ts

theorem takeErr_ok : ∀ (vs : List V) (ts : List Int), takeErr vs ts = 0 → ts.length ≤ vs.length := by
  intro vs ts
  induction ts generalizing vs with
  | nil => intro _; simp
  | cons t ts ih =>
    intro h
    cases vs with
    | nil => simp [takeErr] at h
    | cons v vs =>
      simp only [takeErr] at h
      split at h
      · cases h
      · have := ih vs h; simp; omega

theorem drop_rev {α : Type} {l : List α} {k : Nat} (h : k < l.length) : l.reverse.drop k = (l[l.length - 1 - k]'(by omega)) :: l.reverse.drop (k + 1) := by
  rw [List.drop_eq_getElem_cons (by simpa using h)]
  simp [List.getElem_reverse]

/-- Behind take. -/
def TakePost (g : Nat) (cs : Array Value) (T : TypeId) (a : Option Addr) (c : Nat) (xs : List V) (ins : List Int) (w : World) (e : Ending) (w' : World) : Prop :=
  (takeErr xs.reverse ins.reverse = 0 → ∃ a1 c1, e = .returned (.slice a1 ins.length c1) ∧ w'.ownsRow w.heap.size 33 3 (.slice a1 ins.length c1) ins.length (flat encV (xs.drop (xs.length - ins.length))) ∧
    Blk w' g (cs.setIfInBounds 0 (.slice a (xs.length - ins.length) c)) T ∧ w.grownBy w' (some g)) ∧
  (takeErr xs.reverse ins.reverse ≠ 0 → w = w' ∧ e = .panicked [{ v := .iface 35 (.int .i64 (takeErr xs.reverse ins.reverse)), recovered := false }])

set_option maxRecDepth 100000 in
set_option maxHeartbeats 1000000 in
theorem take_calls (g : Nat) (cs : Array Value) (T : TypeId) (a : Option Addr) (c : Nat) (xs : List V) (a2 : Option Addr) (c2 : Nat) (ins : List Int) (w : World) (hB : Blk w g cs T) (h0 : cs[0]? = some (.slice a xs.length c)) (hc : xs.length ≤ c) (hx : Rd encV 3 w a xs) (hnil : a = none → xs = [] ∧ c = 0)
    (hi : Rd encI 1 w a2 ins) (hn : xs.length ≤ 1000000) (hn2 : ins.length ≤ 1000000) :
    Calls Try.prog 59 #[.pointer (some ⟨g, 0, none⟩), .slice a2 ins.length c2] w (TakePost g cs T a c xs ins w) := by
  have hcell := (blk_cell hB 0).trans h0
  have hf := blk_frozen hB 0
  go_enter Try.func59, Try.ntmps59
  go_wp2_with fail
  go_loop [12] (fun i => ∃ k : Nat, k ≤ ins.length ∧ i = .int .i64 k ∧ k ≤ xs.length ∧ takeErr xs.reverse ins.reverse = takeErr (xs.reverse.drop k) (ins.reverse.drop k)) (fun i => ins.length - (intOf i).toNat)
  case atStart => exact ⟨0, Nat.zero_le _, rfl, Nat.zero_le _, rfl⟩
  case round =>
    obtain ⟨k, hk, rfl, hk2, hT⟩ := hrel
    by_cases hlt : k < ins.length
    · obtain ⟨b2, o2, rfl, hci⟩ := hi.ints (by omega)
      have hti := hci (ins.length - 1 - k) (by omega)
      clear hci
      rw [drop_rev hlt] at hT
      by_cases hlx : k < xs.length
      · obtain ⟨b, o, rfl, hcx⟩ := hx.vals (by omega)
        have htx := (hcx (xs.length - 1 - k) (by omega)).1
        clear hcx
        rw [drop_rev hlx] at hT
        simp only [takeErr] at hT
        by_cases ht0 : ins[ins.length - 1 - k] = 0
        · rw [if_neg (by intro h; exact h.1 ht0)] at hT
          have HT := Lib.hid hT
          have hb0 : (ins[ins.length - 1 - k] != 0) = false := by simp [ht0]
          clear hT ht0
          go_wp2_with fail
          go_round
          case rel => exact ⟨k + 1, by omega, by go_num, by omega, HT.out⟩
          case measure => simp [intOf]; omega
        · by_cases htt : xs[xs.length - 1 - k].t = ins[ins.length - 1 - k]
          · rw [if_neg (by intro h; exact h.2 htt)] at hT
            have HT := Lib.hid hT
            have hb0 : (ins[ins.length - 1 - k] != 0) = true := by simp [ht0]
            have hb1 : (xs[xs.length - 1 - k].t != ins[ins.length - 1 - k]) = false := by simp [htt]
            clear hT ht0 htt
            go_wp2_with fail
            go_round
            case rel => exact ⟨k + 1, by omega, by go_num, by omega, HT.out⟩
            case measure => simp [intOf]; omega
          · rw [if_pos ⟨ht0, htt⟩] at hT
            have HT := Lib.hid hT
            have hb0 : (ins[ins.length - 1 - k] != 0) = true := by simp [ht0]
            have hb1 : (xs[xs.length - 1 - k].t != ins[ins.length - 1 - k]) = true := by simp [htt]
            clear hT ht0 htt
            go_wp2_with fail
            exact ⟨rfl, show _ ∧ _ from ⟨(fun h => by rw [HT.out] at h; cases h), fun _ => ⟨rfl, by rw [HT.out]⟩⟩⟩
      · have hd : xs.reverse.drop k = [] := List.drop_eq_nil_of_le (by simp; omega)
        rw [hd] at hT
        simp only [takeErr] at hT
        have HT := Lib.hid hT
        clear hT hd
        go_wp2_with fail
        exact ⟨rfl, show _ ∧ _ from ⟨(fun h => by rw [HT.out] at h; cases h), fun _ => ⟨rfl, by rw [HT.out]⟩⟩⟩
    · obtain rfl : k = ins.length := by omega
      have hd : ins.reverse.drop ins.length = [] := List.drop_eq_nil_of_le (by simp)
      have he : takeErr xs.reverse ins.reverse = 0 := by rw [hT, hd]; cases xs.reverse.drop ins.length <;> rfl
      have HE := Lib.hid he
      clear hd he hT
      obtain ⟨i0, hi0, hz0, hz1, hz2⟩ := info_parts infoV
      obtain ⟨A', c', hcut, hA', hc', hR'⟩ := cut_from (P := Try.prog) (enc := encV) (m := 3) (by omega) 29 33 Try.underlying29 hi0 hz1 a xs c (xs.length - ins.length) ((xs.length : Int) - ins.length) (by omega) (by omega) hc hnil ins.length (by rw [List.length_drop]; omega)
      have hq : ins.length = (xs.drop (xs.length - ins.length)).length := by rw [List.length_drop]; omega
      have HQ := Lib.hid hq
      clear hq
      have HR' := Lib.hid (hR' w hx)
      have HB := Lib.hid hB
      have HA' := Lib.hid hA'
      clear hR' hi0 hz0 hz1 hz2 hx hB hA' hnil
      go_wp2_with (go_at_call 35; refine (cloneV_calls A' ins.length c' (xs.drop (xs.length - ins.length)) HQ.out _ ?_ HR'.out (fun h => (HA'.out h).1)).mono ?_; (unfold lim47; omega); rintro e w1 ⟨a9, c9, rfl, hown, hb⟩; have hb1 := blk_below HB.out hb (Nat.le_refl _); have hcell1 := (blk_cell hb1 0).trans h0; have hf1 := blk_frozen hb1 0; have HB1 := Lib.hid hb1; clear hb1)
      go_ret
      have hne : (Value.slice a9 ins.length c9).ownBlock ≠ some g := fun e => by
        have h1 := hown.lt g e
        have h2 := blk_lt HB.out
        omega
      exact ⟨fun _ => ⟨a9, c9, rfl, ownsRow_setCell_other hown (a := ⟨g, 0, none⟩) hne _, blk_set HB1.out 0 _, grown_set (grown_below (by (repeat (first | with_reducible exact Below.refl _ _ | with_reducible assumption | with_reducible refine Below.drew ?_ | with_reducible refine below_drewN ?_ _ | with_reducible refine Below.alloc ?_ ?_ _ | with_reducible refine Below.setCell ?_ ?_ _ | with_reducible refine below_thn (by with_reducible assumption) ?_ ?_ | (simp only [World.size_alloc, World.size_setCell, World.size_drew, size_drewN]; omega) | omega)))) 0 _⟩, fun h => absurd HE.out h⟩
end Go.Proofs.Ytnapbjfmkofhcaa.Stk
