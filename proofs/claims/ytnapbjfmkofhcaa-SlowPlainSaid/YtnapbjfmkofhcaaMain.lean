/- law12.SlowPlain: the walk. -/
import Derived.Test.YtnapbjfmkofhcaaKnow
import Derived.Test.YtnapbjfmkofhcaaRegB
import Derived.Test.YtnapbjfmkofhcaaRefJ
namespace Go.Proofs.Ytnapbjfmkofhcaa.Main
set_option linter.unusedVariables false
set_option linter.unusedSimpArgs false
open Go.RowKit Wd Sl Beg OpA OpB OpD OpE Does Shp All Law Sto

theorem infoX : (Try.prog.info? 31).map (fun i => (i.zero, i.size, i.bytes)) = some (some (.agg #[.int .i64 0, .int .i64 0]), 2, 16) := by kernel_rfl

theorem own_grown {w w' : World} {B e size n : Nat} {v : Value} {xs : List Value} {row : Option Nat} (h : w.ownsRow B e size v n xs) (hb : w.grownBy w' row) (hr : ∀ g, v.ownBlock = some g → row ≠ some g) : w'.ownsRow B e size v n xs := by
  obtain ⟨hl, h | ⟨g, cap, cur, rfl, hB, hg, hn, hm, hs, ht⟩⟩ := h
  · exact ⟨hl, .inl h⟩
  · exact ⟨hl, .inr ⟨g, cap, cur, rfl, hB, (hb.block g (Array.getElem?_eq_some_iff.1 hg).1 (fun e => hr g rfl e.symm)).trans hg, hn, hm, hs, ht⟩⟩

/-- Rows of two types lie apart. -/
theorem own_apart {w : World} {B B' : Nat} {e e' : TypeId} {size size' n n' : Nat} {v v' : Value} {xs xs' : List Value} (h : w.ownsRow B e size v n xs) (h' : w.ownsRow B' e' size' v' n' xs') (hne : e ≠ e') : ∀ g, v.ownBlock = some g → v'.ownBlock ≠ some g := by
  intro g hg hg'
  obtain ⟨_, h | ⟨g1, cap, cur, rfl, _, h1, _⟩⟩ := h
  · rw [h.1] at hg; cases hg
  · obtain ⟨_, h' | ⟨g2, cap2, cur2, rfl, _, h2, _⟩⟩ := h'
    · rw [h'.1] at hg'; cases hg'
    · cases hg; cases hg'
      rw [h1] at h2; cases h2; exact hne rfl

set_option maxHeartbeats 4000000 in
set_option maxRecDepth 100000 in
theorem in_none (n : Int) (h : n < 1 ∨ 53 < n) (w : World) : Calls Try.prog 5 #[.int .i64 n] w fun e w' => (∃ a k c, e = .returned (.slice a k c)) ∧ Below w.heap.size w w' := by
  by_cases h1 : n < 1
  · have t1 : decide (n < 1) = true := decide_eq_true h1
    clear h
    go_enter Try.func5, Try.ntmps5
    go_wp2_with fail
    go_ret
    exact ⟨⟨_, _, _, rfl⟩, by (repeat (first | with_reducible exact Below.refl _ _ | with_reducible assumption | with_reducible refine Below.drew ?_ | with_reducible refine below_drewN ?_ _ | with_reducible refine bel_set ?_ _ _ | with_reducible refine bel_alloc ?_ _ | with_reducible refine bel_call (by with_reducible assumption) ?_))⟩
  · have t1 : decide (n < 1) = false := decide_eq_false h1
    have t2 : decide (53 < n) = true := decide_eq_true (by omega)
    clear h
    go_enter Try.func5, Try.ntmps5
    go_wp2_with fail
    go_ret
    exact ⟨⟨_, _, _, rfl⟩, by (repeat (first | with_reducible exact Below.refl _ _ | with_reducible assumption | with_reducible refine Below.drew ?_ | with_reducible refine below_drewN ?_ _ | with_reducible refine bel_set ?_ _ _ | with_reducible refine bel_alloc ?_ _ | with_reducible refine bel_call (by with_reducible assumption) ?_))⟩
theorem in_any (n : Int) (w : World) : Calls Try.prog 5 #[.int .i64 n] w fun e w' => (∃ a k c, e = .returned (.slice a k c)) ∧ Below w.heap.size w w' := by
  by_cases h : n < 1 ∨ 53 < n
  · exact in_none n h w
  · exact (RefA.in_calls n (by omega) (by omega) w).mono fun e w' ⟨a, c, he, _, hb⟩ => ⟨⟨a, _, c, he⟩, hb⟩

set_option maxRecDepth 100000 in
theorem main_long (n a b : Int) (s : ByteArray) (hs : 256 < s.size) (w : World) : Calls Try.prog 3 #[.int .i64 n, .int .i64 a, .int .i64 b, .string s] w fun e w' => e = .returned (.bool true) ∧ Below w.heap.size w w' := by
  have t1 : decide ((256 : Int) < s.size) = true := decide_eq_true (by omega)
  go_enter Try.func3, Try.ntmps3
  go_wp2_with (go_at_call 4; refine (Know.knows_calls _).mono ?_; rintro e w1 ⟨rfl, hb1⟩)
  go_ret
  exact ⟨rfl, by (repeat (first | with_reducible exact Below.refl _ _ | with_reducible assumption | with_reducible refine Below.drew ?_ | with_reducible refine below_drewN ?_ _ | with_reducible refine bel_set ?_ _ _ | with_reducible refine bel_alloc ?_ _ | with_reducible refine bel_call (by with_reducible assumption) ?_))⟩

set_option maxRecDepth 100000 in
theorem main_other (n a b : Int) (s : ByteArray) (hs : s.size ≤ 256) (hp : plainB n = false) (w : World) : Calls Try.prog 3 #[.int .i64 n, .int .i64 a, .int .i64 b, .string s] w fun e w' => e = .returned (.bool true) ∧ Below w.heap.size w w' := by
  have t1 : decide ((256 : Int) < s.size) = false := decide_eq_false (by omega)
  have HP := Lib.hid hp
  clear hp
  go_enter Try.func3, Try.ntmps3
  go_wp2_with (first
    | (go_at_call 4; refine (Know.knows_calls _).mono ?_; rintro e w1 ⟨rfl, hb1⟩)
    | (go_at_call 5; refine (in_any n _).mono ?_; rintro e w2 ⟨⟨ai, ki, ci, rfl⟩, hb2⟩)
    | (go_at_call 6; refine (RefB.plain_calls n _).mono ?_; rw [HP.out]; rintro e w3 ⟨rfl, hb3⟩))
  go_ret
  exact ⟨rfl, by (repeat (first | with_reducible exact Below.refl _ _ | with_reducible assumption | with_reducible refine Below.drew ?_ | with_reducible refine below_drewN ?_ _ | with_reducible refine bel_set ?_ _ _ | with_reducible refine bel_alloc ?_ _ | with_reducible refine bel_call (by with_reducible assumption) ?_))⟩

set_option maxRecDepth 100000 in
theorem main_34 (a b : Int) (s : ByteArray) (hs : s.size ≤ 256) (w : World) : Calls Try.prog 3 #[.int .i64 34, .int .i64 a, .int .i64 b, .string s] w fun e w' => e = .returned (.bool true) ∧ Below w.heap.size w w' := by
  have t1 : decide ((256 : Int) < s.size) = false := decide_eq_false (by omega)
  have HI := fun W => Lib.hid (RefA.in_calls 34 (by decide) (by decide) W)
  have hsz : (opRow 34).2.2.1.size = 3 := by decide +kernel
  rw [hsz] at HI
  go_enter Try.func3, Try.ntmps3
  go_wp2_with (first
    | (go_at_call 4; refine (Know.knows_calls _).mono ?_; rintro e w1 ⟨rfl, hb1⟩)
    | (go_at_call 5; refine Calls.mono (HI _).out ?_; rintro e w2 ⟨ai, ci, rfl, hown, hb2⟩)
    | (go_at_call 6; refine (RefB.plain_calls 34 _).mono ?_; rw [show plainB 34 = true from by decide]; rintro e w3 ⟨rfl, hb3⟩))
  go_ret
  exact ⟨rfl, by (repeat (first | with_reducible exact Below.refl _ _ | with_reducible assumption | with_reducible refine Below.drew ?_ | with_reducible refine below_drewN ?_ _ | with_reducible refine bel_set ?_ _ _ | with_reducible refine bel_alloc ?_ _ | with_reducible refine bel_call (by with_reducible assumption) ?_))⟩
end Go.Proofs.Ytnapbjfmkofhcaa.Main
