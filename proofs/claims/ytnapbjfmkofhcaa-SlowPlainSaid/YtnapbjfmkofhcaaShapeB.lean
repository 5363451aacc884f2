/- shape.Match of code without blocks, shape.Next there: contracts. -/
import Derived.Test.YtnapbjfmkofhcaaShape
namespace Go.Proofs.Ytnapbjfmkofhcaa.Shp
set_option linter.unusedVariables false
set_option linter.unusedSimpArgs false
open Go.RowKit Wd Sl Rep

set_option maxRecDepth 100000 in
theorem match_calls (a : Option Addr) (c : Nat) (xs : List I) (w : World) (hx : Rd encX 2 w a xs) (hn : xs.length ≤ 256) (hs : simple xs) :
    Calls Try.prog 18 #[.slice a xs.length c] w fun e w' => ∃ a1 c1, e = .returned (.tuple #[.slice a1 xs.length c1, .int .i64 0]) ∧ w'.ownsRow w.heap.size 3 1 (.slice a1 xs.length c1) xs.length (flat encI (List.replicate xs.length (-1))) ∧ Below w.heap.size w w' := by
  have HX := Lib.hid hx
  have HS := Lib.hid hs
  clear hx hs
  go_enter Try.func18, Try.ntmps18
  go_wp2_with (go_at_call 32; refine (scan_calls a c xs _ HX.out hn HS.out).mono ?_; rintro e w1 ⟨a1, c1, rfl, hown, hb⟩)
  go_ret2
  exact ⟨a1, c1, rfl, hown, hb⟩

set_option maxRecDepth 100000 in
/-- shape.Next behind an instruction that is not of blocks. -/
theorem next_calls (a : Option Addr) (c : Nat) (xs : List I) (a2 : Option Addr) (c2 : Nat) (k : Nat) (yes : Bool) (w : World) (hx : Rd encX 2 w a xs) (hn : xs.length ≤ 256) (hs : simple xs) (hk : k < xs.length) :
    Calls Try.prog 62 #[.slice a xs.length c, .slice a2 xs.length c2, .int .i64 k, .bool yes] w fun e w' => e = .returned (.int .i64 ((k : Int) + 1)) ∧ Below w.heap.size w w' := by
  obtain ⟨b, o, rfl, hcx⟩ := hx.instrs (by omega)
  obtain ⟨m1, m2⟩ := hcx k hk
  clear hcx hx
  have hop := hs _ (List.getElem_mem hk)
  have o1 : (xs[k].op == 48) = false := by simp; omega
  have o2 : (xs[k].op == 49) = false := by simp; omega
  have o3 : (xs[k].op == 50) = false := by simp; omega
  have o5 : (xs[k].op == 52) = false := by simp; omega
  have l0 : decide ((k : Int) < 0) = false := decide_eq_false (by omega)
  have l1 : decide ((xs.length : Int) ≤ k) = false := decide_eq_false (by omega)
  clear hop hs
  revert m1 m2 o1 o2 o3 o5
  generalize xs[k] = x
  intro m1 m2 o1 o2 o3 o5
  go_enter Try.func62, Try.ntmps62
  go_wp2_with fail
  go_ret
  exact ⟨by go_num, by (repeat (first | with_reducible exact Below.refl _ _ | with_reducible assumption | with_reducible refine Below.drew ?_ | with_reducible refine below_drewN ?_ _ | with_reducible refine Below.alloc ?_ ?_ _ | with_reducible refine Below.setCell ?_ ?_ _ | with_reducible refine below_thn (by with_reducible assumption) ?_ ?_ | (simp only [World.size_alloc, World.size_setCell, World.size_drew, size_drewN]; omega) | omega))⟩
end Go.Proofs.Ytnapbjfmkofhcaa.Shp
