/- The reference of layer 3: Apply. -/
import Derived.Test.YtnapbjfmkofhcaaRefI
import Derived.Test.YtnapbjfmkofhcaaDoes
namespace Go.Proofs.Ytnapbjfmkofhcaa.RefJ
set_option linter.unusedVariables false
set_option linter.unusedSimpArgs false
open Go.RowKit Wd Sl Beg OpB OpD OpE RefI

/-- What Apply hands back. -/
def RefPost (r : V × Int) (w : World) (e : Ending) (w' : World) : Prop :=
  Below w.heap.size w w' ∧ if r.2 = 0 then ∃ a c, e = .returned (.tuple #[.slice a 1 c, .int .i64 0]) ∧ Rd encV 3 w' a [r.1] else e = .returned (.tuple #[.slice none 0 0, .int .i64 r.2])

set_option maxHeartbeats 1000000 in
set_option maxRecDepth 100000 in
theorem apply_calls (op : Int) (hp : plainB op = true) (h34 : op ≠ 34) (l : List V) (A : Option Addr) (c : Nat) (w : World) (hx : Rd encV 3 w A l) (hf : fits l (inOf op) = true) (hr : ∀ v ∈ l, -9223372036854775808 ≤ v.n ∧ v.n ≤ 9223372036854775807) (hll : l.length ≤ 1000) :
    Calls Try.prog 11 #[.int .i64 op, .slice A l.length c] w (RefPost (applyR op l) w) := by
  have hp' : 1 ≤ op ∧ op ≤ 53 := by unfold plainB at hp; simp at hp; omega
  have HPL := Lib.hid hp
  have HA := fun (W : World) (hb : Below w.heap.size w W) => Lib.hid (answer_calls op hp h34 l A c W (hx.below hb (Nat.le_refl _)) hf hr)
  have HF := fun (W : World) (hb : Below w.heap.size w W) (a2 : Option Addr) (c2 : Nat) (ht : Rd encI 1 W a2 (inOf op)) => Lib.hid (RefB.fits_calls A c l a2 c2 (inOf op) W (by omega) (by have := inOf_length op; omega) (hx.below hb (Nat.le_refl _)) ht)
  rw [hf] at HF
  have HIL := Lib.hid (OpD.typesOf_length (OpA.opRow op).2.2.1)
  have HIN := fun (W : World) => Lib.hid (RefA.in_calls op hp'.1 hp'.2 W)
  generalize hR : applyR op l = r at HA
  obtain ⟨rv, re⟩ := r
  clear hx hf hr hp hR
  have hinl : (inOf op).length = (OpA.opRow op).2.2.1.size := HIL.out
  have HINL := Lib.hid hinl
  clear hinl
  by_cases h0 : re = 0
  · subst h0
    go_enter Try.func11, Try.ntmps11
    go_wp2_with (first
      | (go_at_call 6; refine (RefB.plain_calls op _).mono ?_; rw [HPL.out]; rintro e w1 ⟨rfl, hb1⟩; have B1 : Below w.heap.size w w1 := (by (repeat (first | with_reducible exact Below.refl _ _ | with_reducible assumption | with_reducible refine Below.drew ?_ | with_reducible refine below_drewN ?_ _ | with_reducible refine bel_set ?_ _ _ | with_reducible refine bel_alloc ?_ _ | with_reducible refine bel_call (by with_reducible assumption) ?_))))
      | (go_at_call 5; refine Calls.mono (HIN _).out ?_; rintro e w2 ⟨a2, c2, rfl, own2, hb2⟩; have B2 : Below w.heap.size w w2 := (by (repeat (first | with_reducible exact Below.refl _ _ | with_reducible assumption | with_reducible refine Below.drew ?_ | with_reducible refine below_drewN ?_ _ | with_reducible refine bel_set ?_ _ _ | with_reducible refine bel_alloc ?_ _ | with_reducible refine bel_call (by with_reducible assumption) ?_))); have ht2 : Rd encI 1 w2 a2 (inOf op) := (own_rdS (by omega) encI_len own2).2.1)
      | (go_at_call 23; have D := (HF _ B2 a2 c2 ht2).out; rw [HINL.out] at D; refine Calls.mono D ?_; rintro e w3 ⟨rfl, hb3⟩; have B3 : Below w.heap.size w w3 := (by (repeat (first | with_reducible exact Below.refl _ _ | with_reducible assumption | with_reducible refine Below.drew ?_ | with_reducible refine below_drewN ?_ _ | with_reducible refine bel_set ?_ _ _ | with_reducible refine bel_alloc ?_ _ | with_reducible refine bel_call (by with_reducible assumption) ?_))))
      | (go_at_call 24; refine Calls.mono (HA _ B3).out ?_; rintro e w4 ⟨⟨t, n, s, rfl, h4⟩, hb4⟩; have B4 : Below w.heap.size w w4 := (by (repeat (first | with_reducible exact Below.refl _ _ | with_reducible assumption | with_reducible refine Below.drew ?_ | with_reducible refine below_drewN ?_ _ | with_reducible refine bel_set ?_ _ _ | with_reducible refine bel_alloc ?_ _ | with_reducible refine bel_call (by with_reducible assumption) ?_)))))
    go_ret2
    refine ⟨by (repeat (first | with_reducible exact Below.refl _ _ | with_reducible assumption | with_reducible refine Below.drew ?_ | with_reducible refine below_drewN ?_ _ | with_reducible refine bel_set ?_ _ _ | with_reducible refine bel_alloc ?_ _ | with_reducible refine bel_call (by with_reducible assumption) ?_)), ?_⟩
    rw [if_pos rfl]
    refine ⟨_, _, rfl, ?_⟩
    obtain ⟨a', c', e, _, hrd, _⟩ := Does.sv_new (w4.alloc (.cells #[.int .i64 t, .int .i64 n, .string s] 33)) [rv] 33 #[.int .i64 t, .int .i64 n, .string s] (by rw [h4 trivial]; rfl) (w4.heap.size + 1) 1 1 (by simp) rfl (Nat.le_refl _)
    cases e
    exact hrd
  · have hb : (re != 0) = true := by simpa using h0
    go_enter Try.func11, Try.ntmps11
    go_wp2_with (first
      | (go_at_call 6; refine (RefB.plain_calls op _).mono ?_; rw [HPL.out]; rintro e w1 ⟨rfl, hb1⟩; have B1 : Below w.heap.size w w1 := (by (repeat (first | with_reducible exact Below.refl _ _ | with_reducible assumption | with_reducible refine Below.drew ?_ | with_reducible refine below_drewN ?_ _ | with_reducible refine bel_set ?_ _ _ | with_reducible refine bel_alloc ?_ _ | with_reducible refine bel_call (by with_reducible assumption) ?_))))
      | (go_at_call 5; refine Calls.mono (HIN _).out ?_; rintro e w2 ⟨a2, c2, rfl, own2, hb2⟩; have B2 : Below w.heap.size w w2 := (by (repeat (first | with_reducible exact Below.refl _ _ | with_reducible assumption | with_reducible refine Below.drew ?_ | with_reducible refine below_drewN ?_ _ | with_reducible refine bel_set ?_ _ _ | with_reducible refine bel_alloc ?_ _ | with_reducible refine bel_call (by with_reducible assumption) ?_))); have ht2 : Rd encI 1 w2 a2 (inOf op) := (own_rdS (by omega) encI_len own2).2.1)
      | (go_at_call 23; have D := (HF _ B2 a2 c2 ht2).out; rw [HINL.out] at D; refine Calls.mono D ?_; rintro e w3 ⟨rfl, hb3⟩; have B3 : Below w.heap.size w w3 := (by (repeat (first | with_reducible exact Below.refl _ _ | with_reducible assumption | with_reducible refine Below.drew ?_ | with_reducible refine below_drewN ?_ _ | with_reducible refine bel_set ?_ _ _ | with_reducible refine bel_alloc ?_ _ | with_reducible refine bel_call (by with_reducible assumption) ?_))))
      | (go_at_call 24; refine Calls.mono (HA _ B3).out ?_; rintro e w4 ⟨⟨t, n, s, rfl, h4⟩, hb4⟩; have B4 : Below w.heap.size w w4 := (by (repeat (first | with_reducible exact Below.refl _ _ | with_reducible assumption | with_reducible refine Below.drew ?_ | with_reducible refine below_drewN ?_ _ | with_reducible refine bel_set ?_ _ _ | with_reducible refine bel_alloc ?_ _ | with_reducible refine bel_call (by with_reducible assumption) ?_)))))
    go_ret2
    refine ⟨by (repeat (first | with_reducible exact Below.refl _ _ | with_reducible assumption | with_reducible refine Below.drew ?_ | with_reducible refine below_drewN ?_ _ | with_reducible refine bel_set ?_ _ _ | with_reducible refine bel_alloc ?_ _ | with_reducible refine bel_call (by with_reducible assumption) ?_)), ?_⟩
    rw [if_neg h0]
    rfl
end Go.Proofs.Ytnapbjfmkofhcaa.RefJ
