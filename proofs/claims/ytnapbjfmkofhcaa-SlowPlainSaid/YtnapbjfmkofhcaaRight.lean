/- code.Right: contract. -/
import Derived.Test.YtnapbjfmkofhcaaCode
namespace Go.Proofs.Ytnapbjfmkofhcaa.Rt
set_option linter.unusedVariables false
set_option linter.unusedSimpArgs false
open Go.RowKit Wd OpA OpB Sl Go.Proofs.Ytnapbjfmkofhcaa.Code

/-- May a function of the script be? -/
def rightF (s : Sc) (f : Wd.Fn) : Bool := decide (f.ps.length ≤ 8) && decide (f.rs.length ≤ 8) && decide (f.ps.length + f.ls.length ≤ 16) && decide (f.code.length ≤ 256) && !(f.ps ++ (f.rs ++ f.ls)).any badB && f.code.all (rightI s ((f.ps.length : Int) + f.ls.length))
/-- May a script be? -/
def rightS (s : Sc) : Bool := decide (s.consts.length ≤ 32) && !s.consts.any longB && decide (1 ≤ s.funcs.length) && decide (s.funcs.length ≤ 16) && s.funcs.all (rightF s)

theorem right_bad {s : Sc} {k : Nat} (h : k < s.funcs.length) (hf : rightF s s.funcs[k] = false) : rightS s = false := by
  have : s.funcs.all (rightF s) = false := List.all_eq_false.2 ⟨_, List.getElem_mem h, by rw [hf]; simp⟩
  unfold rightS; rw [this]; simp
theorem allF_succ {s : Sc} {k : Nat} (h : k < s.funcs.length) : (s.funcs.take (k + 1)).all (rightF s) = ((s.funcs.take k).all (rightF s) && rightF s s.funcs[k]) := by
  rw [List.take_succ_eq_append_getElem h, List.all_append]; simp
theorem allI_succ {s : Sc} {z : Int} {xs : List I} {k : Nat} (h : k < xs.length) : (xs.take (k + 1)).all (rightI s z) = ((xs.take k).all (rightI s z) && rightI s z xs[k]) := by
  rw [List.take_succ_eq_append_getElem h, List.all_append]; simp

/-- A world of it that holds the boxed script. -/
theorem cells2 {w w1 : World} {g : Nat} {v1 v2 : Value} {t : TypeId} (h : Blk w g #[v1, v2] t) (hb : Below w.heap.size w w1) : w1.cell? ⟨g, 0, none⟩ = some v1 ∧ w1.cell? ⟨g, 1, none⟩ = some v2 ∧ w1.frozen? ⟨g, 0, none⟩ = false ∧ w1.frozen? ⟨g, 1, none⟩ = false := by
  have h1 := blk_below h hb (Nat.le_refl _)
  exact ⟨by rw [blk_cell h1]; rfl, by rw [blk_cell h1]; rfl, blk_frozen h1 0, blk_frozen h1 1⟩

set_option maxRecDepth 100000 in
set_option maxHeartbeats 1000000 in
theorem rightS_calls (s : Sc) (a1 a2 : Option Addr) (c1 c2 : Nat) (w : World) (hl1 : s.consts.length ≤ 1000000000) (hl2 : s.funcs.length ≤ 1000000000) (hs : ∀ x ∈ s.consts, x.size ≤ 9223372036854775807) (hC : Rd encS 1 w a1 s.consts) (hF : FnsAt w a2 s.funcs)
    (hL : ∀ f ∈ s.funcs, f.ps.length ≤ 1000000000 ∧ f.rs.length ≤ 1000000000 ∧ f.ls.length ≤ 1000000000 ∧ f.code.length ≤ 1000000000) :
    Calls Try.prog 17 #[.agg #[.slice a1 s.consts.length c1, .slice a2 s.funcs.length c2]] w fun e w' => e = .returned (.bool (rightS s)) ∧ Below w.heap.size w w' := by
  have HS := Lib.hid hs
  have HC := Lib.hid hC
  have HF := Lib.hid hF
  have HL := Lib.hid hL
  clear hs hC hF hL
  have hor : 32 < s.consts.length ∨ s.consts.length ≤ 32 := by omega
  rcases hor with h32 | h32
  · have hd : decide ((32 : Int) < s.consts.length) = true := by simp; omega
    have hr : rightS s = false := by unfold rightS; rw [show decide (s.consts.length ≤ 32) = false from decide_eq_false (by omega)]; rfl
    rw [hr]
    go_enter Try.func17, Try.ntmps17
    go_wp2_with fail
    go_ret
    exact ⟨rfl, by (repeat (first | with_reducible exact Below.refl _ _ | with_reducible assumption | with_reducible refine Below.drew ?_ | with_reducible refine below_drewN ?_ _ | with_reducible refine Below.alloc ?_ ?_ _ | with_reducible refine Below.setCell ?_ ?_ _ | with_reducible refine below_thn (by with_reducible assumption) ?_ ?_ | (simp only [World.size_alloc, World.size_setCell, World.size_drew, size_drewN]; omega) | omega))⟩
  · have hd : decide ((32 : Int) < s.consts.length) = false := by simp; omega
    cases ha : s.consts.any longB
    · have HA := Lib.hid ha
      clear ha
      have hor : s.funcs.length < 1 ∨ (1 ≤ s.funcs.length ∧ 16 < s.funcs.length) ∨ (1 ≤ s.funcs.length ∧ s.funcs.length ≤ 16) := by omega
      rcases hor with h1 | ⟨h1, h16⟩ | ⟨h1, h16⟩
      · have hd1 : decide ((s.funcs.length : Int) < 1) = true := by simp; omega
        have hr : rightS s = false := by unfold rightS; rw [show decide (1 ≤ s.funcs.length) = false from decide_eq_false (by omega)]; simp
        rw [hr]
        clear hr
        go_enter Try.func17, Try.ntmps17
        go_wp2_with (go_at_call 27; refine (containsS_calls a1 c1 s.consts _ (by omega) HS.out (HC.out.below ((Below.refl _ _).alloc (Nat.le_refl _) _) (Nat.le_refl _))).mono ?_; rw [HA.out]; rintro e w1 ⟨rfl, hb⟩; obtain ⟨hc, hf, hz⟩ := bcell hb; (try simp only [World.size_alloc, World.size_drew, World.size_setCell] at hc hf hz))
        go_ret
        exact ⟨rfl, by (repeat (first | with_reducible exact Below.refl _ _ | with_reducible assumption | with_reducible refine Below.drew ?_ | with_reducible refine below_drewN ?_ _ | with_reducible refine Below.alloc ?_ ?_ _ | with_reducible refine Below.setCell ?_ ?_ _ | with_reducible refine below_thn (by with_reducible assumption) ?_ ?_ | (simp only [World.size_alloc, World.size_setCell, World.size_drew, size_drewN]; omega) | omega))⟩
      · have hd1 : decide ((s.funcs.length : Int) < 1) = false := by simp; omega
        have hd2 : decide ((16 : Int) < s.funcs.length) = true := by simp; omega
        have hr : rightS s = false := by unfold rightS; rw [show decide (s.funcs.length ≤ 16) = false from decide_eq_false (by omega)]; simp
        rw [hr]
        clear hr
        go_enter Try.func17, Try.ntmps17
        go_wp2_with (go_at_call 27; refine (containsS_calls a1 c1 s.consts _ (by omega) HS.out (HC.out.below ((Below.refl _ _).alloc (Nat.le_refl _) _) (Nat.le_refl _))).mono ?_; rw [HA.out]; rintro e w1 ⟨rfl, hb⟩; obtain ⟨hc, hf, hz⟩ := bcell hb; (try simp only [World.size_alloc, World.size_drew, World.size_setCell] at hc hf hz))
        go_ret
        exact ⟨rfl, by (repeat (first | with_reducible exact Below.refl _ _ | with_reducible assumption | with_reducible refine Below.drew ?_ | with_reducible refine below_drewN ?_ _ | with_reducible refine Below.alloc ?_ ?_ _ | with_reducible refine Below.setCell ?_ ?_ _ | with_reducible refine below_thn (by with_reducible assumption) ?_ ?_ | (simp only [World.size_alloc, World.size_setCell, World.size_drew, size_drewN]; omega) | omega))⟩
      · have hd1 : decide ((s.funcs.length : Int) < 1) = false := by simp; omega
        have hd2 : decide ((16 : Int) < s.funcs.length) = false := by simp; omega
        go_enter Try.func17, Try.ntmps17
        go_wp2_with (go_at_call 27; refine (containsS_calls a1 c1 s.consts _ (by omega) HS.out (HC.out.below ((Below.refl _ _).alloc (Nat.le_refl _) _) (Nat.le_refl _))).mono ?_; rw [HA.out]; rintro e w1 ⟨rfl, hb⟩; obtain ⟨hc, hf, hz⟩ := bcell hb; (try simp only [World.size_alloc, World.size_drew, World.size_setCell] at hc hf hz))
        have k1 := hc w.heap.size 0 (by omega)
        have k2 := hc w.heap.size 1 (by omega)
        have k3 := hf w.heap.size 0 (by omega)
        have k4 := hf w.heap.size 1 (by omega)
        rw [blk_cell (blk_new w _)] at k1 k2
        rw [blk_frozen (blk_new w _)] at k3 k4
        have j1 : w1.cell? ⟨w.heap.size, 0, none⟩ = some (.slice a1 s.consts.length c1) := k1
        have j2 : w1.cell? ⟨w.heap.size, 1, none⟩ = some (.slice a2 s.funcs.length c2) := k2
        have hbw : Below w.heap.size w w1 := by (repeat (first | with_reducible exact Below.refl _ _ | with_reducible assumption | with_reducible refine Below.drew ?_ | with_reducible refine below_drewN ?_ _ | with_reducible refine Below.alloc ?_ ?_ _ | with_reducible refine Below.setCell ?_ ?_ _ | with_reducible refine below_thn (by with_reducible assumption) ?_ ?_ | (simp only [World.size_alloc, World.size_setCell, World.size_drew, size_drewN]; omega) | omega))
        clear k1 k2 hc hf
        go_loopw [34] (fun i wr => ∃ k : Nat, k ≤ s.funcs.length ∧ i = .int .i64 k ∧ (s.funcs.take k).all (rightF s) = true ∧ Below w1.heap.size w1 wr) (fun i _ => s.funcs.length - (intOf i).toNat)
        case atStart => exact ⟨0, Nat.zero_le _, rfl, by simp, Below.refl _ _⟩
        case round =>
          obtain ⟨k, hk, rfl, hall, hB⟩ := hrel
          have hzB := hB.size
          have hBw : Below w.heap.size w wr := below_thn hB hbw hbw.size
          have g1 := (hB.cell (p := ⟨w.heap.size, 0, none⟩) (show w.heap.size < w1.heap.size by omega)).trans j1
          have g2 := (hB.cell (p := ⟨w.heap.size, 1, none⟩) (show w.heap.size < w1.heap.size by omega)).trans j2
          have g3 := (hB.frozen (p := ⟨w.heap.size, 0, none⟩) (show w.heap.size < w1.heap.size by omega)).trans k3
          have g4 := (hB.frozen (p := ⟨w.heap.size, 1, none⟩) (show w.heap.size < w1.heap.size by omega)).trans k4
          by_cases hlt : k < s.funcs.length
          · rcases HF.out.below hBw (Nat.le_refl _) with h0 | ⟨b, o, rfl, hcf⟩
            · rw [h0] at hlt; simp at hlt
            obtain ⟨v1, v2, v3, v4, m1, m2, m3, m4, hfv⟩ := hcf k _ (List.getElem?_eq_getElem hlt)
            clear hcf
            obtain ⟨L1, L2, L3, L4⟩ := HL.out _ (List.getElem_mem hlt)
            have hbad := fun h => right_bad hlt h
            have HSUC := Lib.hid (allF_succ hlt)
            have HALL := Lib.hid hall
            clear hall
            revert hfv L1 L2 L3 L4 hbad HSUC
            generalize s.funcs[k] = f
            rintro ⟨⟨p1, q1, rfl, l1, r1, n1⟩, ⟨p2, q2, rfl, l2, r2, n2⟩, ⟨p3, q3, rfl, l3, r3, n3⟩, ⟨p4, q4, rfl, l4, r4, n4⟩⟩ L1 L2 L3 L4 hbad HSUC
            have HBAD := Lib.hid hbad
            have HR1 := Lib.hid (show Sv encI 1 wr (.slice p1 f.ps.length q1) f.ps from ⟨_, _, rfl, l1, r1, n1⟩)
            have HR2 := Lib.hid (show Sv encI 1 wr (.slice p2 f.rs.length q2) f.rs from ⟨_, _, rfl, l2, r2, n2⟩)
            have HR3 := Lib.hid (show Sv encI 1 wr (.slice p3 f.ls.length q3) f.ls from ⟨_, _, rfl, l3, r3, n3⟩)
            have HR4 := Lib.hid r4
            clear hbad l1 l2 l3 l4 r1 r2 r3 r4 n1 n2 n3 n4
            have hor : 8 < f.ps.length ∨ (f.ps.length ≤ 8 ∧ 8 < f.rs.length) ∨ (f.ps.length ≤ 8 ∧ f.rs.length ≤ 8 ∧ 16 < f.ps.length + f.ls.length) ∨ (f.ps.length ≤ 8 ∧ f.rs.length ≤ 8 ∧ f.ps.length + f.ls.length ≤ 16 ∧ 256 < f.code.length) ∨ (f.ps.length ≤ 8 ∧ f.rs.length ≤ 8 ∧ f.ps.length + f.ls.length ≤ 16 ∧ f.code.length ≤ 256) := by omega
            rcases hor with e1 | ⟨e1, e2⟩ | ⟨e1, e2, e3⟩ | ⟨e1, e2, e3, e4⟩ | ⟨e1, e2, e3, e4⟩
            · have u1 : decide ((8 : Int) < f.ps.length) = true := decide_eq_true (by omega)
              have HBF := Lib.hid (HBAD.out (by unfold rightF; rw [show decide (f.ps.length ≤ 8) = false from decide_eq_false (by omega)]; rfl))
              go_wp2_with fail
              go_ret
              exact ⟨by rw [HBF.out]; rfl, by (repeat (first | with_reducible exact Below.refl _ _ | with_reducible assumption | with_reducible refine Below.drew ?_ | with_reducible refine below_drewN ?_ _ | with_reducible refine Below.alloc ?_ ?_ _ | with_reducible refine Below.setCell ?_ ?_ _ | with_reducible refine below_thn (by with_reducible assumption) ?_ ?_ | (simp only [World.size_alloc, World.size_setCell, World.size_drew, size_drewN]; omega) | omega))⟩
            · have u1 : decide ((8 : Int) < f.ps.length) = false := decide_eq_false (by omega)
              have u2 : decide ((8 : Int) < f.rs.length) = true := decide_eq_true (by omega)
              have HBF := Lib.hid (HBAD.out (by unfold rightF; rw [show decide (f.rs.length ≤ 8) = false from decide_eq_false (by omega)]; simp))
              go_wp2_with fail
              go_ret
              exact ⟨by rw [HBF.out]; rfl, by (repeat (first | with_reducible exact Below.refl _ _ | with_reducible assumption | with_reducible refine Below.drew ?_ | with_reducible refine below_drewN ?_ _ | with_reducible refine Below.alloc ?_ ?_ _ | with_reducible refine Below.setCell ?_ ?_ _ | with_reducible refine below_thn (by with_reducible assumption) ?_ ?_ | (simp only [World.size_alloc, World.size_setCell, World.size_drew, size_drewN]; omega) | omega))⟩
            · have u1 : decide ((8 : Int) < f.ps.length) = false := decide_eq_false (by omega)
              have u2 : decide ((8 : Int) < f.rs.length) = false := decide_eq_false (by omega)
              have u3 : decide ((16 : Int) < (f.ps.length : Int) + f.ls.length) = true := decide_eq_true (by omega)
              have HBF := Lib.hid (HBAD.out (by unfold rightF; rw [show decide (f.ps.length + f.ls.length ≤ 16) = false from decide_eq_false (by omega)]; simp))
              go_wp2_with fail
              go_ret
              exact ⟨by rw [HBF.out]; rfl, by (repeat (first | with_reducible exact Below.refl _ _ | with_reducible assumption | with_reducible refine Below.drew ?_ | with_reducible refine below_drewN ?_ _ | with_reducible refine Below.alloc ?_ ?_ _ | with_reducible refine Below.setCell ?_ ?_ _ | with_reducible refine below_thn (by with_reducible assumption) ?_ ?_ | (simp only [World.size_alloc, World.size_setCell, World.size_drew, size_drewN]; omega) | omega))⟩
            · have u1 : decide ((8 : Int) < f.ps.length) = false := decide_eq_false (by omega)
              have u2 : decide ((8 : Int) < f.rs.length) = false := decide_eq_false (by omega)
              have u3 : decide ((16 : Int) < (f.ps.length : Int) + f.ls.length) = false := decide_eq_false (by omega)
              have u4 : decide ((256 : Int) < f.code.length) = true := decide_eq_true (by omega)
              have HBF := Lib.hid (HBAD.out (by unfold rightF; rw [show decide (f.code.length ≤ 256) = false from decide_eq_false (by omega)]; simp))
              go_wp2_with fail
              go_ret
              exact ⟨by rw [HBF.out]; rfl, by (repeat (first | with_reducible exact Below.refl _ _ | with_reducible assumption | with_reducible refine Below.drew ?_ | with_reducible refine below_drewN ?_ _ | with_reducible refine Below.alloc ?_ ?_ _ | with_reducible refine Below.setCell ?_ ?_ _ | with_reducible refine below_thn (by with_reducible assumption) ?_ ?_ | (simp only [World.size_alloc, World.size_setCell, World.size_drew, size_drewN]; omega) | omega))⟩
            · have u1 : decide ((8 : Int) < f.ps.length) = false := decide_eq_false (by omega)
              have u2 : decide ((8 : Int) < f.rs.length) = false := decide_eq_false (by omega)
              have u3 : decide ((16 : Int) < (f.ps.length : Int) + f.ls.length) = false := decide_eq_false (by omega)
              have u4 : decide ((256 : Int) < f.code.length) = false := decide_eq_false (by omega)
              obtain ⟨X, hX⟩ : ∃ X, X = f.ps ++ (f.rs ++ f.ls) := ⟨_, rfl⟩
              have hXl : X.length ≤ 1000 := by rw [hX, List.length_append, List.length_append]; omega
              have HFL := Lib.hid (show ([f.ps, f.rs, f.ls] : List (List Int)).flatten = X by rw [hX]; simp)
              have HX := Lib.hid hX
              clear hX
              have HR := Lib.hid (show ∀ o1 o2, Rows2 encI 1 ((wr.alloc o1).alloc o2) [.slice p1 f.ps.length q1, .slice p2 f.rs.length q2, .slice p3 f.ls.length q3] [f.ps, f.rs, f.ls] from by
                intro o1 o2
                have go : ∀ {v : Value} {zs : List Int}, Sv encI 1 wr v zs → Sv encI 1 ((wr.alloc o1).alloc o2) v zs := fun h => h.below (((Below.refl _ _).alloc (Nat.le_refl _) _).alloc (by simp) _) (Nat.le_refl _)
                refine ⟨rfl, fun i v zs hv hz => ?_⟩
                match i, hv, hz with
                | 0, hv, hz => cases hv; cases hz; exact go HR1.out
                | 1, hv, hz => cases hv; cases hz; exact go HR2.out
                | 2, hv, hz => cases hv; cases hz; exact go HR3.out
                | i + 3, hv, hz => simp at hv)
              have HBX := Lib.hid (show Blk ((wr.alloc (.cells #[.slice p1 f.ps.length q1, .slice p2 f.rs.length q2, .slice p3 f.ls.length q3, .slice p4 f.code.length q4] 28)).alloc (.cells #[.slice p1 f.ps.length q1, .slice p2 f.rs.length q2, .slice p3 f.ls.length q3] 23)) wr.heap.size #[.slice p1 f.ps.length q1, .slice p2 f.rs.length q2, .slice p3 f.ls.length q3, .slice p4 f.code.length q4] 28 from blk_alloc (blk_new wr _) _)
              have HBW := Lib.hid (show Below wr.heap.size wr ((wr.alloc (.cells #[.slice p1 f.ps.length q1, .slice p2 f.rs.length q2, .slice p3 f.ls.length q3, .slice p4 f.code.length q4] 28)).alloc (.cells #[.slice p1 f.ps.length q1, .slice p2 f.rs.length q2, .slice p3 f.ls.length q3] 23)) from ((Below.refl _ _).alloc (Nat.le_refl _) _).alloc (by simp) _)
              have HAt := Lib.hid (show At ((wr.alloc (.cells #[.slice p1 f.ps.length q1, .slice p2 f.rs.length q2, .slice p3 f.ls.length q3, .slice p4 f.code.length q4] 28)).alloc (.cells #[.slice p1 f.ps.length q1, .slice p2 f.rs.length q2, .slice p3 f.ls.length q3] 23)) (some ⟨wr.heap.size + 1, 0, none⟩) [.slice p1 f.ps.length q1, .slice p2 f.rs.length q2, .slice p3 f.ls.length q3] from by
                refine .inr ⟨_, _, rfl, fun j v hj => ?_⟩
                have hnew := blk_new (wr.alloc (.cells #[.slice p1 f.ps.length q1, .slice p2 f.rs.length q2, .slice p3 f.ls.length q3, .slice p4 f.code.length q4] 28)) (.cells #[.slice p1 f.ps.length q1, .slice p2 f.rs.length q2, .slice p3 f.ls.length q3] 23)
                rw [World.size_alloc] at hnew
                rw [Nat.zero_add, cell_of_row _ _ _ _ _ _ hnew]
                simpa using hj)
              cases hany : X.any badB
              · have HANY := Lib.hid hany
                clear hany
                go_wp2_with (first | (go_at_call 29; refine (concatI_calls _ _ [.slice p1 f.ps.length q1, .slice p2 f.rs.length q2, .slice p3 f.ls.length q3] [f.ps, f.rs, f.ls] 3 X.length rfl (by rw [HFL.out]) _ (by decide) (by unfold lim47; omega) HAt.out (HR.out _ _)).mono ?_; rw [HFL.out]; rintro e w2 ⟨a9, c9, rfl, hown, hb2⟩) | (go_at_call 28; refine (containsI_calls a9 c9 X _ (by omega) (own_rdS (by omega) encI_len hown).2.1).mono ?_; rw [HANY.out]; rintro e w3 ⟨rfl, hb3⟩; have hb4 := below_thn hb3 hb2 hb2.size; have hF3 := blk_below HBX.out hb4 (Nat.le_refl _); have y1 : w3.cell? ⟨wr.heap.size, 3, none⟩ = some (.slice p4 f.code.length q4) := blk_cell hF3 3; have y2 : w3.frozen? ⟨wr.heap.size, 3, none⟩ = false := blk_frozen hF3 3; clear hF3))
                have hbw4 : Below wr.heap.size wr w3 := below_thn hb4 HBW.out HBW.out.size
                have hz4 := hbw4.size
                have x1 := (hbw4.cell (p := ⟨w.heap.size, 0, none⟩) (show w.heap.size < wr.heap.size by omega)).trans g1
                have x2 := (hbw4.cell (p := ⟨w.heap.size, 1, none⟩) (show w.heap.size < wr.heap.size by omega)).trans g2
                have HR5 := Lib.hid (HR4.out.below hbw4 (Nat.le_refl _))
                have hB4 : Below w1.heap.size w1 w3 := below_thn hbw4 hB hzB
                have HBW4 := Lib.hid hbw4
                clear hb2 hb3 hb4 hown y1 y2 hbw4
                go_loopw [77] (fun i wi => ∃ q : Nat, q ≤ f.code.length ∧ i = .int .i64 q ∧ (f.code.take q).all (rightI s ((f.ps.length : Int) + f.ls.length)) = true ∧ Below w3.heap.size w3 wi) (fun i _ => f.code.length - (intOf i).toNat)
                case atStart => exact ⟨0, Nat.zero_le _, rfl, by simp, Below.refl _ _⟩
                case round =>
                  obtain ⟨q, hq, rfl, hqa, hBi⟩ := hrel
                  have hzi := hBi.size
                  by_cases hql : q < f.code.length
                  · have z1 := (hBi.cell (p := ⟨w.heap.size, 0, none⟩) (show w.heap.size < w3.heap.size by omega)).trans x1
                    have z2 := (hBi.cell (p := ⟨w.heap.size, 1, none⟩) (show w.heap.size < w3.heap.size by omega)).trans x2
                    obtain ⟨bx, ox, rfl, hcx⟩ := (HR5.out.below hBi (Nat.le_refl _)).instrs (by omega)
                    obtain ⟨i1, i2⟩ := hcx q hql
                    clear hcx
                    have HIS := Lib.hid (allI_succ (s := s) (z := (f.ps.length : Int) + f.ls.length) hql)
                    have HQA := Lib.hid hqa
                    have HMEM := Lib.hid (List.getElem_mem hql)
                    clear hqa
                    revert i1 i2 HIS HMEM
                    generalize f.code[q] = x
                    intro i1 i2 HIS HMEM
                    have hlt9 : w.heap.size < wr.heap.size := by omega
                    have hs0 : (0 : Int) ≤ (f.ps.length : Int) + f.ls.length := by omega
                    have hs1 : (f.ps.length : Int) + f.ls.length ≤ 1000000 := by omega
                    cases hri : rightI s ((f.ps.length : Int) + f.ls.length) x
                    · have HBF := Lib.hid (HBAD.out (by unfold rightF; rw [show f.code.all (rightI s ((f.ps.length : Int) + f.ls.length)) = false from List.all_eq_false.2 ⟨x, HMEM.out, by rw [hri]; simp⟩]; simp))
                      have HRI := Lib.hid hri
                      clear hri
                      go_wp2_with (go_at_call 31; refine (rightI_calls s _ x _ _ _ _ (by omega) (by omega) hs0 hs1 _).mono ?_; rw [HRI.out]; rintro e w5 ⟨rfl, hb5⟩)
                      go_ret
                      exact ⟨by rw [HBF.out]; rfl, by have hbw4 := HBW4.out; (repeat (first | with_reducible exact Below.refl _ _ | with_reducible assumption | with_reducible refine Below.drew ?_ | with_reducible refine below_drewN ?_ _ | with_reducible refine Below.alloc ?_ ?_ _ | with_reducible refine Below.setCell ?_ ?_ _ | with_reducible refine below_thn (by with_reducible assumption) ?_ ?_ | (simp only [World.size_alloc, World.size_setCell, World.size_drew, size_drewN]; omega) | omega))⟩
                    · have HRI := Lib.hid hri
                      clear hri
                      go_wp2_with (go_at_call 31; refine (rightI_calls s _ x _ _ _ _ (by omega) (by omega) hs0 hs1 _).mono ?_; rw [HRI.out]; rintro e w5 ⟨rfl, hb5⟩)
                      go_roundw
                      case rel => exact ⟨q + 1, by omega, by go_num, by rw [HIS.out, HQA.out, HRI.out]; rfl, by (repeat (first | with_reducible exact Below.refl _ _ | with_reducible assumption | with_reducible refine Below.drew ?_ | with_reducible refine below_drewN ?_ _ | with_reducible refine Below.alloc ?_ ?_ _ | with_reducible refine Below.setCell ?_ ?_ _ | with_reducible refine below_thn (by with_reducible assumption) ?_ ?_ | (simp only [World.size_alloc, World.size_setCell, World.size_drew, size_drewN]; omega) | omega))⟩
                      case measure => simp [intOf]; omega
                  · have hfin : rightF s f = true := by
                      rw [List.take_of_length_le (by omega)] at hqa
                      unfold rightF
                      rw [hqa, ← HX.out, HANY.out]
                      simp only [Bool.and_eq_true, decide_eq_true_eq, Bool.not_false, and_true]
                      exact ⟨⟨⟨e1, e2⟩, e3⟩, e4⟩
                    have HFIN := Lib.hid hfin
                    clear hqa hfin
                    go_wp2_with fail
                    go_roundw
                    case rel => exact ⟨k + 1, by omega, by go_num, by rw [HSUC.out, HALL.out, HFIN.out]; rfl, by (repeat (first | with_reducible exact Below.refl _ _ | with_reducible assumption | with_reducible refine Below.drew ?_ | with_reducible refine below_drewN ?_ _ | with_reducible refine Below.alloc ?_ ?_ _ | with_reducible refine Below.setCell ?_ ?_ _ | with_reducible refine below_thn (by with_reducible assumption) ?_ ?_ | (simp only [World.size_alloc, World.size_setCell, World.size_drew, size_drewN]; omega) | omega))⟩
                    case measure => simp [intOf]; omega
              · have HBF := Lib.hid (HBAD.out (by unfold rightF; rw [← HX.out, hany]; simp))
                have HANY := Lib.hid hany
                clear hany
                go_wp2_with (first | (go_at_call 29; refine (concatI_calls _ _ [.slice p1 f.ps.length q1, .slice p2 f.rs.length q2, .slice p3 f.ls.length q3] [f.ps, f.rs, f.ls] 3 X.length rfl (by rw [HFL.out]) _ (by decide) (by unfold lim47; omega) HAt.out (HR.out _ _)).mono ?_; rw [HFL.out]; rintro e w2 ⟨a9, c9, rfl, hown, hb2⟩) | (go_at_call 28; refine (containsI_calls a9 c9 X _ (by omega) (own_rdS (by omega) encI_len hown).2.1).mono ?_; rw [HANY.out]; rintro e w3 ⟨rfl, hb3⟩))
                go_ret
                exact ⟨by rw [HBF.out]; rfl, by have s2 := hb2.size; simp only [World.size_alloc] at s2; (repeat (first | with_reducible exact Below.refl _ _ | with_reducible assumption | with_reducible refine Below.drew ?_ | with_reducible refine below_drewN ?_ _ | with_reducible refine Below.alloc ?_ ?_ _ | with_reducible refine Below.setCell ?_ ?_ _ | with_reducible refine below_thn (by with_reducible assumption) ?_ ?_ | (simp only [World.size_alloc, World.size_setCell, World.size_drew, size_drewN]; omega) | omega))⟩
          · obtain rfl : k = s.funcs.length := by omega
            have hr : rightS s = true := by unfold rightS; rw [List.take_of_length_le (Nat.le_refl _)] at hall; rw [hall, HA.out]; simp; omega
            have HR := Lib.hid hr
            clear hr hall
            go_wp2_with fail
            go_ret
            exact ⟨by rw [HR.out]; rfl, hBw⟩
    · have HA := Lib.hid ha
      have hr : rightS s = false := by unfold rightS; rw [ha]; simp
      clear ha
      rw [hr]
      clear hr
      go_enter Try.func17, Try.ntmps17
      go_wp2_with (go_at_call 27; refine (containsS_calls a1 c1 s.consts _ (by omega) HS.out (HC.out.below ((Below.refl _ _).alloc (Nat.le_refl _) _) (Nat.le_refl _))).mono ?_; rw [HA.out]; rintro e w1 ⟨rfl, hb⟩; obtain ⟨hc, hf, hz⟩ := bcell hb; (try simp only [World.size_alloc, World.size_drew, World.size_setCell] at hc hf hz))
      go_ret
      exact ⟨rfl, by (repeat (first | with_reducible exact Below.refl _ _ | with_reducible assumption | with_reducible refine Below.drew ?_ | with_reducible refine below_drewN ?_ _ | with_reducible refine Below.alloc ?_ ?_ _ | with_reducible refine Below.setCell ?_ ?_ _ | with_reducible refine below_thn (by with_reducible assumption) ?_ ?_ | (simp only [World.size_alloc, World.size_setCell, World.size_drew, size_drewN]; omega) | omega))⟩
end Go.Proofs.Ytnapbjfmkofhcaa.Rt
