/- op.Apply, of one value at least. -/
import Derived.Test.YtnapbjfmkofhcaaOpH
namespace Go.Proofs.Ytnapbjfmkofhcaa.OpE
set_option linter.unusedVariables false
set_option linter.unusedSimpArgs false
open Go.RowKit Wd OpA OpB OpD Val ValB Sl

theorem ends {w : World} {A : Option Addr} {l : List V} (h : Rd encV 3 w A l) (hn : 0 < l.length) {x y : V} (ex : l.headD ⟨0, 0, ⟨#[]⟩⟩ = x) (ey : l.getLastD ⟨0, 0, ⟨#[]⟩⟩ = y) : ∃ b o, A = some ⟨b, o, none⟩ ∧ b < w.heap.size ∧
    w.cell? ⟨b, o, none⟩ = some (.int .i64 x.t) ∧ w.cell? ⟨b, o + 1, none⟩ = some (.int .i64 x.n) ∧ w.cell? ⟨b, o + 2, none⟩ = some (.string x.s) ∧
    w.cell? ⟨b, o + (l.length - 1) * 3, none⟩ = some (.int .i64 y.t) ∧ w.cell? ⟨b, o + (l.length - 1) * 3 + 1, none⟩ = some (.int .i64 y.n) ∧ w.cell? ⟨b, o + (l.length - 1) * 3 + 2, none⟩ = some (.string y.s) := by
  obtain ⟨b, o, ha, hc⟩ := h.vals hn
  have h0 := hc 0 hn
  have h1 := hc (l.length - 1) (by omega)
  have e0 : l.headD ⟨0, 0, ⟨#[]⟩⟩ = l[0] := by cases l with
    | nil => simp at hn
    | cons _ _ => rfl
  have e1 : l.getLastD ⟨0, 0, ⟨#[]⟩⟩ = l[l.length - 1] := by
    have hne : l ≠ [] := by intro h; subst h; simp at hn
    rw [List.getLastD_eq_getLast?, List.getLast?_eq_some_getLast hne, Option.getD_some, List.getLast_eq_getElem hne]
  rw [e0] at ex
  rw [e1] at ey
  subst ex
  subst ey
  simp only [Nat.zero_mul, Nat.add_zero] at h0
  exact ⟨b, o, ha, cell_lt h0.1, h0.1, h0.2.1, h0.2.2, h1.1, h1.2.1, h1.2.2⟩

theorem past2 {w : World} {b o : Nat} {v : Value} (hb : b < w.heap.size) (h : w.cell? ⟨b, o, none⟩ = some v) (o1 o2 : Obj) : ((w.alloc o1).alloc o2).cell? ⟨b, o, none⟩ = some v := by
  rw [World.cell?_alloc_past _ _ _ (by simp; omega), World.cell?_alloc_past _ _ _ hb]; exact h

set_option maxHeartbeats 2000000 in
set_option maxRecDepth 100000 in
theorem apply_num (op : Int) (h0 : 11 ≤ op) (h1 : op ≤ 22) (l : List V) (hl : 0 < l.length) (hl2 : l.length ≤ 3) (x y : V) (ex : l.headD ⟨0, 0, ⟨#[]⟩⟩ = x) (ey : l.getLastD ⟨0, 0, ⟨#[]⟩⟩ = y) (A : Option Addr) (c : Nat) (w : World) (hx : Rd encV 3 w A l) (hf : fits l (inOf op) = true) :
    Calls Try.prog 79 #[.int .i64 op, .slice A l.length c] w (ApplyPost (applyR op l) w) := by
  have hpl : plainB op = true := by unfold plainB; simp; omega
  have ha : applyR op l = numR op x.n y.n := by unfold applyR; rw [if_neg (by omega), if_pos h1, ex, ey]
  rw [ha]
  have HPL := Lib.hid hpl
  have HF := Lib.hid hf
  have HX := Lib.hid hx
  have HEX := Lib.hid ex
  have HEY := Lib.hid ey
  clear hpl hf hx ha ex ey
  obtain ⟨r, hr⟩ : ∃ r, r = numR op x.n y.n := ⟨_, rfl⟩
  have hcall := fun (w : World) => numR_calls op x.n y.n h0 h1 w
  rw [← hr]
  rw [← hr] at hcall
  clear hr
  obtain ⟨⟨rt, rn, rs⟩, re⟩ := r
  simp only [aggV] at hcall
  by_cases he : re = 0
  · subst he
    have HN := Lib.hid hcall
    clear hcall
    go_enter Try.func79, Try.ntmps79
    go_wp2_with (first | (go_at_call 89; refine (plain_calls _ _).mono ?_; rw [HPL.out]; rintro e w1 ⟨rfl, hb1⟩) | (go_at_call 61; refine (in_calls _ _).mono ?_; rintro e w2 ⟨a2, c2, rfl, hown, hb2⟩) | (go_at_call 19; refine (fits_calls _ _ l _ _ (inOf op) _ (by omega) (by have := inOf_length op; omega) (HX.out.below (below_thn hb2 hb1 hb1.size) (Nat.le_refl _)) (own_rdS (by omega) encI_len hown).2.1).mono ?_; rw [HF.out]; rintro e w3 ⟨rfl, hb3⟩; have hXX := HX.out.below (below_thn hb3 (below_thn hb2 hb1 hb1.size) (Nat.le_trans hb1.size hb2.size)) (Nat.le_refl _); obtain ⟨b, o, rfl, hlt, k0, k1, k2, k3, k4, k5⟩ := ends hXX (by omega) HEX.out HEY.out; have j0 := past2 hlt k0; have j1 := past2 hlt k1; have j2 := past2 hlt k2; have j3 := past2 hlt k3; have j4 := past2 hlt k4; have j5 := past2 hlt k5; clear k0 k1 k2 k3 k4 k5 hXX))
    go_region
    go_wp2_with (go_at_call 90; refine (HN.out _).mono ?_; rintro e w1 ⟨rfl, hb⟩; obtain ⟨hc, hf, hz⟩ := bcell hb; (try simp only [World.size_alloc, World.size_drew, World.size_setCell] at hc hf hz))
    (have s1 := hb1.size; have s2 := hb2.size; have s3 := hb3.size; go_ret2; refine ⟨by (repeat (first | with_reducible exact Below.refl _ _ | with_reducible assumption | with_reducible refine Below.drew ?_ | with_reducible refine below_drewN ?_ _ | with_reducible refine Below.alloc ?_ ?_ _ | with_reducible refine Below.setCell ?_ ?_ _ | with_reducible refine below_thn (by with_reducible assumption) ?_ ?_ | (simp only [World.size_alloc, World.size_setCell, World.size_drew, size_drewN]; omega) | omega)), ?_⟩; rw [if_pos rfl]; refine ⟨_, _, rfl, own_new rfl ?_ ?_ (by unfold maxLen; omega) rfl⟩ <;> first | omega | (simp only [World.size_setCell, World.size_alloc, World.size_drew, size_drewN]; done) | (simp only [World.size_setCell, World.size_alloc, World.size_drew, size_drewN]; omega))
  · have he' : (re != 0) = true := by simpa using he
    have HE := Lib.hid he
    have HN := Lib.hid hcall
    clear he hcall
    go_enter Try.func79, Try.ntmps79
    go_wp2_with (first | (go_at_call 89; refine (plain_calls _ _).mono ?_; rw [HPL.out]; rintro e w1 ⟨rfl, hb1⟩) | (go_at_call 61; refine (in_calls _ _).mono ?_; rintro e w2 ⟨a2, c2, rfl, hown, hb2⟩) | (go_at_call 19; refine (fits_calls _ _ l _ _ (inOf op) _ (by omega) (by have := inOf_length op; omega) (HX.out.below (below_thn hb2 hb1 hb1.size) (Nat.le_refl _)) (own_rdS (by omega) encI_len hown).2.1).mono ?_; rw [HF.out]; rintro e w3 ⟨rfl, hb3⟩; have hXX := HX.out.below (below_thn hb3 (below_thn hb2 hb1 hb1.size) (Nat.le_trans hb1.size hb2.size)) (Nat.le_refl _); obtain ⟨b, o, rfl, hlt, k0, k1, k2, k3, k4, k5⟩ := ends hXX (by omega) HEX.out HEY.out; have j0 := past2 hlt k0; have j1 := past2 hlt k1; have j2 := past2 hlt k2; have j3 := past2 hlt k3; have j4 := past2 hlt k4; have j5 := past2 hlt k5; clear k0 k1 k2 k3 k4 k5 hXX))
    go_region
    go_wp2_with (go_at_call 90; refine (HN.out _).mono ?_; rintro e w1 ⟨rfl, hb⟩; obtain ⟨hc, hf, hz⟩ := bcell hb; (try simp only [World.size_alloc, World.size_drew, World.size_setCell] at hc hf hz))
    have s1 := hb1.size; have s2 := hb2.size; have s3 := hb3.size
    go_ret2
    refine ⟨by (repeat (first | with_reducible exact Below.refl _ _ | with_reducible assumption | with_reducible refine Below.drew ?_ | with_reducible refine below_drewN ?_ _ | with_reducible refine Below.alloc ?_ ?_ _ | with_reducible refine Below.setCell ?_ ?_ _ | with_reducible refine below_thn (by with_reducible assumption) ?_ ?_ | (simp only [World.size_alloc, World.size_setCell, World.size_drew, size_drewN]; omega) | omega)), ?_⟩
    rw [if_neg HE.out]
    rfl
set_option maxHeartbeats 2000000 in
set_option maxRecDepth 100000 in
theorem apply_holds (op : Int) (h0 : 23 ≤ op) (h1 : op ≤ 28) (l : List V) (hl : 0 < l.length) (hl2 : l.length ≤ 3) (x y : V) (ex : l.headD ⟨0, 0, ⟨#[]⟩⟩ = x) (ey : l.getLastD ⟨0, 0, ⟨#[]⟩⟩ = y) (A : Option Addr) (c : Nat) (w : World) (hx : Rd encV 3 w A l) (hf : fits l (inOf op) = true) :
    Calls Try.prog 79 #[.int .i64 op, .slice A l.length c] w (ApplyPost (applyR op l) w) := by
  have hpl : plainB op = true := by unfold plainB; simp; omega
  have ha : applyR op l = (⟨3, if holdsB op x.n y.n = true then 1 else 0, ⟨#[]⟩⟩, 0) := by unfold applyR; rw [if_neg (by omega), if_neg (by omega), if_pos h1, ex, ey]
  rw [ha]
  have HPL := Lib.hid hpl
  have HF := Lib.hid hf
  have HX := Lib.hid hx
  have HEX := Lib.hid ex
  have HEY := Lib.hid ey
  clear hpl hf hx ha ex ey
  have hcall := fun (w : World) => holds_calls op x.n y.n h0 h1 w
  generalize holdsB op x.n y.n = b at hcall
  cases b
  · simp only [if_true, Bool.false_eq_true, if_false] at hcall ⊢
    have HN := Lib.hid hcall
    clear hcall
    go_enter Try.func79, Try.ntmps79
    go_wp2_with (first | (go_at_call 89; refine (plain_calls _ _).mono ?_; rw [HPL.out]; rintro e w1 ⟨rfl, hb1⟩) | (go_at_call 61; refine (in_calls _ _).mono ?_; rintro e w2 ⟨a2, c2, rfl, hown, hb2⟩) | (go_at_call 19; refine (fits_calls _ _ l _ _ (inOf op) _ (by omega) (by have := inOf_length op; omega) (HX.out.below (below_thn hb2 hb1 hb1.size) (Nat.le_refl _)) (own_rdS (by omega) encI_len hown).2.1).mono ?_; rw [HF.out]; rintro e w3 ⟨rfl, hb3⟩; have hXX := HX.out.below (below_thn hb3 (below_thn hb2 hb1 hb1.size) (Nat.le_trans hb1.size hb2.size)) (Nat.le_refl _); obtain ⟨b, o, rfl, hlt, k0, k1, k2, k3, k4, k5⟩ := ends hXX (by omega) HEX.out HEY.out; have j0 := past2 hlt k0; have j1 := past2 hlt k1; have j2 := past2 hlt k2; have j3 := past2 hlt k3; have j4 := past2 hlt k4; have j5 := past2 hlt k5; clear k0 k1 k2 k3 k4 k5 hXX))
    go_region
    go_wp2_with (first | (go_at_call 91; refine (HN.out _).mono ?_; rintro e w1 ⟨rfl, hb⟩; obtain ⟨hc, hf, hz⟩ := bcell hb; (try simp only [World.size_alloc, World.size_drew, World.size_setCell] at hc hf hz)) | (go_at_call 74; refine (truth_calls _ _).mono ?_; rintro e w2 ⟨rfl, hb2⟩; replace hb := below_thn hb2 hb hb.size; clear hc hf hz hb2; obtain ⟨hc, hf, hz⟩ := bcell hb; (try simp only [World.size_alloc, World.size_drew, World.size_setCell] at hc hf hz)))
    (have s1 := hb1.size; have s2 := hb2.size; have s3 := hb3.size; go_ret2; refine ⟨by (repeat (first | with_reducible exact Below.refl _ _ | with_reducible assumption | with_reducible refine Below.drew ?_ | with_reducible refine below_drewN ?_ _ | with_reducible refine Below.alloc ?_ ?_ _ | with_reducible refine Below.setCell ?_ ?_ _ | with_reducible refine below_thn (by with_reducible assumption) ?_ ?_ | (simp only [World.size_alloc, World.size_setCell, World.size_drew, size_drewN]; omega) | omega)), ?_⟩; rw [if_pos rfl]; refine ⟨_, _, rfl, own_new rfl ?_ ?_ (by unfold maxLen; omega) rfl⟩ <;> first | omega | (simp only [World.size_setCell, World.size_alloc, World.size_drew, size_drewN]; done) | (simp only [World.size_setCell, World.size_alloc, World.size_drew, size_drewN]; omega))
  · simp only [if_true, Bool.false_eq_true, if_false] at hcall ⊢
    have HN := Lib.hid hcall
    clear hcall
    go_enter Try.func79, Try.ntmps79
    go_wp2_with (first | (go_at_call 89; refine (plain_calls _ _).mono ?_; rw [HPL.out]; rintro e w1 ⟨rfl, hb1⟩) | (go_at_call 61; refine (in_calls _ _).mono ?_; rintro e w2 ⟨a2, c2, rfl, hown, hb2⟩) | (go_at_call 19; refine (fits_calls _ _ l _ _ (inOf op) _ (by omega) (by have := inOf_length op; omega) (HX.out.below (below_thn hb2 hb1 hb1.size) (Nat.le_refl _)) (own_rdS (by omega) encI_len hown).2.1).mono ?_; rw [HF.out]; rintro e w3 ⟨rfl, hb3⟩; have hXX := HX.out.below (below_thn hb3 (below_thn hb2 hb1 hb1.size) (Nat.le_trans hb1.size hb2.size)) (Nat.le_refl _); obtain ⟨b, o, rfl, hlt, k0, k1, k2, k3, k4, k5⟩ := ends hXX (by omega) HEX.out HEY.out; have j0 := past2 hlt k0; have j1 := past2 hlt k1; have j2 := past2 hlt k2; have j3 := past2 hlt k3; have j4 := past2 hlt k4; have j5 := past2 hlt k5; clear k0 k1 k2 k3 k4 k5 hXX))
    go_region
    go_wp2_with (first | (go_at_call 91; refine (HN.out _).mono ?_; rintro e w1 ⟨rfl, hb⟩; obtain ⟨hc, hf, hz⟩ := bcell hb; (try simp only [World.size_alloc, World.size_drew, World.size_setCell] at hc hf hz)) | (go_at_call 74; refine (truth_calls _ _).mono ?_; rintro e w2 ⟨rfl, hb2⟩; replace hb := below_thn hb2 hb hb.size; clear hc hf hz hb2; obtain ⟨hc, hf, hz⟩ := bcell hb; (try simp only [World.size_alloc, World.size_drew, World.size_setCell] at hc hf hz)))
    (have s1 := hb1.size; have s2 := hb2.size; have s3 := hb3.size; go_ret2; refine ⟨by (repeat (first | with_reducible exact Below.refl _ _ | with_reducible assumption | with_reducible refine Below.drew ?_ | with_reducible refine below_drewN ?_ _ | with_reducible refine Below.alloc ?_ ?_ _ | with_reducible refine Below.setCell ?_ ?_ _ | with_reducible refine below_thn (by with_reducible assumption) ?_ ?_ | (simp only [World.size_alloc, World.size_setCell, World.size_drew, size_drewN]; omega) | omega)), ?_⟩; rw [if_pos rfl]; refine ⟨_, _, rfl, own_new rfl ?_ ?_ (by unfold maxLen; omega) rfl⟩ <;> first | omega | (simp only [World.size_setCell, World.size_alloc, World.size_drew, size_drewN]; done) | (simp only [World.size_setCell, World.size_alloc, World.size_drew, size_drewN]; omega))

set_option maxHeartbeats 2000000 in
set_option maxRecDepth 100000 in
theorem apply_29 (l : List V) (hl : 0 < l.length) (hl2 : l.length ≤ 3) (x y : V) (ex : l.headD ⟨0, 0, ⟨#[]⟩⟩ = x) (ey : l.getLastD ⟨0, 0, ⟨#[]⟩⟩ = y) (A : Option Addr) (c : Nat) (w : World) (hx : Rd encV 3 w A l) (hf : fits l (inOf 29) = true) :
    Calls Try.prog 79 #[.int .i64 29, .slice A l.length c] w (ApplyPost (applyR 29 l) w) := by
  have hpl : plainB 29 = true := rfl
  have ha : applyR 29 l = (⟨3, if (wrap64 (x.n + y.n) == 2) = true then 1 else 0, ⟨#[]⟩⟩, 0) := by unfold applyR; rw [if_neg (by decide), if_neg (by decide), if_neg (by decide)]; simp only [ex, ey]; rw [if_pos trivial]
  rw [ha]
  have HPL := Lib.hid hpl
  have HF := Lib.hid hf
  have HX := Lib.hid hx
  have HEX := Lib.hid ex
  have HEY := Lib.hid ey
  clear hpl hf hx ha ex ey
  obtain ⟨q, hq⟩ : ∃ q : Bool, q = (wrap64 (x.n + y.n) == 2) := ⟨_, rfl⟩
  rw [← hq]
  cases q
  · have hq' := hq.symm
    clear hq
    simp only [if_true, Bool.false_eq_true, if_false]
    go_enter Try.func79, Try.ntmps79
    go_wp2_with (first | (go_at_call 89; refine (plain_calls _ _).mono ?_; rw [HPL.out]; rintro e w1 ⟨rfl, hb1⟩) | (go_at_call 61; refine (in_calls _ _).mono ?_; rintro e w2 ⟨a2, c2, rfl, hown, hb2⟩) | (go_at_call 19; refine (fits_calls _ _ l _ _ (inOf 29) _ (by omega) (by have := inOf_length 29; omega) (HX.out.below (below_thn hb2 hb1 hb1.size) (Nat.le_refl _)) (own_rdS (by omega) encI_len hown).2.1).mono ?_; rw [HF.out]; rintro e w3 ⟨rfl, hb3⟩; have hXX := HX.out.below (below_thn hb3 (below_thn hb2 hb1 hb1.size) (Nat.le_trans hb1.size hb2.size)) (Nat.le_refl _); obtain ⟨b, o, rfl, hlt, k0, k1, k2, k3, k4, k5⟩ := ends hXX (by omega) HEX.out HEY.out; have j0 := past2 hlt k0; have j1 := past2 hlt k1; have j2 := past2 hlt k2; have j3 := past2 hlt k3; have j4 := past2 hlt k4; have j5 := past2 hlt k5; clear k0 k1 k2 k3 k4 k5 hXX))
    go_region
    go_wp2_with (first | (go_at_call 74; refine (truth_calls _ _).mono ?_; rintro e w1 ⟨rfl, hb⟩; obtain ⟨hc, hf, hz⟩ := bcell hb; (try simp only [World.size_alloc, World.size_drew, World.size_setCell] at hc hf hz)))
    (have s1 := hb1.size; have s2 := hb2.size; have s3 := hb3.size; go_ret2; refine ⟨by (repeat (first | with_reducible exact Below.refl _ _ | with_reducible assumption | with_reducible refine Below.drew ?_ | with_reducible refine below_drewN ?_ _ | with_reducible refine Below.alloc ?_ ?_ _ | with_reducible refine Below.setCell ?_ ?_ _ | with_reducible refine below_thn (by with_reducible assumption) ?_ ?_ | (simp only [World.size_alloc, World.size_setCell, World.size_drew, size_drewN]; omega) | omega)), ?_⟩; rw [if_pos rfl]; refine ⟨_, _, rfl, own_new rfl ?_ ?_ (by unfold maxLen; omega) rfl⟩ <;> first | omega | (simp only [World.size_setCell, World.size_alloc, World.size_drew, size_drewN]; done) | (simp only [World.size_setCell, World.size_alloc, World.size_drew, size_drewN]; omega))
  · have hq' := hq.symm
    clear hq
    simp only [if_true, Bool.false_eq_true, if_false]
    go_enter Try.func79, Try.ntmps79
    go_wp2_with (first | (go_at_call 89; refine (plain_calls _ _).mono ?_; rw [HPL.out]; rintro e w1 ⟨rfl, hb1⟩) | (go_at_call 61; refine (in_calls _ _).mono ?_; rintro e w2 ⟨a2, c2, rfl, hown, hb2⟩) | (go_at_call 19; refine (fits_calls _ _ l _ _ (inOf 29) _ (by omega) (by have := inOf_length 29; omega) (HX.out.below (below_thn hb2 hb1 hb1.size) (Nat.le_refl _)) (own_rdS (by omega) encI_len hown).2.1).mono ?_; rw [HF.out]; rintro e w3 ⟨rfl, hb3⟩; have hXX := HX.out.below (below_thn hb3 (below_thn hb2 hb1 hb1.size) (Nat.le_trans hb1.size hb2.size)) (Nat.le_refl _); obtain ⟨b, o, rfl, hlt, k0, k1, k2, k3, k4, k5⟩ := ends hXX (by omega) HEX.out HEY.out; have j0 := past2 hlt k0; have j1 := past2 hlt k1; have j2 := past2 hlt k2; have j3 := past2 hlt k3; have j4 := past2 hlt k4; have j5 := past2 hlt k5; clear k0 k1 k2 k3 k4 k5 hXX))
    go_region
    go_wp2_with (first | (go_at_call 74; refine (truth_calls _ _).mono ?_; rintro e w1 ⟨rfl, hb⟩; obtain ⟨hc, hf, hz⟩ := bcell hb; (try simp only [World.size_alloc, World.size_drew, World.size_setCell] at hc hf hz)))
    (have s1 := hb1.size; have s2 := hb2.size; have s3 := hb3.size; go_ret2; refine ⟨by (repeat (first | with_reducible exact Below.refl _ _ | with_reducible assumption | with_reducible refine Below.drew ?_ | with_reducible refine below_drewN ?_ _ | with_reducible refine Below.alloc ?_ ?_ _ | with_reducible refine Below.setCell ?_ ?_ _ | with_reducible refine below_thn (by with_reducible assumption) ?_ ?_ | (simp only [World.size_alloc, World.size_setCell, World.size_drew, size_drewN]; omega) | omega)), ?_⟩; rw [if_pos rfl]; refine ⟨_, _, rfl, own_new rfl ?_ ?_ (by unfold maxLen; omega) rfl⟩ <;> first | omega | (simp only [World.size_setCell, World.size_alloc, World.size_drew, size_drewN]; done) | (simp only [World.size_setCell, World.size_alloc, World.size_drew, size_drewN]; omega))

set_option maxHeartbeats 2000000 in
set_option maxRecDepth 100000 in
theorem apply_30 (l : List V) (hl : 0 < l.length) (hl2 : l.length ≤ 3) (x y : V) (ex : l.headD ⟨0, 0, ⟨#[]⟩⟩ = x) (ey : l.getLastD ⟨0, 0, ⟨#[]⟩⟩ = y) (A : Option Addr) (c : Nat) (w : World) (hx : Rd encV 3 w A l) (hf : fits l (inOf 30) = true) :
    Calls Try.prog 79 #[.int .i64 30, .slice A l.length c] w (ApplyPost (applyR 30 l) w) := by
  have hpl : plainB 30 = true := rfl
  have ha : applyR 30 l = (⟨3, if (decide (0 < wrap64 (x.n + y.n))) = true then 1 else 0, ⟨#[]⟩⟩, 0) := by unfold applyR; rw [if_neg (by decide), if_neg (by decide), if_neg (by decide)]; simp only [ex, ey]; rw [if_neg (by decide), if_pos trivial]
  rw [ha]
  have HPL := Lib.hid hpl
  have HF := Lib.hid hf
  have HX := Lib.hid hx
  have HEX := Lib.hid ex
  have HEY := Lib.hid ey
  clear hpl hf hx ha ex ey
  obtain ⟨q, hq⟩ : ∃ q : Bool, q = (decide (0 < wrap64 (x.n + y.n))) := ⟨_, rfl⟩
  rw [← hq]
  cases q
  · have hq' := hq.symm
    clear hq
    simp only [if_true, Bool.false_eq_true, if_false]
    go_enter Try.func79, Try.ntmps79
    go_wp2_with (first | (go_at_call 89; refine (plain_calls _ _).mono ?_; rw [HPL.out]; rintro e w1 ⟨rfl, hb1⟩) | (go_at_call 61; refine (in_calls _ _).mono ?_; rintro e w2 ⟨a2, c2, rfl, hown, hb2⟩) | (go_at_call 19; refine (fits_calls _ _ l _ _ (inOf 30) _ (by omega) (by have := inOf_length 30; omega) (HX.out.below (below_thn hb2 hb1 hb1.size) (Nat.le_refl _)) (own_rdS (by omega) encI_len hown).2.1).mono ?_; rw [HF.out]; rintro e w3 ⟨rfl, hb3⟩; have hXX := HX.out.below (below_thn hb3 (below_thn hb2 hb1 hb1.size) (Nat.le_trans hb1.size hb2.size)) (Nat.le_refl _); obtain ⟨b, o, rfl, hlt, k0, k1, k2, k3, k4, k5⟩ := ends hXX (by omega) HEX.out HEY.out; have j0 := past2 hlt k0; have j1 := past2 hlt k1; have j2 := past2 hlt k2; have j3 := past2 hlt k3; have j4 := past2 hlt k4; have j5 := past2 hlt k5; clear k0 k1 k2 k3 k4 k5 hXX))
    go_region
    go_wp2_with (first | (go_at_call 74; refine (truth_calls _ _).mono ?_; rintro e w1 ⟨rfl, hb⟩; obtain ⟨hc, hf, hz⟩ := bcell hb; (try simp only [World.size_alloc, World.size_drew, World.size_setCell] at hc hf hz)))
    (have s1 := hb1.size; have s2 := hb2.size; have s3 := hb3.size; go_ret2; refine ⟨by (repeat (first | with_reducible exact Below.refl _ _ | with_reducible assumption | with_reducible refine Below.drew ?_ | with_reducible refine below_drewN ?_ _ | with_reducible refine Below.alloc ?_ ?_ _ | with_reducible refine Below.setCell ?_ ?_ _ | with_reducible refine below_thn (by with_reducible assumption) ?_ ?_ | (simp only [World.size_alloc, World.size_setCell, World.size_drew, size_drewN]; omega) | omega)), ?_⟩; rw [if_pos rfl]; refine ⟨_, _, rfl, own_new rfl ?_ ?_ (by unfold maxLen; omega) rfl⟩ <;> first | omega | (simp only [World.size_setCell, World.size_alloc, World.size_drew, size_drewN]; done) | (simp only [World.size_setCell, World.size_alloc, World.size_drew, size_drewN]; omega))
  · have hq' := hq.symm
    clear hq
    simp only [if_true, Bool.false_eq_true, if_false]
    go_enter Try.func79, Try.ntmps79
    go_wp2_with (first | (go_at_call 89; refine (plain_calls _ _).mono ?_; rw [HPL.out]; rintro e w1 ⟨rfl, hb1⟩) | (go_at_call 61; refine (in_calls _ _).mono ?_; rintro e w2 ⟨a2, c2, rfl, hown, hb2⟩) | (go_at_call 19; refine (fits_calls _ _ l _ _ (inOf 30) _ (by omega) (by have := inOf_length 30; omega) (HX.out.below (below_thn hb2 hb1 hb1.size) (Nat.le_refl _)) (own_rdS (by omega) encI_len hown).2.1).mono ?_; rw [HF.out]; rintro e w3 ⟨rfl, hb3⟩; have hXX := HX.out.below (below_thn hb3 (below_thn hb2 hb1 hb1.size) (Nat.le_trans hb1.size hb2.size)) (Nat.le_refl _); obtain ⟨b, o, rfl, hlt, k0, k1, k2, k3, k4, k5⟩ := ends hXX (by omega) HEX.out HEY.out; have j0 := past2 hlt k0; have j1 := past2 hlt k1; have j2 := past2 hlt k2; have j3 := past2 hlt k3; have j4 := past2 hlt k4; have j5 := past2 hlt k5; clear k0 k1 k2 k3 k4 k5 hXX))
    go_region
    go_wp2_with (first | (go_at_call 74; refine (truth_calls _ _).mono ?_; rintro e w1 ⟨rfl, hb⟩; obtain ⟨hc, hf, hz⟩ := bcell hb; (try simp only [World.size_alloc, World.size_drew, World.size_setCell] at hc hf hz)))
    (have s1 := hb1.size; have s2 := hb2.size; have s3 := hb3.size; go_ret2; refine ⟨by (repeat (first | with_reducible exact Below.refl _ _ | with_reducible assumption | with_reducible refine Below.drew ?_ | with_reducible refine below_drewN ?_ _ | with_reducible refine Below.alloc ?_ ?_ _ | with_reducible refine Below.setCell ?_ ?_ _ | with_reducible refine below_thn (by with_reducible assumption) ?_ ?_ | (simp only [World.size_alloc, World.size_setCell, World.size_drew, size_drewN]; omega) | omega)), ?_⟩; rw [if_pos rfl]; refine ⟨_, _, rfl, own_new rfl ?_ ?_ (by unfold maxLen; omega) rfl⟩ <;> first | omega | (simp only [World.size_setCell, World.size_alloc, World.size_drew, size_drewN]; done) | (simp only [World.size_setCell, World.size_alloc, World.size_drew, size_drewN]; omega))

set_option maxHeartbeats 2000000 in
set_option maxRecDepth 100000 in
theorem apply_31 (l : List V) (hl : 0 < l.length) (hl2 : l.length ≤ 3) (x y : V) (ex : l.headD ⟨0, 0, ⟨#[]⟩⟩ = x) (ey : l.getLastD ⟨0, 0, ⟨#[]⟩⟩ = y) (A : Option Addr) (c : Nat) (w : World) (hx : Rd encV 3 w A l) (hf : fits l (inOf 31) = true) :
    Calls Try.prog 79 #[.int .i64 31, .slice A l.length c] w (ApplyPost (applyR 31 l) w) := by
  have hpl : plainB 31 = true := rfl
  have ha : applyR 31 l = (⟨3, if (x.n == 0) = true then 1 else 0, ⟨#[]⟩⟩, 0) := by unfold applyR; rw [if_neg (by decide), if_neg (by decide), if_neg (by decide)]; simp only [ex, ey]; rw [if_neg (by decide), if_neg (by decide), if_pos trivial]
  rw [ha]
  have HPL := Lib.hid hpl
  have HF := Lib.hid hf
  have HX := Lib.hid hx
  have HEX := Lib.hid ex
  have HEY := Lib.hid ey
  clear hpl hf hx ha ex ey
  obtain ⟨q, hq⟩ : ∃ q : Bool, q = (x.n == 0) := ⟨_, rfl⟩
  rw [← hq]
  cases q
  · have hq' := hq.symm
    clear hq
    simp only [if_true, Bool.false_eq_true, if_false]
    go_enter Try.func79, Try.ntmps79
    go_wp2_with (first | (go_at_call 89; refine (plain_calls _ _).mono ?_; rw [HPL.out]; rintro e w1 ⟨rfl, hb1⟩) | (go_at_call 61; refine (in_calls _ _).mono ?_; rintro e w2 ⟨a2, c2, rfl, hown, hb2⟩) | (go_at_call 19; refine (fits_calls _ _ l _ _ (inOf 31) _ (by omega) (by have := inOf_length 31; omega) (HX.out.below (below_thn hb2 hb1 hb1.size) (Nat.le_refl _)) (own_rdS (by omega) encI_len hown).2.1).mono ?_; rw [HF.out]; rintro e w3 ⟨rfl, hb3⟩; have hXX := HX.out.below (below_thn hb3 (below_thn hb2 hb1 hb1.size) (Nat.le_trans hb1.size hb2.size)) (Nat.le_refl _); obtain ⟨b, o, rfl, hlt, k0, k1, k2, k3, k4, k5⟩ := ends hXX (by omega) HEX.out HEY.out; have j0 := past2 hlt k0; have j1 := past2 hlt k1; have j2 := past2 hlt k2; have j3 := past2 hlt k3; have j4 := past2 hlt k4; have j5 := past2 hlt k5; clear k0 k1 k2 k3 k4 k5 hXX))
    go_region
    go_wp2_with (first | (go_at_call 74; refine (truth_calls _ _).mono ?_; rintro e w1 ⟨rfl, hb⟩; obtain ⟨hc, hf, hz⟩ := bcell hb; (try simp only [World.size_alloc, World.size_drew, World.size_setCell] at hc hf hz)))
    (have s1 := hb1.size; have s2 := hb2.size; have s3 := hb3.size; go_ret2; refine ⟨by (repeat (first | with_reducible exact Below.refl _ _ | with_reducible assumption | with_reducible refine Below.drew ?_ | with_reducible refine below_drewN ?_ _ | with_reducible refine Below.alloc ?_ ?_ _ | with_reducible refine Below.setCell ?_ ?_ _ | with_reducible refine below_thn (by with_reducible assumption) ?_ ?_ | (simp only [World.size_alloc, World.size_setCell, World.size_drew, size_drewN]; omega) | omega)), ?_⟩; rw [if_pos rfl]; refine ⟨_, _, rfl, own_new rfl ?_ ?_ (by unfold maxLen; omega) rfl⟩ <;> first | omega | (simp only [World.size_setCell, World.size_alloc, World.size_drew, size_drewN]; done) | (simp only [World.size_setCell, World.size_alloc, World.size_drew, size_drewN]; omega))
  · have hq' := hq.symm
    clear hq
    simp only [if_true, Bool.false_eq_true, if_false]
    go_enter Try.func79, Try.ntmps79
    go_wp2_with (first | (go_at_call 89; refine (plain_calls _ _).mono ?_; rw [HPL.out]; rintro e w1 ⟨rfl, hb1⟩) | (go_at_call 61; refine (in_calls _ _).mono ?_; rintro e w2 ⟨a2, c2, rfl, hown, hb2⟩) | (go_at_call 19; refine (fits_calls _ _ l _ _ (inOf 31) _ (by omega) (by have := inOf_length 31; omega) (HX.out.below (below_thn hb2 hb1 hb1.size) (Nat.le_refl _)) (own_rdS (by omega) encI_len hown).2.1).mono ?_; rw [HF.out]; rintro e w3 ⟨rfl, hb3⟩; have hXX := HX.out.below (below_thn hb3 (below_thn hb2 hb1 hb1.size) (Nat.le_trans hb1.size hb2.size)) (Nat.le_refl _); obtain ⟨b, o, rfl, hlt, k0, k1, k2, k3, k4, k5⟩ := ends hXX (by omega) HEX.out HEY.out; have j0 := past2 hlt k0; have j1 := past2 hlt k1; have j2 := past2 hlt k2; have j3 := past2 hlt k3; have j4 := past2 hlt k4; have j5 := past2 hlt k5; clear k0 k1 k2 k3 k4 k5 hXX))
    go_region
    go_wp2_with (first | (go_at_call 74; refine (truth_calls _ _).mono ?_; rintro e w1 ⟨rfl, hb⟩; obtain ⟨hc, hf, hz⟩ := bcell hb; (try simp only [World.size_alloc, World.size_drew, World.size_setCell] at hc hf hz)))
    (have s1 := hb1.size; have s2 := hb2.size; have s3 := hb3.size; go_ret2; refine ⟨by (repeat (first | with_reducible exact Below.refl _ _ | with_reducible assumption | with_reducible refine Below.drew ?_ | with_reducible refine below_drewN ?_ _ | with_reducible refine Below.alloc ?_ ?_ _ | with_reducible refine Below.setCell ?_ ?_ _ | with_reducible refine below_thn (by with_reducible assumption) ?_ ?_ | (simp only [World.size_alloc, World.size_setCell, World.size_drew, size_drewN]; omega) | omega)), ?_⟩; rw [if_pos rfl]; refine ⟨_, _, rfl, own_new rfl ?_ ?_ (by unfold maxLen; omega) rfl⟩ <;> first | omega | (simp only [World.size_setCell, World.size_alloc, World.size_drew, size_drewN]; done) | (simp only [World.size_setCell, World.size_alloc, World.size_drew, size_drewN]; omega))
theorem ok_size {v : V} (h : v.ok = true) : v.s.size ≤ 256 := by
  have he : ∀ s : ByteArray, s.toList.isEmpty = true → s.size ≤ 256 := by
    intro s hs
    have : s.toList = [] := by simpa using hs
    rw [ByteArray.toList_eq] at this
    have h2 := congrArg List.length this
    rw [Array.length_toList] at h2
    have : s.size = 0 := h2
    omega
  unfold V.ok at h
  split at h
  · exact he _ h
  · split at h
    · simp at h; exact h.2
    · split at h
      · simp only [Bool.and_eq_true] at h; exact he _ h.2
      · cases h
theorem fits_sizes {l : List V} {ts : List Int} (hl : 0 < l.length) (h : fits l ts = true) {x y : V} (ex : l.headD ⟨0, 0, ⟨#[]⟩⟩ = x) (ey : l.getLastD ⟨0, 0, ⟨#[]⟩⟩ = y) : x.s.size ≤ 256 ∧ y.s.size ≤ 256 := by
  unfold fits at h
  simp only [Bool.and_eq_true] at h
  have hall := List.all_eq_true.1 h.1.2
  have hne : l ≠ [] := by intro h; subst h; simp at hl
  constructor
  · refine ok_size (hall x ?_)
    cases l with
    | nil => exact absurd rfl hne
    | cons a l => simp at ex; subst ex; simp
  · refine ok_size (hall y ?_)
    rw [List.getLastD_eq_getLast?, List.getLast?_eq_some_getLast hne, Option.getD_some] at ey
    rw [← ey]; exact List.getLast_mem hne

set_option maxHeartbeats 2000000 in
set_option maxRecDepth 100000 in
theorem apply_text (op : Int) (h0 : op = 32 ∨ op = 33 ∨ (35 ≤ op ∧ op ≤ 40)) (l : List V) (hl : 0 < l.length) (hl2 : l.length ≤ 3) (x y : V) (ex : l.headD ⟨0, 0, ⟨#[]⟩⟩ = x) (ey : l.getLastD ⟨0, 0, ⟨#[]⟩⟩ = y) (A : Option Addr) (c : Nat) (w : World) (hx : Rd encV 3 w A l) (hf : fits l (inOf op) = true) :
    Calls Try.prog 79 #[.int .i64 op, .slice A l.length c] w (ApplyPost (applyR op l) w) := by
  obtain ⟨hsx, hsy⟩ := fits_sizes hl hf ex ey
  have hpl : plainB op = true := by unfold plainB; simp; omega
  have ha : applyR op l = textR op x y := by unfold applyR; simp only [ex, ey]; rw [if_neg (by omega), if_neg (by omega), if_neg (by omega), if_neg (by omega), if_neg (by omega), if_neg (by omega), if_neg (by omega)]
  rw [ha]
  have HPL := Lib.hid hpl
  have HF := Lib.hid hf
  have HX := Lib.hid hx
  have HEX := Lib.hid ex
  have HEY := Lib.hid ey
  clear hpl hf hx ha ex ey
  obtain ⟨r, hr⟩ : ∃ r, r = textR op x y := ⟨_, rfl⟩
  have hcall := fun (w : World) => textR_calls op x y h0 (by omega) (by omega) w
  rw [← hr]
  rw [← hr] at hcall
  clear hr
  obtain ⟨⟨rt, rn, rs⟩, re⟩ := r
  simp only [aggV] at hcall
  by_cases he : re = 0
  · subst he
    have HN := Lib.hid hcall
    clear hcall
    go_enter Try.func79, Try.ntmps79
    go_wp2_with (first | (go_at_call 89; refine (plain_calls _ _).mono ?_; rw [HPL.out]; rintro e w1 ⟨rfl, hb1⟩) | (go_at_call 61; refine (in_calls _ _).mono ?_; rintro e w2 ⟨a2, c2, rfl, hown, hb2⟩) | (go_at_call 19; refine (fits_calls _ _ l _ _ (inOf op) _ (by omega) (by have := inOf_length op; omega) (HX.out.below (below_thn hb2 hb1 hb1.size) (Nat.le_refl _)) (own_rdS (by omega) encI_len hown).2.1).mono ?_; rw [HF.out]; rintro e w3 ⟨rfl, hb3⟩; have hXX := HX.out.below (below_thn hb3 (below_thn hb2 hb1 hb1.size) (Nat.le_trans hb1.size hb2.size)) (Nat.le_refl _); obtain ⟨b, o, rfl, hlt, k0, k1, k2, k3, k4, k5⟩ := ends hXX (by omega) HEX.out HEY.out; have j0 := past2 hlt k0; have j1 := past2 hlt k1; have j2 := past2 hlt k2; have j3 := past2 hlt k3; have j4 := past2 hlt k4; have j5 := past2 hlt k5; clear k0 k1 k2 k3 k4 k5 hXX))
    go_region
    go_wp2_with (go_at_call 92; refine (HN.out _).mono ?_; rintro e w1 ⟨rfl, hb⟩; obtain ⟨hc, hf, hz⟩ := bcell hb; (try simp only [World.size_alloc, World.size_drew, World.size_setCell] at hc hf hz))
    (have s1 := hb1.size; have s2 := hb2.size; have s3 := hb3.size; go_ret2; refine ⟨by (repeat (first | with_reducible exact Below.refl _ _ | with_reducible assumption | with_reducible refine Below.drew ?_ | with_reducible refine below_drewN ?_ _ | with_reducible refine Below.alloc ?_ ?_ _ | with_reducible refine Below.setCell ?_ ?_ _ | with_reducible refine below_thn (by with_reducible assumption) ?_ ?_ | (simp only [World.size_alloc, World.size_setCell, World.size_drew, size_drewN]; omega) | omega)), ?_⟩; rw [if_pos rfl]; refine ⟨_, _, rfl, own_new rfl ?_ ?_ (by unfold maxLen; omega) rfl⟩ <;> first | omega | (simp only [World.size_setCell, World.size_alloc, World.size_drew, size_drewN]; done) | (simp only [World.size_setCell, World.size_alloc, World.size_drew, size_drewN]; omega))
  · have he' : (re != 0) = true := by simpa using he
    have HE := Lib.hid he
    have HN := Lib.hid hcall
    clear he hcall
    go_enter Try.func79, Try.ntmps79
    go_wp2_with (first | (go_at_call 89; refine (plain_calls _ _).mono ?_; rw [HPL.out]; rintro e w1 ⟨rfl, hb1⟩) | (go_at_call 61; refine (in_calls _ _).mono ?_; rintro e w2 ⟨a2, c2, rfl, hown, hb2⟩) | (go_at_call 19; refine (fits_calls _ _ l _ _ (inOf op) _ (by omega) (by have := inOf_length op; omega) (HX.out.below (below_thn hb2 hb1 hb1.size) (Nat.le_refl _)) (own_rdS (by omega) encI_len hown).2.1).mono ?_; rw [HF.out]; rintro e w3 ⟨rfl, hb3⟩; have hXX := HX.out.below (below_thn hb3 (below_thn hb2 hb1 hb1.size) (Nat.le_trans hb1.size hb2.size)) (Nat.le_refl _); obtain ⟨b, o, rfl, hlt, k0, k1, k2, k3, k4, k5⟩ := ends hXX (by omega) HEX.out HEY.out; have j0 := past2 hlt k0; have j1 := past2 hlt k1; have j2 := past2 hlt k2; have j3 := past2 hlt k3; have j4 := past2 hlt k4; have j5 := past2 hlt k5; clear k0 k1 k2 k3 k4 k5 hXX))
    go_region
    go_wp2_with (go_at_call 92; refine (HN.out _).mono ?_; rintro e w1 ⟨rfl, hb⟩; obtain ⟨hc, hf, hz⟩ := bcell hb; (try simp only [World.size_alloc, World.size_drew, World.size_setCell] at hc hf hz))
    have s1 := hb1.size; have s2 := hb2.size; have s3 := hb3.size
    go_ret2
    refine ⟨by (repeat (first | with_reducible exact Below.refl _ _ | with_reducible assumption | with_reducible refine Below.drew ?_ | with_reducible refine below_drewN ?_ _ | with_reducible refine Below.alloc ?_ ?_ _ | with_reducible refine Below.setCell ?_ ?_ _ | with_reducible refine below_thn (by with_reducible assumption) ?_ ?_ | (simp only [World.size_alloc, World.size_setCell, World.size_drew, size_drewN]; omega) | omega)), ?_⟩
    rw [if_neg HE.out]
    rfl
end Go.Proofs.Ytnapbjfmkofhcaa.OpE
