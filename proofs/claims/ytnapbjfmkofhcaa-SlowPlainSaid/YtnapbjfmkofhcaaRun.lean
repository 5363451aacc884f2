/- slow.Run of a script of one function without parameters, locals and blocks: a contract. -/
import Derived.Test.YtnapbjfmkofhcaaAll
import Derived.Test.YtnapbjfmkofhcaaSto
import Derived.Test.YtnapbjfmkofhcaaRight
namespace Go.Proofs.Ytnapbjfmkofhcaa.Run
set_option linter.unusedVariables false
set_option linter.unusedSimpArgs false
open Go.RowKit Wd Sl Beg Stk Does Step Shp All Sto

theorem infoSI : (Try.prog.info? 23).map (fun i => (i.zero, i.size, i.bytes)) = some (some (.slice none 0 0), 1, 24) := by kernel_rfl

/-- What Run hands back. -/
def RunPost (r : List V × Int × Int) (w : World) (e : Ending) (w' : World) : Prop :=
  Below w.heap.size w w' ∧ if r.2.2 = 0 then ∃ v, e = .returned (.agg #[v, .slice none 0 0, .int .i64 r.2.1, .int .i64 0]) ∧ Sv encV 3 w' v r.1
    else e = .returned (.agg #[.slice none 0 0, .slice none 0 0, .int .i64 r.2.1, .int .i64 r.2.2])

set_option maxHeartbeats 2000000 in
set_option maxRecDepth 100000 in
theorem run_calls (a1 : Option Addr) (c1 : Nat) (consts : List ByteArray) (bF oF cF : Nat) (a2 : Option Addr) (c2 : Nat) (rs : List Int) (b4 o4 c4 : Nat) (xs : List I) (t : Value) (limit : Int) (w : World) (hC : Rd encS 1 w a1 consts) (hca : ∀ b, a1 = some b → b.block < w.heap.size) (hcs : consts.length ≤ 32) (hsz : ∀ x ∈ consts, x.size ≤ 1000)
    (h1 : w.cell? ⟨bF, oF, none⟩ = some (.slice none 0 0)) (h2 : w.cell? ⟨bF, oF + 1, none⟩ = some (.slice a2 rs.length c2)) (h3 : w.cell? ⟨bF, oF + 2, none⟩ = some (.slice none 0 0)) (h4 : w.cell? ⟨bF, oF + 3, none⟩ = some (.slice (some ⟨b4, o4, none⟩) xs.length c4))
    (hI : Sv encI 1 w (.slice a2 rs.length c2) rs) (hX : Sv encX 2 w (.slice (some ⟨b4, o4, none⟩) xs.length c4) xs) (hxs : 0 < xs.length) (hl : xs.length ≤ 256) (hrl : rs.length ≤ 1000) (hs : simple xs) (ht : IsTx w t)
    (hlim : limit ≤ 1048576) (hlim0 : 0 ≤ limit) (hright : Rt.rightS ⟨consts, [⟨[], rs, [], xs⟩]⟩ = true) (r : List V × Int × Int) (hex : exec consts xs [] 0 = r) (hgood : good consts limit xs [] 0) (hfit : r.2.2 = 0 → fits r.1 rs = true) :
    Calls Try.prog 8 #[.agg #[.slice a1 consts.length c1, .slice (some ⟨bF, oF, none⟩) 1 cF], .slice none 0 0, t, .int .i64 limit] w (RunPost r w) := by
  have tl0 : decide (limit < 0) = false := decide_eq_false (by omega)
  have tl1 : decide (1048576 < limit) = false := decide_eq_false (by omega)
  have HRT := fun (W : World) (hb : Below w.heap.size w W) => Lib.hid (Rt.rightS_calls ⟨consts, [⟨[], rs, [], xs⟩]⟩ a1 (some ⟨bF, oF, none⟩) c1 cF W (by simp; omega) (by simp) (fun x hx => by have := hsz x hx; omega) (hC.below hb (Nat.le_refl _))
    (FnsAt.below (.inr ⟨bF, oF, rfl, fun i f hf => by
      match i, hf with
      | 0, hf =>
        simp at hf; subst hf
        exact ⟨_, _, _, _, h1, h2, h3, h4, ⟨none, 0, rfl, Nat.le_refl _, Rd.nil _ _ _ _, fun _ => ⟨rfl, rfl⟩⟩, hI, ⟨none, 0, rfl, Nat.le_refl _, Rd.nil _ _ _ _, fun _ => ⟨rfl, rfl⟩⟩, hX⟩
      | i + 1, hf => simp at hf⟩) hb (Nat.le_refl _)) (by simp; omega))
  have HTX := fun (W : World) (hb : Below w.heap.size w W) => Lib.hid (made_calls t W (ht.below hb (Nat.le_refl _)))
  have HX := Lib.hid hX
  have HI := Lib.hid hI
  have HC := Lib.hid hC
  have HR := Lib.hid hright
  have HEX := Lib.hid hex
  have HGD := Lib.hid hgood
  have HFI := Lib.hid hfit
  clear hX hI hC hright hex hgood hfit
  obtain ⟨gt, mt, rfl, hct⟩ := ht
  obtain ⟨i0, hi0, hz0, hz1, hz2⟩ := info_parts infoSI
  go_enter Try.func8, Try.ntmps8
  go_wp2_with (first
    | (go_at_call 16; refine Calls.mono (HTX _ ?hbw).out ?_; (case hbw => (repeat (first | with_reducible exact Below.refl _ _ | with_reducible assumption | with_reducible refine Below.drew ?_ | with_reducible refine below_drewN ?_ _ | with_reducible refine bel_set ?_ _ _ | with_reducible refine bel_alloc ?_ _ | with_reducible refine bel_call (by with_reducible assumption) ?_))); rintro e w1 ⟨rfl, hb1⟩; have B1 : Below w.heap.size w w1 := (by (repeat (first | with_reducible exact Below.refl _ _ | with_reducible assumption | with_reducible refine Below.drew ?_ | with_reducible refine below_drewN ?_ _ | with_reducible refine bel_set ?_ _ _ | with_reducible refine bel_alloc ?_ _ | with_reducible refine bel_call (by with_reducible assumption) ?_))); have S1 : Blk w1 w.heap.size #[.slice a1 consts.length c1, .slice (some ⟨bF, oF, none⟩) 1 cF] 41 := blk_below (blk_alloc (blk_new w _) _) hb1 (Nat.le_refl _); have R1 : Blk w1 (w.heap.size + 1) #[.slice none 0 0, .slice none 0 0, .int .i64 0, .int .i64 0] 37 := blk_below ((by have h := blk_new (w.alloc (.cells #[.slice a1 consts.length c1, .slice (some ⟨bF, oF, none⟩) 1 cF] 41)) (.cells #[.slice none 0 0, .slice none 0 0, .int .i64 0, .int .i64 0] 37); simp only [World.size_alloc] at h; exact h)) hb1 (Nat.le_refl _); have s10 := blk_cell S1 0; have s11 := blk_cell S1 1; have HS1 := Lib.hid S1; have HR1 := Lib.hid R1; clear S1 R1)
    | (go_at_call 17; refine Calls.mono (HRT _ ?hbw).out ?_; (case hbw => (repeat (first | with_reducible exact Below.refl _ _ | with_reducible assumption | with_reducible refine Below.drew ?_ | with_reducible refine below_drewN ?_ _ | with_reducible refine bel_set ?_ _ _ | with_reducible refine bel_alloc ?_ _ | with_reducible refine bel_call (by with_reducible assumption) ?_))); rw [HR.out]; rintro e w2 ⟨rfl, hb2⟩; have B2 : Below w.heap.size w w2 := (by (repeat (first | with_reducible exact Below.refl _ _ | with_reducible assumption | with_reducible refine Below.drew ?_ | with_reducible refine below_drewN ?_ _ | with_reducible refine bel_set ?_ _ _ | with_reducible refine bel_alloc ?_ _ | with_reducible refine bel_call (by with_reducible assumption) ?_))); have s20 := blk_cell (blk_below HS1.out hb2 (Nat.le_refl _)) 0; have s21 := blk_cell (blk_below HS1.out hb2 (Nat.le_refl _)) 1; have HS2 := Lib.hid (blk_below HS1.out hb2 (Nat.le_refl _)); have HR2 := Lib.hid (blk_below HR1.out hb2 (Nat.le_refl _)); have x1 := cell_keep B2 h1; have x2 := cell_keep B2 h2; have x3 := cell_keep B2 h3; have x4 := cell_keep B2 h4; have lF2 : bF < w2.heap.size := cell_lt x1; have lS2 : w.heap.size < w2.heap.size := cell_lt s20))
  have HX2 := Lib.hid (HX.out.below B2 (Nat.le_refl _))
  refine wp_loop_rounds 2 ?_
  rw [rounds_succ]
  go_wp2_with (first
    | (go_at_call 18; obtain ⟨a4', c4', e4, q1, q2, q3⟩ := HX2.out; cases e4; refine Calls.mono (match_calls (some ⟨b4, o4, none⟩) c4 xs _ (q2.below ((Below.refl w2.heap.size w2).alloc (Nat.le_refl _) _ |>.alloc (by simp) _) (Nat.le_refl _)) hl hs) ?_; rintro e w3 ⟨am, cm, rfl, own3, hb3⟩; have B23 : Below w2.heap.size w2 w3 := (by (repeat (first | with_reducible exact Below.refl _ _ | with_reducible assumption | with_reducible refine Below.drew ?_ | with_reducible refine below_drewN ?_ _ | with_reducible refine bel_set ?_ _ _ | with_reducible refine bel_alloc ?_ _ | with_reducible refine bel_call (by with_reducible assumption) ?_))); have G3 : Blk w3 w2.heap.size (runC (.slice none 0 0) (.slice none 0 0) (.int .i64 0) (.int .i64 0) (.slice a1 consts.length c1) (.slice (some ⟨bF, oF, none⟩) 1 cF) (.slice none 0 0) (.pointer (some ⟨gt, 0, none⟩)) (.slice none 0 0) (.int .i64 limit)) 60 := blk_below (blk_alloc (blk_new w2 _) _) hb3 (Nat.le_refl _); have g36 := blk_cell G3 6; have f36 := blk_frozen G3 6; have lG3 := blk_lt G3; have HG3 := Lib.hid G3; clear G3)
    | (at_builtin; refine wpList_append_own _ rfl _ _ 57 rfl (w3.heap.size + 1) 23 i0 (.slice none 0 0) 1 24 Try.underlying57 hi0 hz0 hz1 hz2 rfl (by decide) _ _ _ rfl (World.ownsRow_nil _ _ _ _) ⟨w3.heap.size, 0, none⟩ 1 1 [.slice am xs.length cm] rfl rfl ?c1 ?c2 ?c3 ?c4 ?c5 ?_; (case c1 => exact cell_one_new _ _ _); (case c2 => (intro u hu; simp at hu; subst hu; rfl)); (case c3 => (unfold maxLen; omega)); (case c4 => omega); (case c5 => (simp only [World.size_alloc]; omega)); intro v4 w4 own4 gr4 _; obtain ⟨gm, cmm, rfl, hgm, hgm2, hm4, hc1⟩ := own_one own4; have B34 : Below w3.heap.size w3 w4 := (bel_alloc (Below.refl _ _) _).grown gr4 (by simp) (fun k hk => (by cases hk)); have g46 := cell_keep B34 g36; have f46 := (B34.frozen (p := ⟨w2.heap.size, 6, none⟩) lG3).trans f36; have HG4 := Lib.hid (blk_below HG3.out B34 (Nat.le_refl _))))
  obtain ⟨w5, hw5⟩ : ∃ w5, w5 = w4.setCell ⟨w2.heap.size, 6, none⟩ (.slice (some ⟨gm, 0, none⟩) 1 cmm) := ⟨_, rfl⟩
  rw [← hw5]
  have B25 : Below w2.heap.size w2 w5 := by rw [hw5]; exact (B23.trans (B34.mono B23.size)).setCell (p := ⟨w2.heap.size, 6, none⟩) (Nat.le_refl _) _
  have G5 : Blk w5 w2.heap.size (runC (.slice none 0 0) (.slice none 0 0) (.int .i64 0) (.int .i64 0) (.slice a1 consts.length c1) (.slice (some ⟨bF, oF, none⟩) 1 cF) (.slice (some ⟨gm, 0, none⟩) 1 cmm) (.pointer (some ⟨gt, 0, none⟩)) (.slice none 0 0) (.int .i64 limit)) 60 := by rw [hw5]; exact blk_set HG4.out 6 _
  have m5 : w5.cell? ⟨gm, 0, none⟩ = some (.slice am xs.length cm) := by rw [hw5]; exact (World.cell?_setCell_far _ _ _ _ (by show w2.heap.size ≠ gm; omega)).trans hm4
  have HG5 := Lib.hid G5
  have s50 := cell_keep B25 s20
  have s51 := cell_keep B25 s21
  have y1 := cell_keep B25 x1
  clear G5 hw5 g46 f46 HG4 hm4 gr4 own4 B34 g36 f36 HG3 hgm2
  clear w4
  rw [rounds_succ]
  go_wp2_with (first
    | (go_at_call 19; refine Calls.mono (ValB.fits_calls none 0 [] none 0 [] _ (by simp) (by simp) (Rd.nil _ _ _ _) (Rd.nil _ _ _ _)) ?_; rw [show fits [] [] = true from rfl]; rintro e w6 ⟨rfl, hb6⟩; have B56 : Below w5.heap.size w5 w6 := (by (repeat (first | with_reducible exact Below.refl _ _ | with_reducible assumption | with_reducible refine Below.drew ?_ | with_reducible refine below_drewN ?_ _ | with_reducible refine bel_set ?_ _ _ | with_reducible refine bel_alloc ?_ _ | with_reducible refine bel_call (by with_reducible assumption) ?_))); have B26 : Below w2.heap.size w2 w6 := below_thn B56 B25 B25.size; have HG6 := Lib.hid (blk_below HG5.out B56 (Nat.le_refl _)); have m6 := cell_keep B56 m5; have z1 := cell_keep B26 x1; have z2 := cell_keep B26 x2; have z3 := cell_keep B26 x3; have z4 := cell_keep B26 x4)
    | (go_at_call 20; refine Calls.mono (begin_calls w2.heap.size (.slice none 0 0) (.slice none 0 0) (.int .i64 0) (.int .i64 0) (.slice a1 consts.length c1) (.pointer (some ⟨gt, 0, none⟩)) (.int .i64 limit) none 0 0 a2 rs.length c2 (some ⟨b4, o4, none⟩) xs.length c4 am xs.length cm bF oF 0 cF gm 0 cmm w6 HG6.out z1 z2 z3 z4 m6) ?_; rintro e w7 ⟨rfl, gf, gs, c8, slots, left, hgf, hgs, hne, hc8, F7, s7, G7, g7⟩; have B27 : Below w2.heap.size w2 w7 := B26.grown g7 B26.size (fun k hk => (by cases hk; exact Nat.le_refl _)); have HF7 := Lib.hid F7; have HG7 := Lib.hid G7; have hs26 := B26.size; have lg6 := blk_lt HG6.out; clear F7 G7))
  have hgs' : gs ≠ w2.heap.size ∧ gs ≠ gf ∧ w2.heap.size ≠ gf ∧ w2.heap.size ≤ gf ∧ w2.heap.size ≤ gs := by omega
  obtain ⟨hq1, hq2, hq3, hq4, hq5⟩ := hgs'
  have lb4 : b4 < w2.heap.size := by
    obtain ⟨a4', c4', e4, q1, q2, q3⟩ := HX2.out
    cases e4
    obtain ⟨b', o', e5, hcx⟩ := q2.instrs hxs
    cases e5
    exact cell_lt (hcx 0 hxs).1
  have hI2 : Rd encI 1 w2 a2 rs := by
    obtain ⟨a4', c4', e4, q1, q2, q3⟩ := HI.out
    cases e4
    exact q2.below B2 (Nat.le_refl _)
  have hX2 : Rd encX 2 w2 (some ⟨b4, o4, none⟩) xs := by
    obtain ⟨a4', c4', e4, q1, q2, q3⟩ := HX2.out
    cases e4
    exact q2
  refine Calls.mono (all_calls w2 w2.heap.size gf gs c8 (.slice none 0 0) (.slice none 0 0) (.int .i64 0) (.slice (some ⟨bF, oF, none⟩) 1 cF) (.slice (some ⟨gm, 0, none⟩) 1 cmm) (.pointer (some ⟨gt, 0, none⟩)) a1 c1 consts limit (.slice none 0 0) (.slice none 0 0) slots left a2 c2 rs am cm b4 o4 c4 xs (Nat.le_refl _) hq4 hq5 hq3 hq1 hq2 hc8 (HC.out.below B2 (Nat.le_refl _)) hI2 hX2 lb4 (fun b hb => Nat.lt_of_lt_of_le (hca b hb) B2.size) hl hrl hs hlim r HEX.out HGD.out HFI.out w7 ⟨B27, HG7.out, s7, none, 0, HF7.out, Nat.le_refl _, Rd.nil _ _ _ _, fun _ => ⟨rfl, rfl⟩, fun b hb => (by cases hb)⟩) ?_
  rintro e w8 ⟨B28, rfl, cs, G8, k1, k2, k3, hsv⟩
  have u1 := (blk_cell G8 1).trans k1
  have u2 := (blk_cell G8 2).trans k2
  have u3 := (blk_cell G8 3).trans k3
  have R8 := blk_below HR2.out B28 (Nat.le_refl _)
  have v0 := blk_cell R8 0
  have v1 := blk_cell R8 1
  have v2 := blk_cell R8 2
  have v3 := blk_cell R8 3
  have p0 := blk_frozen R8 0
  have p1 := blk_frozen R8 1
  have p2 := blk_frozen R8 2
  have p3 := blk_frozen R8 3
  have HR8 := Lib.hid R8
  have HG8 := Lib.hid G8
  clear R8 G8 k1 k2 k3
  obtain ⟨zs, G, er⟩ := r
  by_cases h0 : er = 0
  · subst h0
    obtain ⟨v, k0, hv⟩ := hsv rfl
    obtain ⟨av, cv, rfl, hv1, hv2, hv3⟩ := hv
    have u0 := (blk_cell HG8.out 0).trans k0
    clear k0
    simp only at u0 u2 hv1 hv2 hv3
    go_wp2_with fail
    have RB := blk_set (blk_set (blk_set (blk_set HR8.out 0 (.slice av zs.length cv)) 1 (.slice none 0 0)) 2 (.int .i64 G)) 3 (.int .i64 0)
    have hB9 : Below w.heap.size w ((((w8.setCell ⟨w.heap.size + 1, 0, none⟩ (.slice av zs.length cv)).setCell ⟨w.heap.size + 1, 1, none⟩ (.slice none 0 0)).setCell ⟨w.heap.size + 1, 2, none⟩ (.int .i64 G)).setCell ⟨w.heap.size + 1, 3, none⟩ (.int .i64 0)) :=
      ((((below_thn B28 B2 B2.size).setCell (p := ⟨w.heap.size + 1, 0, none⟩) (by simp) _).setCell (p := ⟨w.heap.size + 1, 1, none⟩) (by simp) _).setCell (p := ⟨w.heap.size + 1, 2, none⟩) (by simp) _).setCell (p := ⟨w.heap.size + 1, 3, none⟩) (by simp) _
    have hg9 : w8.grownBy ((((w8.setCell ⟨w.heap.size + 1, 0, none⟩ (.slice av zs.length cv)).setCell ⟨w.heap.size + 1, 1, none⟩ (.slice none 0 0)).setCell ⟨w.heap.size + 1, 2, none⟩ (.int .i64 G)).setCell ⟨w.heap.size + 1, 3, none⟩ (.int .i64 0)) (some (w.heap.size + 1)) :=
      grown_set (grown_set (grown_set (grown_set (grown_refl _ _) 0 _) 1 _) 2 _) 3 _
    have hsv9 : Rd encV 3 ((((w8.setCell ⟨w.heap.size + 1, 0, none⟩ (.slice av zs.length cv)).setCell ⟨w.heap.size + 1, 1, none⟩ (.slice none 0 0)).setCell ⟨w.heap.size + 1, 2, none⟩ (.int .i64 G)).setCell ⟨w.heap.size + 1, 3, none⟩ (.int .i64 0)) av zs := by
      by_cases hz0 : zs = []
      · subst hz0; exact Rd.nil _ _ _ _
      · refine Rd.grown hv2 hg9 (fun b hb e => ?_)
        obtain ⟨b', o', rfl, hcells⟩ := hv2.vals (List.length_pos_iff.2 hz0)
        cases hb
        simp only at e
        subst e
        have h3 := (hcells 0 (List.length_pos_iff.2 hz0)).2.2
        rw [blk_cell HR8.out] at h3
        match o', h3 with
        | 0, h3 => simp at h3
        | 1, h3 => simp at h3
        | n + 2, h3 => simp at h3
    refine bodyPost_ret (v := .agg #[.slice av zs.length cv, .slice none 0 0, .int .i64 G, .int .i64 0]) (by have w0 := blk_cell RB 0; have w1 := blk_cell RB 1; have w2 := blk_cell RB 2; have w3 := blk_cell RB 3; simp at w0 w1 w2 w3; simp [results, Try.results8, go_sem, w0, w1, w2, w3]) rfl ⟨hB9, ?_⟩
    rw [if_pos rfl]
    exact ⟨_, rfl, av, cv, rfl, hv1, hsv9, hv3⟩
  · have hb : (er != 0) = true := by simpa using h0
    simp only at u2
    go_wp2_with fail
    have RB := blk_set (blk_set (blk_set (blk_set HR8.out 0 (.slice none 0 0)) 1 (.slice none 0 0)) 2 (.int .i64 G)) 3 (.int .i64 er)
    have hB9 : Below w.heap.size w ((((w8.setCell ⟨w.heap.size + 1, 0, none⟩ (.slice none 0 0)).setCell ⟨w.heap.size + 1, 1, none⟩ (.slice none 0 0)).setCell ⟨w.heap.size + 1, 2, none⟩ (.int .i64 G)).setCell ⟨w.heap.size + 1, 3, none⟩ (.int .i64 er)) :=
      ((((below_thn B28 B2 B2.size).setCell (p := ⟨w.heap.size + 1, 0, none⟩) (by simp) _).setCell (p := ⟨w.heap.size + 1, 1, none⟩) (by simp) _).setCell (p := ⟨w.heap.size + 1, 2, none⟩) (by simp) _).setCell (p := ⟨w.heap.size + 1, 3, none⟩) (by simp) _
    refine bodyPost_ret (v := .agg #[.slice none 0 0, .slice none 0 0, .int .i64 G, .int .i64 er]) (by have w0 := blk_cell RB 0; have w1 := blk_cell RB 1; have w2 := blk_cell RB 2; have w3 := blk_cell RB 3; simp at w0 w1 w2 w3; simp [results, Try.results8, go_sem, w0, w1, w2, w3]) rfl ⟨hB9, ?_⟩
    rw [if_neg h0]
end Go.Proofs.Ytnapbjfmkofhcaa.Run
