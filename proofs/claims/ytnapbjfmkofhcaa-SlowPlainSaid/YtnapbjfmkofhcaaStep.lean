/- (*slow.run).step: an instruction of code without blocks; the end. -/
import Derived.Test.YtnapbjfmkofhcaaDoes
import Derived.Test.YtnapbjfmkofhcaaEnd
import Derived.Test.YtnapbjfmkofhcaaShapeB
import Derived.Deep.RegionHeld2
namespace Go.Proofs.Ytnapbjfmkofhcaa.Step
set_option linter.unusedVariables false
set_option linter.unusedSimpArgs false
open Go.RowKit Wd Sl Beg Stk OpE App Val Does Shp

theorem Rd.grown {α : Type} {enc : α → List Value} {m : Nat} {w w1 : World} {a : Option Addr} {xs : List α} {q : Nat} (h : Rd enc m w a xs) (hg : w.grownBy w1 (some q)) (ha : ∀ b, a = some b → b.block ≠ q) : Rd enc m w1 a xs := by
  rcases h with h | ⟨b, o, e, hc⟩
  · exact .inl h
  · refine .inr ⟨b, o, e, fun i x hi j v hv => ?_⟩
    have h1 := hc i x hi j v hv
    have h2 : w1.heap[b]? = w.heap[b]? := hg.block b (cell_lt h1) (fun e' => ha _ e (Option.some.inj e'))
    rw [← h1]; simp only [World.cell?, h2]
theorem blk_grown {w w1 : World} {g q : Nat} {o : Obj} (h : w.heap[g]? = some o) (hg : w.grownBy w1 (some q)) (hn : g ≠ q) : w1.heap[g]? = some o := (hg.block g (blk_lt h) (fun e => hn (Option.some.inj e))).trans h
theorem cell_grown {w w1 : World} {p : Addr} {v : Value} {q : Nat} (h : w.cell? p = some v) (hg : w.grownBy w1 (some q)) (hn : p.block ≠ q) : w1.cell? p = some v := by
  have h2 : w1.heap[p.block]? = w.heap[p.block]? := hg.block p.block (cell_lt h) (fun e => hn (Option.some.inj e))
  rw [← h]; simp only [World.cell?, h2]

/-- w' is w but for the blocks g and gf, and new ones. -/
def Moved (g gf : Nat) (w w' : World) : Prop := ∃ w1, w.grownBy w1 (some g) ∧ w1.grownBy w' (some gf)
theorem Moved.below {g gf B : Nat} {w0 w w' : World} (h : Moved g gf w w') (hb : Below B w0 w) (hB : B ≤ w.heap.size) (h1 : B ≤ g) (h2 : B ≤ gf) : Below B w0 w' := by
  obtain ⟨w1, k1, k2⟩ := h
  exact (hb.grown k1 hB (fun k hk => by cases hk; exact h1)).grown k2 (Nat.le_trans hB k1.size) (fun k hk => by cases hk; exact h2)

/-- Behind a step that is not the last one. -/
def StepPost (g gf gs : Nat) (R : Array Value) (f1 f2 f3 f4 f5 f7 f8 : Value) (k : Nat) (zs : List V) (r : List V × Int) (w : World) (e : Ending) (w' : World) : Prop :=
  Moved g gf w w' ∧ Blk w' g R 60 ∧ if r.2 = 0 then
    e = .returned (.bool false) ∧ w'.cell? ⟨gs, 0, none⟩ = some (.pointer (some ⟨gf, 0, none⟩)) ∧ ∃ a n c, n = (zs ++ r.1).length ∧ Blk w' gf (frC (.slice a n c) f1 f2 f3 f4 f5 (.int .i64 ((k : Int) + 1)) f7 f8) 91 ∧ n ≤ c ∧ Rd encV 3 w' a (zs ++ r.1) ∧ (a = none → zs ++ r.1 = [] ∧ c = 0) ∧ ∀ b, a = some b → b.block ≠ g ∧ b.block ≠ gf
  else e = .panicked [{ v := .iface 35 (.int .i64 r.2), recovered := false }]

set_option maxHeartbeats 2000000 in
set_option maxRecDepth 100000 in
theorem step_walk (g gf gs c8 : Nat) (r0 r1 r3 r5 r6 r7 : Value) (a1 : Option Addr) (c1 : Nat) (consts : List ByteArray) (G co limit : Int) (f1 f2 f3 f7 f8 : Value) (a5 : Option Addr) (c5 : Nat) (a : Option Addr) (c : Nat) (b4 o4 c4 : Nat) (xs : List I) (k : Nat) (x : I) (zs : List V) (w : World)
    (hR : Blk w g (runC r0 r1 (.int .i64 G) r3 (.slice a1 consts.length c1) r5 r6 r7 (.slice (some ⟨gs, 0, none⟩) 1 c8) (.int .i64 limit)) 60) (hB : Blk w gf (frC (.slice a zs.length c) f1 f2 f3 (.slice (some ⟨b4, o4, none⟩) xs.length c4) (.slice a5 xs.length c5) (.int .i64 (k : Int)) f7 f8) 91)
    (ds : w.cell? ⟨gs, 0, none⟩ = some (.pointer (some ⟨gf, 0, none⟩))) (hg : g ≠ gf) (hk : k < xs.length) (hl : xs.length ≤ 256)
    (hX : Rd encX 2 w (some ⟨b4, o4, none⟩) xs) (hx : xs[k] = x) (hs : simple xs) (hb4 : b4 ≠ g ∧ b4 ≠ gf) (hgs : gs ≠ g ∧ gs ≠ gf) (hC : Rd encS 1 w a1 consts) (hcb : ∀ b, a1 = some b → b.block ≠ g ∧ b.block ≠ gf)
    (hz : Rd encV 3 w a zs) (hzc : zs.length ≤ c) (hnil : a = none → zs = [] ∧ c = 0) (hza : ∀ b, a = some b → b.block ≠ g ∧ b.block ≠ gf) (hn : zs.length ≤ 32)
    (ins : List Int) (hins : OpD.inOf x.op = ins) (htk : takeErr zs.reverse ins.reverse = 0) (ys ls : List V) (hys : ys = zs.take (zs.length - ins.length)) (hls : ls = zs.drop (zs.length - ins.length)) (hok : okI consts x ls)
    (r : List V × Int) (hr : doI consts x ls = r) (hfit : (ys ++ r.1).length ≤ 32)
    (hco : (OpA.opRow x.op).2.2.2.2 = co) (hc0 : 0 ≤ co) (h0 : 0 ≤ G) (h1 : G + co ≤ limit) (h2 : limit ≤ 1048576) :
    Calls Try.prog 38 #[.pointer (some ⟨g, 0, none⟩)] w (StepPost g gf gs (runC r0 r1 (.int .i64 (G + co)) r3 (.slice a1 consts.length c1) r5 r6 r7 (.slice (some ⟨gs, 0, none⟩) 1 c8) (.int .i64 limit)) f1 f2 f3 (.slice (some ⟨b4, o4, none⟩) xs.length c4) (.slice a5 xs.length c5) f7 f8 k ys r w) := by
  obtain ⟨b4', o4', e4, hcx⟩ := hX.instrs (by omega)
  cases e4
  obtain ⟨dx0, dx1⟩ := hcx k hk
  rw [hx] at dx0 dx1
  have hop := hs _ (List.getElem_mem hk)
  rw [hx] at hop
  have t48 : (x.op == 48) = false := by simp; omega
  have t49 : (x.op == 49) = false := by simp; omega
  have t50 : (x.op == 50) = false := by simp; omega
  have t51 : (x.op == 51) = false := by simp; omega
  have t52 : (x.op == 52) = false := by simp; omega
  have t53 : (x.op == 53) = false := by
    rcases hok with h | ⟨h, _⟩ | ⟨h, _⟩
    · rw [h]; rfl
    · rw [h]; rfl
    · unfold OpB.plainB at h; simp at h ⊢; omega
  have HX := Lib.hid hX
  have HXK := Lib.hid hx
  have HS := Lib.hid hs
  have HC := Lib.hid hC
  have HZ := Lib.hid hz
  have HNIL := Lib.hid hnil
  have HZA := Lib.hid hza
  have HCB := Lib.hid hcb
  have HINS := Lib.hid hins
  have HTK := Lib.hid htk
  have HYS := Lib.hid hys
  have HLS := Lib.hid hls
  have HOK := Lib.hid hok
  have HRR := Lib.hid hr
  have HFIT := Lib.hid hfit
  have HGS := Lib.hid hgs
  have hil : ins.length ≤ zs.length := by simpa using takeErr_ok _ _ htk
  have hyl : ys.length = zs.length - ins.length := by rw [hys, List.length_take]; omega
  have hll : ls.length = ins.length := by rw [hls, List.length_drop]; omega
  have HIL := Lib.hid hil
  have HYL := Lib.hid hyl
  have HLL := Lib.hid hll
  clear hcx hop hX hx hs hC hz hnil hza hcb hins htk hys hls hok hr hfit hgs hil hyl hll
  have lg := blk_lt hR
  have lf := blk_lt hB
  have d8 : w.cell? ⟨g, 8, none⟩ = some (.slice (some ⟨gs, 0, none⟩) 1 c8) := blk_cell hR 8
  have d2 : w.cell? ⟨g, 2, none⟩ = some (.int .i64 G) := blk_cell hR 2
  have e2 := blk_frozen hR 2
  have d9 : w.cell? ⟨g, 9, none⟩ = some (.int .i64 limit) := blk_cell hR 9
  have d4 : w.cell? ⟨gf, 4, none⟩ = some (.slice (some ⟨b4, o4, none⟩) xs.length c4) := blk_cell hB 4
  have d6 : w.cell? ⟨gf, 6, none⟩ = some (.int .i64 (k : Int)) := blk_cell hB 6
  have l0 : decide ((k : Int) < 0) = false := decide_eq_false (by omega)
  have l1 : decide ((xs.length : Int) ≤ k) = false := decide_eq_false (by omega)
  have l2 : ((k : Int) == xs.length) = false := by simp; omega
  have hw0 : IntKind.i64.wrap (0 : Int) = 0 := by decide +kernel
  have hw1 : IntKind.i64.wrap ((1 : Int) - 1) = 0 := by decide +kernel
  have HR := Lib.hid hR
  have HB := Lib.hid hB
  have HCO := Lib.hid hco
  have HWR := Lib.hid (show IntKind.i64.wrap (G + co) = G + co from by rw [IntKind.wrap_i64]; omega)
  have tgas : decide (limit < G + co) = false := decide_eq_false (by omega)
  clear hR hB hco
  go_enter Try.func38, Try.ntmps38
  go_wp2_with fail
  (go_region_held3 (fun W => Below w.heap.size w W ∧ W.cell? ⟨g, 8, none⟩ = some (.slice (some ⟨gs, 0, none⟩) 1 c8) ∧ W.cell? ⟨gs, 0, none⟩ = some (.pointer (some ⟨gf, 0, none⟩))) (first | (refine (fun hK : Below w.heap.size w _ => ⟨hK, cell_keep hK d8, cell_keep hK ds⟩) ?_; go_split_ands; (repeat (first | with_reducible exact Below.refl _ _ | with_reducible assumption | with_reducible refine Below.drew ?_ | with_reducible refine below_drewN ?_ _ | with_reducible refine bel_set ?_ _ _ | with_reducible refine bel_alloc ?_ _ | with_reducible refine bel_call (by with_reducible assumption) ?_)))) (first | fail))
  go_wp2_with fail
  (go_region_held3 (fun W => Below w.heap.size w W ∧ W.cell? ⟨gf, 4, none⟩ = some (.slice (some ⟨b4, o4, none⟩) xs.length c4) ∧ W.cell? ⟨gf, 6, none⟩ = some (.int .i64 (k : Int))) (first | (refine (fun hK : Below w.heap.size w _ => ⟨hK, cell_keep hK d4, cell_keep hK d6⟩) ?_; go_split_ands; (repeat (first | with_reducible exact Below.refl _ _ | with_reducible assumption | with_reducible refine Below.drew ?_ | with_reducible refine below_drewN ?_ _ | with_reducible refine bel_set ?_ _ _ | with_reducible refine bel_alloc ?_ _ | with_reducible refine bel_call (by with_reducible assumption) ?_)))) (first | fail))
  go_wp2_with fail
  (go_region_held3 (fun W => W.cell? ⟨gf, 4, none⟩ = some (.slice (some ⟨b4, o4, none⟩) xs.length c4) ∧ W.cell? ⟨gf, 6, none⟩ = some (.int .i64 (k : Int)) ∧ W.cell? ⟨b4, o4 + k * 2, none⟩ = some (.int .i64 x.op) ∧ W.cell? ⟨b4, o4 + k * 2 + 1, none⟩ = some (.int .i64 x.a)) (first | exact ⟨d4, d6, dx0, dx1⟩ | (have hn := World.new_ne; go_keep)) (first | fail))
  go_upto_region 5 with fail
  go_cut [] (fun wx => Blk wx g (runC r0 r1 (.int .i64 (G + co)) r3 (.slice a1 consts.length c1) r5 r6 r7 (.slice (some ⟨gs, 0, none⟩) 1 c8) (.int .i64 limit)) 60 ∧ Blk wx gf (frC (.slice a zs.length c) f1 f2 f3 (.slice (some ⟨b4, o4, none⟩) xs.length c4) (.slice a5 xs.length c5) (.int .i64 (k : Int)) f7 f8) 91 ∧ wx.cell? ⟨w.heap.size, 0, none⟩ = some (.int .i64 x.op) ∧ wx.cell? ⟨w.heap.size, 1, none⟩ = some (.int .i64 x.a) ∧ w.grownBy wx (some g))
  case first =>
    go_region_with (first
      | (go_at_call 58; refine (OpB.cost_calls _ _).mono ?_; rw [HCO.out]; rintro e w1 ⟨rfl, hb⟩; have hbw : Below w.heap.size w w1 := (by (repeat (first | with_reducible exact Below.refl _ _ | with_reducible assumption | with_reducible refine Below.drew ?_ | with_reducible refine below_drewN ?_ _ | with_reducible refine bel_set ?_ _ _ | with_reducible refine bel_alloc ?_ _ | with_reducible refine bel_call (by with_reducible assumption) ?_))); have p2 := cell_keep hbw d2; have q2 := (hbw.frozen (p := ⟨g, 2, none⟩) lg).trans e2; have hs1 := hbw.size; have lg1 : g < w1.heap.size := (by omega); have q0 : w1.cell? ⟨w.heap.size, 0, none⟩ = some (.int .i64 x.op) := (hb.cell (p := ⟨w.heap.size, 0, none⟩) (by simp)).trans ((blk_cell (blk_new w _) 0).trans rfl); have q1 : w1.cell? ⟨w.heap.size, 1, none⟩ = some (.int .i64 x.a) := (hb.cell (p := ⟨w.heap.size, 1, none⟩) (by simp)).trans ((blk_cell (blk_new w _) 1).trans rfl); have hs0 : w.heap.size < w1.heap.size := cell_lt q0))
    all_goals
      rw [HWR.out]
      go_wp2_with fail
      go_meet
      exact ⟨blk_set (blk_below HR.out hbw (Nat.le_refl _)) 2 _, blk_far (blk_below HB.out hbw (Nat.le_refl _)) (Ne.symm hg) _, (World.cell?_setCell_far _ _ _ _ (by simp; omega)).trans q0, (World.cell?_setCell_far _ _ _ _ (by simp; omega)).trans q1, grown_set (grown_below hbw) 2 _⟩
  case rest =>
    obtain ⟨B6, F6, x0, x1, g6⟩ := hcut
    obtain ⟨w6, hw6⟩ : ∃ w6, w6 = wc := ⟨_, rfl⟩
    rw [← hw6] at B6 F6 x0 x1 g6 ⊢
    have s6 : w.heap.size < w6.heap.size := cell_lt x0
    have u2 : w6.cell? ⟨g, 2, none⟩ = some (.int .i64 (G + co)) := blk_cell B6 2
    have u9 : w6.cell? ⟨g, 9, none⟩ = some (.int .i64 limit) := blk_cell B6 9
    have HB6 := Lib.hid B6
    have HF6 := Lib.hid F6
    have HG6 := Lib.hid g6
    clear B6 F6 g6 hw6
    have Z6 := Lib.hid (Rd.grown HZ.out HG6.out (fun b hb => (HZA.out b hb).1))
    have C6 := Lib.hid (Rd.grown HC.out HG6.out (fun b hb => (HCB.out b hb).1))
    have X6 := Lib.hid (Rd.grown HX.out HG6.out (fun b hb => by cases hb; exact hb4.1))
    have S6 := Lib.hid (cell_grown ds HG6.out HGS.out.1)
    have hbx1 : w.heap.size ≠ gf := by omega
    go_wp2_with fail
    (go_region_held3 (fun W => Below w6.heap.size w6 W ∧ W.cell? ⟨g, 2, none⟩ = some (.int .i64 (G + co)) ∧ W.cell? ⟨g, 9, none⟩ = some (.int .i64 limit)) (first | (refine (fun hK : Below w6.heap.size w6 _ => ⟨hK, cell_keep hK u2, cell_keep hK u9⟩) ?_; go_split_ands; (repeat (first | with_reducible exact Below.refl _ _ | with_reducible assumption | with_reducible refine Below.drew ?_ | with_reducible refine below_drewN ?_ _ | with_reducible refine bel_set ?_ _ _ | with_reducible refine bel_alloc ?_ _ | with_reducible refine bel_call (by with_reducible assumption) ?_)))) (first | fail))
    go_wp2_with fail
    by_cases hr0 : r.2 = 0
    · (go_region_held3 (fun W => W.cell? ⟨w.heap.size, 0, none⟩ = some (.int .i64 x.op) ∧ W.cell? ⟨w.heap.size, 1, none⟩ = some (.int .i64 x.a)) (first | exact ⟨x0, x1⟩ | exact ⟨k70, k71⟩ | exact ⟨k80, k81⟩ | exact ⟨k90, k91⟩) (first | (go_at_call 61; refine (OpD.in_calls x.op _).mono ?_; rw [HINS.out]; rintro e w7 ⟨a7, c7, rfl, own7, b7⟩; have b67 : Below w6.heap.size w6 w7 := (by (repeat (first | with_reducible exact Below.refl _ _ | with_reducible assumption | with_reducible refine Below.drew ?_ | with_reducible refine below_drewN ?_ _ | with_reducible refine bel_set ?_ _ _ | with_reducible refine bel_alloc ?_ _ | with_reducible refine bel_call (by with_reducible assumption) ?_))); have k70 := cell_keep b67 x0; have k71 := cell_keep b67 x1) | (go_at_call 59; refine Calls.mono (take_calls gf (frC (.slice a zs.length c) f1 f2 f3 (.slice (some ⟨b4, o4, none⟩) xs.length c4) (.slice a5 xs.length c5) (.int .i64 (k : Int)) f7 f8) 91 a c zs a7 c7 ins w7 (blk_below HF6.out b67 (Nat.le_refl _)) rfl hzc (Z6.out.below b67 (Nat.le_refl _)) HNIL.out (own_rdS (by omega) encI_len own7).2.1 (by omega) (by have := HIL.out; omega)) ?_; rintro e w8 ⟨h8, _⟩; obtain ⟨a8, c8', rfl, own8, B8, g8⟩ := h8 HTK.out; have k80 := cell_grown k70 g8 hbx1; have k81 := cell_grown k71 g8 hbx1) | (go_at_call 60; have ZR8 : Rd encV 3 w8 a ys := (by rw [HYS.out]; exact Rd.take _ (Rd.grown (Z6.out.below b67 (Nat.le_refl _)) g8 (fun b hb => (HZA.out b hb).2))); have NY : a = none → ys = [] ∧ c = 0 := (fun h => ⟨(by rw [HYS.out, (HNIL.out h).1]; simp), (HNIL.out h).2⟩); have R8 : Blk w8 g (runC r0 r1 (.int .i64 (G + co)) r3 (.slice a1 consts.length c1) r5 r6 r7 (.slice (some ⟨gs, 0, none⟩) 1 c8) (.int .i64 limit)) 60 := blk_grown (blk_below HB6.out b67 (Nat.le_refl _)) g8 hg; have L8 : Rd encV 3 w8 a8 ls := (by rw [HLS.out]; exact (own_rdS (by omega) encV_len own8).2.1); have D := does_calls g gf r0 r1 (.int .i64 (G + co)) r3 r5 r6 r7 (.slice (some ⟨gs, 0, none⟩) 1 c8) (.int .i64 limit) a1 c1 consts (.slice a (zs.length - ins.length) c) f1 f2 f3 (.slice (some ⟨b4, o4, none⟩) xs.length c4) (.slice a5 xs.length c5) (.int .i64 (k : Int)) f7 f8 x a8 c8' ls ys w8 B8 ⟨a, c, (by rw [HYL.out]), (by have := HYL.out; omega), ZR8, NY⟩ (by have := HYL.out; omega) R8 (Rd.grown (C6.out.below b67 (Nat.le_refl _)) g8 (fun b hb => (HCB.out b hb).2)) L8 HOK.out; rw [HLL.out, HRR.out] at D; refine Calls.mono D ?_; rintro e w9 h9; unfold DoesPost at h9; rw [if_pos hr0] at h9; obtain ⟨rfl, a9, c9, B9, own9, g9⟩ := h9; have k90 := cell_grown k80 g9 hbx1; have k91 := cell_grown k81 g9 hbx1)))
      have B9' : Blk w9 gf (frC (.slice a9 (ys.length + r.1.length) c9) f1 f2 f3 (.slice (some ⟨b4, o4, none⟩) xs.length c4) (.slice a5 xs.length c5) (.int .i64 (k : Int)) f7 f8) 91 := B9
      have lf9 := blk_lt B9'
      have v4 : w9.cell? ⟨gf, 4, none⟩ = some (.slice (some ⟨b4, o4, none⟩) xs.length c4) := blk_cell B9' 4
      have v5 : w9.cell? ⟨gf, 5, none⟩ = some (.slice a5 xs.length c5) := blk_cell B9' 5
      have v6 : w9.cell? ⟨gf, 6, none⟩ = some (.int .i64 (k : Int)) := blk_cell B9' 6
      have X9 := Lib.hid (Rd.grown (Rd.grown (X6.out.below b67 (Nat.le_refl _)) g8 (fun b hb => by cases hb; exact hb4.2)) g9 (fun b hb => by cases hb; exact hb4.2))
      go_wp2_with fail
      (go_region_with (go_at_call 62; refine (next_calls (some ⟨b4, o4, none⟩) c4 xs a5 c5 k false _ (X9.out.below (by (repeat (first | with_reducible exact Below.refl _ _ | with_reducible assumption | with_reducible refine Below.drew ?_ | with_reducible refine below_drewN ?_ _ | with_reducible refine bel_set ?_ _ _ | with_reducible refine bel_alloc ?_ _ | with_reducible refine bel_call (by with_reducible assumption) ?_))) (Nat.le_refl _)) hl HS.out hk).mono ?_; rintro e w10 ⟨rfl, b10⟩; have b90 : Below w9.heap.size w9 w10 := (by (repeat (first | with_reducible exact Below.refl _ _ | with_reducible assumption | with_reducible refine Below.drew ?_ | with_reducible refine below_drewN ?_ _ | with_reducible refine bel_set ?_ _ _ | with_reducible refine bel_alloc ?_ _ | with_reducible refine bel_call (by with_reducible assumption) ?_))); have v104 := cell_keep b90 v4; have v105 := cell_keep b90 v5; have v106 := cell_keep b90 v6; have fz6 := (b90.frozen (p := ⟨gf, 6, none⟩) lf9).trans (blk_frozen B9' 6)))
      all_goals
        have R9 : Blk w9 g (runC r0 r1 (.int .i64 (G + co)) r3 (.slice a1 consts.length c1) r5 r6 r7 (.slice (some ⟨gs, 0, none⟩) 1 c8) (.int .i64 limit)) 60 := blk_grown R8 g9 hg
        have S9 : w9.cell? ⟨gs, 0, none⟩ = some (.pointer (some ⟨gf, 0, none⟩)) := cell_grown (cell_grown (cell_keep b67 S6.out) g8 HGS.out.2) g9 HGS.out.2
        have B11 := blk_set (blk_below B9' b90 (Nat.le_refl _)) 6 (.int .i64 ((k : Int) + 1))
        have hnl : ys.length + r.1.length ≤ 32 := by have := HFIT.out; rw [List.length_append] at this; exact this
        have HB11 := Lib.hid B11
        have HR9 := Lib.hid R9
        have HS9 := Lib.hid S9
        have HO9 := Lib.hid own9
        clear B11 R9 S9 own9
        go_wp2_with (go_at_call 63; refine Calls.mono (check_calls gf _ 91 a9 (ys.length + r.1.length) c9 _ HB11.out rfl (by omega)) ?_; rintro e w11 ⟨hw, h11⟩; rw [if_pos hnl] at h11; subst h11)
        go_ret
        subst hw
        obtain ⟨q1, q2, q3, q4⟩ := own_rdS (by omega) encV_len HO9.out
        have hs8 : w.heap.size < w8.heap.size := cell_lt k80
        have hza9 : ∀ b, a9 = some b → b.block ≠ g ∧ b.block ≠ gf := fun b hb => by have := (q4 b hb).1; omega
        have gg : w10.grownBy (w10.setCell ⟨gf, 6, none⟩ (.int .i64 ((k : Int) + 1))) (some gf) := grown_set (grown_refl _ _) 6 _
        refine ⟨⟨w6, HG6.out, grown_trans (grown_then (grown_trans (grown_trans (grown_below b67) g8) g9) b90) gg⟩, blk_far (blk_below HR9.out b90 (Nat.le_refl _)) hg _, ?_⟩
        rw [if_pos hr0]
        refine ⟨rfl, (World.cell?_setCell_far _ _ _ _ (by simp; exact (Ne.symm HGS.out.2))).trans (cell_keep b90 HS9.out), a9, ys.length + r.1.length, c9, by rw [List.length_append], HB11.out, q1, Rd.grown (q2.below b90 (Nat.le_refl _)) gg (fun b hb => (hza9 b hb).2), fun h => ⟨List.eq_nil_of_length_eq_zero (by rw [List.length_append]; exact (q3 h).1), (q3 h).2⟩, hza9⟩
    · (go_region_held2 (fun W => W.cell? ⟨w.heap.size, 0, none⟩ = some (.int .i64 x.op) ∧ W.cell? ⟨w.heap.size, 1, none⟩ = some (.int .i64 x.a)) (first | exact ⟨x0, x1⟩ | exact ⟨k70, k71⟩ | exact ⟨k80, k81⟩ | exact ⟨k90, k91⟩) (first | (go_at_call 61; refine (OpD.in_calls x.op _).mono ?_; rw [HINS.out]; rintro e w7 ⟨a7, c7, rfl, own7, b7⟩; have b67 : Below w6.heap.size w6 w7 := (by (repeat (first | with_reducible exact Below.refl _ _ | with_reducible assumption | with_reducible refine Below.drew ?_ | with_reducible refine below_drewN ?_ _ | with_reducible refine bel_set ?_ _ _ | with_reducible refine bel_alloc ?_ _ | with_reducible refine bel_call (by with_reducible assumption) ?_))); have k70 := cell_keep b67 x0; have k71 := cell_keep b67 x1) | (go_at_call 59; refine Calls.mono (take_calls gf (frC (.slice a zs.length c) f1 f2 f3 (.slice (some ⟨b4, o4, none⟩) xs.length c4) (.slice a5 xs.length c5) (.int .i64 (k : Int)) f7 f8) 91 a c zs a7 c7 ins w7 (blk_below HF6.out b67 (Nat.le_refl _)) rfl hzc (Z6.out.below b67 (Nat.le_refl _)) HNIL.out (own_rdS (by omega) encI_len own7).2.1 (by omega) (by have := HIL.out; omega)) ?_; rintro e w8 ⟨h8, _⟩; obtain ⟨a8, c8', rfl, own8, B8, g8⟩ := h8 HTK.out; have k80 := cell_grown k70 g8 hbx1; have k81 := cell_grown k71 g8 hbx1) | (go_at_call 60; have ZR8 : Rd encV 3 w8 a ys := (by rw [HYS.out]; exact Rd.take _ (Rd.grown (Z6.out.below b67 (Nat.le_refl _)) g8 (fun b hb => (HZA.out b hb).2))); have NY : a = none → ys = [] ∧ c = 0 := (fun h => ⟨(by rw [HYS.out, (HNIL.out h).1]; simp), (HNIL.out h).2⟩); have R8 : Blk w8 g (runC r0 r1 (.int .i64 (G + co)) r3 (.slice a1 consts.length c1) r5 r6 r7 (.slice (some ⟨gs, 0, none⟩) 1 c8) (.int .i64 limit)) 60 := blk_grown (blk_below HB6.out b67 (Nat.le_refl _)) g8 hg; have L8 : Rd encV 3 w8 a8 ls := (by rw [HLS.out]; exact (own_rdS (by omega) encV_len own8).2.1); have D := does_calls g gf r0 r1 (.int .i64 (G + co)) r3 r5 r6 r7 (.slice (some ⟨gs, 0, none⟩) 1 c8) (.int .i64 limit) a1 c1 consts (.slice a (zs.length - ins.length) c) f1 f2 f3 (.slice (some ⟨b4, o4, none⟩) xs.length c4) (.slice a5 xs.length c5) (.int .i64 (k : Int)) f7 f8 x a8 c8' ls ys w8 B8 ⟨a, c, (by rw [HYL.out]), (by have := HYL.out; omega), ZR8, NY⟩ (by have := HYL.out; omega) R8 (Rd.grown (C6.out.below b67 (Nat.le_refl _)) g8 (fun b hb => (HCB.out b hb).2)) L8 HOK.out; rw [HLL.out, HRR.out] at D; refine Calls.mono D ?_; rintro e w9 h9; unfold DoesPost at h9; rw [if_neg hr0] at h9; obtain ⟨rfl, b9⟩ := h9; have hP : StepPost g gf gs (runC r0 r1 (.int .i64 (G + co)) r3 (.slice a1 consts.length c1) r5 r6 r7 (.slice (some ⟨gs, 0, none⟩) 1 c8) (.int .i64 limit)) f1 f2 f3 (.slice (some ⟨b4, o4, none⟩) xs.length c4) (.slice a5 xs.length c5) f7 f8 k ys r w (.panicked [{ v := .iface 35 (.int .i64 r.2), recovered := false }]) w9 := ⟨⟨w6, HG6.out, grown_then (grown_trans (grown_below b67) g8) b9⟩, blk_below R8 b9 (Nat.le_refl _), (by rw [if_neg hr0])⟩; refine (fun (_ : False → ‹Act → World → Prop› ⟨#[], []⟩ w8) => ?_) ?_; (exact ⟨rfl, hP⟩); intro hF)))
      all_goals exact hF.elim
end Go.Proofs.Ytnapbjfmkofhcaa.Step
