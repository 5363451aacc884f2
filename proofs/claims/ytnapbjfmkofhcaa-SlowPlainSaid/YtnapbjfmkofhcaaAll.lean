/- (*slow.run).all of code without blocks: a contract. -/
import Derived.Test.YtnapbjfmkofhcaaLast
import Derived.Defers
import Derived.Recover
namespace Go.Proofs.Ytnapbjfmkofhcaa.All
set_option linter.unusedVariables false
set_option linter.unusedSimpArgs false
open Go.RowKit Wd Sl Beg Stk Does Step Shp

set_option maxRecDepth 100000 in
theorem catch_panicking (p : Addr) (x n : Int) (older : List PanicEntry) (w : World) (hc : w.cell? p = some (.int .i64 x)) (hz : w.frozen? p = false) :
    CallsD Try.prog 37 #[.pointer (some p)] (.panicking ({ v := .iface 35 (.int .i64 n), recovered := false } :: older)) w fun e u' w' =>
      e = .returned (.tuple #[]) ∧ u' = .panicking ({ v := .iface 35 (.int .i64 n), recovered := true } :: older) ∧ w' = w.setCell p (.int .i64 n) := by
  refine callsD_of_wpS Try.func37 rfl fun c₀ cs hu => ?_
  apply wpS_seq
  apply wpS_region
  simp [wpOpsS, go_sem, recoverD, hu, Try.ntmps37, Exit.thenS]
  have hta : ∀ w : World, (Instr.typeAssert (.iface 35 (.int .i64 n)) 20 35 false).run Try.prog w = .ok (.int .i64 n) w := fun w => by simp [Instr.typeAssert, run_underlying Try.underlying35]
  refine wpS_of_wp ?_
  show Code.wp _ _ _ { tmps := #[.pointer (some p), .iface 35 (.int .i64 n), .iface 35 (.int .i64 n), undef, undef, undef, undef], defers := [] } w
  go_wp2_with fail
  cases c₀
  simp_all [bodyPostS, results, Try.results37]

theorem catch_idle (p : Addr) (w : World) :
    CallsD Try.prog 37 #[.pointer (some p)] .returning w fun e u' w' => e = .returned (.tuple #[]) ∧ u' = .returning ∧ w' = w := by
  refine callsD_of_wpS Try.func37 rfl fun c₀ cs hu => ?_
  apply wpS_seq
  apply wpS_region
  simp [wpOpsS, go_sem, recoverD, hu, Try.ntmps37, Exit.thenS]
  refine wpS_of_wp ?_
  show Code.wp _ _ _ { tmps := #[.pointer (some p), .nilIface, .nilIface, undef, undef, undef, undef], defers := [] } w
  go_wp2_with fail
  cases c₀
  simp_all [bodyPostS, results, Try.results37]

/-- What code without blocks comes to: the stack, the gas, the error. -/
def exec (consts : List ByteArray) : List I → List V → Int → List V × Int × Int
  | [], zs, G => (zs, G, 0)
  | x :: rest, zs, G =>
    if (doI consts x (zs.drop (zs.length - (OpD.inOf x.op).length))).2 = 0 then exec consts rest (zs.take (zs.length - (OpD.inOf x.op).length) ++ (doI consts x (zs.drop (zs.length - (OpD.inOf x.op).length))).1) (G + (OpA.opRow x.op).2.2.2.2)
    else ([], G + (OpA.opRow x.op).2.2.2.2, (doI consts x (zs.drop (zs.length - (OpD.inOf x.op).length))).2)

/-- May it be run so? -/
def good (consts : List ByteArray) (limit : Int) : List I → List V → Int → Prop
  | [], zs, _ => zs.length ≤ 32
  | x :: rest, zs, G => zs.length ≤ 32 ∧ takeErr zs.reverse (OpD.inOf x.op).reverse = 0 ∧ okI consts x (zs.drop (zs.length - (OpD.inOf x.op).length)) ∧ 0 ≤ (OpA.opRow x.op).2.2.2.2 ∧ 0 ≤ G ∧ G + (OpA.opRow x.op).2.2.2.2 ≤ limit ∧
    (zs.take (zs.length - (OpD.inOf x.op).length) ++ (doI consts x (zs.drop (zs.length - (OpD.inOf x.op).length))).1).length ≤ 32 ∧
    ((doI consts x (zs.drop (zs.length - (OpD.inOf x.op).length))).2 = 0 → good consts limit rest (zs.take (zs.length - (OpD.inOf x.op).length) ++ (doI consts x (zs.drop (zs.length - (OpD.inOf x.op).length))).1) (G + (OpA.opRow x.op).2.2.2.2))

/-- The state of a run in its only frame, ahead of instruction k. -/
def St (w0 : World) (g gf gs c8 : Nat) (r0 r1 r3 r5 r6 r7 : Value) (a1 : Option Addr) (c1 : Nat) (consts : List ByteArray) (limit : Int) (f1 f3 f7 f8 : Value) (a2 : Option Addr) (c2 : Nat) (rs : List Int) (a5 : Option Addr) (c5 : Nat) (b4 o4 c4 : Nat) (xs : List I)
    (k : Nat) (G : Int) (zs : List V) (w : World) : Prop :=
  Below w0.heap.size w0 w ∧ Blk w g (runC r0 r1 (.int .i64 G) r3 (.slice a1 consts.length c1) r5 r6 r7 (.slice (some ⟨gs, 0, none⟩) 1 c8) (.int .i64 limit)) 60 ∧ w.cell? ⟨gs, 0, none⟩ = some (.pointer (some ⟨gf, 0, none⟩)) ∧
    ∃ a c, Blk w gf (frC (.slice a zs.length c) f1 (.slice a2 rs.length c2) f3 (.slice (some ⟨b4, o4, none⟩) xs.length c4) (.slice a5 xs.length c5) (.int .i64 (k : Int)) f7 f8) 91 ∧ zs.length ≤ c ∧ Rd encV 3 w a zs ∧ (a = none → zs = [] ∧ c = 0) ∧ ∀ b, a = some b → b.block ≠ g ∧ b.block ≠ gf

theorem exec_cons (consts : List ByteArray) (x : I) (rest : List I) (zs : List V) (G : Int) (r : List V × Int) (hr : doI consts x (zs.drop (zs.length - (OpD.inOf x.op).length)) = r) :
    exec consts (x :: rest) zs G = if r.2 = 0 then exec consts rest (zs.take (zs.length - (OpD.inOf x.op).length) ++ r.1) (G + (OpA.opRow x.op).2.2.2.2) else ([], G + (OpA.opRow x.op).2.2.2.2, r.2) := by
  rw [exec, hr]

/-- One step. -/
theorem st_step (w0 : World) (g gf gs c8 : Nat) (r0 r1 r3 r5 r6 r7 : Value) (a1 : Option Addr) (c1 : Nat) (consts : List ByteArray) (limit : Int) (f1 f3 f7 f8 : Value) (a2 : Option Addr) (c2 : Nat) (rs : List Int) (a5 : Option Addr) (c5 : Nat) (b4 o4 c4 : Nat) (xs : List I) (hg : w0.heap.size ≤ g) (hf : w0.heap.size ≤ gf) (hgf : g ≠ gf) (hg2 : gs ≠ g ∧ gs ≠ gf) (hC : Rd encS 1 w0 a1 consts) (hX : Rd encX 2 w0 (some ⟨b4, o4, none⟩) xs) (hb4 : b4 < w0.heap.size) (hca : ∀ b, a1 = some b → b.block < w0.heap.size) (hl : xs.length ≤ 256) (hs : simple xs) (hlim : limit ≤ 1048576)
    (k : Nat) (G : Int) (zs : List V) (w : World) (hk : k < xs.length) (hgood : good consts limit (xs.drop k) zs G) (hS : St w0 g gf gs c8 r0 r1 r3 r5 r6 r7 a1 c1 consts limit f1 f3 f7 f8 a2 c2 rs a5 c5 b4 o4 c4 xs k G zs w) :
    Calls Try.prog 38 #[.pointer (some ⟨g, 0, none⟩)] w fun e w' => Moved g gf w w' ∧
      ((∃ zs' G', e = .returned (.bool false) ∧ exec consts (xs.drop (k + 1)) zs' G' = exec consts (xs.drop k) zs G ∧ good consts limit (xs.drop (k + 1)) zs' G' ∧ St w0 g gf gs c8 r0 r1 r3 r5 r6 r7 a1 c1 consts limit f1 f3 f7 f8 a2 c2 rs a5 c5 b4 o4 c4 xs (k + 1) G' zs' w') ∨
      (∃ n G', n ≠ 0 ∧ e = .panicked [{ v := .iface 35 (.int .i64 n), recovered := false }] ∧ exec consts (xs.drop k) zs G = ([], G', n) ∧ Below w0.heap.size w0 w' ∧ Blk w' g (runC r0 r1 (.int .i64 G') r3 (.slice a1 consts.length c1) r5 r6 r7 (.slice (some ⟨gs, 0, none⟩) 1 c8) (.int .i64 limit)) 60)) := by
  obtain ⟨hb, hR, hsc, a, c, hB, hzc, hz, hnil, hza⟩ := hS
  have hd : xs.drop k = xs[k] :: xs.drop (k + 1) := List.drop_eq_getElem_cons hk
  rw [hd] at hgood ⊢
  obtain ⟨g1, g2, g3, g4, g5, g6, g7, g8⟩ := hgood
  have hsz := hb.size
  refine Calls.mono (step_walk g gf gs c8 r0 r1 r3 r5 r6 r7 a1 c1 consts G _ limit f1 (.slice a2 rs.length c2) f3 f7 f8 a5 c5 a c b4 o4 c4 xs k xs[k] zs w hR hB hsc hgf hk hl (hX.below hb (Nat.le_refl _)) rfl hs ⟨by omega, by omega⟩ hg2 (hC.below hb (Nat.le_refl _)) (fun b h => by have := hca b h; omega) hz hzc hnil hza g1 _ rfl g2 _ _ rfl rfl g3 _ rfl g7 rfl g4 g5 g6 hlim) ?_
  rintro e w' ⟨hM, hR', hp⟩
  have hb' : Below w0.heap.size w0 w' := hM.below hb hsz hg hf
  refine ⟨hM, ?_⟩
  rw [exec_cons consts xs[k] (xs.drop (k + 1)) zs G _ rfl]
  by_cases h0 : (doI consts xs[k] (zs.drop (zs.length - (OpD.inOf xs[k].op).length))).2 = 0
  · rw [if_pos h0] at hp ⊢
    obtain ⟨he, hs', a', n', c', hn', hB', h1, h2, h3, h4⟩ := hp
    subst hn'
    exact .inl ⟨_, _, he, rfl, g8 h0, hb', hR', hs', a', c', hB', h1, h2, h3, h4⟩
  · rw [if_neg h0] at hp ⊢
    exact .inr ⟨_, _, h0, hp, rfl, hb', hR'⟩

theorem St.alloc {w0 : World} {g gf gs c8 : Nat} {r0 r1 r3 r5 r6 r7 : Value} {a1 : Option Addr} {c1 : Nat} {consts : List ByteArray} {limit : Int} {f1 f3 f7 f8 : Value} {a2 : Option Addr} {c2 : Nat} {rs : List Int} {a5 : Option Addr} {c5 : Nat} {b4 o4 c4 : Nat} {xs : List I} {k : Nat} {G : Int} {zs : List V} {w : World} (h : St w0 g gf gs c8 r0 r1 r3 r5 r6 r7 a1 c1 consts limit f1 f3 f7 f8 a2 c2 rs a5 c5 b4 o4 c4 xs k G zs w) (o : Obj) : St w0 g gf gs c8 r0 r1 r3 r5 r6 r7 a1 c1 consts limit f1 f3 f7 f8 a2 c2 rs a5 c5 b4 o4 c4 xs k G zs (w.alloc o) := by
  obtain ⟨hb, hR, hsc, a, c, hB, hzc, hz, hnil, hza⟩ := h
  have hbw : Below w.heap.size w (w.alloc o) := (Below.refl _ _).alloc (Nat.le_refl _) o
  exact ⟨hb.alloc hb.size o, blk_alloc hR o, cell_keep hbw hsc, a, c, blk_alloc hB o, hzc, hz.below hbw (Nat.le_refl _), hnil, hza⟩

theorem St.at6 {w0 : World} {g gf gs c8 : Nat} {r0 r1 r3 r5 r6 r7 : Value} {a1 : Option Addr} {c1 : Nat} {consts : List ByteArray} {limit : Int} {f1 f3 f7 f8 : Value} {a2 : Option Addr} {c2 : Nat} {rs : List Int} {a5 : Option Addr} {c5 : Nat} {b4 o4 c4 : Nat} {xs : List I} {k : Nat} {G : Int} {zs : List V} {w : World} (h : St w0 g gf gs c8 r0 r1 r3 r5 r6 r7 a1 c1 consts limit f1 f3 f7 f8 a2 c2 rs a5 c5 b4 o4 c4 xs k G zs w) : w.cell? ⟨gf, 6, none⟩ = some (.int .i64 (k : Int)) ∧ g < w.heap.size ∧ gf < w.heap.size := by
  obtain ⟨hb, hR, hsc, a, c, hB, hzc, hz, hnil, hza⟩ := h
  exact ⟨blk_cell hB 6, blk_lt hR, blk_lt hB⟩

/-- Behind the run of all steps. -/
def AllPost (w0 : World) (g : Nat) (rs : List Int) (r1 r3 : Value) (r : List V × Int × Int) (e : Ending) (w' : World) : Prop :=
  Below w0.heap.size w0 w' ∧ e = .returned (.int .i64 r.2.2) ∧ ∃ cs, Blk w' g cs 60 ∧ cs[1]? = some r1 ∧ cs[2]? = some (.int .i64 r.2.1) ∧ cs[3]? = some r3 ∧ (r.2.2 = 0 → ∃ v, cs[0]? = some v ∧ Sv encV 3 w' v r.1)

set_option maxHeartbeats 1000000 in
set_option maxRecDepth 100000 in
theorem all_calls (w0 : World) (g gf gs c8 : Nat) (r0 r1 r3 r5 r6 r7 : Value) (a1 : Option Addr) (c1 : Nat) (consts : List ByteArray) (limit : Int) (f1 f3 f7 f8 : Value) (a2 : Option Addr) (c2 : Nat) (rs : List Int) (a5 : Option Addr) (c5 : Nat) (b4 o4 c4 : Nat) (xs : List I)
    (hg : w0.heap.size ≤ g) (hf : w0.heap.size ≤ gf) (hgs : w0.heap.size ≤ gs) (hgf : g ≠ gf) (hg2 : gs ≠ g) (hg3 : gs ≠ gf) (hc8 : 1 ≤ c8) (hC : Rd encS 1 w0 a1 consts) (hI : Rd encI 1 w0 a2 rs) (hX : Rd encX 2 w0 (some ⟨b4, o4, none⟩) xs) (hb4 : b4 < w0.heap.size) (hca : ∀ b, a1 = some b → b.block < w0.heap.size)
    (hl : xs.length ≤ 256) (hrl : rs.length ≤ 1000) (hs : simple xs) (hlim : limit ≤ 1048576) (r : List V × Int × Int) (hex : exec consts xs [] 0 = r) (hgood : good consts limit xs [] 0) (hfit : r.2.2 = 0 → fits r.1 rs = true) (w : World)
    (hS : St w0 g gf gs c8 r0 r1 r3 r5 r6 r7 a1 c1 consts limit f1 f3 f7 f8 a2 c2 rs a5 c5 b4 o4 c4 xs 0 0 [] w) :
    Calls Try.prog 21 #[.pointer (some ⟨g, 0, none⟩)] w (AllPost w0 g rs r1 r3 r) := by
  have hmf : ∀ (fn : Fn) (first cap : Array Value) (w : World), (Instr.makeFunc fn first cap).run Try.prog w = .ok (.func fn first cap) w := fun _ _ _ _ => rfl
  go_enter_defers Try.func21, Try.ntmps21
  go_wp2_with fail
  go_loopw [4] (fun _ wr => ∃ (k : Nat) (G : Int) (zs : List V), k ≤ xs.length ∧ exec consts (xs.drop k) zs G = r ∧ good consts limit (xs.drop k) zs G ∧ St w0 g gf gs c8 r0 r1 r3 r5 r6 r7 a1 c1 consts limit f1 f3 f7 f8 a2 c2 rs a5 c5 b4 o4 c4 xs k G zs wr ∧ Blk wr w.heap.size #[.int .i64 0] 35) (fun _ wr => xs.length - (intOf ((wr.cell? ⟨gf, 6, none⟩).getD undef)).toNat)
  case atStart => exact ⟨0, 0, [], Nat.zero_le _, hex, hgood, hS.alloc _, blk_new _ _⟩
  case round =>
    obtain ⟨k, G, zs, hk, he, hgd, hSt, hP⟩ := hrel
    have hsz := hS.1.size
    have hwp : w.heap.size < wr.heap.size := blk_lt hP
    obtain ⟨_, lg, lf⟩ := hS.at6
    have hk6 := hSt.at6.1
    have hn1 : w.heap.size ≠ g := by omega
    have hn2 : w.heap.size ≠ gf := by omega
    by_cases hlt : k < xs.length
    · have hstep := st_step w0 g gf gs c8 r0 r1 r3 r5 r6 r7 a1 c1 consts limit f1 f3 f7 f8 a2 c2 rs a5 c5 b4 o4 c4 xs hg hf hgf ⟨hg2, hg3⟩ hC hX hb4 hca hl hs hlim k G zs wr hlt hgd hSt
      have HST := Lib.hid hstep
      have HP := Lib.hid hP
      have HE := Lib.hid he
      clear hstep hP hSt he hgd hS hex hgood
      go_wp2_with (go_at_call 38; refine Calls.mono HST.out ?_; rintro e w' ⟨hM, h⟩; rcases h with ⟨zs', G', rfl, e1, e2, e3⟩ | ⟨n, G', hn, rfl, e1, e2, e3⟩)
      · obtain ⟨w1, m1, m2⟩ := hM
        refine ⟨⟨k + 1, G', zs', hlt, e1.trans HE.out, e2, e3, blk_grown (blk_grown HP.out m1 hn1) m2 hn2⟩, ?_⟩
        rw [hk6, e3.at6.1]
        simp [intOf]
        omega
      · obtain ⟨w1, m1, m2⟩ := hM
        have HP' : Blk w' w.heap.size #[.int .i64 0] 35 := blk_grown (blk_grown HP.out m1 hn1) m2 hn2
        refine leaves_cons (f := 37) (args := #[.pointer (some ⟨w.heap.size, 0, none⟩)]) (by simp) (by simp [go_sem]) ?_
        refine (catch_panicking ⟨w.heap.size, 0, none⟩ 0 n [] _ ?_ ?_).mono ?_
        · exact blk_cell HP' 0
        · exact blk_frozen HP' 0
        rintro e u' w'' ⟨rfl, rfl, rfl⟩
        have q0 : (w'.setCell ⟨w.heap.size, 0, none⟩ (.int .i64 n)).cell? ⟨w.heap.size, 0, none⟩ = some (.int .i64 n) := World.cell?_setCell_same _ _ _ (blk_cell HP' 0)
        simp [Leaves, settle, results, Try.results21, go_sem]
        refine ⟨_, by rw [q0], ?_⟩
        have hr : r = ([], G', n) := HE.out.symm.trans e1
        subst hr
        exact ⟨e2.setCell (p := ⟨w.heap.size, 0, none⟩) (by show w0.heap.size ≤ w.heap.size; omega) _, rfl, _, blk_far e3 (fun h => hn1 h.symm) _, rfl, rfl, rfl, fun h => absurd h hn⟩
    · obtain rfl : k = xs.length := by omega
      rw [List.drop_length] at he
      obtain ⟨hb, hR, hsc, a, c, hB, hzc, hz, hnil, hza⟩ := hSt
      have hr : r = (zs, G, 0) := he.symm
      subst hr
      have HL := Lib.hid (step_last g gf gs c8 r0 r1 (.int .i64 G) r3 (.slice a1 consts.length c1) r5 r6 r7 (.int .i64 limit) a c a2 c2 rs f1 f3 (.slice a5 xs.length c5) f7 f8 (some ⟨b4, o4, none⟩) xs.length c4 zs wr hR hB hsc hgf hz (by simp only [List.drop_length, good] at hgd; omega) (hI.below hb (Nat.le_refl _)) hrl hc8 (hfit rfl))
      have HP := Lib.hid hP
      have HZ := Lib.hid hz
      have HNIL := Lib.hid hnil
      have HZA := Lib.hid hza
      have HBB := Lib.hid hb
      clear hP hgd hS hex hgood hR hB hsc hz hnil hza hb he hfit
      go_wp2_with (go_at_call 38; refine Calls.mono HL.out ?_; rintro e w' ⟨rfl, h1, h2⟩; have HP1 : Blk w' w.heap.size #[.int .i64 0] 35 := blk_grown HP.out h2 hn1; have p0 := blk_cell HP1 0; have p1 := blk_frozen HP1 0)
      refine leaves_cons (f := 37) (args := #[.pointer (some ⟨w.heap.size, 0, none⟩)]) (by simp) (by simp [go_sem]) ?_
      refine (catch_idle ⟨w.heap.size, 0, none⟩ _).mono ?_
      rintro e u' w'' ⟨rfl, rfl, rfl⟩
      have q0 : (w'.setCell ⟨w.heap.size, 0, none⟩ (.int .i64 0)).cell? ⟨w.heap.size, 0, none⟩ = some (.int .i64 0) := World.cell?_setCell_same _ _ _ p0
      simp [Leaves, settle, results, Try.results21, go_sem]
      refine ⟨_, by rw [q0], ?_⟩
      obtain ⟨r8, hr8⟩ := h1
      have hsv : Rd encV 3 (w'.setCell ⟨w.heap.size, 0, none⟩ (.int .i64 0)) a zs := by
        by_cases hz0 : zs = []
        · subst hz0; exact Rd.nil _ _ _ _
        · refine Rd.grown (Rd.grown HZ.out h2 (fun b hb => (HZA.out b hb).1)) (grown_set (grown_refl _ _) 0 _) (fun b hb e => ?_)
          obtain ⟨b', o', rfl, hcells⟩ := HZ.out.vals (List.length_pos_iff.2 hz0)
          cases hb
          simp only at e
          subst e
          have h3 := (hcells 0 (List.length_pos_iff.2 hz0)).2.2
          rw [blk_cell HP.out] at h3
          simp at h3
      exact ⟨(HBB.out.grown h2 (by have := HBB.out.size; exact this) (fun k hk => by cases hk; exact hg)).setCell (p := ⟨w.heap.size, 0, none⟩) (by show w0.heap.size ≤ w.heap.size; omega) _, rfl, _, blk_far hr8 (fun h => hn1 h.symm) _, rfl, rfl, rfl, fun _ => ⟨_, rfl, a, c, rfl, hzc, hsv, HNIL.out⟩⟩
end Go.Proofs.Ytnapbjfmkofhcaa.All
