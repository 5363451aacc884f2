/- (*slow.run).does of PushInt, PushConst and the plain operations: a contract. -/
import Derived.Test.YtnapbjfmkofhcaaBeg
import Derived.Test.YtnapbjfmkofhcaaStk
import Derived.Test.YtnapbjfmkofhcaaApp
import Derived.Test.YtnapbjfmkofhcaaVal
namespace Go.Proofs.Ytnapbjfmkofhcaa.Does
set_option linter.unusedVariables false
set_option linter.unusedSimpArgs false
open Go.RowKit Wd Sl Beg Stk OpE App Val

theorem sv_new (W : World) (xs : List V) (t : TypeId) (cs : Array Value) (h : cs = (flat encV xs).toArray) (g n c : Nat) (hg : g = W.heap.size) (hn : n = xs.length) (hc : n ≤ c) : Sv encV 3 (W.alloc (.cells cs t)) (.slice (some ⟨g, 0, none⟩) n c) xs := by
  subst h; subst hg; subst hn
  refine ⟨_, _, rfl, hc, (rd_at (by omega) encV_len).2 (.inr ⟨_, _, rfl, fun j v hj => ?_⟩), fun h => by cases h⟩
  rw [Nat.zero_add, cell_of_row _ _ _ _ _ _ (blk_new W _)]
  simpa using hj

/-- May x be done on l? -/
def okI (consts : List ByteArray) (x : I) (l : List V) : Prop :=
  x.op = 1 ∨ (x.op = 2 ∧ 0 ≤ x.a ∧ x.a < consts.length) ∨ (OpB.plainB x.op = true ∧ x.op ≠ 34 ∧ fits l (OpD.inOf x.op) = true)
/-- What x puts, and its error. -/
def doI (consts : List ByteArray) (x : I) (l : List V) : List V × Int :=
  if x.op = 1 then ([⟨1, x.a, ⟨#[]⟩⟩], 0) else if x.op = 2 then ([⟨2, 0, consts.getD x.a.toNat ⟨#[]⟩⟩], 0) else
    if (OpE.applyR x.op l).2 = 0 then ([(OpE.applyR x.op l).1], 0) else ([], (OpE.applyR x.op l).2)

/-- Behind does. -/
def DoesPost (gf : Nat) (cs : Array Value) (zs : List V) (r : List V × Int) (w : World) (e : Ending) (w' : World) : Prop :=
  if r.2 = 0 then PutPost gf cs 91 (zs.length + r.1.length) (zs ++ r.1) w e w' else e = .panicked [{ v := .iface 35 (.int .i64 r.2), recovered := false }] ∧ Below w.heap.size w w'

set_option maxHeartbeats 1000000 in
set_option maxRecDepth 100000 in
theorem does1 (g gf : Nat) (f0 f1 f2 f3 f4 f5 f6 f7 f8 : Value) (xa : Int) (vl : Value) (zs : List V) (w : World) (hB : Blk w gf (frC f0 f1 f2 f3 f4 f5 f6 f7 f8) 91) (hz : Sv encV 3 w f0 zs) (hn : zs.length ≤ 1000) :
    Calls Try.prog 60 #[.pointer (some ⟨g, 0, none⟩), .pointer (some ⟨gf, 0, none⟩), .agg #[.int .i64 1, .int .i64 xa], vl] w (DoesPost gf (frC f0 f1 f2 f3 f4 f5 f6 f7 f8) zs ([⟨1, xa, ⟨#[]⟩⟩], 0) w) := by
  have lf := blk_lt hB
  have HB := Lib.hid hB
  have HZ := Lib.hid hz
  clear hB hz
  go_enter Try.func60, Try.ntmps60
  go_wp2_with fail
  go_region_with (first
    | (go_at_call 72; refine (number_calls _ _).mono ?_; rintro e w1 ⟨rfl, hb⟩; have hbw : Below w.heap.size w w1 := (by (repeat (first | with_reducible exact Below.refl _ _ | with_reducible assumption | with_reducible refine Below.drew ?_ | with_reducible refine below_drewN ?_ _ | with_reducible refine bel_set ?_ _ _ | with_reducible refine bel_alloc ?_ _ | with_reducible refine bel_call (by with_reducible assumption) ?_))))
    | (go_at_call 75; refine Calls.mono (put_calls gf (frC f0 f1 f2 f3 f4 f5 f6 f7 f8) 91 f0 (.slice (some ⟨w1.heap.size, 0, none⟩) 1 1) zs [⟨1, xa, ⟨#[]⟩⟩] _ (blk_alloc (blk_below HB.out hbw (Nat.le_refl _)) _) rfl ((HZ.out.below hbw (Nat.le_refl _)).below ((Below.refl _ _).alloc (Nat.le_refl _) _) (Nat.le_refl _)) (sv_new _ _ _ _ rfl _ _ _ rfl rfl (Nat.le_refl _)) (by simp [lim47]; omega)) ?_; rintro e w2 ⟨rfl, a9, c9, hB9, hown9, hg9⟩))
  have hbA : Below w.heap.size w (w1.alloc (.cells #[.int .i64 1, .int .i64 xa, .string ⟨#[]⟩] 33)) := bel_alloc hbw _
  go_wp2_with fail
  go_end0
  unfold DoesPost
  rw [if_pos rfl]
  exact ⟨rfl, a9, c9, hB9, World.ownsRow.mono hown9 hbA.size, grown_trans (grown_below hbA) hg9⟩

set_option maxHeartbeats 1000000 in
set_option maxRecDepth 100000 in
theorem does2 (g gf : Nat) (r0 r1 r2 r3 r5 r6 r7 r8 r9 : Value) (a1 : Option Addr) (c1 : Nat) (consts : List ByteArray) (f0 f1 f2 f3 f4 f5 f6 f7 f8 : Value) (xa : Int) (vl : Value) (zs : List V) (w : World) (hB : Blk w gf (frC f0 f1 f2 f3 f4 f5 f6 f7 f8) 91) (hz : Sv encV 3 w f0 zs) (hn : zs.length ≤ 1000)
    (hR : Blk w g (runC r0 r1 r2 r3 (.slice a1 consts.length c1) r5 r6 r7 r8 r9) 60) (hC : Rd encS 1 w a1 consts) (x0 : 0 ≤ xa) (x1 : xa < consts.length) :
    Calls Try.prog 60 #[.pointer (some ⟨g, 0, none⟩), .pointer (some ⟨gf, 0, none⟩), .agg #[.int .i64 2, .int .i64 xa], vl] w (DoesPost gf (frC f0 f1 f2 f3 f4 f5 f6 f7 f8) zs ([⟨2, 0, consts.getD xa.toNat ⟨#[]⟩⟩], 0) w) := by
  obtain ⟨b, o, rfl, hcx⟩ := hC.strs (by omega)
  have hk : xa.toNat < consts.length := by omega
  have hs := hcx xa.toNat hk
  have hget : consts.getD xa.toNat ⟨#[]⟩ = consts[xa.toNat] := by rw [List.getD_eq_getElem?_getD, List.getElem?_eq_getElem hk]; rfl
  rw [hget]
  clear hcx hget hC
  have lf := blk_lt hB
  have c4 : w.cell? ⟨g, 4, none⟩ = some (.slice (some ⟨b, o, none⟩) consts.length c1) := blk_cell hR 4
  have lg := blk_lt hR
  have lb := cell_lt hs
  simp only at lb
  have HB := Lib.hid hB
  have HZ := Lib.hid hz
  obtain ⟨k, rfl⟩ : ∃ k : Nat, xa = (k : Int) := ⟨xa.toNat, by omega⟩
  simp only [Int.toNat_natCast] at hk hs ⊢
  revert hs
  generalize consts[k] = sv
  intro hs
  clear hB hz hR
  have l0 : decide ((k : Int) < 0) = false := decide_eq_false (by omega)
  have l1 : decide ((consts.length : Int) ≤ k) = false := decide_eq_false (by omega)
  go_enter Try.func60, Try.ntmps60
  go_wp2_with fail
  go_region_with (first
    | (go_at_call 73; refine (text_calls _ _).mono ?_; rintro e w1 ⟨rfl, hb⟩; have hbw : Below w.heap.size w w1 := (by (repeat (first | with_reducible exact Below.refl _ _ | with_reducible assumption | with_reducible refine Below.drew ?_ | with_reducible refine below_drewN ?_ _ | with_reducible refine bel_set ?_ _ _ | with_reducible refine bel_alloc ?_ _ | with_reducible refine bel_call (by with_reducible assumption) ?_))))
    | (go_at_call 75; refine Calls.mono (put_calls gf (frC f0 f1 f2 f3 f4 f5 f6 f7 f8) 91 f0 (.slice (some ⟨w1.heap.size, 0, none⟩) 1 1) zs [⟨2, 0, sv⟩] _ (blk_alloc (blk_below HB.out hbw (Nat.le_refl _)) _) rfl ((HZ.out.below hbw (Nat.le_refl _)).below ((Below.refl _ _).alloc (Nat.le_refl _) _) (Nat.le_refl _)) (sv_new _ _ _ _ rfl _ _ _ rfl rfl (Nat.le_refl _)) (by simp [lim47]; omega)) ?_; rintro e w2 ⟨rfl, a9, c9, hB9, hown9, hg9⟩))
  all_goals
    have hbA : Below w.heap.size w (w1.alloc (.cells #[.int .i64 2, .int .i64 0, .string sv] 33)) := bel_alloc hbw _
    go_wp2_with fail
    go_end0
    unfold DoesPost
    rw [if_pos rfl]
    exact ⟨rfl, a9, c9, hB9, World.ownsRow.mono hown9 hbA.size, grown_trans (grown_below hbA) hg9⟩

set_option maxHeartbeats 1000000 in
set_option maxRecDepth 100000 in
theorem doesP (g gf : Nat) (f0 f1 f2 f3 f4 f5 f6 f7 f8 : Value) (op xa : Int) (A : Option Addr) (c : Nat) (l : List V) (zs : List V) (w : World) (hB : Blk w gf (frC f0 f1 f2 f3 f4 f5 f6 f7 f8) 91) (hz : Sv encV 3 w f0 zs) (hn : zs.length ≤ 1000)
    (hp : OpB.plainB op = true) (h34 : op ≠ 34) (hx : Rd encV 3 w A l) (hf : fits l (OpD.inOf op) = true) :
    Calls Try.prog 60 #[.pointer (some ⟨g, 0, none⟩), .pointer (some ⟨gf, 0, none⟩), .agg #[.int .i64 op, .int .i64 xa], .slice A l.length c] w (DoesPost gf (frC f0 f1 f2 f3 f4 f5 f6 f7 f8) zs (if (OpE.applyR op l).2 = 0 then ([(OpE.applyR op l).1], 0) else ([], (OpE.applyR op l).2)) w) := by
  have hp' : op = 3 ∨ op = 4 ∨ (11 ≤ op ∧ op ≤ 40) := by unfold OpB.plainB at hp; simp at hp; omega
  have HP := Lib.hid hp
  have HF := Lib.hid hf
  have HX := Lib.hid hx
  have HB := Lib.hid hB
  have HZ := Lib.hid hz
  have t1 : (op == 1) = false := by simp; omega
  have t2 : (op == 2) = false := by simp; omega
  have t5 : (op == 5) = false := by simp; omega
  have t6 : (op == 6) = false := by simp; omega
  have t7 : (op == 7) = false := by simp; omega
  have t8 : (op == 8) = false := by simp; omega
  have t9 : (op == 9) = false := by simp; omega
  have t10 : (op == 10) = false := by simp; omega
  have t41 : (op == 41) = false := by simp; omega
  have t42 : (op == 42) = false := by simp; omega
  have t43 : (op == 43) = false := by simp; omega
  have t44 : (op == 44) = false := by simp; omega
  have t45 : (op == 45) = false := by simp; omega
  have t46 : (op == 46) = false := by simp; omega
  have t47 : (op == 47) = false := by simp; omega
  clear hp hf hx hB hz hp'
  obtain ⟨r, hr⟩ : ∃ r, r = OpE.applyR op l := ⟨_, rfl⟩
  rw [← hr]
  have HR := Lib.hid hr
  clear hr
  obtain ⟨r1, r2⟩ := r
  simp only
  have hbx : Below w.heap.size w (w.alloc (.cells #[.int .i64 op, .int .i64 xa] 31)) := bel_alloc (Below.refl _ _) _
  have HBX := Lib.hid hbx
  clear hbx
  by_cases h0 : r2 = 0
  · subst h0
    rw [if_pos rfl]
    go_enter Try.func60, Try.ntmps60
    go_wp2_with (first
      | (go_at_call 79; refine Calls.mono (apply_calls op HP.out h34 l A c _ (HX.out.below HBX.out (Nat.le_refl _)) HF.out) ?_; rw [← HR.out]; rintro e w1 ⟨hb, h1⟩; rw [if_pos rfl] at h1; obtain ⟨a1, c1, rfl, hown⟩ := h1; have hbw : Below w.heap.size w w1 := bel_call hb HBX.out)
      | (go_at_call 76; refine Calls.mono (must_calls 0 _) ?_; rintro e w2 ⟨rfl, h2⟩; rw [if_pos rfl] at h2; subst h2)
      | (go_at_call 75; refine Calls.mono (put_calls gf (frC f0 f1 f2 f3 f4 f5 f6 f7 f8) 91 f0 (.slice a1 1 c1) zs [r1] _ (blk_below HB.out hbw (Nat.le_refl _)) rfl (HZ.out.below hbw (Nat.le_refl _)) ?hsv (by simp [lim47]; omega)) ?_; (case hsv => (obtain ⟨q1, q2, q3, _⟩ := own_rdS (by omega) encV_len hown; exact ⟨a1, c1, rfl, q1, q2, fun h => absurd (q3 h).1 (by omega)⟩)); rintro e w3 ⟨rfl, a9, c9, hB9, hown9, hg9⟩))
    go_end0
    unfold DoesPost
    rw [if_pos rfl]
    exact ⟨rfl, a9, c9, hB9, World.ownsRow.mono hown9 hbw.size, grown_trans (grown_below hbw) hg9⟩
  · rw [if_neg h0]
    go_enter Try.func60, Try.ntmps60
    go_wp2_with (first
      | (go_at_call 79; refine Calls.mono (apply_calls op HP.out h34 l A c _ (HX.out.below HBX.out (Nat.le_refl _)) HF.out) ?_; rw [← HR.out]; rintro e w1 ⟨hb, h1⟩; rw [if_neg h0] at h1; subst h1; have hbw : Below w.heap.size w w1 := bel_call hb HBX.out)
      | (go_at_call 76; refine Calls.mono (must_calls r2 _) ?_; rintro e w2 ⟨rfl, h2⟩; rw [if_neg h0] at h2; subst h2))
    have hpost : DoesPost gf (frC f0 f1 f2 f3 f4 f5 f6 f7 f8) zs ([], r2) w (.panicked [{ v := .iface 35 (.int .i64 r2), recovered := false }]) w1 := by
      unfold DoesPost
      rw [if_neg h0]
      exact ⟨rfl, hbw⟩
    exact ⟨rfl, hpost⟩

/-- The three together. -/
theorem does_calls (g gf : Nat) (r0 r1 r2 r3 r5 r6 r7 r8 r9 : Value) (a1 : Option Addr) (c1 : Nat) (consts : List ByteArray) (f0 f1 f2 f3 f4 f5 f6 f7 f8 : Value) (x : I) (A : Option Addr) (c : Nat) (l : List V) (zs : List V) (w : World) (hB : Blk w gf (frC f0 f1 f2 f3 f4 f5 f6 f7 f8) 91) (hz : Sv encV 3 w f0 zs) (hn : zs.length ≤ 1000)
    (hR : Blk w g (runC r0 r1 r2 r3 (.slice a1 consts.length c1) r5 r6 r7 r8 r9) 60) (hC : Rd encS 1 w a1 consts) (hx : Rd encV 3 w A l) (ho : okI consts x l) :
    Calls Try.prog 60 #[.pointer (some ⟨g, 0, none⟩), .pointer (some ⟨gf, 0, none⟩), .agg #[.int .i64 x.op, .int .i64 x.a], .slice A l.length c] w (DoesPost gf (frC f0 f1 f2 f3 f4 f5 f6 f7 f8) zs (doI consts x l) w) := by
  obtain ⟨op, xa⟩ := x
  unfold okI at ho
  unfold doI
  simp only at ho ⊢
  by_cases h1 : op = 1
  · subst h1; rw [if_pos rfl]; exact does1 g gf f0 f1 f2 f3 f4 f5 f6 f7 f8 xa _ zs w hB hz hn
  by_cases h2 : op = 2
  · subst h2
    rw [if_neg h1, if_pos rfl]
    rcases ho with h | ⟨_, h3, h4⟩ | ⟨h, _⟩
    · exact absurd h h1
    · exact does2 g gf r0 r1 r2 r3 r5 r6 r7 r8 r9 a1 c1 consts f0 f1 f2 f3 f4 f5 f6 f7 f8 xa _ zs w hB hz hn hR hC h3 h4
    · exact absurd h (by decide)
  · rw [if_neg h1, if_neg h2]
    rcases ho with h | ⟨h, _⟩ | ⟨h, h3, h4⟩
    · exact absurd h h1
    · exact absurd h h2
    · exact doesP g gf f0 f1 f2 f3 f4 f5 f6 f7 f8 op xa A c l zs w hB hz hn h h3 hx h4
end Go.Proofs.Ytnapbjfmkofhcaa.Does
