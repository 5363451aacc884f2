/- law12.SlowPlain: the walk of a plain operation. -/
import Derived.Test.YtnapbjfmkofhcaaMain
import Derived.Test.YtnapbjfmkofhcaaJobB
namespace Go.Proofs.Ytnapbjfmkofhcaa.Main
set_option linter.unusedVariables false
set_option linter.unusedSimpArgs false
open Go.RowKit Wd Sl Beg OpA OpB OpD OpE Does Shp All Law Sto Step Job Reg

theorem cells_new (w : World) (cs : List Value) (t : TypeId) {g : Nat} (hg : g = w.heap.size) : ∀ j u, cs[j]? = some u → (w.alloc (.cells cs.toArray t)).cell? ((⟨g, 0, none⟩ : Addr).add j) = some u := by
  intro j u hj
  subst hg
  have h2 : (⟨w.heap.size, 0, none⟩ : Addr).add j = ⟨w.heap.size, j, none⟩ := by unfold Addr.add; split <;> simp_all
  rw [h2, cell_of_row _ _ _ _ _ _ (blk_new w _)]
  simpa using hj

/-- Growth of w5 but for block g, then an append to a row of the call's own. -/
theorem grown_keep {w5 wr wm wA : World} {g base : Nat} {row : Option Nat} (h : w5.grownBy wr (some g)) (hm : wr.grownBy wm (some g)) (hA : wm.grownBy wA row) (hr : ∀ k, row = some k → base ≤ k) (hb : w5.heap.size ≤ base) : w5.grownBy wA (some g) := by
  have h1 := grown_trans h hm
  exact ⟨hA.os.trans h1.os, hA.tape.trans h1.tape, hA.output.trans h1.output, Nat.le_trans h1.size hA.size, fun i hi hne => (hA.block i (Nat.lt_of_lt_of_le hi h1.size) (fun e => by have := hr i e.symm; omega)).trans (h1.block i hi hne)⟩

theorem pushI_cons (t : Int) (r : List Int) (z b : Int) : pushI (t :: r) z b = if t = 1 then ⟨1, z⟩ :: pushI r b b else if t = 2 then ⟨2, 0⟩ :: pushI r z b else ⟨3, 0⟩ :: pushI r z b := rfl
theorem pushV_cons (s : ByteArray) (t : Int) (r : List Int) (z b : Int) : pushV s (t :: r) z b = if t = 1 then ⟨1, z, ⟨#[]⟩⟩ :: pushV s r b b else if t = 2 then ⟨2, 0, s⟩ :: pushV s r z b else ⟨3, 1, ⟨#[]⟩⟩ :: pushV s r z b := rfl

set_option maxHeartbeats 4000000 in
set_option maxRecDepth 100000 in
theorem main_plain (n a b : Int) (s : ByteArray) (hs : s.size ≤ 256) (hp : plainB n = true) (h34 : n ≠ 34) (hl2 : (inOf n).length ≤ 2) (ha : -9223372036854775808 ≤ a ∧ a ≤ 9223372036854775807) (hb : -9223372036854775808 ≤ b ∧ b ≤ 9223372036854775807) (w : World) :
    Calls Try.prog 3 #[.int .i64 n, .int .i64 a, .int .i64 b, .string s] w fun e w' => e = .returned (.bool true) ∧ Below w.heap.size w w' := by
  have t1 : decide ((256 : Int) < s.size) = false := decide_eq_false (by omega)
  have hp' : 1 ≤ n ∧ n ≤ 53 := by unfold plainB at hp; simp at hp; omega
  have HT := Lib.hid (table n hp).1
  have HI : ∀ W : World, RowKit.Hid (Calls Try.prog 5 #[.int .i64 n] W (Owned 3 1 (inOf n).length (flat encI (inOf n)) W)) := fun W => Lib.hid (by rw [show (inOf n).length = (opRow n).2.2.1.size from typesOf_length _]; exact RefA.in_calls n hp'.1 hp'.2 W)
  have HO : ∀ W : World, RowKit.Hid (Calls Try.prog 7 #[.int .i64 n] W (Owned 3 1 (typesOf (opRow n).2.2.2.1).length (flat encI (typesOf (opRow n).2.2.2.1)) W)) := fun W => Lib.hid (by rw [typesOf_length]; exact RefA.out_calls n hp'.1 hp'.2 W)
  have HP := Lib.hid hp
  have H34 := Lib.hid h34
  have t2 : decide ((2 : Int) < (inOf n).length) = false := decide_eq_false (by omega)
  obtain ⟨i0, hi0, hz0, hz1, hz2⟩ := info_parts infoX
  obtain ⟨j0, ji0, jz0, jz1, jz2⟩ := info_parts infoV
  clear hp h34 hp'
  go_enter Try.func3, Try.ntmps3
  go_wp2_with (first
    | (go_at_call 4; refine (Know.knows_calls _).mono ?_; rintro e w1 ⟨rfl, hb1⟩)
    | (go_at_call 5; refine Calls.mono (HI _).out ?_; rintro e w2 ⟨ai, ci, rfl, owni, hb2⟩)
    | (go_at_call 6; refine (RefB.plain_calls n _).mono ?_; rw [HP.out]; rintro e w3 ⟨rfl, hb3⟩)
    | (go_at_call 7; refine Calls.mono (HO _).out ?_; rintro e w4 ⟨ao, co, rfl, owno, hb4⟩))
  have B4 : Below w.heap.size w w4 := by (repeat (first | with_reducible exact Below.refl _ _ | with_reducible assumption | with_reducible refine Below.drew ?_ | with_reducible refine below_drewN ?_ _ | with_reducible refine bel_set ?_ _ _ | with_reducible refine bel_alloc ?_ _ | with_reducible refine bel_call (by with_reducible assumption) ?_))
  have s24 : w2.heap.size ≤ w4.heap.size := Nat.le_trans hb3.size hb4.size
  obtain ⟨qi1, qi2, qi3, qi4⟩ := own_rdS (by omega) encI_len owni
  obtain ⟨qo1, qo2, qo3, qo4⟩ := own_rdS (by omega) encI_len owno
  have RI : RowKit.Hid (Rd encI 1 (w4.alloc (.cells #[.slice none 0 0, .slice ao (typesOf (opRow n).2.2.2.1).length co, .slice none 0 0, .slice none 0 0] 28)) ai (inOf n)) := Lib.hid (((qi2.below hb3 (Nat.le_refl _)).below hb4 (Nat.le_refl _)).below (bel_alloc (Below.refl w4.heap.size w4) _) (Nat.le_refl _))
  have HIB : RowKit.Hid (∀ b, ai = some b → b.block ≠ w4.heap.size) := Lib.hid (fun b h => by have := (qi4 b h).2; omega)
  go_loopw [1, 11, 12] (fun av u11 i wr => ∃ (k : Nat) (z : Int) (preI : List I) (preV : List V) (vc : Value), k ≤ (inOf n).length ∧ av = .int .i64 z ∧ i = .int .i64 k ∧ preI.length = k ∧ preV.length = k ∧ preI ++ pushI ((inOf n).drop k) z b = pushI (inOf n) a b ∧ preV ++ pushV s ((inOf n).drop k) z b = pushV s (inOf n) a b ∧
    wr.ownsRow (w4.heap.size + 1) 31 2 vc k (flat encX preI) ∧ wr.ownsRow (w4.heap.size + 1) 33 3 u11 k (flat encV preV) ∧ Blk wr w4.heap.size #[.slice none 0 0, .slice ao (typesOf (opRow n).2.2.2.1).length co, .slice none 0 0, vc] 28 ∧
    (w4.alloc (.cells #[.slice none 0 0, .slice ao (typesOf (opRow n).2.2.2.1).length co, .slice none 0 0, .slice none 0 0] 28)).grownBy wr (some w4.heap.size)) (fun _ _ i _ => (inOf n).length - (intOf i).toNat)
  case atStart => exact ⟨0, a, [], [], .slice none 0 0, Nat.zero_le _, rfl, rfl, rfl, rfl, rfl, rfl, World.ownsRow_nil _ _ _ _, World.ownsRow_nil _ _ _ _, blk_new _ _, grown_refl _ _⟩
  case round =>
    obtain ⟨k, z, preI, preV, vc, hk, rfl, rfl, hkI, hkV, eI, eV, ownc, ownl, hBlk, hG⟩ := hrel
    have sG := hG.size
    simp only [World.size_alloc] at sG
    have q3 := blk_cell hBlk 3
    have z3 := blk_frozen hBlk 3
    have HB := Lib.hid hBlk
    have HVL := Lib.hid ownl
    have HG := Lib.hid hG
    have HEI := Lib.hid eI
    have HEV := Lib.hid eV
    have HVF : RowKit.Hid (some w4.heap.size ≠ vc.ownBlock) := Lib.hid (fun e => by have h1 := (ownc.lt _ e.symm).1; omega)
    obtain ⟨vca, vcc, rfl, _, _, _⟩ := own_at ownc
    have HVC := Lib.hid ownc
    have hkI' := Lib.hid hkI
    have hkV' := Lib.hid hkV
    clear hBlk ownl hG eI eV ownc hkI hkV
    by_cases hlt : k < (inOf n).length
    · have hd : (inOf n).drop k = (inOf n)[k] :: (inOf n).drop (k + 1) := List.drop_eq_getElem_cons hlt
      have ht := HT.out _ (List.getElem_mem hlt)
      have hcell : wr.cell? ⟨0, 0, none⟩ = wr.cell? ⟨0, 0, none⟩ := rfl
      obtain ⟨bi, oi, rfl, hci⟩ := (Rd.grown RI.out HG.out HIB.out).ints (by omega)
      have x0 := hci k hlt
      have l0 : decide ((k : Int) < 0) = false := decide_eq_false (by omega)
      have l1 : decide (((inOf n).length : Int) ≤ k) = false := decide_eq_false (by omega)
      have lt0 : decide ((k : Int) < (inOf n).length) = true := decide_eq_true (by omega)
      have HD := Lib.hid hd
      clear hci hd hcell
      rcases ht with h | h | h
      · rw [h] at x0
        have HH := Lib.hid h
        clear h
        go_wp2_with (first | (at_builtin; refine wpList_append_own _ rfl _ _ 26 rfl (w4.heap.size + 1) 31 i0 (.agg #[.int .i64 0, .int .i64 0]) 2 16 Try.underlying26 hi0 hz0 hz1 hz2 rfl (by decide) (.slice vca k vcc) k (flat encX preI) rfl (HVC.out.alloc _) ⟨wr.heap.size, 0, none⟩ 1 1 [.int .i64 (1), .int .i64 (z)] rfl rfl ?c1 ?c2 ?c3 ?c4 ?c5 ?_; (case c1 => exact cells_new wr _ _ rfl); (case c2 => (intro u hu; simp at hu; rcases hu with rfl | rfl <;> rfl)); (case c3 => (unfold maxLen; omega)); (case c4 => omega); (case c5 => (simp only [World.size_alloc]; omega)); intro v1 wA ownA gA _; obtain ⟨va1, vc1, rfl, _, _, _⟩ := own_at ownA; have BA : Blk wA w4.heap.size #[.slice none 0 0, .slice ao (typesOf (opRow n).2.2.2.1).length co, .slice none 0 0, .slice vca k vcc] 28 := (gA.block w4.heap.size (by simp only [World.size_alloc]; omega) (HVF.out)).trans (blk_alloc HB.out _); have qA := blk_cell BA 3; have zA := blk_frozen BA 3; have ownL : wA.ownsRow (w4.heap.size + 1) 33 3 u11 k (flat encV preV) := own_grown (HVL.out.alloc _) gA (fun g hg hg' => own_apart (HVC.out.alloc (.cells #[] 3)) (HVL.out.alloc (.cells #[] 3)) (by decide) g hg' hg); have BA2 := Lib.hid (blk_set BA 3 (.slice va1 (k + 1) vc1)); have ownL2 : RowKit.Hid ((wA.setCell ⟨w4.heap.size, 3, none⟩ (.slice va1 (k + 1) vc1)).ownsRow (w4.heap.size + 1) 33 3 u11 k (flat encV preV)) := Lib.hid (ownsRow_setCell_other ownL (a := ⟨w4.heap.size, 3, none⟩) (fun e => (by have h1 := ownL.lt w4.heap.size e; omega)) _); have ownC2 : RowKit.Hid ((wA.setCell ⟨w4.heap.size, 3, none⟩ (.slice va1 (k + 1) vc1)).ownsRow (w4.heap.size + 1) 31 2 (.slice va1 (k + 1) vc1) (k + 1) (flat encX preI ++ [.int .i64 (1), .int .i64 (z)])) := Lib.hid (ownsRow_setCell_other ownA (a := ⟨w4.heap.size, 3, none⟩) (fun e => (by have h1 := ownA.lt w4.heap.size e; omega)) _); have gA2 := Lib.hid (grown_set (grown_keep (HG.out) (grown_below (bel_alloc (Below.refl wr.heap.size wr) (.cells #[.int .i64 (1), .int .i64 (z)] 31))) gA (fun g hg => (HVC.out.lt g hg).1) (by simp)) 3 (.slice va1 (k + 1) vc1)); have sA : wr.heap.size ≤ wA.heap.size := Nat.le_trans (by simp) gA.size; clear ownL BA ownA) | (at_builtin; refine wpList_append_own _ rfl _ _ 29 rfl (w4.heap.size + 1) 33 j0 (.agg #[.int .i64 0, .int .i64 0, .string ⟨#[]⟩]) 3 32 Try.underlying29 ji0 jz0 jz1 jz2 rfl (by decide) u11 k (flat encV preV) rfl (ownL2.out.alloc _) ⟨wA.heap.size, 0, none⟩ 1 1 [.int .i64 (1), .int .i64 (z), .string (⟨#[]⟩)] rfl rfl ?c1 ?c2 ?c3 ?c4 ?c5 ?_; (case c1 => exact cells_new (wA.setCell ⟨w4.heap.size, 3, none⟩ (.slice va1 (k + 1) vc1)) _ _ (by simp)); (case c2 => (intro u hu; simp at hu; rcases hu with rfl | rfl | rfl <;> rfl)); (case c3 => (unfold maxLen; omega)); (case c4 => omega); (case c5 => (simp only [World.size_alloc, World.size_setCell]; omega)); intro v2 wB ownB gB _; have BB : RowKit.Hid (Blk wB w4.heap.size #[.slice none 0 0, .slice ao (typesOf (opRow n).2.2.2.1).length co, .slice none 0 0, (.slice va1 (k + 1) vc1)] 28) := Lib.hid ((gB.block w4.heap.size (by simp only [World.size_alloc, World.size_setCell]; omega) (fun e => (by have h1 := ownL2.out.lt w4.heap.size e.symm; omega))).trans (blk_alloc BA2.out _)); have ownC3 : RowKit.Hid (wB.ownsRow (w4.heap.size + 1) 31 2 (.slice va1 (k + 1) vc1) (k + 1) (flat encX preI ++ [.int .i64 (1), .int .i64 (z)])) := Lib.hid (own_grown (ownC2.out.alloc _) gB (fun g hg hg' => own_apart (ownC2.out.alloc (.cells #[] 3)) (ownL2.out.alloc (.cells #[] 3)) (by decide) g hg hg')); have gB2 := Lib.hid (grown_keep gA2.out (grown_below (bel_alloc (Below.refl (wA.setCell ⟨w4.heap.size, 3, none⟩ (.slice va1 (k + 1) vc1)).heap.size (wA.setCell ⟨w4.heap.size, 3, none⟩ (.slice va1 (k + 1) vc1))) (.cells #[.int .i64 (1), .int .i64 (z), .string (⟨#[]⟩)] 33))) gB (fun g hg => (ownL2.out.lt g hg).1) (by simp))))
        (refine ⟨⟨k + 1, b, preI ++ [⟨1, z⟩], preV ++ [⟨1, z, ⟨#[]⟩⟩], .slice va1 (k + 1) vc1, hlt, rfl, by go_num, by rw [List.length_append, hkI'.out]; rfl, by rw [List.length_append, hkV'.out]; rfl, (by have h := HEI.out; rw [HD.out, pushI_cons, HH.out, if_pos rfl] at h; rw [List.append_assoc]; exact h), (by have h := HEV.out; rw [HD.out, pushV_cons, HH.out, if_pos rfl] at h; rw [List.append_assoc]; exact h), (by rw [flat_append]; exact ownC3.out), (by rw [flat_append]; exact ownB), BB.out, gB2.out⟩, ?_⟩; simp [intOf]; omega)
      · rw [h] at x0
        have HH := Lib.hid h
        clear h
        go_wp2_with (first | (at_builtin; refine wpList_append_own _ rfl _ _ 26 rfl (w4.heap.size + 1) 31 i0 (.agg #[.int .i64 0, .int .i64 0]) 2 16 Try.underlying26 hi0 hz0 hz1 hz2 rfl (by decide) (.slice vca k vcc) k (flat encX preI) rfl (HVC.out.alloc _) ⟨wr.heap.size, 0, none⟩ 1 1 [.int .i64 (2), .int .i64 (0)] rfl rfl ?c1 ?c2 ?c3 ?c4 ?c5 ?_; (case c1 => exact cells_new wr _ _ rfl); (case c2 => (intro u hu; simp at hu; rcases hu with rfl | rfl <;> rfl)); (case c3 => (unfold maxLen; omega)); (case c4 => omega); (case c5 => (simp only [World.size_alloc]; omega)); intro v1 wA ownA gA _; obtain ⟨va1, vc1, rfl, _, _, _⟩ := own_at ownA; have BA : Blk wA w4.heap.size #[.slice none 0 0, .slice ao (typesOf (opRow n).2.2.2.1).length co, .slice none 0 0, .slice vca k vcc] 28 := (gA.block w4.heap.size (by simp only [World.size_alloc]; omega) (HVF.out)).trans (blk_alloc HB.out _); have qA := blk_cell BA 3; have zA := blk_frozen BA 3; have ownL : wA.ownsRow (w4.heap.size + 1) 33 3 u11 k (flat encV preV) := own_grown (HVL.out.alloc _) gA (fun g hg hg' => own_apart (HVC.out.alloc (.cells #[] 3)) (HVL.out.alloc (.cells #[] 3)) (by decide) g hg' hg); have BA2 := Lib.hid (blk_set BA 3 (.slice va1 (k + 1) vc1)); have ownL2 : RowKit.Hid ((wA.setCell ⟨w4.heap.size, 3, none⟩ (.slice va1 (k + 1) vc1)).ownsRow (w4.heap.size + 1) 33 3 u11 k (flat encV preV)) := Lib.hid (ownsRow_setCell_other ownL (a := ⟨w4.heap.size, 3, none⟩) (fun e => (by have h1 := ownL.lt w4.heap.size e; omega)) _); have ownC2 : RowKit.Hid ((wA.setCell ⟨w4.heap.size, 3, none⟩ (.slice va1 (k + 1) vc1)).ownsRow (w4.heap.size + 1) 31 2 (.slice va1 (k + 1) vc1) (k + 1) (flat encX preI ++ [.int .i64 (2), .int .i64 (0)])) := Lib.hid (ownsRow_setCell_other ownA (a := ⟨w4.heap.size, 3, none⟩) (fun e => (by have h1 := ownA.lt w4.heap.size e; omega)) _); have gA2 := Lib.hid (grown_set (grown_keep (HG.out) (grown_below (bel_alloc (Below.refl wr.heap.size wr) (.cells #[.int .i64 (2), .int .i64 (0)] 31))) gA (fun g hg => (HVC.out.lt g hg).1) (by simp)) 3 (.slice va1 (k + 1) vc1)); have sA : wr.heap.size ≤ wA.heap.size := Nat.le_trans (by simp) gA.size; clear ownL BA ownA) | (at_builtin; refine wpList_append_own _ rfl _ _ 29 rfl (w4.heap.size + 1) 33 j0 (.agg #[.int .i64 0, .int .i64 0, .string ⟨#[]⟩]) 3 32 Try.underlying29 ji0 jz0 jz1 jz2 rfl (by decide) u11 k (flat encV preV) rfl (ownL2.out.alloc _) ⟨wA.heap.size, 0, none⟩ 1 1 [.int .i64 (2), .int .i64 (0), .string (s)] rfl rfl ?c1 ?c2 ?c3 ?c4 ?c5 ?_; (case c1 => exact cells_new (wA.setCell ⟨w4.heap.size, 3, none⟩ (.slice va1 (k + 1) vc1)) _ _ (by simp)); (case c2 => (intro u hu; simp at hu; rcases hu with rfl | rfl | rfl <;> rfl)); (case c3 => (unfold maxLen; omega)); (case c4 => omega); (case c5 => (simp only [World.size_alloc, World.size_setCell]; omega)); intro v2 wB ownB gB _; have BB : RowKit.Hid (Blk wB w4.heap.size #[.slice none 0 0, .slice ao (typesOf (opRow n).2.2.2.1).length co, .slice none 0 0, (.slice va1 (k + 1) vc1)] 28) := Lib.hid ((gB.block w4.heap.size (by simp only [World.size_alloc, World.size_setCell]; omega) (fun e => (by have h1 := ownL2.out.lt w4.heap.size e.symm; omega))).trans (blk_alloc BA2.out _)); have ownC3 : RowKit.Hid (wB.ownsRow (w4.heap.size + 1) 31 2 (.slice va1 (k + 1) vc1) (k + 1) (flat encX preI ++ [.int .i64 (2), .int .i64 (0)])) := Lib.hid (own_grown (ownC2.out.alloc _) gB (fun g hg hg' => own_apart (ownC2.out.alloc (.cells #[] 3)) (ownL2.out.alloc (.cells #[] 3)) (by decide) g hg hg')); have gB2 := Lib.hid (grown_keep gA2.out (grown_below (bel_alloc (Below.refl (wA.setCell ⟨w4.heap.size, 3, none⟩ (.slice va1 (k + 1) vc1)).heap.size (wA.setCell ⟨w4.heap.size, 3, none⟩ (.slice va1 (k + 1) vc1))) (.cells #[.int .i64 (2), .int .i64 (0), .string (s)] 33))) gB (fun g hg => (ownL2.out.lt g hg).1) (by simp))))
        (refine ⟨⟨k + 1, z, preI ++ [⟨2, 0⟩], preV ++ [⟨2, 0, s⟩], .slice va1 (k + 1) vc1, hlt, rfl, by go_num, by rw [List.length_append, hkI'.out]; rfl, by rw [List.length_append, hkV'.out]; rfl, (by have h := HEI.out; rw [HD.out, pushI_cons, HH.out, if_neg (by decide), if_pos rfl] at h; rw [List.append_assoc]; exact h), (by have h := HEV.out; rw [HD.out, pushV_cons, HH.out, if_neg (by decide), if_pos rfl] at h; rw [List.append_assoc]; exact h), (by rw [flat_append]; exact ownC3.out), (by rw [flat_append]; exact ownB), BB.out, gB2.out⟩, ?_⟩; simp [intOf]; omega)
      · rw [h] at x0
        have HH := Lib.hid h
        clear h
        go_wp2_with (first | (at_builtin; refine wpList_append_own _ rfl _ _ 26 rfl (w4.heap.size + 1) 31 i0 (.agg #[.int .i64 0, .int .i64 0]) 2 16 Try.underlying26 hi0 hz0 hz1 hz2 rfl (by decide) (.slice vca k vcc) k (flat encX preI) rfl (HVC.out.alloc _) ⟨wr.heap.size, 0, none⟩ 1 1 [.int .i64 (3), .int .i64 (0)] rfl rfl ?c1 ?c2 ?c3 ?c4 ?c5 ?_; (case c1 => exact cells_new wr _ _ rfl); (case c2 => (intro u hu; simp at hu; rcases hu with rfl | rfl <;> rfl)); (case c3 => (unfold maxLen; omega)); (case c4 => omega); (case c5 => (simp only [World.size_alloc]; omega)); intro v1 wA ownA gA _; obtain ⟨va1, vc1, rfl, _, _, _⟩ := own_at ownA; have BA : Blk wA w4.heap.size #[.slice none 0 0, .slice ao (typesOf (opRow n).2.2.2.1).length co, .slice none 0 0, .slice vca k vcc] 28 := (gA.block w4.heap.size (by simp only [World.size_alloc]; omega) (HVF.out)).trans (blk_alloc HB.out _); have qA := blk_cell BA 3; have zA := blk_frozen BA 3; have ownL : wA.ownsRow (w4.heap.size + 1) 33 3 u11 k (flat encV preV) := own_grown (HVL.out.alloc _) gA (fun g hg hg' => own_apart (HVC.out.alloc (.cells #[] 3)) (HVL.out.alloc (.cells #[] 3)) (by decide) g hg' hg); have BA2 := Lib.hid (blk_set BA 3 (.slice va1 (k + 1) vc1)); have ownL2 : RowKit.Hid ((wA.setCell ⟨w4.heap.size, 3, none⟩ (.slice va1 (k + 1) vc1)).ownsRow (w4.heap.size + 1) 33 3 u11 k (flat encV preV)) := Lib.hid (ownsRow_setCell_other ownL (a := ⟨w4.heap.size, 3, none⟩) (fun e => (by have h1 := ownL.lt w4.heap.size e; omega)) _); have ownC2 : RowKit.Hid ((wA.setCell ⟨w4.heap.size, 3, none⟩ (.slice va1 (k + 1) vc1)).ownsRow (w4.heap.size + 1) 31 2 (.slice va1 (k + 1) vc1) (k + 1) (flat encX preI ++ [.int .i64 (3), .int .i64 (0)])) := Lib.hid (ownsRow_setCell_other ownA (a := ⟨w4.heap.size, 3, none⟩) (fun e => (by have h1 := ownA.lt w4.heap.size e; omega)) _); have gA2 := Lib.hid (grown_set (grown_keep (HG.out) (grown_below (bel_alloc (Below.refl wr.heap.size wr) (.cells #[.int .i64 (3), .int .i64 (0)] 31))) gA (fun g hg => (HVC.out.lt g hg).1) (by simp)) 3 (.slice va1 (k + 1) vc1)); have sA : wr.heap.size ≤ wA.heap.size := Nat.le_trans (by simp) gA.size; clear ownL BA ownA) | (at_builtin; refine wpList_append_own _ rfl _ _ 29 rfl (w4.heap.size + 1) 33 j0 (.agg #[.int .i64 0, .int .i64 0, .string ⟨#[]⟩]) 3 32 Try.underlying29 ji0 jz0 jz1 jz2 rfl (by decide) u11 k (flat encV preV) rfl (ownL2.out.alloc _) ⟨wA.heap.size, 0, none⟩ 1 1 [.int .i64 (3), .int .i64 (1), .string (⟨#[]⟩)] rfl rfl ?c1 ?c2 ?c3 ?c4 ?c5 ?_; (case c1 => exact cells_new (wA.setCell ⟨w4.heap.size, 3, none⟩ (.slice va1 (k + 1) vc1)) _ _ (by simp)); (case c2 => (intro u hu; simp at hu; rcases hu with rfl | rfl | rfl <;> rfl)); (case c3 => (unfold maxLen; omega)); (case c4 => omega); (case c5 => (simp only [World.size_alloc, World.size_setCell]; omega)); intro v2 wB ownB gB _; have BB : RowKit.Hid (Blk wB w4.heap.size #[.slice none 0 0, .slice ao (typesOf (opRow n).2.2.2.1).length co, .slice none 0 0, (.slice va1 (k + 1) vc1)] 28) := Lib.hid ((gB.block w4.heap.size (by simp only [World.size_alloc, World.size_setCell]; omega) (fun e => (by have h1 := ownL2.out.lt w4.heap.size e.symm; omega))).trans (blk_alloc BA2.out _)); have ownC3 : RowKit.Hid (wB.ownsRow (w4.heap.size + 1) 31 2 (.slice va1 (k + 1) vc1) (k + 1) (flat encX preI ++ [.int .i64 (3), .int .i64 (0)])) := Lib.hid (own_grown (ownC2.out.alloc _) gB (fun g hg hg' => own_apart (ownC2.out.alloc (.cells #[] 3)) (ownL2.out.alloc (.cells #[] 3)) (by decide) g hg hg')); have gB2 := Lib.hid (grown_keep gA2.out (grown_below (bel_alloc (Below.refl (wA.setCell ⟨w4.heap.size, 3, none⟩ (.slice va1 (k + 1) vc1)).heap.size (wA.setCell ⟨w4.heap.size, 3, none⟩ (.slice va1 (k + 1) vc1))) (.cells #[.int .i64 (3), .int .i64 (1), .string (⟨#[]⟩)] 33))) gB (fun g hg => (ownL2.out.lt g hg).1) (by simp))))
        (refine ⟨⟨k + 1, z, preI ++ [⟨3, 0⟩], preV ++ [⟨3, 1, ⟨#[]⟩⟩], .slice va1 (k + 1) vc1, hlt, rfl, by go_num, by rw [List.length_append, hkI'.out]; rfl, by rw [List.length_append, hkV'.out]; rfl, (by have h := HEI.out; rw [HD.out, pushI_cons, HH.out, if_neg (by decide), if_neg (by decide)] at h; rw [List.append_assoc]; exact h), (by have h := HEV.out; rw [HD.out, pushV_cons, HH.out, if_neg (by decide), if_neg (by decide)] at h; rw [List.append_assoc]; exact h), (by rw [flat_append]; exact ownC3.out), (by rw [flat_append]; exact ownB), BB.out, gB2.out⟩, ?_⟩; simp [intOf]; omega)
    · have hkk : k = (inOf n).length := by omega
      have lt0 : decide ((k : Int) < (inOf n).length) = false := decide_eq_false (by omega)
      have HKK := Lib.hid hkk
      have hk2 : k ≤ 2 := by omega
      clear hkk
      go_wp2_with (at_builtin; refine wpList_append_own _ rfl _ _ 26 rfl (w4.heap.size + 1) 31 i0 (.agg #[.int .i64 0, .int .i64 0]) 2 16 Try.underlying26 hi0 hz0 hz1 hz2 rfl (by decide) (.slice vca k vcc) k (flat encX preI) rfl (HVC.out.alloc _) ⟨wr.heap.size, 0, none⟩ 1 1 [.int .i64 (n), .int .i64 (0)] rfl rfl ?c1 ?c2 ?c3 ?c4 ?c5 ?_; (case c1 => exact cells_new wr _ _ rfl); (case c2 => (intro u hu; simp at hu; rcases hu with rfl | rfl <;> rfl)); (case c3 => (unfold maxLen; omega)); (case c4 => omega); (case c5 => (simp only [World.size_alloc]; omega)); intro v1 wA ownA gA _; obtain ⟨va1, vc1, rfl, _, _, _⟩ := own_at ownA; have BA : Blk wA w4.heap.size #[.slice none 0 0, .slice ao (typesOf (opRow n).2.2.2.1).length co, .slice none 0 0, .slice vca k vcc] 28 := (gA.block w4.heap.size (by simp only [World.size_alloc]; omega) (HVF.out)).trans (blk_alloc HB.out _); have qA := blk_cell BA 3; have zA := blk_frozen BA 3; have ownL : wA.ownsRow (w4.heap.size + 1) 33 3 u11 k (flat encV preV) := own_grown (HVL.out.alloc _) gA (fun g hg hg' => own_apart (HVC.out.alloc (.cells #[] 3)) (HVL.out.alloc (.cells #[] 3)) (by decide) g hg' hg); have BA2 := Lib.hid (blk_set BA 3 (.slice va1 (k + 1) vc1)); have ownL2 : RowKit.Hid ((wA.setCell ⟨w4.heap.size, 3, none⟩ (.slice va1 (k + 1) vc1)).ownsRow (w4.heap.size + 1) 33 3 u11 k (flat encV preV)) := Lib.hid (ownsRow_setCell_other ownL (a := ⟨w4.heap.size, 3, none⟩) (fun e => (by have h1 := ownL.lt w4.heap.size e; omega)) _); have ownC2 : RowKit.Hid ((wA.setCell ⟨w4.heap.size, 3, none⟩ (.slice va1 (k + 1) vc1)).ownsRow (w4.heap.size + 1) 31 2 (.slice va1 (k + 1) vc1) (k + 1) (flat encX preI ++ [.int .i64 (n), .int .i64 (0)])) := Lib.hid (ownsRow_setCell_other ownA (a := ⟨w4.heap.size, 3, none⟩) (fun e => (by have h1 := ownA.lt w4.heap.size e; omega)) _); have gA2 := Lib.hid (grown_set (grown_keep (HG.out) (grown_below (bel_alloc (Below.refl wr.heap.size wr) (.cells #[.int .i64 (n), .int .i64 (0)] 31))) gA (fun g hg => (HVC.out.lt g hg).1) (by simp)) 3 (.slice va1 (k + 1) vc1)); have sA : wr.heap.size ≤ wA.heap.size := Nat.le_trans (by simp) gA.size; clear ownL BA ownA)
      obtain ⟨w6, hw6⟩ : ∃ w6, w6 = wA.setCell ⟨w4.heap.size, 3, none⟩ (.slice va1 (k + 1) vc1) := ⟨_, rfl⟩
      rw [← hw6] at BA2 ownL2 ownC2 gA2 ⊢
      have E1 : preI = pushI (inOf n) a b := by have h := HEI.out; rw [HKK.out, List.drop_length] at h; simpa [pushI] using h
      have E2 : preV = pushV s (inOf n) a b := by have h := HEV.out; rw [HKK.out, List.drop_length] at h; simpa [pushV] using h
      subst E1
      subst E2
      have B6 : Below w.heap.size w w6 := (bel_alloc B4 _).grown gA2.out (bel_alloc B4 _).size (fun j hj => by cases hj; exact B4.size)
      have RO6 : RowKit.Hid (Rd encI 1 w6 ao (typesOf (opRow n).2.2.2.1)) := Lib.hid (Rd.grown (qo2.below (bel_alloc (Below.refl w4.heap.size w4) _) (Nat.le_refl _)) gA2.out (fun b h => by have := (qo4 b h).2; omega))
      have hsz6 : w4.heap.size < w6.heap.size := blk_lt BA2.out
      clear HEI HEV HB HVL HG HVF HVC hkI' hkV' RI HIB qA zA gA q3 z3 gA2 hw6
      obtain ⟨r, hr⟩ : ∃ r, r = exec [s] (pushI (inOf n) a b ++ [⟨n, 0⟩]) [] 0 := ⟨_, rfl⟩
      have HR := Lib.hid hr
      have hxl : (pushI (inOf n) a b ++ [(⟨n, 0⟩ : I)]).length = k + 1 := by rw [List.length_append, pushI_len, HKK.out]; rfl
      have hC6 : w6.ownsRow (w4.heap.size + 1) 31 2 (.slice va1 (k + 1) vc1) (pushI (inOf n) a b ++ [(⟨n, 0⟩ : I)]).length (flat encX (pushI (inOf n) a b ++ [⟨n, 0⟩])) := by rw [hxl, flat_append]; exact ownC2.out
      rw [← hxl] at hC6
      obtain ⟨qc1, qc2, qc3, qc4⟩ := own_rdS (by omega) encX_len hC6
      obtain ⟨b4, o4, rfl, _⟩ := qc2.at (by omega)
      have HXV : RowKit.Hid (Sv encX 2 w6 (.slice (some ⟨b4, o4, none⟩) (k + 1) vc1) (pushI (inOf n) a b ++ [⟨n, 0⟩])) := Lib.hid ⟨_, _, by rw [hxl], by rw [hxl]; rw [hxl] at qc1; exact qc1, qc2, fun h => by cases h⟩
      have HIV : RowKit.Hid (Sv encI 1 w6 (.slice ao (typesOf (opRow n).2.2.2.1).length co) (typesOf (opRow n).2.2.2.1)) := Lib.hid ⟨_, _, rfl, qo1, RO6.out, fun h => ⟨List.eq_nil_of_length_eq_zero (qo3 h).1, (qo3 h).2⟩⟩
      have F60 := blk_cell BA2.out 0
      have F61 := blk_cell BA2.out 1
      have F62 := blk_cell BA2.out 2
      have F63 := blk_cell BA2.out 3
      have HXL := Lib.hid hxl
      have HRUN := fun (W : World) (hb : Below w6.heap.size w6 W) (g1 g2 : Nat) (h1 : Blk W g1 #[.string s] 9) (h2 : Blk W g2 #[.slice none 0 0, .slice ao (typesOf (opRow n).2.2.2.1).length co, .slice none 0 0, .slice (some ⟨b4, o4, none⟩) (k + 1) vc1] 28) (t : Value) (ht : IsTx W t) =>
        Lib.hid (run_job HP.out H34.out hs a b g1 g2 ao co b4 o4 vc1 k HXL.out t W h1 h2 (HXV.out.below hb (Nat.le_refl _)) (HIV.out.below hb (Nat.le_refl _)) ht r HR.out)
      clear hr hxl hC6 qc1 qc2 qc3 qc4 ownC2
      refine wp_region_gen (by kernel_rfl) (by kernel_rfl) (by kernel_rfl) (JJ w6 s (.slice ao (typesOf (opRow n).2.2.2.1).length co) (.slice (some ⟨b4, o4, none⟩) (k + 1) vc1) r) ?hS ?hE ?hQ
      case hS =>
        refine ⟨undef, undef, undef, undef, undef, undef, undef, undef, undef, rfl, (Below.refl _ _).drew, fun h => (by cases h), fun _ => ⟨?_, ?_, ?_, ?_, ?_, ?_, ?_, ?_, ?_⟩, fun h => (by cases h)⟩ <;> (intro h; cases h)
      case hE =>
        refine ⟨?o0, ?o1, ?o2, ?o3, ?o4, ?o5, ?o6, ?o7, ?o8, ?o9, trivial⟩
        all_goals (intro L hL hw a' w' hJ K hK)
        case o0 =>
          obtain ⟨h9, v91, v92, v93, v94, v95, v96, v97, v98, v13, rfl, hB, hF⟩ := hJ.early (i := 0) (by decide) hL; simp only [puts, List.foldl_cons, List.foldl_nil, List.set_cons_succ, List.set_cons_zero]
          go_step
          exact hK _ _ (JJ.on h9 rfl (.string s) v92 v93 v94 v95 v96 v97 v98 v13 rfl hB ⟨fun _ => rfl, hF.f1, hF.f2, hF.f3, hF.f4, hF.f5, hF.f6, hF.f7, hF.f8⟩)
        case o1 =>
          obtain ⟨h9, v91, v92, v93, v94, v95, v96, v97, v98, v13, rfl, hB, hF⟩ := hJ.early (i := 1) (by decide) hL; simp only [puts, List.foldl_cons, List.foldl_nil, List.set_cons_succ, List.set_cons_zero]
          obtain rfl := hF.f0 (hw 0 (by decide +kernel))
          go_step
          have F := hF.below (bel_alloc (Below.refl w'.heap.size w') (.cells #[.string s] 9))
          exact hK _ _ (JJ.on h9 rfl (.string s) (.slice (some ⟨w'.heap.size, 0, none⟩) 1 1) v93 v94 v95 v96 v97 v98 v13 rfl (bel_alloc hB _) ⟨F.f0, fun _ => ⟨w'.heap.size, rfl, blk_new _ _⟩, F.f2, F.f3, F.f4, F.f5, F.f6, F.f7, F.f8⟩)
        case o2 =>
          obtain ⟨h9, v91, v92, v93, v94, v95, v96, v97, v98, v13, rfl, hB, hF⟩ := hJ.early (i := 2) (by decide) hL; simp only [puts, List.foldl_cons, List.foldl_nil, List.set_cons_succ, List.set_cons_zero]
          have c0 := cell_keep hB F60
          have c1 := cell_keep hB F61
          have c2 := cell_keep hB F62
          have c3 := cell_keep hB F63
          go_step
          exact hK _ _ (JJ.on h9 rfl v91 v92 (.agg #[.slice none 0 0, .slice ao (typesOf (opRow n).2.2.2.1).length co, .slice none 0 0, .slice (some ⟨b4, o4, none⟩) (k + 1) vc1]) v94 v95 v96 v97 v98 v13 rfl hB ⟨hF.f0, hF.f1, fun _ => rfl, hF.f3, hF.f4, hF.f5, hF.f6, hF.f7, hF.f8⟩)
        case o3 =>
          obtain ⟨h9, v91, v92, v93, v94, v95, v96, v97, v98, v13, rfl, hB, hF⟩ := hJ.early (i := 3) (by decide) hL; simp only [puts, List.foldl_cons, List.foldl_nil, List.set_cons_succ, List.set_cons_zero]
          obtain rfl := hF.f2 (hw 2 (by decide +kernel))
          go_step
          have F := hF.below (bel_alloc (Below.refl w'.heap.size w') (.cells #[.slice none 0 0, .slice ao (typesOf (opRow n).2.2.2.1).length co, .slice none 0 0, .slice (some ⟨b4, o4, none⟩) (k + 1) vc1] 28))
          exact hK _ _ (JJ.on h9 rfl v91 v92 _ (.slice (some ⟨w'.heap.size, 0, none⟩) 1 1) v95 v96 v97 v98 v13 rfl (bel_alloc hB _) ⟨F.f0, F.f1, F.f2, fun _ => ⟨w'.heap.size, rfl, blk_new _ _⟩, F.f4, F.f5, F.f6, F.f7, F.f8⟩)
        case o4 =>
          obtain ⟨h9, v91, v92, v93, v94, v95, v96, v97, v98, v13, rfl, hB, hF⟩ := hJ.early (i := 4) (by decide) hL; simp only [puts, List.foldl_cons, List.foldl_nil, List.set_cons_succ, List.set_cons_zero]
          obtain ⟨g1, rfl, b1⟩ := hF.f1 (hw 1 (by decide +kernel))
          obtain ⟨g2, rfl, b2⟩ := hF.f3 (hw 3 (by decide +kernel))
          go_step
          exact hK _ _ (JJ.on h9 rfl v91 _ v93 _ (.agg #[.slice (some ⟨g1, 0, none⟩) 1 1, .slice (some ⟨g2, 0, none⟩) 1 1]) v96 v97 v98 v13 rfl hB ⟨hF.f0, hF.f1, hF.f2, hF.f3, fun _ => ⟨g1, g2, rfl, b1, b2⟩, hF.f5, hF.f6, hF.f7, hF.f8⟩)
        case o5 =>
          obtain ⟨h9, v91, v92, v93, v94, v95, v96, v97, v98, v13, rfl, hB, hF⟩ := hJ.early (i := 5) (by decide) hL; simp only [puts, List.foldl_cons, List.foldl_nil, List.set_cons_succ, List.set_cons_zero]
          go_step
          refine Calls.mono (new_calls _) ?_
          rintro e w7 ⟨⟨v2, rfl, hst⟩, hb7⟩
          have F := hF.below hb7
          exact hK _ _ (JJ.on h9 rfl v91 v92 v93 v94 v95 (v2) v97 v98 v13 rfl (bel_call hb7 hB) ⟨F.f0, F.f1, F.f2, F.f3, F.f4, fun _ => hst, F.f6, F.f7, F.f8⟩)
        case o6 =>
          obtain ⟨h9, v91, v92, v93, v94, v95, v96, v97, v98, v13, rfl, hB, hF⟩ := hJ.early (i := 6) (by decide) hL; simp only [puts, List.foldl_cons, List.foldl_nil, List.set_cons_succ, List.set_cons_zero]
          have hst := hF.f5 (hw 5 (by decide +kernel))
          go_step
          refine Calls.mono (begin_calls _ _ hst) ?_
          rintro e w7 ⟨⟨v2, rfl, htx⟩, hb7⟩
          have F := hF.below hb7
          exact hK _ _ (JJ.on h9 rfl v91 v92 v93 v94 v95 v96 (v2) v98 v13 rfl (bel_call hb7 hB) ⟨F.f0, F.f1, F.f2, F.f3, F.f4, F.f5, fun _ => htx, F.f7, F.f8⟩)
        case o7 =>
          obtain ⟨h9, v91, v92, v93, v94, v95, v96, v97, v98, v13, rfl, hB, hF⟩ := hJ.early (i := 7) (by decide) hL; simp only [puts, List.foldl_cons, List.foldl_nil, List.set_cons_succ, List.set_cons_zero]
          obtain ⟨g1, g2, rfl, b1, b2⟩ := hF.f4 (hw 4 (by decide +kernel))
          have htx := hF.f6 (hw 6 (by decide +kernel))
          have HC := HRUN w' hB g1 g2 b1 b2 v97 htx
          go_step
          refine Calls.mono HC.out ?_
          rintro e w7 ⟨hb7, h7⟩
          have F := hF.below hb7
          by_cases h0 : r.2.2 = 0
          · rw [if_pos h0] at h7
            obtain ⟨vo, rfl, av, cv, rfl, hv⟩ := h7
            exact hK _ _ (JJ.on h9 rfl v91 v92 v93 v94 _ v96 v97 (.agg #[.slice av r.1.length cv, .slice none 0 0, .int .i64 r.2.1, .int .i64 0]) v13 rfl (bel_call hb7 hB) ⟨F.f0, F.f1, F.f2, F.f3, F.f4, F.f5, F.f6, fun _ => ⟨av, r.1.length, cv, by rw [h0], fun _ => ⟨av, cv, rfl, hv⟩, fun h => absurd h0 h⟩, F.f8⟩)
          · rw [if_neg h0] at h7
            subst h7
            exact hK _ _ (JJ.on h9 rfl v91 v92 v93 v94 _ v96 v97 (.agg #[.slice none 0 0, .slice none 0 0, .int .i64 r.2.1, .int .i64 r.2.2]) v13 rfl (bel_call hb7 hB) ⟨F.f0, F.f1, F.f2, F.f3, F.f4, F.f5, F.f6, fun _ => ⟨none, 0, 0, rfl, fun h => absurd h h0, fun _ => rfl⟩, F.f8⟩)
        case o8 =>
          obtain ⟨h9, v91, v92, v93, v94, v95, v96, v97, v98, v13, rfl, hB, hF⟩ := hJ.early (i := 8) (by decide) hL; simp only [puts, List.foldl_cons, List.foldl_nil, List.set_cons_succ, List.set_cons_zero]
          go_step
          have F := hF.below (bel_alloc (Below.refl w'.heap.size w') (.cells #[.slice none 0 0, .slice none 0 0, .int .i64 0, .int .i64 0] 37))
          exact hK _ _ (JJ.on h9 rfl v91 v92 v93 v94 v95 v96 v97 v98 (.pointer (some ⟨w'.heap.size, 0, none⟩)) rfl (bel_alloc hB _) ⟨F.f0, F.f1, F.f2, F.f3, F.f4, F.f5, F.f6, F.f7, fun _ => ⟨w'.heap.size, rfl, hB.size, blk_new _ _⟩⟩)
        case o9 =>
          obtain ⟨v91, v92, v93, v94, v95, v96, v97, v98, v13, rfl, hB, h9, hF, _⟩ := hJ
          have F := hF hL
          have hall : ∀ i, i < 9 → L i = true := fun i hi => hw i (by revert i; decide +kernel)
          obtain ⟨a1, n1, c1, rfl, hsv, hn0⟩ := F.f7 (hall 7 (by decide))
          obtain ⟨g, rfl, hg, hbk⟩ := F.f8 (hall 8 (by decide))
          have c0 := blk_cell hbk 0
          have c1' := blk_cell hbk 1
          have c2 := blk_cell hbk 2
          have c3 := blk_cell hbk 3
          have z0 := blk_frozen hbk 0
          have z1 := blk_frozen hbk 1
          have z2 := blk_frozen hbk 2
          have z3 := blk_frozen hbk 3
          have HBK := Lib.hid hbk
          clear hbk F hF h9
          simp only [puts, List.foldl_cons, List.foldl_nil, List.set_cons_succ, List.set_cons_zero]
          go_step
          have hg9 : w'.grownBy ((((w'.setCell ⟨g, 0, none⟩ (.slice a1 n1 c1)).setCell ⟨g, 1, none⟩ (.slice none 0 0)).setCell ⟨g, 2, none⟩ (.int .i64 r.2.1)).setCell ⟨g, 3, none⟩ (.int .i64 r.2.2)) (some g) := grown_set (grown_set (grown_set (grown_set (grown_refl _ _) 0 _) 1 _) 2 _) 3 _
          have hsv9 : r.2.2 = 0 → Sv encV 3 ((((w'.setCell ⟨g, 0, none⟩ (.slice a1 n1 c1)).setCell ⟨g, 1, none⟩ (.slice none 0 0)).setCell ⟨g, 2, none⟩ (.int .i64 r.2.1)).setCell ⟨g, 3, none⟩ (.int .i64 r.2.2)) (.slice a1 n1 c1) r.1 := by
            intro h0
            obtain ⟨av, cv, e1, hv1, hv2, hv3⟩ := hsv h0
            refine ⟨av, cv, e1, hv1, ?_, hv3⟩
            by_cases hz0 : r.1 = []
            · rw [hz0]; exact Rd.nil _ _ _ _
            · refine Rd.grown hv2 hg9 (fun b hb e => ?_)
              obtain ⟨b', o', rfl, hcells⟩ := hv2.vals (List.length_pos_iff.2 hz0)
              cases hb
              simp only at e
              subst e
              have h3 := (hcells 0 (List.length_pos_iff.2 hz0)).2.2
              rw [blk_cell HBK.out] at h3
              match o', h3 with
              | 0, h3 => simp at h3
              | 1, h3 => simp at h3
              | q + 2, h3 => simp at h3
          exact hK _ _ ⟨v91, v92, v93, v94, v95, v96, _, _, _, rfl, hB.grown hg9 hB.size (fun j hj => by cases hj; exact hg), fun _ i hi => by have := hall i hi; show (if i = 9 then true else L i) = true; rw [if_neg (by omega)]; exact this, fun h => (by cases h), fun _ => ⟨g, a1, n1, c1, rfl, hg, blk_set (blk_set (blk_set (blk_set HBK.out 0 _) 1 _) 2 _) 3 _, hsv9, hn0⟩⟩
      case hQ =>
        intro a' w' hJ
        obtain ⟨v91, v92, v93, v94, v95, v96, v97, v98, v13, rfl, hB7, _, _, hD⟩ := hJ
        obtain ⟨g, a1, n1, c1, rfl, hg, hbk, hsv, hn0⟩ := hD rfl
        simp only [puts, List.foldl_cons, List.foldl_nil, List.set_cons_succ, List.set_cons_zero]
        obtain ⟨al, cl, rfl, _, hal, _⟩ := own_at ownL2.out
        have hvl : (pushV s (inOf n) a b).length = k := by rw [pushV_len, HKK.out]
        have hrd : Rd encV 3 w6 al (pushV s (inOf n) a b) := (rd_at (by omega) encV_len).2 hal
        have HAP := fun (W : World) (hb' : Below w6.heap.size w6 W) => Lib.hid (RefJ.apply_calls n HP.out H34.out (pushV s (inOf n) a b) al cl W (hrd.below hb' (Nat.le_refl _)) (fits_push s hs (inOf n) a b HT.out) (pushV_range s (inOf n) a b ha hb) (by omega))
        rw [hvl] at HAP
        have hrv := HR.out
        rw [exec_law s hs n a b HP.out] at hrv
        have hcr := (table n HP.out).2.2.2.2.1
        have hcr2 := (table n HP.out).2.2.2.2.2.1
        have HCO : ∀ W : World, RowKit.Hid (Calls Try.prog 14 #[.int .i64 n] W fun e w' => e = .returned (.int .i64 (opRow n).2.2.2.2) ∧ Below W.heap.size W w') := fun W => Lib.hid (RefA.cost_calls n (by have h := HP.out; unfold plainB at h; simp at h; omega) (by have h := HP.out; unfold plainB at h; simp at h; omega) W)
        generalize hco : (opRow n).2.2.2.2 = cst at hrv hcr hcr2 HCO
        have hkin : ((inOf n).length : Int) = k := by rw [← HKK.out]
        rw [hkin] at hrv
        generalize hap : applyR n (pushV s (inOf n) a b) = ap at hrv HAP
        obtain ⟨apv, ape⟩ := ap
        simp only at hrv
        have B67 : Below w6.heap.size w6 w' := hB7
        have HWK := Lib.hid (show IntKind.i64.wrap ((k : Int) + cst) = (k : Int) + cst from by rw [IntKind.wrap_i64]; omega)
        clear hal ownL2 HRUN hD hap hkin hco HXV HIV RO6 BA2 F60 F61 F62 F63
        by_cases he : ape = 0
        · subst he
          rw [if_pos rfl] at hrv
          subst hrv
          simp only at hbk hsv
          obtain ⟨av, cv, e1, hv1, hv2, hv3⟩ := (by first | exact hsv rfl | exact hsv trivial : Sv encV 3 w' (.slice a1 n1 c1) [apv])
          cases e1
          have g0 := blk_cell hbk 0
          have g2 := blk_cell hbk 2
          have g3 := blk_cell hbk 3
          have HBK := Lib.hid hbk
          have HV2 := Lib.hid hv2
          clear hbk hsv hn0 hv2
          go_wp2_with (go_at_call 11; refine Calls.mono (HAP _ B67).out ?_; rintro e w8 ⟨hb8, h8⟩; rw [if_pos rfl] at h8; obtain ⟨a8, c8, rfl, hrd8⟩ := h8; have G0 := cell_keep hb8 g0; have G2 := cell_keep hb8 g2; have G3 := cell_keep hb8 g3)
          have HV8 := Lib.hid (HV2.out.below hb8 (Nat.le_refl _))
          have HR8 := Lib.hid hrd8
          have B8 : Below w.heap.size w w8 := below_thn hb8 (below_thn hB7 B6 B6.size) (below_thn hB7 B6 B6.size).size
          clear hrd8 g0 g2 g3
          (go_region_held3 (fun W => Below w8.heap.size w8 W ∧ W.cell? ⟨g, 0, none⟩ = some (.slice a1 1 c1) ∧ W.cell? ⟨g, 2, none⟩ = some (.int .i64 ((k : Int) + cst)) ∧ W.cell? ⟨g, 3, none⟩ = some (.int .i64 0)) (first | (refine (fun hK : Below w8.heap.size w8 _ => ⟨hK, cell_keep hK G0, cell_keep hK G2, cell_keep hK G3⟩) ?_; go_split_ands; (repeat (first | with_reducible exact Below.refl _ _ | with_reducible assumption | with_reducible refine Below.drew ?_ | with_reducible refine below_drewN ?_ _ | with_reducible refine bel_set ?_ _ _ | with_reducible refine bel_alloc ?_ _ | with_reducible refine bel_call (by with_reducible assumption) ?_)))) (first | (go_at_call 12; refine (RefB.num_calls _ _).mono ?_; rintro e w9 ⟨rfl, hb9⟩) | (go_at_call 13; refine (RefB.same_calls a1 c1 [apv] a8 c8 _ (by simp) (HV8.out.below (by (repeat (first | with_reducible exact Below.refl _ _ | with_reducible assumption | with_reducible refine Below.drew ?_ | with_reducible refine below_drewN ?_ _ | with_reducible refine bel_set ?_ _ _ | with_reducible refine bel_alloc ?_ _ | with_reducible refine bel_call (by with_reducible assumption) ?_))) (Nat.le_refl _)) (HR8.out.below (by (repeat (first | with_reducible exact Below.refl _ _ | with_reducible assumption | with_reducible refine Below.drew ?_ | with_reducible refine below_drewN ?_ _ | with_reducible refine bel_set ?_ _ _ | with_reducible refine bel_alloc ?_ _ | with_reducible refine bel_call (by with_reducible assumption) ?_))) (Nat.le_refl _))).mono ?_; rintro e w10 ⟨rfl, hb10⟩) | (go_at_call 14; refine Calls.mono (HCO _).out ?_; rintro e w11 ⟨rfl, hb11⟩)))
          all_goals
            go_wp2_with fail
            go_ret
            exact ⟨by show Ending.returned (.bool ((k : Int) + cst == IntKind.i64.wrap ((k : Int) + cst))) = _; rw [HWK.out]; simp, by (repeat (first | with_reducible exact Below.refl _ _ | with_reducible assumption | with_reducible refine Below.drew ?_ | with_reducible refine below_drewN ?_ _ | with_reducible refine bel_set ?_ _ _ | with_reducible refine bel_alloc ?_ _ | with_reducible refine bel_call (by with_reducible assumption) ?_))⟩
        · rw [if_neg he] at hrv
          subst hrv
          simp only at hbk hn0
          have hn1 : n1 = 0 := hn0 he
          subst hn1
          have g0 := blk_cell hbk 0
          have g2 := blk_cell hbk 2
          have g3 := blk_cell hbk 3
          have HBK := Lib.hid hbk
          have HE := Lib.hid he
          clear hbk hsv hn0 he
          go_wp2_with (go_at_call 11; refine Calls.mono (HAP _ B67).out ?_; rintro e w8 ⟨hb8, h8⟩; rw [if_neg HE.out] at h8; subst h8; have G0 := cell_keep hb8 g0; have G2 := cell_keep hb8 g2; have G3 := cell_keep hb8 g3)
          have B8 : Below w.heap.size w w8 := below_thn hb8 (below_thn hB7 B6 B6.size) (below_thn hB7 B6 B6.size).size
          clear g0 g2 g3
          (go_region_held3 (fun W => Below w8.heap.size w8 W ∧ W.cell? ⟨g, 0, none⟩ = some (.slice a1 0 c1) ∧ W.cell? ⟨g, 2, none⟩ = some (.int .i64 ((k : Int) + cst)) ∧ W.cell? ⟨g, 3, none⟩ = some (.int .i64 ape)) (first | (refine (fun hK : Below w8.heap.size w8 _ => ⟨hK, cell_keep hK G0, cell_keep hK G2, cell_keep hK G3⟩) ?_; go_split_ands; (repeat (first | with_reducible exact Below.refl _ _ | with_reducible assumption | with_reducible refine Below.drew ?_ | with_reducible refine below_drewN ?_ _ | with_reducible refine bel_set ?_ _ _ | with_reducible refine bel_alloc ?_ _ | with_reducible refine bel_call (by with_reducible assumption) ?_)))) (first | (go_at_call 12; refine (RefB.num_calls _ _).mono ?_; rintro e w9 ⟨rfl, hb9⟩) | (go_at_call 13; refine (RefB.same_calls a1 c1 [] none 0 _ (by simp) (Rd.nil _ _ _ _) (Rd.nil _ _ _ _)).mono ?_; rintro e w10 ⟨rfl, hb10⟩) | (go_at_call 14; refine Calls.mono (HCO _).out ?_; rintro e w11 ⟨rfl, hb11⟩)))
          all_goals
            go_wp2_with fail
            go_ret
            exact ⟨by show Ending.returned (.bool ((k : Int) + cst == IntKind.i64.wrap ((k : Int) + cst))) = _; rw [HWK.out]; simp, by (repeat (first | with_reducible exact Below.refl _ _ | with_reducible assumption | with_reducible refine Below.drew ?_ | with_reducible refine below_drewN ?_ _ | with_reducible refine bel_set ?_ _ _ | with_reducible refine bel_alloc ?_ _ | with_reducible refine bel_call (by with_reducible assumption) ?_))⟩
end Go.Proofs.Ytnapbjfmkofhcaa.Main
