/- slices.Clone, Grow, Concat at the program's types: contracts. -/
import Derived.Test.YtnapbjfmkofhcaaWd
import Derived.Lib.SliceRun
import Derived.Lib.AppendZeros
import Derived.OwnWalk
import Derived.Laws.AppendOwnNone
namespace Go.Proofs.Ytnapbjfmkofhcaa.Sl
set_option linter.unusedVariables false
set_option linter.unusedSimpArgs false
open Go.RowKit Wd

/-- A row of slices: their values, and what each reads as. -/
def Rows2 {α : Type} (enc : α → List Value) (m : Nat) (w : World) (vs : List Value) (xss : List (List α)) : Prop :=
  vs.length = xss.length ∧ ∀ (i : Nat) (v : Value) (xs : List α), vs[i]? = some v → xss[i]? = some xs → ∃ a c, v = .slice a xs.length c ∧ xs.length ≤ c ∧ Rd enc m w a xs ∧ (a = none → xs = [] ∧ c = 0)

theorem Rows2.below {α : Type} {enc : α → List Value} {m : Nat} {w w1 : World} {vs : List Value} {xss : List (List α)} {B : Nat} (h : Rows2 enc m w vs xss) (hb : Below B w w1) (hB : w.heap.size ≤ B) : Rows2 enc m w1 vs xss :=
  ⟨h.1, fun i v xs hv hx => let ⟨a, c, e, l, r, n⟩ := h.2 i v xs hv hx; ⟨a, c, e, l, r.below hb hB, n⟩⟩

theorem at_below {w w1 : World} {a : Option Addr} {cs : List Value} {B : Nat} (h : At w a cs) (hb : Below B w w1) (hB : w.heap.size ≤ B) : At w1 a cs := by
  rcases h with h | ⟨b, o, ha, hc⟩
  · exact .inl h
  · exact .inr ⟨b, o, ha, fun j v hj => by have h1 := hc j v hj; rw [hb.cell (Nat.lt_of_lt_of_le (cell_lt h1) hB)]; exact h1⟩

/-- The first k lists, one behind the other; how many elements they have. -/
def upTo {α : Type} (xss : List (List α)) (k : Nat) : List α := (xss.take k).flatten
def numTo {α : Type} (xss : List (List α)) (k : Nat) : Nat := (upTo xss k).length
theorem upTo_succ {α : Type} {xss : List (List α)} {k : Nat} (h : k < xss.length) : upTo xss (k + 1) = upTo xss k ++ xss[k] := by
  unfold upTo
  rw [List.take_succ_eq_append_getElem h, List.flatten_append]; simp
theorem upTo_all {α : Type} (xss : List (List α)) : upTo xss xss.length = xss.flatten := by unfold upTo; rw [List.take_length]
theorem numTo_le {α : Type} (xss : List (List α)) (k : Nat) : numTo xss k ≤ xss.flatten.length := by
  unfold numTo upTo
  have h : xss.flatten = (xss.take k).flatten ++ (xss.drop k).flatten := by rw [← List.flatten_append, List.take_append_drop]
  rw [h, List.length_append]; omega

theorem infoV : (Try.prog.info? 33).map (fun i => (i.zero, i.size, i.bytes)) = some (some (.agg #[.int .i64 0, .int .i64 0, .string ⟨#[]⟩]), 3, 32) := by kernel_rfl

set_option maxRecDepth 100000 in
/-- slices.Clone. -/
theorem cloneV_calls (a : Option Addr) (n c : Nat) (xs : List V) (hl : n = xs.length) (w : World) (hn : n * 32 ≤ lim47) (hx : Rd encV 3 w a xs) (ha : a = none → xs = []) :
    Calls Try.prog 35 #[.slice a n c] w (Owned 33 3 n (flat encV xs) w) := by
  subst hl
  have qT : ∀ (w : World) (a : Option Addr) (n c n' c' : Nat), (binOp .eql 29 (.slice a n c) (.slice none n' c')).run Try.prog w = .ok (.bool a.isNone) w := fun w a n c n' c' => Lib.run_eql_slice_nil w _ _ a n c n' c' Try.underlying29
  cases a with
  | none =>
    obtain rfl := ha rfl
    go_enter Try.func35, Try.ntmps35
    go_wp2_with fail
    go_ret
    exact owned_of rfl (World.ownsRow_nil _ _ _ _) (Below.refl _ _)
  | some ad =>
    obtain ⟨i0, hi, hz0, hz1, hz2⟩ := info_parts infoV
    go_enter Try.func35, Try.ntmps35
    have hA := (rd_at (by omega) encV_len).1 hx
    go_wp2_with (at_builtin; refine wpList_append_own _ rfl _ _ 29 rfl w.heap.size 33 i0 _ 3 32 Try.underlying29 hi hz0 hz1 hz2 rfl (by decide) _ 0 [] rfl (World.ownsRow_made (e := 33) w #[] 0 (Nat.le_refl _) (Nat.zero_le _) rfl) ad xs.length c (flat encV xs) rfl (flat_length encV_len xs) ?c2 (one_flat one_V xs) ?c3 ?c4 ?c5 ?_)
    case c2 => exact at_cells hA _
    case c3 => unfold lim47 at hn; unfold maxLen; omega
    case c4 => unfold lim47 at hn; omega
    case c5 => simp
    intro v' w1 hown hg _
    go_wp2_with fail
    go_ret
    refine owned_of (v := v') rfl (by simpa using hown) ?_
    exact ((Below.refl _ _).alloc (Nat.le_refl _) _).grown hg (by simp) (fun k hk => by simp [Value.ownBlock] at hk; omega)

set_option maxRecDepth 100000 in
/-- slices.Grow, of nil. -/
theorem growV_calls (n : Nat) (w : World) (hn : n * 32 ≤ lim47) :
    Calls Try.prog 94 #[.slice none 0 0, .int .i64 n] w (Owned 33 3 0 [] w) := by
  have hb : n ≤ 140737488355328 := by unfold lim47 at hn; omega
  cases n with
  | zero =>
    go_enter Try.func94, Try.ntmps94
    go_wp2_with fail
    go_ret
    exact owned_of rfl (World.ownsRow_nil _ _ _ _) (Below.refl _ _)
  | succ n =>
    obtain ⟨i0, hi, hz0, hz1, hz2⟩ := info_parts infoV
    have hr := Lib.run_append_nil_zeros (P := Try.prog) w 29 3 29 33 i0 _ .i64 .i64 Try.underlying29 Try.underlying3 hi hz0 (n + 1) (by omega) (by omega) (by omega) (by rw [hz2]; unfold lim47 at hn; omega)
    have hge := grownCap_ge w (n + 1) 0 33
    have hle := grownCap_le_maxLen w (n + 1) 0 33 (by unfold maxLen; omega)
    have hsz : (Builtin.zeroCells (Value.cells (.agg #[.int .i64 0, .int .i64 0, .string ⟨#[]⟩])) (n + 1) ++ Builtin.zeroCells (Value.cells (.agg #[.int .i64 0, .int .i64 0, .string ⟨#[]⟩])) (grownCap w (n + 1) 0 33 - (n + 1))).size = grownCap w (n + 1) 0 33 * 3 := by
      rw [Array.size_append, size_zeroCells, size_zeroCells, ← Nat.add_mul]; congr 1; omega
    revert hr hge hle hsz
    generalize (Builtin.zeroCells (Value.cells (.agg #[.int .i64 0, .int .i64 0, .string ⟨#[]⟩])) (n + 1) ++ Builtin.zeroCells (Value.cells (.agg #[.int .i64 0, .int .i64 0, .string ⟨#[]⟩])) (grownCap w (n + 1) 0 33 - (n + 1))) = zs
    generalize grownCap w (n + 1) 0 33 = cap
    intro hr hge hle hsz
    have HR := Lib.hid hr
    clear hr
    go_enter Try.func94, Try.ntmps94
    go_wp2_with (at_builtin; refine Lib.wpList_append_run _ rfl _ _ _ _ rfl _ _ rfl rfl _ _ HR.out ?_)
    go_ret
    exact owned_of rfl (World.ownsRow_made (e := 33) w.drew zs cap (Nat.le_refl _) hle hsz) (((Below.refl _ _).drew).alloc (Nat.le_refl _) _)

set_option maxRecDepth 100000 in
set_option maxHeartbeats 1000000 in
/-- slices.Concat. -/
theorem concatV_calls (aa : Option Addr) (cc : Nat) (vs : List Value) (xss : List (List V)) (m n : Nat) (hm : m = vs.length) (hl : n = xss.flatten.length) (w : World) (hk : m ≤ 1000000) (hn : n * 32 ≤ lim47) (hA : At w aa vs) (hR : Rows2 encV 3 w vs xss) :
    Calls Try.prog 86 #[.slice aa m cc] w (Owned 33 3 n (flat encV xss.flatten) w) := by
  subst hm
  subst hl
  have hb : xss.flatten.length ≤ 140737488355328 := by unfold lim47 at hn; omega
  obtain ⟨i0, hi, hz0, hz1, hz2⟩ := info_parts infoV
  go_enter Try.func86, Try.ntmps86
  go_wp2_with fail
  go_loopw [3, 11] (fun s i wr => ∃ k : Nat, k ≤ vs.length ∧ i = .int .i64 k ∧ s = .int .i64 (numTo xss k) ∧ w = wr) (fun _ i _ => vs.length - (intOf i).toNat)
  case atStart => exact ⟨0, Nat.zero_le _, rfl, rfl, rfl⟩
  case round =>
    obtain ⟨k, hle, rfl, rfl, rfl⟩ := hrel
    have hL := hR.1
    have hLe := numTo_le xss k
    have hLe1 := numTo_le xss (k + 1)
    by_cases hlt : k < vs.length
    · have hlt2 : k < xss.length := by omega
      rcases hA with h | ⟨b, o, rfl, hc⟩
      · subst h; simp at hlt
      obtain ⟨a, c, hv, hc1, hrd, hnil⟩ := hR.2 k _ _ (List.getElem?_eq_getElem hlt) (List.getElem?_eq_getElem hlt2)
      have hcell := hc k _ (List.getElem?_eq_getElem hlt)
      rw [hv] at hcell
      clear hc
      have hts : numTo xss (k + 1) = numTo xss k + xss[k].length := by unfold numTo; rw [upTo_succ hlt2, List.length_append]
      have HTS := Lib.hid hts
      have HL := Lib.hid hL
      have hsum : numTo xss k + xss[k].length ≤ 140737488355328 := by rw [← hts]; omega
      clear hts hL hv
      go_wp2_with fail
      go_roundw
      case rel => exact ⟨k + 1, by omega, by go_num, by rw [HTS.out]; go_num, trivial⟩
      case measure => simp [intOf]; omega
    · obtain rfl : k = vs.length := by omega
      have hT : upTo xss vs.length = xss.flatten := by rw [hL]; exact upTo_all xss
      have hfl : numTo xss vs.length = xss.flatten.length := by unfold numTo; rw [hT]
      have HL := Lib.hid hL
      have HFL := Lib.hid hfl
      clear hL hT hfl
      go_wp2_with (go_at_call 94; refine (growV_calls _ _ (by rw [HFL.out]; exact hn)).mono ?_; rintro e w1 ⟨a1, c1, rfl, hown, hB⟩)
      go_loopw [6, 27] (fun v i wr => ∃ k : Nat, k ≤ vs.length ∧ i = .int .i64 k ∧ wr.ownsRow w.heap.size 33 3 v (numTo xss k) (flat encV (upTo xss k)) ∧ Below w.heap.size w wr) (fun _ i _ => vs.length - (intOf i).toNat)
      case atStart => exact ⟨0, Nat.zero_le _, rfl, hown, hB⟩
      case round =>
        obtain ⟨k, hle, rfl, hownk, hBk⟩ := hrel
        have hzB := hBk.size
        have hLek := numTo_le xss k
        have hLe1 := numTo_le xss (k + 1)
        by_cases hlt : k < vs.length
        · have hlt2 : k < xss.length := by have := HL.out; omega
          rcases at_below hA hBk (Nat.le_refl _) with h | ⟨b, o, rfl, hc⟩
          · subst h; simp at hlt
          obtain ⟨a, c, hv, hc1, hrd, hnil⟩ := (hR.below hBk (Nat.le_refl _)).2 k _ _ (List.getElem?_eq_getElem hlt) (List.getElem?_eq_getElem hlt2)
          have hcell := hc k _ (List.getElem?_eq_getElem hlt)
          rw [hv] at hcell
          clear hc
          have hts0 := upTo_succ hlt2
          have hts : numTo xss (k + 1) = numTo xss k + xss[k].length := by unfold numTo; rw [upTo_succ hlt2, List.length_append]
          have HTS := Lib.hid hts
          have HT0 := Lib.hid hts0
          have hsum : numTo xss k + xss[k].length ≤ xss.flatten.length := by rw [← hts]; omega
          clear hts hv hts0
          have hAx := (rd_at (by omega) encV_len).1 hrd
          cases a with
          | none =>
            obtain ⟨h0, rfl⟩ := hnil rfl
            have H0 := Lib.hid h0
            have hl0 : xss[k].length = 0 := by rw [h0]; rfl
            rw [hl0] at hcell
            clear h0 hl0 hnil hsum
            go_wp2_with (at_builtin; refine wpList_append_own_none rfl _ _ 29 rfl w.heap.size 33 i0 3 Try.underlying29 hi _ _ _ rfl hownk rfl ?_)
            go_roundw
            case rel => exact ⟨k + 1, by omega, by go_num, by rw [HTS.out, HT0.out, H0.out, List.append_nil]; exact hownk, hBk⟩
            case measure => simp [intOf]; omega
          | some ad =>
            go_wp2_with (at_builtin; refine wpList_append_own _ rfl _ _ 29 rfl w.heap.size 33 i0 _ 3 32 Try.underlying29 hi hz0 hz1 hz2 rfl (by decide) _ _ _ rfl hownk ad xss[k].length c (flat encV xss[k]) rfl (flat_length encV_len _) ?c2 (one_flat one_V _) ?c3 ?c4 ?c5 ?_)
            case c2 => exact at_cells0 hAx
            case c3 => unfold maxLen; omega
            case c4 => unfold lim47 at hn; omega
            case c5 => exact hzB
            intro v' w2 hown2 hg2 _
            go_wp2_with fail
            go_roundw
            case rel => exact ⟨k + 1, by omega, by go_num, by rw [HTS.out, HT0.out, flat_append]; exact hown2, hBk.grown hg2 hzB (fun j hj => (hownk.lt j hj).1)⟩
            case measure => simp [intOf]; omega
        · obtain rfl : k = vs.length := by omega
          have hT : upTo xss vs.length = xss.flatten := by rw [HL.out]; exact upTo_all xss
          rw [HFL.out, hT] at hownk
          clear hT
          go_wp2_with fail
          go_ret
          exact owned_of rfl hownk hBk

theorem infoI : (Try.prog.info? 3).map (fun i => (i.zero, i.size, i.bytes)) = some (some (.int .i64 0), 1, 8) := by kernel_rfl

set_option maxRecDepth 100000 in
/-- slices.Grow, of nil. -/
theorem growI_calls (n : Nat) (w : World) (hn : n * 8 ≤ lim47) :
    Calls Try.prog 49 #[.slice none 0 0, .int .i64 n] w (Owned 3 1 0 [] w) := by
  have hb : n ≤ 140737488355328 := by unfold lim47 at hn; omega
  cases n with
  | zero =>
    go_enter Try.func49, Try.ntmps49
    go_wp2_with fail
    go_ret
    exact owned_of rfl (World.ownsRow_nil _ _ _ _) (Below.refl _ _)
  | succ n =>
    obtain ⟨i0, hi, hz0, hz1, hz2⟩ := info_parts infoI
    have hr := Lib.run_append_nil_zeros (P := Try.prog) w 23 3 23 3 i0 _ .i64 .i64 Try.underlying23 Try.underlying3 hi hz0 (n + 1) (by omega) (by omega) (by omega) (by rw [hz2]; unfold lim47 at hn; omega)
    have hge := grownCap_ge w (n + 1) 0 3
    have hle := grownCap_le_maxLen w (n + 1) 0 3 (by unfold maxLen; omega)
    have hsz : (Builtin.zeroCells (Value.cells (.int .i64 0)) (n + 1) ++ Builtin.zeroCells (Value.cells (.int .i64 0)) (grownCap w (n + 1) 0 3 - (n + 1))).size = grownCap w (n + 1) 0 3 * 1 := by
      rw [Array.size_append, size_zeroCells, size_zeroCells, ← Nat.add_mul]; congr 1; omega
    revert hr hge hle hsz
    generalize (Builtin.zeroCells (Value.cells (.int .i64 0)) (n + 1) ++ Builtin.zeroCells (Value.cells (.int .i64 0)) (grownCap w (n + 1) 0 3 - (n + 1))) = zs
    generalize grownCap w (n + 1) 0 3 = cap
    intro hr hge hle hsz
    have HR := Lib.hid hr
    clear hr
    go_enter Try.func49, Try.ntmps49
    go_wp2_with (at_builtin; refine Lib.wpList_append_run _ rfl _ _ _ _ rfl _ _ rfl rfl _ _ HR.out ?_)
    go_ret
    exact owned_of rfl (World.ownsRow_made (e := 3) w.drew zs cap (Nat.le_refl _) hle hsz) (((Below.refl _ _).drew).alloc (Nat.le_refl _) _)

set_option maxRecDepth 100000 in
set_option maxHeartbeats 1000000 in
/-- slices.Concat. -/
theorem concatI_calls (aa : Option Addr) (cc : Nat) (vs : List Value) (xss : List (List Int)) (m n : Nat) (hm : m = vs.length) (hl : n = xss.flatten.length) (w : World) (hk : m ≤ 1000000) (hn : n * 8 ≤ lim47) (hA : At w aa vs) (hR : Rows2 encI 1 w vs xss) :
    Calls Try.prog 29 #[.slice aa m cc] w (Owned 3 1 n (flat encI xss.flatten) w) := by
  subst hm
  subst hl
  have hb : xss.flatten.length ≤ 140737488355328 := by unfold lim47 at hn; omega
  obtain ⟨i0, hi, hz0, hz1, hz2⟩ := info_parts infoI
  go_enter Try.func29, Try.ntmps29
  go_wp2_with fail
  go_loopw [3, 11] (fun s i wr => ∃ k : Nat, k ≤ vs.length ∧ i = .int .i64 k ∧ s = .int .i64 (numTo xss k) ∧ w = wr) (fun _ i _ => vs.length - (intOf i).toNat)
  case atStart => exact ⟨0, Nat.zero_le _, rfl, rfl, rfl⟩
  case round =>
    obtain ⟨k, hle, rfl, rfl, rfl⟩ := hrel
    have hL := hR.1
    have hLe := numTo_le xss k
    have hLe1 := numTo_le xss (k + 1)
    by_cases hlt : k < vs.length
    · have hlt2 : k < xss.length := by omega
      rcases hA with h | ⟨b, o, rfl, hc⟩
      · subst h; simp at hlt
      obtain ⟨a, c, hv, hc1, hrd, hnil⟩ := hR.2 k _ _ (List.getElem?_eq_getElem hlt) (List.getElem?_eq_getElem hlt2)
      have hcell := hc k _ (List.getElem?_eq_getElem hlt)
      rw [hv] at hcell
      clear hc
      have hts : numTo xss (k + 1) = numTo xss k + xss[k].length := by unfold numTo; rw [upTo_succ hlt2, List.length_append]
      have HTS := Lib.hid hts
      have HL := Lib.hid hL
      have hsum : numTo xss k + xss[k].length ≤ 140737488355328 := by rw [← hts]; omega
      clear hts hL hv
      go_wp2_with fail
      go_roundw
      case rel => exact ⟨k + 1, by omega, by go_num, by rw [HTS.out]; go_num, trivial⟩
      case measure => simp [intOf]; omega
    · obtain rfl : k = vs.length := by omega
      have hT : upTo xss vs.length = xss.flatten := by rw [hL]; exact upTo_all xss
      have hfl : numTo xss vs.length = xss.flatten.length := by unfold numTo; rw [hT]
      have HL := Lib.hid hL
      have HFL := Lib.hid hfl
      clear hL hT hfl
      go_wp2_with (go_at_call 49; refine (growI_calls _ _ (by rw [HFL.out]; exact hn)).mono ?_; rintro e w1 ⟨a1, c1, rfl, hown, hB⟩)
      go_loopw [6, 27] (fun v i wr => ∃ k : Nat, k ≤ vs.length ∧ i = .int .i64 k ∧ wr.ownsRow w.heap.size 3 1 v (numTo xss k) (flat encI (upTo xss k)) ∧ Below w.heap.size w wr) (fun _ i _ => vs.length - (intOf i).toNat)
      case atStart => exact ⟨0, Nat.zero_le _, rfl, hown, hB⟩
      case round =>
        obtain ⟨k, hle, rfl, hownk, hBk⟩ := hrel
        have hzB := hBk.size
        have hLek := numTo_le xss k
        have hLe1 := numTo_le xss (k + 1)
        by_cases hlt : k < vs.length
        · have hlt2 : k < xss.length := by have := HL.out; omega
          rcases at_below hA hBk (Nat.le_refl _) with h | ⟨b, o, rfl, hc⟩
          · subst h; simp at hlt
          obtain ⟨a, c, hv, hc1, hrd, hnil⟩ := (hR.below hBk (Nat.le_refl _)).2 k _ _ (List.getElem?_eq_getElem hlt) (List.getElem?_eq_getElem hlt2)
          have hcell := hc k _ (List.getElem?_eq_getElem hlt)
          rw [hv] at hcell
          clear hc
          have hts0 := upTo_succ hlt2
          have hts : numTo xss (k + 1) = numTo xss k + xss[k].length := by unfold numTo; rw [upTo_succ hlt2, List.length_append]
          have HTS := Lib.hid hts
          have HT0 := Lib.hid hts0
          have hsum : numTo xss k + xss[k].length ≤ xss.flatten.length := by rw [← hts]; omega
          clear hts hv hts0
          have hAx := (rd_at (by omega) encI_len).1 hrd
          cases a with
          | none =>
            obtain ⟨h0, rfl⟩ := hnil rfl
            have H0 := Lib.hid h0
            have hl0 : xss[k].length = 0 := by rw [h0]; rfl
            rw [hl0] at hcell
            clear h0 hl0 hnil hsum
            go_wp2_with (at_builtin; refine wpList_append_own_none rfl _ _ 23 rfl w.heap.size 3 i0 1 Try.underlying23 hi _ _ _ rfl hownk rfl ?_)
            go_roundw
            case rel => exact ⟨k + 1, by omega, by go_num, by rw [HTS.out, HT0.out, H0.out, List.append_nil]; exact hownk, hBk⟩
            case measure => simp [intOf]; omega
          | some ad =>
            go_wp2_with (at_builtin; refine wpList_append_own _ rfl _ _ 23 rfl w.heap.size 3 i0 _ 1 8 Try.underlying23 hi hz0 hz1 hz2 rfl (by decide) _ _ _ rfl hownk ad xss[k].length c (flat encI xss[k]) rfl (flat_length encI_len _) ?c2 (one_flat one_I _) ?c3 ?c4 ?c5 ?_)
            case c2 => exact at_cells0 hAx
            case c3 => unfold maxLen; omega
            case c4 => unfold lim47 at hn; omega
            case c5 => exact hzB
            intro v' w2 hown2 hg2 _
            go_wp2_with fail
            go_roundw
            case rel => exact ⟨k + 1, by omega, by go_num, by rw [HTS.out, HT0.out, flat_append]; exact hown2, hBk.grown hg2 hzB (fun j hj => (hownk.lt j hj).1)⟩
            case measure => simp [intOf]; omega
        · obtain rfl : k = vs.length := by omega
          have hT : upTo xss vs.length = xss.flatten := by rw [HL.out]; exact upTo_all xss
          rw [HFL.out, hT] at hownk
          clear hT
          go_wp2_with fail
          go_ret
          exact owned_of rfl hownk hBk

end Go.Proofs.Ytnapbjfmkofhcaa.Sl
