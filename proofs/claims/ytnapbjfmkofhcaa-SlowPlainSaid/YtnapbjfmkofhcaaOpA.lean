/- op.table, op.at and what reads a row of the table: what they answer. -/
import Derived.Test.YtnapbjfmkofhcaaProg
import Derived.WalkKit
import Derived.WalkLawsBesides
import Derived.Handy
import Derived.KernelRfl
import Derived.Below
import Derived.Laws.Rows
import Derived.Laws.Tables
namespace Go.Proofs.Ytnapbjfmkofhcaa.OpA
set_option linter.unusedVariables false
set_option linter.unusedSimpArgs false
open Go.RowKit

/-- A list of 'build's and 'move's, done one behind the other. -/
def build1 (P : Program) (a : Act) (o : Oper) : Option Act :=
  if o.guard.isSome then none else
  match o.op with
  | .build t parts => (P.built t (parts.map fun (i, x) => (i, a.eval x)).toList).map fun cs => a.put o.dst (.agg cs)
  | _ => none
def builds (P : Program) : List Oper → Act → Option Act
  | [], a => some a
  | o :: l, a => (build1 P a o).bind (builds P l)

theorem wpList_builds {P : Program} {ops : Array Oper} {Q : Exit → Act → World → Prop} {w : World} :
    ∀ (n : Nat) (l : List Oper) (a a' : Act), builds P (l.take n) a = some a' → wpList P ops Q (l.drop n) a' w → wpList P ops Q l a w := by
  intro n
  induction n with
  | zero => intro l a a' h hw; simp [builds] at h; subst h; simpa using hw
  | succ n ih =>
    intro l a a' h hw
    cases l with
    | nil => simp [builds] at h; subst h; simpa using hw
    | cons o l =>
      simp only [List.take_succ_cons, builds, Option.bind_eq_some_iff] at h
      obtain ⟨a1, h1, h2⟩ := h
      unfold build1 at h1
      split at h1
      · cases h1
      · rename_i hg
        have hg' : o.guard = none := by cases hq : o.guard with
          | none => rfl
          | some x => simp [hq] at hg
        split at h1
        · rename_i t parts ho
          simp only [Option.map_eq_some_iff] at h1
          obtain ⟨cs, hcs, rfl⟩ := h1
          refine wpList_build hg' t parts ho (by rw [hcs]; rfl) ?_
          rw [hcs]
          exact ih l _ _ h2 (by simpa using hw)
        · cases h1

/-- The same, where of the frame behind them only slots 0 and s are looked at again. -/
theorem wpList_builds2 {P : Program} {ops : Array Oper} {Q : Exit → Act → World → Prop} {w : World} (n : Nat) (l : List Oper) (a : Act) (s : Nat) (v v0 : Value)
    (h1 : (builds P (l.take n) a).isSome = true) (h2 : ((builds P (l.take n) a).getD a).eval (.tmp s) = v) (h3 : ((builds P (l.take n) a).getD a).eval (.tmp 0) = v0)
    (h4 : ((builds P (l.take n) a).getD a).defers = [])
    (h : ∀ a' : Act, a'.eval (.tmp s) = v → a'.eval (.tmp 0) = v0 → a'.defers = [] → wpList P ops Q (l.drop n) a' w) : wpList P ops Q l a w := by
  cases hb : builds P (l.take n) a with
  | none => rw [hb] at h1; cases h1
  | some a' =>
    rw [hb] at h2 h3 h4
    exact wpList_builds n l a a' hb (h a' h2 h3 h4)

/-- The operations: name, what A is, types in, types out, cost. -/
def rows : List (ByteArray × Int × ByteArray × ByteArray × Int) := [
  (⟨#[]⟩, 0, ⟨#[]⟩, ⟨#[]⟩, 0),
  (⟨#[105, 110, 116]⟩, 1, ⟨#[]⟩, ⟨#[49]⟩, 1),
  (⟨#[99, 111, 110, 115, 116]⟩, 2, ⟨#[]⟩, ⟨#[50]⟩, 1),
  (⟨#[116, 114, 117, 101]⟩, 0, ⟨#[]⟩, ⟨#[51]⟩, 1),
  (⟨#[102, 97, 108, 115, 101]⟩, 0, ⟨#[]⟩, ⟨#[51]⟩, 1),
  (⟨#[100, 114, 111, 112]⟩, 0, ⟨#[48]⟩, ⟨#[]⟩, 1),
  (⟨#[100, 117, 112]⟩, 0, ⟨#[48]⟩, ⟨#[48, 48]⟩, 1),
  (⟨#[115, 119, 97, 112]⟩, 0, ⟨#[48, 48]⟩, ⟨#[48, 48]⟩, 1),
  (⟨#[111, 118, 101, 114]⟩, 0, ⟨#[48, 48]⟩, ⟨#[48, 48, 48]⟩, 1),
  (⟨#[103, 101, 116]⟩, 3, ⟨#[]⟩, ⟨#[48]⟩, 1),
  (⟨#[115, 101, 116]⟩, 3, ⟨#[48]⟩, ⟨#[]⟩, 1),
  (⟨#[97, 100, 100]⟩, 0, ⟨#[49, 49]⟩, ⟨#[49]⟩, 1),
  (⟨#[115, 117, 98]⟩, 0, ⟨#[49, 49]⟩, ⟨#[49]⟩, 1),
  (⟨#[109, 117, 108]⟩, 0, ⟨#[49, 49]⟩, ⟨#[49]⟩, 2),
  (⟨#[100, 105, 118]⟩, 0, ⟨#[49, 49]⟩, ⟨#[49]⟩, 4),
  (⟨#[114, 101, 109]⟩, 0, ⟨#[49, 49]⟩, ⟨#[49]⟩, 4),
  (⟨#[110, 101, 103]⟩, 0, ⟨#[49]⟩, ⟨#[49]⟩, 1),
  (⟨#[97, 110, 100]⟩, 0, ⟨#[49, 49]⟩, ⟨#[49]⟩, 1),
  (⟨#[111, 114]⟩, 0, ⟨#[49, 49]⟩, ⟨#[49]⟩, 1),
  (⟨#[120, 111, 114]⟩, 0, ⟨#[49, 49]⟩, ⟨#[49]⟩, 1),
  (⟨#[105, 110, 118]⟩, 0, ⟨#[49]⟩, ⟨#[49]⟩, 1),
  (⟨#[115, 104, 108]⟩, 0, ⟨#[49, 49]⟩, ⟨#[49]⟩, 1),
  (⟨#[115, 104, 114]⟩, 0, ⟨#[49, 49]⟩, ⟨#[49]⟩, 1),
  (⟨#[101, 113]⟩, 0, ⟨#[49, 49]⟩, ⟨#[51]⟩, 1),
  (⟨#[110, 101]⟩, 0, ⟨#[49, 49]⟩, ⟨#[51]⟩, 1),
  (⟨#[108, 116]⟩, 0, ⟨#[49, 49]⟩, ⟨#[51]⟩, 1),
  (⟨#[108, 101]⟩, 0, ⟨#[49, 49]⟩, ⟨#[51]⟩, 1),
  (⟨#[103, 116]⟩, 0, ⟨#[49, 49]⟩, ⟨#[51]⟩, 1),
  (⟨#[103, 101]⟩, 0, ⟨#[49, 49]⟩, ⟨#[51]⟩, 1),
  (⟨#[98, 111, 116, 104]⟩, 0, ⟨#[51, 51]⟩, ⟨#[51]⟩, 1),
  (⟨#[101, 105, 116, 104, 101, 114]⟩, 0, ⟨#[51, 51]⟩, ⟨#[51]⟩, 1),
  (⟨#[110, 111, 116]⟩, 0, ⟨#[51]⟩, ⟨#[51]⟩, 1),
  (⟨#[108, 101, 110]⟩, 0, ⟨#[50]⟩, ⟨#[49]⟩, 1),
  (⟨#[106, 111, 105, 110]⟩, 0, ⟨#[50, 50]⟩, ⟨#[50]⟩, 6),
  (⟨#[99, 117, 116]⟩, 0, ⟨#[50, 49, 49]⟩, ⟨#[50]⟩, 6),
  (⟨#[97, 116]⟩, 0, ⟨#[50, 49]⟩, ⟨#[49]⟩, 2),
  (⟨#[115, 97, 109, 101]⟩, 0, ⟨#[50, 50]⟩, ⟨#[51]⟩, 4),
  (⟨#[108, 101, 115, 115]⟩, 0, ⟨#[50, 50]⟩, ⟨#[51]⟩, 4),
  (⟨#[112, 97, 99, 107]⟩, 0, ⟨#[49]⟩, ⟨#[50]⟩, 3),
  (⟨#[117, 110, 112, 97, 99, 107]⟩, 0, ⟨#[50]⟩, ⟨#[49]⟩, 3),
  (⟨#[111, 110, 101]⟩, 0, ⟨#[49]⟩, ⟨#[50]⟩, 2),
  (⟨#[108, 111, 97, 100]⟩, 0, ⟨#[50]⟩, ⟨#[50, 51]⟩, 20),
  (⟨#[104, 97, 115]⟩, 0, ⟨#[50]⟩, ⟨#[51]⟩, 15),
  (⟨#[115, 97, 118, 101]⟩, 0, ⟨#[50, 50]⟩, ⟨#[]⟩, 30),
  (⟨#[119, 105, 112, 101]⟩, 0, ⟨#[50]⟩, ⟨#[]⟩, 25),
  (⟨#[110, 101, 120, 116]⟩, 0, ⟨#[50]⟩, ⟨#[50, 51]⟩, 20),
  (⟨#[101, 109, 105, 116]⟩, 0, ⟨#[50]⟩, ⟨#[]⟩, 10),
  (⟨#[97, 98, 111, 114, 116]⟩, 0, ⟨#[]⟩, ⟨#[]⟩, 1),
  (⟨#[105, 102]⟩, 0, ⟨#[51]⟩, ⟨#[]⟩, 1),
  (⟨#[101, 108, 115, 101]⟩, 0, ⟨#[]⟩, ⟨#[]⟩, 1),
  (⟨#[101, 110, 100]⟩, 0, ⟨#[]⟩, ⟨#[]⟩, 1),
  (⟨#[108, 111, 111, 112]⟩, 4, ⟨#[]⟩, ⟨#[]⟩, 2),
  (⟨#[108, 101, 97, 118, 101]⟩, 0, ⟨#[51]⟩, ⟨#[]⟩, 1),
  (⟨#[99, 97, 108, 108]⟩, 5, ⟨#[]⟩, ⟨#[]⟩, 5)]
def rowV (r : ByteArray × Int × ByteArray × ByteArray × Int) : List Value := [.string r.1, .int .i64 r.2.1, .string r.2.2.1, .string r.2.2.2.1, .int .i64 r.2.2.2.2]
def cells : Array Value := (rows.flatMap rowV).toArray
/-- The row of an operation, or that of none. -/
def opRow (op : Int) : ByteArray × Int × ByteArray × ByteArray × Int := if 1 ≤ op ∧ op ≤ 53 then rows.getD op.toNat (⟨#[]⟩, 0, ⟨#[]⟩, ⟨#[]⟩, 0) else (⟨#[]⟩, 0, ⟨#[]⟩, ⟨#[]⟩, 0)

theorem info_t : (Try.prog.info? 147).map (·.size) = some cells.size := by kernel_rfl
theorem cells_size : cells.size = 270 := by kernel_rfl

set_option maxHeartbeats 4000000 in
set_option maxRecDepth 100000 in
theorem table_calls (w : World) : Calls Try.prog 82 #[] w fun e w' => e = .returned (.agg cells) ∧ Below w.heap.size w w' := by
  go_enter Try.func82, Try.ntmps82
  iterate 9 go_step
  apply wp_seq_k
  intro K2 hK2
  apply wp_region_lit
  refine wpList_builds2 55 _ _ 55 (.agg cells) (.pointer (some ⟨w.heap.size, 0, none⟩)) (by kernel_rfl) (by kernel_rfl) (by kernel_rfl) (by kernel_rfl) ?_
  intro a' h55 h0 hd
  simp only [List.drop_succ_cons, List.drop_zero]
  refine wpList_store_row rfl _ _ _ rfl w.heap.size cells h0 h55 _ _ (heap_alloc_new w _) info_t (by kernel_rfl) (by kernel_rfl) ?_
  apply wpList_nil
  iterate 3 go_step
  go_big_open
  exact bodyPost_ret (results_cell_row rfl _ _ w.heap.size _ cells _ _ h0 (setRow_heap _ _ _ _ _ _ (heap_alloc_new w _)) Try.underlying147 rfl info_t) hd
    ⟨rfl, rfl, rfl, rfl, by simp, fun k hk => by rw [setRow_other _ _ _ _ (by omega)]; exact Below.heap_alloc _ _ _ hk⟩

theorem run_row (w : World) : ∀ n : Nat, n < 54 → (Instr.index 147 (.agg cells) (.int .i64 n)).run Try.prog w = .ok (.agg (rowV (rows.getD n (⟨#[]⟩, 0, ⟨#[]⟩, ⟨#[]⟩, 0))).toArray) w
  | 0, _ => by kernel_rfl
  | 1, _ => by kernel_rfl
  | 2, _ => by kernel_rfl
  | 3, _ => by kernel_rfl
  | 4, _ => by kernel_rfl
  | 5, _ => by kernel_rfl
  | 6, _ => by kernel_rfl
  | 7, _ => by kernel_rfl
  | 8, _ => by kernel_rfl
  | 9, _ => by kernel_rfl
  | 10, _ => by kernel_rfl
  | 11, _ => by kernel_rfl
  | 12, _ => by kernel_rfl
  | 13, _ => by kernel_rfl
  | 14, _ => by kernel_rfl
  | 15, _ => by kernel_rfl
  | 16, _ => by kernel_rfl
  | 17, _ => by kernel_rfl
  | 18, _ => by kernel_rfl
  | 19, _ => by kernel_rfl
  | 20, _ => by kernel_rfl
  | 21, _ => by kernel_rfl
  | 22, _ => by kernel_rfl
  | 23, _ => by kernel_rfl
  | 24, _ => by kernel_rfl
  | 25, _ => by kernel_rfl
  | 26, _ => by kernel_rfl
  | 27, _ => by kernel_rfl
  | 28, _ => by kernel_rfl
  | 29, _ => by kernel_rfl
  | 30, _ => by kernel_rfl
  | 31, _ => by kernel_rfl
  | 32, _ => by kernel_rfl
  | 33, _ => by kernel_rfl
  | 34, _ => by kernel_rfl
  | 35, _ => by kernel_rfl
  | 36, _ => by kernel_rfl
  | 37, _ => by kernel_rfl
  | 38, _ => by kernel_rfl
  | 39, _ => by kernel_rfl
  | 40, _ => by kernel_rfl
  | 41, _ => by kernel_rfl
  | 42, _ => by kernel_rfl
  | 43, _ => by kernel_rfl
  | 44, _ => by kernel_rfl
  | 45, _ => by kernel_rfl
  | 46, _ => by kernel_rfl
  | 47, _ => by kernel_rfl
  | 48, _ => by kernel_rfl
  | 49, _ => by kernel_rfl
  | 50, _ => by kernel_rfl
  | 51, _ => by kernel_rfl
  | 52, _ => by kernel_rfl
  | 53, _ => by kernel_rfl
  | n + 54, h => absurd h (by omega)

theorem run_row_int (op : Int) (h0 : 1 ≤ op) (h1 : op ≤ 53) (w : World) : (Instr.index 147 (.agg cells) (.int .i64 op)).run Try.prog w = .ok (.agg (rowV (opRow op)).toArray) w := by
  have h := run_row w op.toNat (by omega)
  rw [show ((op.toNat : Nat) : Int) = op by omega] at h
  rw [h, opRow, if_pos ⟨h0, h1⟩]

theorem run_row_zero (w : World) : (Instr.index 147 (.agg cells) (.int .i64 0)).run Try.prog w = .ok (.agg (rowV (⟨#[]⟩, 0, ⟨#[]⟩, ⟨#[]⟩, 0)).toArray) w := run_row w 0 (by omega)

theorem info_r : (Try.prog.info? 126).map (·.size) = some 5 := by kernel_rfl

theorem rowV_one (r : ByteArray × Int × ByteArray × ByteArray × Int) : ((rowV r).toArray.all fun x => x.oneCell') = true := by simp [rowV, Value.oneCell']

theorem below_row {B : Nat} {w w1 : World} (h : Below B w w1) {g : Nat} (hg : B ≤ g) {cs : Array Value} : Below B w (w1.setRow g cs) :=
  h.trans ⟨rfl, rfl, rfl, by simp, fun k hk => setRow_other _ _ _ _ (by omega)⟩

set_option maxHeartbeats 1000000 in
theorem at_calls (op : Int) (w : World) : Calls Try.prog 69 #[.int .i64 op] w fun e w' => e = .returned (.agg (rowV (opRow op)).toArray) ∧ Below w.heap.size w w' := by
  by_cases h0 : op < 1
  · have hr : opRow op = (⟨#[]⟩, 0, ⟨#[]⟩, ⟨#[]⟩, 0) := by rw [opRow, if_neg (by omega)]
    rw [hr]
    have hz := run_row_zero
    revert hz
    generalize ((⟨#[]⟩, 0, ⟨#[]⟩, ⟨#[]⟩, 0) : ByteArray × Int × ByteArray × ByteArray × Int) = r
    intro hz
    clear hr
    go_enter Try.func69, Try.ntmps69
    go_wp2_with (first | (go_at_call 82; refine (table_calls _).mono ?_; rintro e w1 ⟨rfl, hb⟩; have hbox := (hb.block w.heap.size (by simp)).trans (heap_alloc_new w _)) | (refine wpList_store_row rfl _ _ _ rfl w.heap.size (rowV r).toArray rfl rfl _ _ hbox info_r rfl (rowV_one r) ?_))
    exact bodyPost_ret (results_cell_row rfl _ _ w.heap.size _ (rowV r).toArray _ _ rfl (setRow_heap _ _ _ _ _ _ hbox) Try.underlying126 rfl info_r) rfl
      ⟨rfl, ((Below.refl _ _).alloc (Nat.le_refl _) _).trans (below_row (hb.mono (by simp)) (Nat.le_refl _))⟩
  by_cases h1 : 53 < op
  · have hr : opRow op = (⟨#[]⟩, 0, ⟨#[]⟩, ⟨#[]⟩, 0) := by rw [opRow, if_neg (by omega)]
    rw [hr]
    have hz := run_row_zero
    revert hz
    generalize ((⟨#[]⟩, 0, ⟨#[]⟩, ⟨#[]⟩, 0) : ByteArray × Int × ByteArray × ByteArray × Int) = r
    intro hz
    clear hr
    go_enter Try.func69, Try.ntmps69
    go_wp2_with (first | (go_at_call 82; refine (table_calls _).mono ?_; rintro e w1 ⟨rfl, hb⟩; have hbox := (hb.block w.heap.size (by simp)).trans (heap_alloc_new w _)) | (refine wpList_store_row rfl _ _ _ rfl w.heap.size (rowV r).toArray rfl rfl _ _ hbox info_r rfl (rowV_one r) ?_))
    exact bodyPost_ret (results_cell_row rfl _ _ w.heap.size _ (rowV r).toArray _ _ rfl (setRow_heap _ _ _ _ _ _ hbox) Try.underlying126 rfl info_r) rfl
      ⟨rfl, ((Below.refl _ _).alloc (Nat.le_refl _) _).trans (below_row (hb.mono (by simp)) (Nat.le_refl _))⟩
  · have hz := run_row_int op (by omega) (by omega)
    revert hz
    generalize opRow op = r
    intro hz
    go_enter Try.func69, Try.ntmps69
    go_wp2_with (first | (go_at_call 82; refine (table_calls _).mono ?_; rintro e w1 ⟨rfl, hb⟩; have hbox := (hb.block w.heap.size (by simp)).trans (heap_alloc_new w _)) | (refine wpList_store_row rfl _ _ _ rfl w.heap.size (rowV r).toArray rfl rfl _ _ hbox info_r rfl (rowV_one r) ?_))
    exact bodyPost_ret (results_cell_row rfl _ _ w.heap.size _ (rowV r).toArray _ _ rfl (setRow_heap _ _ _ _ _ _ hbox) Try.underlying126 rfl info_r) rfl
      ⟨rfl, ((Below.refl _ _).alloc (Nat.le_refl _) _).trans (below_row (hb.mono (by simp)) (Nat.le_refl _))⟩


theorem at_calls' (op : Int) (r : ByteArray × Int × ByteArray × ByteArray × Int) (hr : opRow op = r) (w : World) : Calls Try.prog 69 #[.int .i64 op] w fun e w' =>
    e = .returned (.agg #[.string r.1, .int .i64 r.2.1, .string r.2.2.1, .string r.2.2.2.1, .int .i64 r.2.2.2.2]) ∧ Below w.heap.size w w' := by
  subst hr; exact at_calls op w
end Go.Proofs.Ytnapbjfmkofhcaa.OpA
