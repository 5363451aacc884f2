/- Words: what slices, values, instructions, functions and scripts read as; no walk. -/
import Derived.Test.YtnapbjfmkofhcaaProg
import Derived.WalkKit
import Derived.Handy
import Derived.Below
import Derived.Laws.NewBlocks
import Derived.Deep.Onto
import Derived.OneCell
import Derived.WalkLawsBesides
import Derived.KernelRfl
import Derived.Laws.Rows
import Derived.Laws.Tables
import Derived.Deep.RegionWith
import Derived.Deep.RegionHeld3
import Derived.Deep.QuietTactic
import Derived.BigQuiet
import Derived.BigRegion
import Derived.Deep.LoopGhost
import Derived.Deep.DeepCutAuto
import Derived.Deep.CutBlock
import Derived.Deep.Light
import Derived.Deep.DeepFit
import Derived.Lib.Hide
namespace Go.Proofs.Ytnapbjfmkofhcaa.Wd
set_option linter.unusedVariables false
set_option linter.unusedSimpArgs false
open Go.RowKit

/-- The slice at address a reads as xs, each element in m cells. -/
def Rd {α : Type} (enc : α → List Value) (m : Nat) (w : World) (a : Option Addr) (xs : List α) : Prop :=
  xs = [] ∨ ∃ b o, a = some ⟨b, o, none⟩ ∧ ∀ i x, xs[i]? = some x → ∀ j v, (enc x)[j]? = some v → w.cell? ⟨b, o + i * m + j, none⟩ = some v

theorem Rd.nil {α : Type} (enc : α → List Value) (m : Nat) (w : World) (a : Option Addr) : Rd enc m w a [] := .inl rfl

/-- Behind a call that only makes memory: old cells, old marks, the heap's size. -/
theorem bcell {W w1 : World} (hb : Below W.heap.size W w1) : (∀ b o, b < W.heap.size → w1.cell? ⟨b, o, none⟩ = W.cell? ⟨b, o, none⟩) ∧ (∀ b o, b < W.heap.size → w1.frozen? ⟨b, o, none⟩ = W.frozen? ⟨b, o, none⟩) ∧ W.heap.size ≤ w1.heap.size :=
  ⟨fun b o h => hb.cell (p := ⟨b, o, none⟩) h, fun b o h => hb.frozen (p := ⟨b, o, none⟩) h, hb.size⟩

theorem below_drewN {B : Nat} {w W : World} (h : Below B w W) (n : Nat) : Below B w (W.drewN n) := ⟨h.os, h.tape, h.output, h.size, h.block⟩
theorem size_drewN (w : World) (n : Nat) : (w.drewN n).heap.size = w.heap.size := rfl
theorem below_thn {B B1 : Nat} {w W w1 : World} (k : Below B1 W w1) (h : Below B w W) (hB : B ≤ B1) : Below B w w1 := h.trans (k.mono hB)

theorem cell_lt {w : World} {a : Addr} {v : Value} (h : w.cell? a = some v) : a.block < w.heap.size := World.block_lt_of_cell? w a h

theorem Rd.below {α : Type} {enc : α → List Value} {m : Nat} {w w1 : World} {a : Option Addr} {xs : List α} {B : Nat} (h : Rd enc m w a xs) (hb : Below B w w1) (hB : w.heap.size ≤ B) : Rd enc m w1 a xs := by
  rcases h with h | ⟨b, o, ha, hc⟩
  · exact .inl h
  · exact .inr ⟨b, o, ha, fun i x hi j v hv => by
      have h1 := hc i x hi j v hv
      rw [hb.cell (Nat.lt_of_lt_of_le (cell_lt h1) hB)]; exact h1⟩

theorem Rd.at {α : Type} {enc : α → List Value} {m : Nat} {w : World} {a : Option Addr} {xs : List α} (h : Rd enc m w a xs) (hn : 0 < xs.length) :
    ∃ b o, a = some ⟨b, o, none⟩ ∧ ∀ i x, xs[i]? = some x → ∀ j v, (enc x)[j]? = some v → w.cell? ⟨b, o + i * m + j, none⟩ = some v := by
  rcases h with h | h
  · subst h; simp at hn
  · exact h

/-- A value of a script. -/
structure V where
  t : Int
  n : Int
  s : ByteArray
def encV (v : V) : List Value := [.int .i64 v.t, .int .i64 v.n, .string v.s]
def aggV (v : V) : Value := .agg #[.int .i64 v.t, .int .i64 v.n, .string v.s]
def encI (n : Int) : List Value := [.int .i64 n]
def encS (s : ByteArray) : List Value := [.string s]
/-- An instruction. -/
structure I where
  op : Int
  a : Int
def encX (x : I) : List Value := [.int .i64 x.op, .int .i64 x.a]

theorem Rd.vals {w : World} {a : Option Addr} {xs : List V} (h : Rd encV 3 w a xs) (hn : 0 < xs.length) : ∃ b o, a = some ⟨b, o, none⟩ ∧
    ∀ i (hi : i < xs.length), w.cell? ⟨b, o + i * 3, none⟩ = some (.int .i64 xs[i].t) ∧ w.cell? ⟨b, o + i * 3 + 1, none⟩ = some (.int .i64 xs[i].n) ∧ w.cell? ⟨b, o + i * 3 + 2, none⟩ = some (.string xs[i].s) := by
  obtain ⟨b, o, ha, hc⟩ := h.at hn
  exact ⟨b, o, ha, fun i hi => ⟨hc i _ (List.getElem?_eq_getElem hi) 0 _ rfl, hc i _ (List.getElem?_eq_getElem hi) 1 _ rfl, hc i _ (List.getElem?_eq_getElem hi) 2 _ rfl⟩⟩

theorem Rd.ints {w : World} {a : Option Addr} {xs : List Int} (h : Rd encI 1 w a xs) (hn : 0 < xs.length) : ∃ b o, a = some ⟨b, o, none⟩ ∧
    ∀ i (hi : i < xs.length), w.cell? ⟨b, o + i, none⟩ = some (.int .i64 xs[i]) := by
  obtain ⟨b, o, ha, hc⟩ := h.at hn
  exact ⟨b, o, ha, fun i hi => by have := hc i _ (List.getElem?_eq_getElem hi) 0 _ rfl; simpa using this⟩

theorem Rd.strs {w : World} {a : Option Addr} {xs : List ByteArray} (h : Rd encS 1 w a xs) (hn : 0 < xs.length) : ∃ b o, a = some ⟨b, o, none⟩ ∧
    ∀ i (hi : i < xs.length), w.cell? ⟨b, o + i, none⟩ = some (.string xs[i]) := by
  obtain ⟨b, o, ha, hc⟩ := h.at hn
  exact ⟨b, o, ha, fun i hi => by have := hc i _ (List.getElem?_eq_getElem hi) 0 _ rfl; simpa using this⟩

theorem Rd.instrs {w : World} {a : Option Addr} {xs : List I} (h : Rd encX 2 w a xs) (hn : 0 < xs.length) : ∃ b o, a = some ⟨b, o, none⟩ ∧
    ∀ i (hi : i < xs.length), w.cell? ⟨b, o + i * 2, none⟩ = some (.int .i64 xs[i].op) ∧ w.cell? ⟨b, o + i * 2 + 1, none⟩ = some (.int .i64 xs[i].a) := by
  obtain ⟨b, o, ha, hc⟩ := h.at hn
  exact ⟨b, o, ha, fun i hi => ⟨hc i _ (List.getElem?_eq_getElem hi) 0 _ rfl, hc i _ (List.getElem?_eq_getElem hi) 1 _ rfl⟩⟩

/-- May a value be? -/
def V.ok (v : V) : Bool := if v.t = 1 then v.s.toList.isEmpty else if v.t = 2 then v.n == 0 && decide (v.s.size ≤ 256) else if v.t = 3 then (v.n == 0 || v.n == 1) && v.s.toList.isEmpty else false
/-- Are they of these types? -/
def fits (xs : List V) (ts : List Int) : Bool := xs.length == ts.length && xs.all V.ok && (xs.map (·.t)) == ts

/-- The cells of xs, one behind the other. -/
def flat {α : Type} (enc : α → List Value) (xs : List α) : List Value := xs.flatMap enc
theorem flat_nil {α : Type} (enc : α → List Value) : flat enc [] = [] := rfl
theorem flat_append {α : Type} (enc : α → List Value) (xs ys : List α) : flat enc (xs ++ ys) = flat enc xs ++ flat enc ys := by simp [flat]
theorem flat_length {α : Type} {enc : α → List Value} {m : Nat} (he : ∀ x, (enc x).length = m) (xs : List α) : (flat enc xs).length = xs.length * m := by
  induction xs with
  | nil => simp [flat]
  | cons x xs ih => simp only [flat, List.flatMap_cons, List.length_append, he, List.length_cons] at ih ⊢; rw [ih, Nat.succ_mul]; omega
theorem flat_get {α : Type} {enc : α → List Value} {m : Nat} (he : ∀ x, (enc x).length = m) : ∀ (xs : List α) (i : Nat) (x : α), xs[i]? = some x → ∀ (j : Nat) (v : Value), (enc x)[j]? = some v → (flat enc xs)[i * m + j]? = some v := by
  intro xs
  induction xs with
  | nil => intro i x h; simp at h
  | cons y xs ih =>
    intro i x h j v hv
    simp only [flat, List.flatMap_cons] at ih ⊢
    cases i with
    | zero =>
      simp at h; subst h
      have hj := (List.getElem?_eq_some_iff.1 hv).1
      rw [List.getElem?_append_left (by omega)]; simpa using hv
    | succ i =>
      have := ih i x (by simpa using h) j v hv
      rw [List.getElem?_append_right (by rw [he, Nat.succ_mul]; omega), he]
      rwa [show (i + 1) * m + j - m = i * m + j by rw [Nat.succ_mul]; omega]

/-- The cells of the slice at a are just these; its block is from base on. -/
def At (w : World) (a : Option Addr) (cs : List Value) : Prop := cs = [] ∨ ∃ b o, a = some ⟨b, o, none⟩ ∧ ∀ j v, cs[j]? = some v → w.cell? ⟨b, o + j, none⟩ = some v

theorem rd_at {α : Type} {enc : α → List Value} {m : Nat} (hm : 0 < m) (he : ∀ x, (enc x).length = m) {w : World} {a : Option Addr} {xs : List α} : Rd enc m w a xs ↔ At w a (flat enc xs) := by
  constructor
  · rintro (h | ⟨b, o, ha, hc⟩)
    · exact .inl (by subst h; rfl)
    · refine .inr ⟨b, o, ha, fun j v hj => ?_⟩
      have hl : j < (flat enc xs).length := (List.getElem?_eq_some_iff.1 hj).1
      rw [flat_length he] at hl
      have hi : j / m < xs.length := (Nat.div_lt_iff_lt_mul hm).2 hl
      have hr : j % m < m := Nat.mod_lt _ hm
      have hx : xs[j / m]? = some xs[j / m] := List.getElem?_eq_getElem hi
      have hv : (enc xs[j / m])[j % m]? = some ((enc xs[j / m])[j % m]'(by rw [he]; exact hr)) := List.getElem?_eq_getElem _
      have h1 := flat_get he xs (j / m) _ hx (j % m) _ hv
      have h2 := hc (j / m) _ hx (j % m) _ hv
      have hj' : j / m * m + j % m = j := by rw [Nat.mul_comm]; exact Nat.div_add_mod j m
      rw [hj'] at h1
      rw [h1] at hj
      rw [Nat.add_assoc, hj'] at h2
      rw [h2, ← hj]
  · rintro (h | ⟨b, o, ha, hc⟩)
    · left
      have := congrArg List.length h
      rw [flat_length he] at this
      have h0 : xs.length = 0 := by
        rcases Nat.mul_eq_zero.1 (by simpa using this : xs.length * m = 0) with h | h
        · exact h
        · omega
      exact List.eq_nil_of_length_eq_zero h0
    · exact .inr ⟨b, o, ha, fun i x hi j v hv => by rw [Nat.add_assoc]; exact hc _ _ (flat_get he xs i x hi j v hv)⟩

theorem at_cells {w : World} {ad : Addr} {cs : List Value} (h : At w (some ad) cs) (o : Obj) : ∀ j u, cs[j]? = some u → (w.alloc o).cell? (ad.add j) = some u := by
  intro j u hj
  rcases h with h | ⟨b, of, ha, hc⟩
  · subst h; simp at hj
  · cases ha
    have h1 := hc j u hj
    have h2 : (⟨b, of, none⟩ : Addr).add j = ⟨b, of + j, none⟩ := by unfold Addr.add; split <;> simp_all
    rw [h2, World.cell?_alloc_past _ _ _ (cell_lt h1)]
    exact h1

theorem at_cells0 {w : World} {ad : Addr} {cs : List Value} (h : At w (some ad) cs) : ∀ j u, cs[j]? = some u → w.cell? (ad.add j) = some u := by
  intro j u hj
  rcases h with h | ⟨b, of, ha, hc⟩
  · subst h; simp at hj
  · cases ha
    have h2 : (⟨b, of, none⟩ : Addr).add j = ⟨b, of + j, none⟩ := by unfold Addr.add; split <;> simp_all
    rw [h2]; exact hc j u hj

theorem Rd.drop {α : Type} {enc : α → List Value} {m : Nat} (hm : 0 < m) {w : World} {A : Option Addr} {xs : List α} {c k : Nat} (h : Rd enc m w A xs) (hk : k ≤ xs.length) (hc : xs.length ≤ c) :
    Rd enc m w (if c = k then A else A.map (·.add (k * m))) (xs.drop k) := by
  by_cases hck : c = k
  · have : xs.drop k = [] := List.drop_eq_nil_of_le (by omega)
    rw [this]; exact Rd.nil _ _ _ _
  · rw [if_neg hck]
    rcases h with h | ⟨b, o, ha, hcell⟩
    · subst h; simp; exact Rd.nil _ _ _ _
    · refine .inr ⟨b, o + k * m, ?_, fun i x hi j v hv => ?_⟩
      · rw [ha]; simp only [Option.map_some]
        have : (⟨b, o, none⟩ : Addr).add (k * m) = ⟨b, o + k * m, none⟩ := by unfold Addr.add; split <;> simp_all
        rw [this]
      · rw [List.getElem?_drop] at hi
        have := hcell (k + i) x hi j v hv
        rwa [Nat.add_mul, ← Nat.add_assoc] at this

theorem Rd.take {α : Type} {enc : α → List Value} {m : Nat} {w : World} {A : Option Addr} {xs : List α} (k : Nat) (h : Rd enc m w A xs) : Rd enc m w A (xs.take k) := by
  rcases h with h | ⟨b, o, ha, hcell⟩
  · subst h; simp; exact Rd.nil _ _ _ _
  · refine .inr ⟨b, o, ha, fun i x hi j v hv => hcell i x ?_ j v hv⟩
    rw [List.getElem?_take] at hi
    split at hi
    · exact hi
    · cases hi

/-- 's[k:]'. -/
theorem cut_from {α : Type} {P : Program} {enc : α → List Value} {m : Nat} (hm : 0 < m) (t e : TypeId) {i : TypeInfo} (ht : P.underlying t = some (.slice e)) (hi : P.info? e = some i) (hsz : i.size = m) (A : Option Addr) (xs : List α) (c k : Nat) (z : Int) (hz : z = (k : Int)) (hk : k ≤ xs.length) (hc : xs.length ≤ c)
    (hA : A = none → xs = [] ∧ c = 0) (q : Nat) (hq : q = (xs.drop k).length) :
    ∃ (A' : Option Addr) (c' : Nat), (∀ W : World, (Instr.slice t (.slice A xs.length c) (some (.int .i64 z)) none none).run P W = .ok (.slice A' q c') W) ∧ (A' = none → xs.drop k = [] ∧ c' = 0) ∧ q ≤ c' ∧
      ∀ (w : World), Rd enc m w A xs → Rd enc m w A' (xs.drop k) := by
  subst hz
  subst hq
  refine ⟨if c = k then A else A.map (·.add (k * m)), c - k, fun W => ?_, fun h => ?_, by rw [List.length_drop]; omega, fun w h => h.drop hm hk hc⟩
  · have hel : P.elem t = e := by simp [Program.elem, ht]
    have hu : P.underlying t = some (.slice (P.elem t)) := by rw [hel]; exact ht
    rw [run_slice_l W t A xs.length c hu .i64 (k : Int) (Int.natCast_nonneg _) (by omega), hel]
    simp [sizeOf, typeInfo, hi, hsz, sliced, Result.andThen]
  · have : A = none := by
      split at h
      · exact h
      · simpa using h
    obtain ⟨rfl, rfl⟩ := hA this
    exact ⟨by simp, by omega⟩

/-- What a call owns reads so. -/
theorem own_at {w : World} {base n size : Nat} {e : TypeId} {v : Value} {cs : List Value} (h : w.ownsRow base e size v n cs) : ∃ a c, v = .slice a n c ∧ n ≤ c ∧ At w a cs ∧ ∀ b, a = some b → base ≤ b.block ∧ b.block < w.heap.size := by
  obtain ⟨hl, h | ⟨g, cap, cur, rfl, hb, hg, hn, hm, hs, ht⟩⟩ := h
  · obtain ⟨rfl, rfl⟩ := h
    exact ⟨none, 0, rfl, Nat.le_refl _, .inl (List.eq_nil_of_length_eq_zero (by simpa using hl)), fun b hb => by cases hb⟩
  · refine ⟨some ⟨g, 0, none⟩, cap, rfl, hn, ?_, fun b hb' => by cases hb'; exact ⟨hb, (Array.getElem?_eq_some_iff.1 hg).1⟩⟩
    refine .inr ⟨g, 0, rfl, fun j u hj => ?_⟩
    rw [cell_of_row w g (0 + j) cur e (0, 0) hg]
    rw [← ht] at hj
    rw [List.getElem?_take] at hj
    split at hj
    · simpa using hj
    · cases hj

theorem own_rd {α : Type} {enc : α → List Value} {w : World} {base size : Nat} {e : TypeId} {v : Value} {xs : List α} (hm : 0 < size) (he : ∀ x, (enc x).length = size) (h : w.ownsRow base e size v xs.length (flat enc xs)) :
    ∃ a c, v = .slice a xs.length c ∧ xs.length ≤ c ∧ Rd enc size w a xs ∧ ∀ b, a = some b → base ≤ b.block ∧ b.block < w.heap.size := by
  obtain ⟨a, c, rfl, hc, hat, hb⟩ := own_at h
  exact ⟨a, c, rfl, hc, (rd_at hm he).2 hat, hb⟩

/-! A block known whole. -/
abbrev Blk (w : World) (g : Nat) (cs : Array Value) (t : TypeId) : Prop := w.heap[g]? = some (.cells cs t (0, 0))
theorem blk_lt {w : World} {g : Nat} {o : Obj} (h : w.heap[g]? = some o) : g < w.heap.size := (Array.getElem?_eq_some_iff.1 h).1
theorem blk_cell {w : World} {g : Nat} {t : TypeId} {cs : Array Value} (h : w.heap[g]? = some (.cells cs t (0, 0))) (i : Nat) : w.cell? ⟨g, i, none⟩ = cs[i]? := cell_of_row w g i cs t (0, 0) h
theorem blk_frozen {w : World} {g : Nat} {t : TypeId} {cs : Array Value} (h : w.heap[g]? = some (.cells cs t (0, 0))) (i : Nat) : w.frozen? ⟨g, i, none⟩ = false := by simp [World.frozen?, h]
theorem blk_set {w : World} {g : Nat} {t : TypeId} {cs : Array Value} (h : w.heap[g]? = some (.cells cs t (0, 0))) (i : Nat) (u : Value) : (w.setCell ⟨g, i, none⟩ u).heap[g]? = some (.cells (cs.setIfInBounds i u) t (0, 0)) := by
  simp [World.setCell, Array.getElem?_modify, h]
theorem blk_far {w : World} {g : Nat} {o : Obj} (h : w.heap[g]? = some o) {p : Addr} (hp : g ≠ p.block) (u : Value) : (w.setCell p u).heap[g]? = some o := (Below.heap_setCell w p u g hp).trans h
theorem blk_below {w w1 : World} {g : Nat} {o : Obj} {B : Nat} (h : w.heap[g]? = some o) (hb : Below B w w1) (hB : w.heap.size ≤ B) : w1.heap[g]? = some o := (hb.block g (Nat.lt_of_lt_of_le (blk_lt h) hB)).trans h
theorem blk_alloc {w : World} {g : Nat} {o : Obj} (h : w.heap[g]? = some o) (o' : Obj) : (w.alloc o').heap[g]? = some o := (Below.heap_alloc w o' g (blk_lt h)).trans h
theorem blk_new (w : World) (o : Obj) : (w.alloc o).heap[w.heap.size]? = some o := heap_alloc_new w o

/-- w1 is w but for block g and new blocks. -/
theorem grown_below {w w1 : World} {row : Option Nat} (h : Below w.heap.size w w1) : w.grownBy w1 row := ⟨h.os, h.tape, h.output, h.size, fun k hk _ => h.block k hk⟩
theorem grown_set {w w1 : World} {g : Nat} (h : w.grownBy w1 (some g)) (i : Nat) (u : Value) : w.grownBy (w1.setCell ⟨g, i, none⟩ u) (some g) :=
  ⟨h.os, h.tape, h.output, by simpa [World.setCell] using h.size, fun k hk hne => (Below.heap_setCell w1 ⟨g, i, none⟩ u k (fun e => hne (by rw [e]))).trans (h.block k hk hne)⟩
theorem grown_refl (w : World) (row : Option Nat) : w.grownBy w row := ⟨rfl, rfl, rfl, Nat.le_refl _, fun _ _ _ => rfl⟩
theorem grown_then {w w1 w2 : World} {row : Option Nat} (h : w.grownBy w1 row) (k : Below w1.heap.size w1 w2) : w.grownBy w2 row :=
  ⟨k.os.trans h.os, k.tape.trans h.tape, k.output.trans h.output, Nat.le_trans h.size k.size, fun i hi hne => (k.block i (Nat.lt_of_lt_of_le hi h.size)).trans (h.block i hi hne)⟩
theorem grown_trans {w w1 w2 : World} {row : Option Nat} (h : w.grownBy w1 row) (k : w1.grownBy w2 row) : w.grownBy w2 row :=
  ⟨k.os.trans h.os, k.tape.trans h.tape, k.output.trans h.output, Nat.le_trans h.size k.size, fun i hi hne => (k.block i (Nat.lt_of_lt_of_le hi h.size) hne).trans (h.block i hi hne)⟩

theorem own_rdS {α : Type} {enc : α → List Value} {w : World} {base size n : Nat} {e : TypeId} {a : Option Addr} {c : Nat} {xs : List α} (hm : 0 < size) (he : ∀ x, (enc x).length = size) (h : w.ownsRow base e size (.slice a n c) n (flat enc xs)) :
    n ≤ c ∧ Rd enc size w a xs ∧ (a = none → n = 0 ∧ c = 0) ∧ ∀ b, a = some b → base ≤ b.block ∧ b.block < w.heap.size := by
  obtain ⟨a', c', hv, hc, hat, hb⟩ := own_at h
  cases hv
  refine ⟨hc, (rd_at hm he).2 hat, fun ha => ?_, hb⟩
  subst ha
  rcases h.2 with ⟨hv, hn⟩ | ⟨g, cap, cur, hv, _⟩
  · cases hv; exact ⟨rfl, rfl⟩
  · cases hv

theorem own_new {w : World} {e : TypeId} {size : Nat} {cs : Array Value} {n g base : Nat} {l : List Value} (hl : l = cs.toList) (hg : g = w.heap.size) (hb : base ≤ g) (hm : n ≤ maxLen) (hs : cs.size = n * size) :
    (w.alloc (.cells cs e)).ownsRow base e size (.slice (some ⟨g, 0, none⟩) n n) n l := by
  subst hl; subst hg; exact World.ownsRow_lit w cs n hb hm hs

/-- The greatest number of bytes of a slice that is appended to. -/
def lim47 : Nat := 140737488355328

/-- A call hands back a slice of its own. -/
def Owned (T : TypeId) (size n : Nat) (cs : List Value) (w : World) (e : Ending) (w' : World) : Prop :=
  ∃ a c, e = .returned (.slice a n c) ∧ w'.ownsRow w.heap.size T size (.slice a n c) n cs ∧ Below w.heap.size w w'
theorem owned_of {T : TypeId} {size n : Nat} {cs : List Value} {w w' : World} {e : Ending} {v : Value} (he : e = .returned v) (h : w'.ownsRow w.heap.size T size v n cs) (hb : Below w.heap.size w w') : Owned T size n cs w e w' := by
  obtain ⟨a, c, rfl, _⟩ := own_at h
  exact ⟨a, c, he, h, hb⟩

theorem encV_len (x : V) : (encV x).length = 3 := rfl
theorem encI_len (x : Int) : (encI x).length = 1 := rfl
theorem encS_len (x : ByteArray) : (encS x).length = 1 := rfl
theorem encX_len (x : I) : (encX x).length = 2 := rfl
theorem one_flat {α : Type} {enc : α → List Value} (h : ∀ x, ∀ u ∈ enc x, u.oneCell' = true) (xs : List α) : ∀ u ∈ flat enc xs, u.oneCell' = true := by
  intro u hu
  obtain ⟨x, _, hx⟩ := List.mem_flatMap.1 hu
  exact h x u hx
theorem one_V (x : V) : ∀ u ∈ encV x, u.oneCell' = true := by intro u hu; simp [encV] at hu; rcases hu with rfl | rfl | rfl <;> rfl
theorem one_I (x : Int) : ∀ u ∈ encI x, u.oneCell' = true := by intro u hu; simp [encI] at hu; subst hu; rfl
theorem one_S (x : ByteArray) : ∀ u ∈ encS x, u.oneCell' = true := by intro u hu; simp [encS] at hu; subst hu; rfl
theorem one_X (x : I) : ∀ u ∈ encX x, u.oneCell' = true := by intro u hu; simp [encX] at hu; rcases hu with rfl | rfl <;> rfl
/-- The value v is a slice that reads as xs; a nil one is empty. -/
def Sv {α : Type} (enc : α → List Value) (m : Nat) (w : World) (v : Value) (xs : List α) : Prop :=
  ∃ a c, v = .slice a xs.length c ∧ xs.length ≤ c ∧ Rd enc m w a xs ∧ (a = none → xs = [] ∧ c = 0)

theorem Sv.below {α : Type} {enc : α → List Value} {m : Nat} {w w1 : World} {v : Value} {xs : List α} {B : Nat} (h : Sv enc m w v xs) (hb : Below B w w1) (hB : w.heap.size ≤ B) : Sv enc m w1 v xs :=
  let ⟨a, c, e, l, r, n⟩ := h; ⟨a, c, e, l, r.below hb hB, n⟩

/-- A function; a script. -/
structure Fn where
  ps : List Int
  rs : List Int
  ls : List Int
  code : List I
structure Sc where
  consts : List ByteArray
  funcs : List Fn
/-- Four slices that are a function. -/
def FnV (w : World) (v1 v2 v3 v4 : Value) (f : Fn) : Prop := Sv encI 1 w v1 f.ps ∧ Sv encI 1 w v2 f.rs ∧ Sv encI 1 w v3 f.ls ∧ Sv encX 2 w v4 f.code
theorem FnV.below {w w1 : World} {v1 v2 v3 v4 : Value} {f : Fn} {B : Nat} (h : FnV w v1 v2 v3 v4 f) (hb : Below B w w1) (hB : w.heap.size ≤ B) : FnV w1 v1 v2 v3 v4 f :=
  ⟨h.1.below hb hB, h.2.1.below hb hB, h.2.2.1.below hb hB, h.2.2.2.below hb hB⟩
/-- The slice at a holds functions. -/
def FnsAt (w : World) (a : Option Addr) (fs : List Fn) : Prop :=
  fs = [] ∨ ∃ b o, a = some ⟨b, o, none⟩ ∧ ∀ i f, fs[i]? = some f → ∃ v1 v2 v3 v4, w.cell? ⟨b, o + i * 4, none⟩ = some v1 ∧ w.cell? ⟨b, o + i * 4 + 1, none⟩ = some v2 ∧ w.cell? ⟨b, o + i * 4 + 2, none⟩ = some v3 ∧ w.cell? ⟨b, o + i * 4 + 3, none⟩ = some v4 ∧ FnV w v1 v2 v3 v4 f
theorem FnsAt.below {w w1 : World} {a : Option Addr} {fs : List Fn} {B : Nat} (h : FnsAt w a fs) (hb : Below B w w1) (hB : w.heap.size ≤ B) : FnsAt w1 a fs := by
  rcases h with h | ⟨b, o, ha, hc⟩
  · exact .inl h
  · refine .inr ⟨b, o, ha, fun i f hf => ?_⟩
    obtain ⟨v1, v2, v3, v4, h1, h2, h3, h4, hv⟩ := hc i f hf
    have go : ∀ (p : Addr) (v : Value), w.cell? p = some v → w1.cell? p = some v := fun p v h => by rw [hb.cell (Nat.lt_of_lt_of_le (cell_lt h) hB)]; exact h
    exact ⟨v1, v2, v3, v4, go _ _ h1, go _ _ h2, go _ _ h3, go _ _ h4, hv.below hb hB⟩
/-- The two slices of a script. -/
def ScV (w : World) (v1 v2 : Value) (s : Sc) : Prop :=
  Sv encS 1 w v1 s.consts ∧ ∃ a c, v2 = .slice a s.funcs.length c ∧ s.funcs.length ≤ c ∧ FnsAt w a s.funcs
theorem ScV.below {w w1 : World} {v1 v2 : Value} {s : Sc} {B : Nat} (h : ScV w v1 v2 s) (hb : Below B w w1) (hB : w.heap.size ≤ B) : ScV w1 v1 v2 s :=
  ⟨h.1.below hb hB, let ⟨a, c, e, l, f⟩ := h.2; ⟨a, c, e, l, f.below hb hB⟩⟩
end Go.Proofs.Ytnapbjfmkofhcaa.Wd
