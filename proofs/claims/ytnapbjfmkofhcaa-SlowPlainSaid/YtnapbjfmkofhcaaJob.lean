/- What holds while a run is made ready, whatever the order. -/
import Derived.Test.YtnapbjfmkofhcaaRegB
import Derived.Test.YtnapbjfmkofhcaaRun
namespace Go.Proofs.Ytnapbjfmkofhcaa.Job
set_option linter.unusedVariables false
set_option linter.unusedSimpArgs false
open Go.RowKit Wd Sl Beg Sto Reg

def OutV (r : List V × Int × Int) (w : World) (v : Value) : Prop :=
  ∃ a n c, v = .agg #[.slice a n c, .slice none 0 0, .int .i64 r.2.1, .int .i64 r.2.2] ∧ (r.2.2 = 0 → Sv encV 3 w (.slice a n c) r.1) ∧ (r.2.2 ≠ 0 → n = 0)

structure Facts (w6 : World) (s : ByteArray) (fo fc : Value) (r : List V × Int × Int) (L : Nat → Bool) (v91 v92 v93 v94 v95 v96 v97 v98 v13 : Value) (w : World) : Prop where
  f0 : L 0 = true → v91 = .string s
  f1 : L 1 = true → ∃ g, v92 = .slice (some ⟨g, 0, none⟩) 1 1 ∧ Blk w g #[.string s] 9
  f2 : L 2 = true → v93 = .agg #[.slice none 0 0, fo, .slice none 0 0, fc]
  f3 : L 3 = true → ∃ g, v94 = .slice (some ⟨g, 0, none⟩) 1 1 ∧ Blk w g #[.slice none 0 0, fo, .slice none 0 0, fc] 28
  f4 : L 4 = true → ∃ g1 g2, v95 = .agg #[.slice (some ⟨g1, 0, none⟩) 1 1, .slice (some ⟨g2, 0, none⟩) 1 1] ∧ Blk w g1 #[.string s] 9 ∧ Blk w g2 #[.slice none 0 0, fo, .slice none 0 0, fc] 28
  f5 : L 5 = true → IsStore w v96
  f6 : L 6 = true → IsTx w v97
  f7 : L 7 = true → OutV r w v98
  f8 : L 8 = true → ∃ g, v13 = .pointer (some ⟨g, 0, none⟩) ∧ w6.heap.size ≤ g ∧ Blk w g #[.slice none 0 0, .slice none 0 0, .int .i64 0, .int .i64 0] 37

theorem Facts.below {w6 : World} {s : ByteArray} {fo fc : Value} {r : List V × Int × Int} {L : Nat → Bool} {v91 v92 v93 v94 v95 v96 v97 v98 v13 : Value} {w w' : World} (h : Facts w6 s fo fc r L v91 v92 v93 v94 v95 v96 v97 v98 v13 w) (hb : Below w.heap.size w w') : Facts w6 s fo fc r L v91 v92 v93 v94 v95 v96 v97 v98 v13 w' where
  f0 := h.f0
  f1 := fun e => let ⟨g, e1, b1⟩ := h.f1 e; ⟨g, e1, blk_below b1 hb (Nat.le_refl _)⟩
  f2 := h.f2
  f3 := fun e => let ⟨g, e1, b1⟩ := h.f3 e; ⟨g, e1, blk_below b1 hb (Nat.le_refl _)⟩
  f4 := fun e => let ⟨g1, g2, e1, b1, b2⟩ := h.f4 e; ⟨g1, g2, e1, blk_below b1 hb (Nat.le_refl _), blk_below b2 hb (Nat.le_refl _)⟩
  f5 := fun e => (h.f5 e).below hb (Nat.le_refl _)
  f6 := fun e => (h.f6 e).below hb (Nat.le_refl _)
  f7 := fun e => let ⟨a, n, c, e1, h1, h2⟩ := h.f7 e; ⟨a, n, c, e1, fun e2 => (h1 e2).below hb (Nat.le_refl _), h2⟩
  f8 := fun e => let ⟨g, e1, hg, b1⟩ := h.f8 e; ⟨g, e1, hg, blk_below b1 hb (Nat.le_refl _)⟩

def Done (w6 : World) (r : List V × Int × Int) (v13 : Value) (w : World) : Prop :=
  ∃ g a n c, v13 = .pointer (some ⟨g, 0, none⟩) ∧ w6.heap.size ≤ g ∧ Blk w g #[.slice a n c, .slice none 0 0, .int .i64 r.2.1, .int .i64 r.2.2] 37 ∧ (r.2.2 = 0 → Sv encV 3 w (.slice a n c) r.1) ∧ (r.2.2 ≠ 0 → n = 0)

def JJ (w6 : World) (s : ByteArray) (fo fc : Value) (r : List V × Int × Int) (a0 : Act) (L : Nat → Bool) (a : Act) (w : World) : Prop :=
  ∃ v91 v92 v93 v94 v95 v96 v97 v98 v13, a = puts a0 [(91, v91), (92, v92), (93, v93), (94, v94), (95, v95), (96, v96), (97, v97), (98, v98), (13, v13)] ∧ Below w6.heap.size w6 w ∧ (L 9 = true → ∀ i, i < 9 → L i = true) ∧
    (L 9 = false → Facts w6 s fo fc r L v91 v92 v93 v94 v95 v96 v97 v98 v13 w) ∧ (L 9 = true → Done w6 r v13 w)

/-- An operation but the last. -/
theorem JJ.early {w6 : World} {s : ByteArray} {fo fc : Value} {r : List V × Int × Int} {a0 : Act} {L : Nat → Bool} {a : Act} {w : World} (h : JJ w6 s fo fc r a0 L a w) {i : Nat} (hi : i < 9) (hL : L i = false) :
    L 9 = false ∧ ∃ v91 v92 v93 v94 v95 v96 v97 v98 v13, a = puts a0 [(91, v91), (92, v92), (93, v93), (94, v94), (95, v95), (96, v96), (97, v97), (98, v98), (13, v13)] ∧ Below w6.heap.size w6 w ∧ Facts w6 s fo fc r L v91 v92 v93 v94 v95 v96 v97 v98 v13 w := by
  obtain ⟨v91, v92, v93, v94, v95, v96, v97, v98, v13, ha, hB, h9, hF, _⟩ := h
  have h0 : L 9 = false := by
    cases h : L 9
    · rfl
    · have := h9 h i hi; rw [hL] at this; cases this
  exact ⟨h0, v91, v92, v93, v94, v95, v96, v97, v98, v13, ha, hB, hF h0⟩

/-- Behind an operation but the last. -/
theorem JJ.on {w6 : World} {s : ByteArray} {fo fc : Value} {r : List V × Int × Int} {a0 : Act} {L L' : Nat → Bool} {a : Act} {w : World} (h9 : L 9 = false) (hL : L' 9 = L 9) (v91 v92 v93 v94 v95 v96 v97 v98 v13 : Value) (ha : a = puts a0 [(91, v91), (92, v92), (93, v93), (94, v94), (95, v95), (96, v96), (97, v97), (98, v98), (13, v13)]) (hB : Below w6.heap.size w6 w)
    (hF : Facts w6 s fo fc r L' v91 v92 v93 v94 v95 v96 v97 v98 v13 w) : JJ w6 s fo fc r a0 L' a w :=
  ⟨v91, v92, v93, v94, v95, v96, v97, v98, v13, ha, hB, fun h => (by rw [hL, h9] at h; cases h), fun _ => hF, fun h => (by rw [hL, h9] at h; cases h)⟩
end Go.Proofs.Ytnapbjfmkofhcaa.Job
