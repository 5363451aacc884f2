/- op.Apply: every plain operation but cut, of values that fit. -/
import Derived.Test.YtnapbjfmkofhcaaOpI
namespace Go.Proofs.Ytnapbjfmkofhcaa.App
set_option linter.unusedVariables false
set_option linter.unusedSimpArgs false
open Go.RowKit Wd OpA OpB OpD OpE

theorem in_pos (op : Int) (h0 : 11 ≤ op) (h1 : op ≤ 40) : 0 < (inOf op).length := by
  unfold inOf
  rw [typesOf_length]
  unfold opRow
  rw [if_pos (by omega)]
  have key : ∀ n : Nat, n < 41 → 11 ≤ n → 0 < (rows.getD n (⟨#[]⟩, 0, ⟨#[]⟩, ⟨#[]⟩, 0)).2.2.1.size := by decide +kernel
  exact key _ (by omega) (by omega)
theorem in_none (op : Int) (h : op = 3 ∨ op = 4) : inOf op = [] := by rcases h with rfl | rfl <;> decide +kernel

theorem apply_calls (op : Int) (hp : plainB op = true) (h34 : op ≠ 34) (l : List V) (A : Option Addr) (c : Nat) (w : World) (hx : Rd encV 3 w A l) (hf : fits l (inOf op) = true) :
    Calls Try.prog 79 #[.int .i64 op, .slice A l.length c] w (ApplyPost (applyR op l) w) := by
  have hlen : l.length = (inOf op).length := by unfold fits at hf; simp only [Bool.and_eq_true, beq_iff_eq] at hf; exact hf.1.1
  have hp' : op = 3 ∨ op = 4 ∨ (11 ≤ op ∧ op ≤ 40) := by unfold plainB at hp; simp at hp; omega
  have h3 := inOf_length op
  rcases Classical.em (op = 3 ∨ op = 4) with h | h
  · rw [in_none op h] at hlen
    have : l = [] := List.eq_nil_of_length_eq_zero (by simpa using hlen)
    subst this
    exact apply_calls34 op h A c w
  · have hpos := in_pos op (by omega) (by omega)
    rcases Classical.em (op ≤ 22) with h22 | h22
    · exact apply_num op (by omega) h22 l (by omega) (by omega) _ _ rfl rfl A c w hx hf
    · rcases Classical.em (op ≤ 28) with h28 | h28
      · exact apply_holds op (by omega) h28 l (by omega) (by omega) _ _ rfl rfl A c w hx hf
      · rcases Classical.em (op = 29) with rfl | h29
        · exact apply_29 l (by omega) (by omega) _ _ rfl rfl A c w hx hf
        · rcases Classical.em (op = 30) with rfl | h30
          · exact apply_30 l (by omega) (by omega) _ _ rfl rfl A c w hx hf
          · rcases Classical.em (op = 31) with rfl | h31
            · exact apply_31 l (by omega) (by omega) _ _ rfl rfl A c w hx hf
            · exact apply_text op (by omega) l (by omega) (by omega) _ _ rfl rfl A c w hx hf
end Go.Proofs.Ytnapbjfmkofhcaa.App
