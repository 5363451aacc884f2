/- The run of the code of one plain operation. -/
import Derived.Test.YtnapbjfmkofhcaaJob
import Derived.Test.YtnapbjfmkofhcaaLawB
namespace Go.Proofs.Ytnapbjfmkofhcaa.Job
set_option linter.unusedVariables false
set_option linter.unusedSimpArgs false
open Go.RowKit Wd Sl Beg OpA OpB OpD OpE Does Shp All Law Sto Step

set_option maxHeartbeats 2000000 in
set_option maxRecDepth 100000 in
theorem run_job {n : Int} {s : ByteArray} (hp : plainB n = true) (h34 : n ≠ 34) (hs : s.size ≤ 256) (a b : Int) (g1 g2 : Nat) (ao : Option Addr) (co b4 o4 vc1 k : Nat) (hk : (pushI (inOf n) a b ++ [(⟨n, 0⟩ : I)]).length = k + 1) (t : Value) (W : World) (h1 : Blk W g1 #[.string s] 9)
    (h2 : Blk W g2 #[.slice none 0 0, .slice ao (typesOf (opRow n).2.2.2.1).length co, .slice none 0 0, .slice (some ⟨b4, o4, none⟩) (k + 1) vc1] 28) (hX : Sv encX 2 W (.slice (some ⟨b4, o4, none⟩) (k + 1) vc1) (pushI (inOf n) a b ++ [⟨n, 0⟩])) (hI : Sv encI 1 W (.slice ao (typesOf (opRow n).2.2.2.1).length co) (typesOf (opRow n).2.2.2.1)) (ht : IsTx W t)
    (r : List V × Int × Int) (hr : r = exec [s] (pushI (inOf n) a b ++ [⟨n, 0⟩]) [] 0) :
    Calls Try.prog 8 #[.agg #[.slice (some ⟨g1, 0, none⟩) 1 1, .slice (some ⟨g2, 0, none⟩) 1 1], .slice none 0 0, t, .int .i64 100] W (Run.RunPost r W) := by
  have hT := table n hp
  have c0 : W.cell? ⟨g2, 0, none⟩ = some (.slice none 0 0) := blk_cell h2 0
  have c1 : W.cell? ⟨g2, 0 + 1, none⟩ = some (.slice ao (typesOf (opRow n).2.2.2.1).length co) := blk_cell h2 1
  have c2 : W.cell? ⟨g2, 0 + 2, none⟩ = some (.slice none 0 0) := blk_cell h2 2
  have c3 : W.cell? ⟨g2, 0 + 3, none⟩ = some (.slice (some ⟨b4, o4, none⟩) (pushI (inOf n) a b ++ [(⟨n, 0⟩ : I)]).length vc1) := by rw [hk]; exact blk_cell h2 3
  have hX' : Sv encX 2 W (.slice (some ⟨b4, o4, none⟩) (pushI (inOf n) a b ++ [(⟨n, 0⟩ : I)]).length vc1) (pushI (inOf n) a b ++ [⟨n, 0⟩]) := by rw [hk]; exact hX
  have hl1 : (pushI (inOf n) a b ++ [(⟨n, 0⟩ : I)]).length ≤ 256 := by rw [List.length_append, pushI_len]; simp; omega
  have hl2 : (typesOf (opRow n).2.2.2.1).length ≤ 1000 := by omega
  have hca : ∀ b' : Addr, some (⟨g1, 0, none⟩ : Addr) = some b' → b'.block < W.heap.size := fun b' hb => by cases hb; exact blk_lt h1
  have hrt := right_law s hs n a b hp
  have hgd := good_law s hs n a b hp h34
  have hsm := simple_law n a b hp
  have hCs : Rd encS 1 W (some ⟨g1, 0, none⟩) [s] := by
    refine .inr ⟨_, _, rfl, fun i x hi j v hj => ?_⟩
    rw [blk_cell h1]
    match i, hi with
    | 0, hi => simp at hi; subst hi; match j, hj with
      | 0, hj => simpa [encS] using hj
      | j + 1, hj => simp [encS] at hj
    | i + 1, hi => simp at hi
  have hft : r.2.2 = 0 → fits r.1 (typesOf (opRow n).2.2.2.1) = true := by
    intro h
    rw [hr, exec_law s hs n a b hp] at h ⊢
    by_cases h0 : (applyR n (pushV s (inOf n) a b)).2 = 0
    · rw [if_pos h0]; exact fit_law s hs n a b hp h34 h0
    · rw [if_neg h0] at h; exact absurd h h0
  have hpos : 0 < (pushI (inOf n) a b ++ [(⟨n, 0⟩ : I)]).length := by rw [hk]; omega
  have hex := hr.symm
  have h100 : ∀ x ∈ [s], x.size ≤ 1000 := fun x hx => by simp at hx; subst hx; omega
  generalize pushI (inOf n) a b ++ [(⟨n, 0⟩ : I)] = xs at *
  exact Run.run_calls (some ⟨g1, 0, none⟩) 1 [s] g2 0 1 ao co (typesOf (opRow n).2.2.2.1) b4 o4 vc1 xs t 100 W hCs hca (by simp) h100
    c0 c1 c2 c3 hI hX' hpos hl1 hl2 hsm ht (by decide) (by decide) hrt r hex hgd hft
end Go.Proofs.Ytnapbjfmkofhcaa.Job
