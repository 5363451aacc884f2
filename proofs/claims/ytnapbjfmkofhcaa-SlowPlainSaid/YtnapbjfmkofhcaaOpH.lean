/- op.Apply: its contract. -/
import Derived.Test.YtnapbjfmkofhcaaOpG
namespace Go.Proofs.Ytnapbjfmkofhcaa.OpE
set_option linter.unusedVariables false
set_option linter.unusedSimpArgs false
open Go.RowKit Wd OpA OpB OpD Val ValB Sl

/-- What op.text answers (beside an error the first value: nobody looks at it). -/
def textR (op : Int) (a b : V) : V × Int :=
  if op = 32 then (⟨1, a.s.size, ⟨#[]⟩⟩, 0)
  else if op = 33 then (if 256 < a.s.size + b.s.size then (a, 41) else (⟨2, 0, a.s ++ b.s⟩, 0))
  else if op = 35 then (if h : 0 ≤ b.n ∧ b.n.toNat < a.s.size then (⟨1, ((a.s[b.n.toNat]'h.2).toNat : Int), ⟨#[]⟩⟩, 0) else (a, 42))
  else if op = 36 then (⟨3, if (a.s.toList == b.s.toList) = true then 1 else 0, ⟨#[]⟩⟩, 0)
  else if op = 37 then (⟨3, if (Op.bytesLess a.s.toList b.s.toList) = true then 1 else 0, ⟨#[]⟩⟩, 0)
  else if op = 38 then (⟨2, 0, ⟨(be8 a.n).toArray⟩⟩, 0)
  else if op = 39 then (if 8 < a.s.size then (a, 41) else (⟨1, unpackN a.s.data.toList, ⟨#[]⟩⟩, 0))
  else (⟨2, 0, ⟨(one a.n).toArray⟩⟩, 0)

theorem textR_calls (op : Int) (a b : V) (hop : op = 32 ∨ op = 33 ∨ (35 ≤ op ∧ op ≤ 40)) (hn : a.s.size ≤ 1000000) (hm : b.s.size ≤ 1000000) (w : World) :
    Calls Try.prog 92 #[.int .i64 op, aggV a, aggV b] w fun e w' => e = .returned (.tuple #[aggV (textR op a b).1, .int .i64 (textR op a b).2]) ∧ Below w.heap.size w w' := by
  obtain rfl | rfl | rfl | rfl | rfl | rfl | rfl | rfl : op = 32 ∨ op = 33 ∨ op = 35 ∨ op = 36 ∨ op = 37 ∨ op = 38 ∨ op = 39 ∨ op = 40 := by omega
  · exact text32 a b hn hm w
  · by_cases h : 256 < a.s.size + b.s.size
    · have e : textR 33 a b = (a, 41) := by simp [textR, h]
      rw [e]; exact text33z a b hn hm h w
    · have e : textR 33 a b = (⟨2, 0, a.s ++ b.s⟩, 0) := by simp [textR, h]
      rw [e]; exact text33 a b hn hm (by omega) w
  · by_cases h : 0 ≤ b.n ∧ b.n.toNat < a.s.size
    · have e : textR 35 a b = (⟨1, ((a.s[b.n.toNat]'h.2).toNat : Int), ⟨#[]⟩⟩, 0) := by simp [textR, h]
      rw [e]; exact text35 a b b.n.toNat (by omega) h.2 hn w
    · have e : textR 35 a b = (a, 42) := by simp [textR, h]
      rw [e]; exact text35z a b hn hm (by omega) w
  · exact text36 a b hn hm w
  · exact text37 a b hn hm w
  · exact text38 a b hn hm w
  · by_cases h : 8 < a.s.size
    · have e : textR 39 a b = (a, 41) := by simp [textR, h]
      rw [e]; exact text39z a b hn hm h w
    · have e : textR 39 a b = (⟨1, unpackN a.s.data.toList, ⟨#[]⟩⟩, 0) := by simp [textR, h]
      rw [e]; exact text39 a b (by omega) w
  · exact text40 a b w

/-- What a plain operation answers, of values that fit: the value (none beside an error), the error. -/
def applyR (op : Int) (l : List V) : V × Int :=
  let a := l.headD ⟨0, 0, ⟨#[]⟩⟩
  let b := l.getLastD ⟨0, 0, ⟨#[]⟩⟩
  if op ≤ 4 then (⟨3, if (op == 3) = true then 1 else 0, ⟨#[]⟩⟩, 0)
  else if op ≤ 22 then numR op a.n b.n
  else if op ≤ 28 then (⟨3, if holdsB op a.n b.n = true then 1 else 0, ⟨#[]⟩⟩, 0)
  else if op = 29 then (⟨3, if (wrap64 (a.n + b.n) == 2) = true then 1 else 0, ⟨#[]⟩⟩, 0)
  else if op = 30 then (⟨3, if decide (0 < wrap64 (a.n + b.n)) = true then 1 else 0, ⟨#[]⟩⟩, 0)
  else if op = 31 then (⟨3, if (a.n == 0) = true then 1 else 0, ⟨#[]⟩⟩, 0)
  else if op = 34 then (if 0 ≤ (l.getD 1 ⟨0, 0, ⟨#[]⟩⟩).n ∧ (l.getD 1 ⟨0, 0, ⟨#[]⟩⟩).n ≤ b.n ∧ b.n ≤ a.s.size then (⟨2, 0, a.s.extract (l.getD 1 ⟨0, 0, ⟨#[]⟩⟩).n.toNat b.n.toNat⟩, 0) else (⟨0, 0, ⟨#[]⟩⟩, 42))
  else textR op a b

def ApplyPost (r : V × Int) (w : World) (e : Ending) (w' : World) : Prop :=
  Below w.heap.size w w' ∧ if r.2 = 0 then ∃ a c, e = .returned (.tuple #[.slice a 1 c, .int .i64 0]) ∧ w'.ownsRow w.heap.size 33 3 (.slice a 1 c) 1 (flat encV [r.1]) else e = .returned (.tuple #[.slice none 0 0, .int .i64 r.2])

set_option maxHeartbeats 2000000 in
set_option maxRecDepth 100000 in
theorem apply_calls34 (op : Int) (h0 : op = 3 ∨ op = 4) (a : Option Addr) (c : Nat) (w : World) :
    Calls Try.prog 79 #[.int .i64 op, .slice a 0 c] w (ApplyPost (applyR op []) w) := by
  have hpl : plainB op = true := by rcases h0 with rfl | rfl <;> rfl
  have hin : inOf op = [] := by rcases h0 with rfl | rfl <;> decide +kernel
  have hf : fits [] [] = true := rfl
  have hx : Rd encV 3 w a ([] : List V) := Rd.nil _ _ _ _
  have HPL := Lib.hid hpl
  have HIN := Lib.hid hin
  have HF := Lib.hid hf
  have HX := Lib.hid hx
  clear hpl hin hf hx
  cases h3 : (op == 3)
  · have ha : applyR op [] = (⟨3, 0, ⟨#[]⟩⟩, 0) := by unfold applyR; rw [if_pos (by omega), h3]; rfl
    rw [ha]
    clear ha
    go_enter Try.func79, Try.ntmps79
    go_wp2_with (first | (first | (go_at_call 89; refine (plain_calls _ _).mono ?_; rw [HPL.out]; rintro e w1 ⟨rfl, hb1⟩) | (go_at_call 61; refine (in_calls _ _).mono ?_; rw [HIN.out]; rintro e w2 ⟨a2, c2, rfl, hown, hb2⟩) | (go_at_call 19; refine (fits_calls _ _ [] _ _ [] _ (by simp) (by simp) (HX.out.below (below_thn hb2 hb1 hb1.size) (Nat.le_refl _)) (own_rdS (by omega) encI_len hown).2.1).mono ?_; rw [HF.out]; rintro e w3 ⟨rfl, hb3⟩)) | (go_at_call 74; refine (truth_calls _ _).mono ?_; rintro e w1 ⟨rfl, hb⟩; obtain ⟨hc, hf, hz⟩ := bcell hb; (try simp only [World.size_alloc, World.size_drew, World.size_setCell] at hc hf hz)))
    (have s1 := hb1.size; have s2 := hb2.size; have s3 := hb3.size; go_ret2; refine ⟨by (repeat (first | with_reducible exact Below.refl _ _ | with_reducible assumption | with_reducible refine Below.drew ?_ | with_reducible refine below_drewN ?_ _ | with_reducible refine Below.alloc ?_ ?_ _ | with_reducible refine Below.setCell ?_ ?_ _ | with_reducible refine below_thn (by with_reducible assumption) ?_ ?_ | (simp only [World.size_alloc, World.size_setCell, World.size_drew, size_drewN]; omega) | omega)), ?_⟩; rw [if_pos rfl]; refine ⟨_, _, rfl, own_new rfl ?_ ?_ (by unfold maxLen; omega) rfl⟩ <;> first | omega | (simp only [World.size_setCell, World.size_alloc, World.size_drew, size_drewN]; done) | (simp only [World.size_setCell, World.size_alloc, World.size_drew, size_drewN]; omega))
  · have ha : applyR op [] = (⟨3, 1, ⟨#[]⟩⟩, 0) := by unfold applyR; rw [if_pos (by omega), h3]; rfl
    rw [ha]
    clear ha
    go_enter Try.func79, Try.ntmps79
    go_wp2_with (first | (first | (go_at_call 89; refine (plain_calls _ _).mono ?_; rw [HPL.out]; rintro e w1 ⟨rfl, hb1⟩) | (go_at_call 61; refine (in_calls _ _).mono ?_; rw [HIN.out]; rintro e w2 ⟨a2, c2, rfl, hown, hb2⟩) | (go_at_call 19; refine (fits_calls _ _ [] _ _ [] _ (by simp) (by simp) (HX.out.below (below_thn hb2 hb1 hb1.size) (Nat.le_refl _)) (own_rdS (by omega) encI_len hown).2.1).mono ?_; rw [HF.out]; rintro e w3 ⟨rfl, hb3⟩)) | (go_at_call 74; refine (truth_calls _ _).mono ?_; rintro e w1 ⟨rfl, hb⟩; obtain ⟨hc, hf, hz⟩ := bcell hb; (try simp only [World.size_alloc, World.size_drew, World.size_setCell] at hc hf hz)))
    (have s1 := hb1.size; have s2 := hb2.size; have s3 := hb3.size; go_ret2; refine ⟨by (repeat (first | with_reducible exact Below.refl _ _ | with_reducible assumption | with_reducible refine Below.drew ?_ | with_reducible refine below_drewN ?_ _ | with_reducible refine Below.alloc ?_ ?_ _ | with_reducible refine Below.setCell ?_ ?_ _ | with_reducible refine below_thn (by with_reducible assumption) ?_ ?_ | (simp only [World.size_alloc, World.size_setCell, World.size_drew, size_drewN]; omega) | omega)), ?_⟩; rw [if_pos rfl]; refine ⟨_, _, rfl, own_new rfl ?_ ?_ (by unfold maxLen; omega) rfl⟩ <;> first | omega | (simp only [World.size_setCell, World.size_alloc, World.size_drew, size_drewN]; done) | (simp only [World.size_setCell, World.size_alloc, World.size_drew, size_drewN]; omega))
end Go.Proofs.Ytnapbjfmkofhcaa.OpE
