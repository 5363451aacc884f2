/- op.text, the rest; Apply: contracts. -/
import Derived.Test.YtnapbjfmkofhcaaOpF
import Derived.Laws.IdiomStrings
namespace Go.Proofs.Ytnapbjfmkofhcaa.OpE
set_option linter.unusedVariables false
set_option linter.unusedSimpArgs false
open Go.RowKit Wd OpA OpB OpD Val ValB Sl

set_option maxHeartbeats 2000000 in
set_option maxRecDepth 100000 in
theorem text35 (a b : V) (n : Nat) (hb : b.n = n) (h : n < a.s.size) (hs : a.s.size ≤ 1000000) (w : World) : Calls Try.prog 92 #[.int .i64 35, aggV a, aggV b] w fun e w' => e = .returned (.tuple #[.agg #[.int .i64 1, .int .i64 ((a.s[n]'h).toNat : Int), .string ⟨#[]⟩], .int .i64 0]) ∧ Below w.heap.size w w' := by
  obtain ⟨at_, an, s⟩ := a
  obtain ⟨bt_, bn, bs_⟩ := b
  simp only at hb h hs
  subst hb
  unfold aggV
  have hlt := UInt8.toNat_lt (s[n]'h)
  go_enter Try.func92, Try.ntmps92
  go_wp2_with (first | (go_at_call 72; refine (number_calls _ _).mono ?_; rintro e w1 ⟨rfl, hb⟩; obtain ⟨hc, hf, hz⟩ := bcell hb; (try simp only [World.size_alloc, World.size_drew, World.size_setCell] at hc hf hz)) | (go_at_call 73; refine (text_calls _ _).mono ?_; rintro e w1 ⟨rfl, hb⟩; obtain ⟨hc, hf, hz⟩ := bcell hb; (try simp only [World.size_alloc, World.size_drew, World.size_setCell] at hc hf hz)) | (go_at_call 74; refine (truth_calls _ _).mono ?_; rintro e w1 ⟨rfl, hb⟩; obtain ⟨hc, hf, hz⟩ := bcell hb; (try simp only [World.size_alloc, World.size_drew, World.size_setCell] at hc hf hz)) | (go_at_call 95; refine (packed_calls _ _).mono ?_; rintro e w1 ⟨rfl, hb⟩; obtain ⟨hc, hf, hz⟩ := bcell hb; (try simp only [World.size_alloc, World.size_drew, World.size_setCell] at hc hf hz)))
  exact bodyPost_ret (v := .tuple #[.agg #[.int .i64 1, .int .i64 (((s[n]'h).toNat : Int)), .string ⟨#[]⟩], .int .i64 0]) (by simp [results, Try.results92, go_sem, *]) rfl ⟨rfl, by (repeat (first | with_reducible exact Below.refl _ _ | with_reducible assumption | with_reducible refine Below.drew ?_ | with_reducible refine below_drewN ?_ _ | with_reducible refine Below.alloc ?_ ?_ _ | with_reducible refine Below.setCell ?_ ?_ _ | with_reducible refine below_thn (by with_reducible assumption) ?_ ?_ | (simp only [World.size_alloc, World.size_setCell, World.size_drew, size_drewN]; omega) | omega))⟩

/-- One byte. -/
def one (n : Int) : List UInt8 := [byteAt n 1]
set_option maxHeartbeats 2000000 in
set_option maxRecDepth 100000 in
theorem text40 (a b : V) (w : World) : Calls Try.prog 92 #[.int .i64 40, aggV a, aggV b] w fun e w' => e = .returned (.tuple #[.agg #[.int .i64 2, .int .i64 0, .string ⟨(one a.n).toArray⟩], .int .i64 0]) ∧ Below w.heap.size w w' := by
  obtain ⟨at_, an, as_⟩ := a
  obtain ⟨bt_, bn, bs_⟩ := b
  unfold aggV
  have hconv : ∀ (W : World), (convert 75 9 (.slice (some ⟨W.heap.size, 0, none⟩) 1 1)).run Try.prog (W.alloc (.cells #[.int .u8 (an % 256)] 5)) = .ok (.string ⟨(one an).toArray⟩) (W.alloc (.cells #[.int .u8 (an % 256)] 5)) := by
    intro W
    refine run_convert_bytes_back _ 75 9 5 ⟨W.heap.size, 0, none⟩ 1 (one an) Try.underlying75 Try.underlying5 Try.underlying9 (fun j hj => ?_)
    have hj1 : j < 1 := hj
    obtain rfl : j = 0 := by omega
    have ha : (⟨W.heap.size, 0, none⟩ : Addr).add 0 = ⟨W.heap.size, 0, none⟩ := by unfold Addr.add; split <;> simp_all
    rw [ha, cell_of_row _ _ _ _ _ _ (blk_new W _)]
    simp [one, byteAt_toNat]
  have hc0 := hconv (((w.alloc (.cells #[.int .i64 at_, .int .i64 an, .string as_] 33)).alloc (.cells #[.int .i64 bt_, .int .i64 bn, .string bs_] 33)).alloc (.cells #[.int .i64 0, .int .i64 0, .string ⟨#[]⟩] 33))
  simp only [World.size_alloc] at hc0
  clear hconv
  go_enter Try.func92, Try.ntmps92
  go_wp2_with (first | (go_at_call 72; refine (number_calls _ _).mono ?_; rintro e w1 ⟨rfl, hb⟩; obtain ⟨hc, hf, hz⟩ := bcell hb; (try simp only [World.size_alloc, World.size_drew, World.size_setCell] at hc hf hz)) | (go_at_call 73; refine (text_calls _ _).mono ?_; rintro e w1 ⟨rfl, hb⟩; obtain ⟨hc, hf, hz⟩ := bcell hb; (try simp only [World.size_alloc, World.size_drew, World.size_setCell] at hc hf hz)) | (go_at_call 74; refine (truth_calls _ _).mono ?_; rintro e w1 ⟨rfl, hb⟩; obtain ⟨hc, hf, hz⟩ := bcell hb; (try simp only [World.size_alloc, World.size_drew, World.size_setCell] at hc hf hz)) | (go_at_call 95; refine (packed_calls _ _).mono ?_; rintro e w1 ⟨rfl, hb⟩; obtain ⟨hc, hf, hz⟩ := bcell hb; (try simp only [World.size_alloc, World.size_drew, World.size_setCell] at hc hf hz)))
  exact bodyPost_ret (v := .tuple #[.agg #[.int .i64 2, .int .i64 0, .string ⟨(one an).toArray⟩], .int .i64 0]) (by simp [results, Try.results92, go_sem, *]) rfl ⟨rfl, by (repeat (first | with_reducible exact Below.refl _ _ | with_reducible assumption | with_reducible refine Below.drew ?_ | with_reducible refine below_drewN ?_ _ | with_reducible refine Below.alloc ?_ ?_ _ | with_reducible refine Below.setCell ?_ ?_ _ | with_reducible refine below_thn (by with_reducible assumption) ?_ ?_ | (simp only [World.size_alloc, World.size_setCell, World.size_drew, size_drewN]; omega) | omega))⟩
end Go.Proofs.Ytnapbjfmkofhcaa.OpE
