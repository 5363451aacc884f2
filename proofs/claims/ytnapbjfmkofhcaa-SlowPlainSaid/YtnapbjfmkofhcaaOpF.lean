import Derived.Test.YtnapbjfmkofhcaaOpE
namespace Go.Proofs.Ytnapbjfmkofhcaa.OpE
set_option linter.unusedVariables false
set_option linter.unusedSimpArgs false
open Go.RowKit Wd OpA OpB OpD Val ValB Sl

set_option maxHeartbeats 2000000 in
set_option maxRecDepth 100000 in
theorem text32 (a b : V) (hn : a.s.size ≤ 1000000) (hm : b.s.size ≤ 1000000) (w : World) : Calls Try.prog 92 #[.int .i64 32, aggV a, aggV b] w fun e w' => e = .returned (.tuple #[.agg #[.int .i64 (1), .int .i64 (a.s.size), .string (⟨#[]⟩)], .int .i64 0]) ∧ Below w.heap.size w w' := by
  obtain ⟨at_, an, as_⟩ := a
  obtain ⟨bt_, bn, bs_⟩ := b
  unfold aggV
  simp only at hn hm
  go_enter Try.func92, Try.ntmps92
  go_wp2_with (first | (go_at_call 72; refine (number_calls _ _).mono ?_; rintro e w1 ⟨rfl, hb⟩; obtain ⟨hc, hf, hz⟩ := bcell hb; (try simp only [World.size_alloc, World.size_drew, World.size_setCell] at hc hf hz)) | (go_at_call 73; refine (text_calls _ _).mono ?_; rintro e w1 ⟨rfl, hb⟩; obtain ⟨hc, hf, hz⟩ := bcell hb; (try simp only [World.size_alloc, World.size_drew, World.size_setCell] at hc hf hz)) | (go_at_call 74; refine (truth_calls _ _).mono ?_; rintro e w1 ⟨rfl, hb⟩; obtain ⟨hc, hf, hz⟩ := bcell hb; (try simp only [World.size_alloc, World.size_drew, World.size_setCell] at hc hf hz)) | (go_at_call 95; refine (packed_calls _ _).mono ?_; rintro e w1 ⟨rfl, hb⟩; obtain ⟨hc, hf, hz⟩ := bcell hb; (try simp only [World.size_alloc, World.size_drew, World.size_setCell] at hc hf hz)))
  exact bodyPost_ret (v := .tuple #[.agg #[.int .i64 (1), .int .i64 (as_.size), .string (⟨#[]⟩)], .int .i64 0]) (by simp [results, Try.results92, go_sem, *]) rfl ⟨rfl, by (repeat (first | with_reducible exact Below.refl _ _ | with_reducible assumption | with_reducible refine Below.drew ?_ | with_reducible refine below_drewN ?_ _ | with_reducible refine Below.alloc ?_ ?_ _ | with_reducible refine Below.setCell ?_ ?_ _ | with_reducible refine below_thn (by with_reducible assumption) ?_ ?_ | (simp only [World.size_alloc, World.size_setCell, World.size_drew, size_drewN]; omega) | omega))⟩

set_option maxHeartbeats 2000000 in
set_option maxRecDepth 100000 in
theorem text33z (a b : V) (hn : a.s.size ≤ 1000000) (hm : b.s.size ≤ 1000000) (h : 256 < a.s.size + b.s.size) (w : World) : Calls Try.prog 92 #[.int .i64 33, aggV a, aggV b] w fun e w' => e = .returned (.tuple #[.agg #[.int .i64 (a.t), .int .i64 (a.n), .string (a.s)], .int .i64 41]) ∧ Below w.heap.size w w' := by
  obtain ⟨at_, an, as_⟩ := a
  obtain ⟨bt_, bn, bs_⟩ := b
  unfold aggV
  simp only at hn hm
  simp only at h
  have hd : decide ((256 : Int) < (as_.size : Int) + bs_.size) = true := by simp; omega
  go_enter Try.func92, Try.ntmps92
  go_wp2_with (first | (go_at_call 72; refine (number_calls _ _).mono ?_; rintro e w1 ⟨rfl, hb⟩; obtain ⟨hc, hf, hz⟩ := bcell hb; (try simp only [World.size_alloc, World.size_drew, World.size_setCell] at hc hf hz)) | (go_at_call 73; refine (text_calls _ _).mono ?_; rintro e w1 ⟨rfl, hb⟩; obtain ⟨hc, hf, hz⟩ := bcell hb; (try simp only [World.size_alloc, World.size_drew, World.size_setCell] at hc hf hz)) | (go_at_call 74; refine (truth_calls _ _).mono ?_; rintro e w1 ⟨rfl, hb⟩; obtain ⟨hc, hf, hz⟩ := bcell hb; (try simp only [World.size_alloc, World.size_drew, World.size_setCell] at hc hf hz)) | (go_at_call 95; refine (packed_calls _ _).mono ?_; rintro e w1 ⟨rfl, hb⟩; obtain ⟨hc, hf, hz⟩ := bcell hb; (try simp only [World.size_alloc, World.size_drew, World.size_setCell] at hc hf hz)))
  exact bodyPost_ret (v := .tuple #[.agg #[.int .i64 (at_), .int .i64 (an), .string (as_)], .int .i64 41]) (by simp [results, Try.results92, go_sem, *]) rfl ⟨rfl, by (repeat (first | with_reducible exact Below.refl _ _ | with_reducible assumption | with_reducible refine Below.drew ?_ | with_reducible refine below_drewN ?_ _ | with_reducible refine Below.alloc ?_ ?_ _ | with_reducible refine Below.setCell ?_ ?_ _ | with_reducible refine below_thn (by with_reducible assumption) ?_ ?_ | (simp only [World.size_alloc, World.size_setCell, World.size_drew, size_drewN]; omega) | omega))⟩

set_option maxHeartbeats 2000000 in
set_option maxRecDepth 100000 in
theorem text33 (a b : V) (hn : a.s.size ≤ 1000000) (hm : b.s.size ≤ 1000000) (h : a.s.size + b.s.size ≤ 256) (w : World) : Calls Try.prog 92 #[.int .i64 33, aggV a, aggV b] w fun e w' => e = .returned (.tuple #[.agg #[.int .i64 (2), .int .i64 (0), .string (a.s ++ b.s)], .int .i64 0]) ∧ Below w.heap.size w w' := by
  obtain ⟨at_, an, as_⟩ := a
  obtain ⟨bt_, bn, bs_⟩ := b
  unfold aggV
  simp only at hn hm
  simp only at h
  have hd : decide ((256 : Int) < (as_.size : Int) + bs_.size) = false := by simp; omega
  go_enter Try.func92, Try.ntmps92
  go_wp2_with (first | (go_at_call 72; refine (number_calls _ _).mono ?_; rintro e w1 ⟨rfl, hb⟩; obtain ⟨hc, hf, hz⟩ := bcell hb; (try simp only [World.size_alloc, World.size_drew, World.size_setCell] at hc hf hz)) | (go_at_call 73; refine (text_calls _ _).mono ?_; rintro e w1 ⟨rfl, hb⟩; obtain ⟨hc, hf, hz⟩ := bcell hb; (try simp only [World.size_alloc, World.size_drew, World.size_setCell] at hc hf hz)) | (go_at_call 74; refine (truth_calls _ _).mono ?_; rintro e w1 ⟨rfl, hb⟩; obtain ⟨hc, hf, hz⟩ := bcell hb; (try simp only [World.size_alloc, World.size_drew, World.size_setCell] at hc hf hz)) | (go_at_call 95; refine (packed_calls _ _).mono ?_; rintro e w1 ⟨rfl, hb⟩; obtain ⟨hc, hf, hz⟩ := bcell hb; (try simp only [World.size_alloc, World.size_drew, World.size_setCell] at hc hf hz)))
  exact bodyPost_ret (v := .tuple #[.agg #[.int .i64 (2), .int .i64 (0), .string (as_ ++ bs_)], .int .i64 0]) (by simp [results, Try.results92, go_sem, *]) rfl ⟨rfl, by (repeat (first | with_reducible exact Below.refl _ _ | with_reducible assumption | with_reducible refine Below.drew ?_ | with_reducible refine below_drewN ?_ _ | with_reducible refine Below.alloc ?_ ?_ _ | with_reducible refine Below.setCell ?_ ?_ _ | with_reducible refine below_thn (by with_reducible assumption) ?_ ?_ | (simp only [World.size_alloc, World.size_setCell, World.size_drew, size_drewN]; omega) | omega))⟩

set_option maxHeartbeats 2000000 in
set_option maxRecDepth 100000 in
theorem text35z (a b : V) (hn : a.s.size ≤ 1000000) (hm : b.s.size ≤ 1000000) (h : b.n < 0 ∨ a.s.size ≤ b.n) (w : World) : Calls Try.prog 92 #[.int .i64 35, aggV a, aggV b] w fun e w' => e = .returned (.tuple #[.agg #[.int .i64 (a.t), .int .i64 (a.n), .string (a.s)], .int .i64 42]) ∧ Below w.heap.size w w' := by
  obtain ⟨at_, an, as_⟩ := a
  obtain ⟨bt_, bn, bs_⟩ := b
  unfold aggV
  simp only at hn hm
  simp only at h
  rcases h with h | h
  all_goals by_cases h0 : bn < 0
  all_goals (try omega)
  all_goals
  go_enter Try.func92, Try.ntmps92
  go_wp2_with (first | (go_at_call 72; refine (number_calls _ _).mono ?_; rintro e w1 ⟨rfl, hb⟩; obtain ⟨hc, hf, hz⟩ := bcell hb; (try simp only [World.size_alloc, World.size_drew, World.size_setCell] at hc hf hz)) | (go_at_call 73; refine (text_calls _ _).mono ?_; rintro e w1 ⟨rfl, hb⟩; obtain ⟨hc, hf, hz⟩ := bcell hb; (try simp only [World.size_alloc, World.size_drew, World.size_setCell] at hc hf hz)) | (go_at_call 74; refine (truth_calls _ _).mono ?_; rintro e w1 ⟨rfl, hb⟩; obtain ⟨hc, hf, hz⟩ := bcell hb; (try simp only [World.size_alloc, World.size_drew, World.size_setCell] at hc hf hz)) | (go_at_call 95; refine (packed_calls _ _).mono ?_; rintro e w1 ⟨rfl, hb⟩; obtain ⟨hc, hf, hz⟩ := bcell hb; (try simp only [World.size_alloc, World.size_drew, World.size_setCell] at hc hf hz)))
  exact bodyPost_ret (v := .tuple #[.agg #[.int .i64 (at_), .int .i64 (an), .string (as_)], .int .i64 42]) (by simp [results, Try.results92, go_sem, *]) rfl ⟨rfl, by (repeat (first | with_reducible exact Below.refl _ _ | with_reducible assumption | with_reducible refine Below.drew ?_ | with_reducible refine below_drewN ?_ _ | with_reducible refine Below.alloc ?_ ?_ _ | with_reducible refine Below.setCell ?_ ?_ _ | with_reducible refine below_thn (by with_reducible assumption) ?_ ?_ | (simp only [World.size_alloc, World.size_setCell, World.size_drew, size_drewN]; omega) | omega))⟩

set_option maxHeartbeats 2000000 in
set_option maxRecDepth 100000 in
theorem text36 (a b : V) (hn : a.s.size ≤ 1000000) (hm : b.s.size ≤ 1000000) (w : World) : Calls Try.prog 92 #[.int .i64 36, aggV a, aggV b] w fun e w' => e = .returned (.tuple #[.agg #[.int .i64 (3), .int .i64 (if (a.s.toList == b.s.toList) = true then 1 else 0), .string (⟨#[]⟩)], .int .i64 0]) ∧ Below w.heap.size w w' := by
  obtain ⟨at_, an, as_⟩ := a
  obtain ⟨bt_, bn, bs_⟩ := b
  unfold aggV
  simp only at hn hm
  cases hq : (as_.toList == bs_.toList)
  · go_enter Try.func92, Try.ntmps92
    go_wp2_with (first | (go_at_call 72; refine (number_calls _ _).mono ?_; rintro e w1 ⟨rfl, hb⟩; obtain ⟨hc, hf, hz⟩ := bcell hb; (try simp only [World.size_alloc, World.size_drew, World.size_setCell] at hc hf hz)) | (go_at_call 73; refine (text_calls _ _).mono ?_; rintro e w1 ⟨rfl, hb⟩; obtain ⟨hc, hf, hz⟩ := bcell hb; (try simp only [World.size_alloc, World.size_drew, World.size_setCell] at hc hf hz)) | (go_at_call 74; refine (truth_calls _ _).mono ?_; rintro e w1 ⟨rfl, hb⟩; obtain ⟨hc, hf, hz⟩ := bcell hb; (try simp only [World.size_alloc, World.size_drew, World.size_setCell] at hc hf hz)) | (go_at_call 95; refine (packed_calls _ _).mono ?_; rintro e w1 ⟨rfl, hb⟩; obtain ⟨hc, hf, hz⟩ := bcell hb; (try simp only [World.size_alloc, World.size_drew, World.size_setCell] at hc hf hz)))
    exact bodyPost_ret (v := .tuple #[.agg #[.int .i64 3, .int .i64 0, .string ⟨#[]⟩], .int .i64 0]) (by simp [results, Try.results92, go_sem, *]) rfl ⟨rfl, by (repeat (first | with_reducible exact Below.refl _ _ | with_reducible assumption | with_reducible refine Below.drew ?_ | with_reducible refine below_drewN ?_ _ | with_reducible refine Below.alloc ?_ ?_ _ | with_reducible refine Below.setCell ?_ ?_ _ | with_reducible refine below_thn (by with_reducible assumption) ?_ ?_ | (simp only [World.size_alloc, World.size_setCell, World.size_drew, size_drewN]; omega) | omega))⟩
  · go_enter Try.func92, Try.ntmps92
    go_wp2_with (first | (go_at_call 72; refine (number_calls _ _).mono ?_; rintro e w1 ⟨rfl, hb⟩; obtain ⟨hc, hf, hz⟩ := bcell hb; (try simp only [World.size_alloc, World.size_drew, World.size_setCell] at hc hf hz)) | (go_at_call 73; refine (text_calls _ _).mono ?_; rintro e w1 ⟨rfl, hb⟩; obtain ⟨hc, hf, hz⟩ := bcell hb; (try simp only [World.size_alloc, World.size_drew, World.size_setCell] at hc hf hz)) | (go_at_call 74; refine (truth_calls _ _).mono ?_; rintro e w1 ⟨rfl, hb⟩; obtain ⟨hc, hf, hz⟩ := bcell hb; (try simp only [World.size_alloc, World.size_drew, World.size_setCell] at hc hf hz)) | (go_at_call 95; refine (packed_calls _ _).mono ?_; rintro e w1 ⟨rfl, hb⟩; obtain ⟨hc, hf, hz⟩ := bcell hb; (try simp only [World.size_alloc, World.size_drew, World.size_setCell] at hc hf hz)))
    exact bodyPost_ret (v := .tuple #[.agg #[.int .i64 3, .int .i64 1, .string ⟨#[]⟩], .int .i64 0]) (by simp [results, Try.results92, go_sem, *]) rfl ⟨rfl, by (repeat (first | with_reducible exact Below.refl _ _ | with_reducible assumption | with_reducible refine Below.drew ?_ | with_reducible refine below_drewN ?_ _ | with_reducible refine Below.alloc ?_ ?_ _ | with_reducible refine Below.setCell ?_ ?_ _ | with_reducible refine below_thn (by with_reducible assumption) ?_ ?_ | (simp only [World.size_alloc, World.size_setCell, World.size_drew, size_drewN]; omega) | omega))⟩

set_option maxHeartbeats 2000000 in
set_option maxRecDepth 100000 in
theorem text37 (a b : V) (hn : a.s.size ≤ 1000000) (hm : b.s.size ≤ 1000000) (w : World) : Calls Try.prog 92 #[.int .i64 37, aggV a, aggV b] w fun e w' => e = .returned (.tuple #[.agg #[.int .i64 (3), .int .i64 (if (Op.bytesLess a.s.toList b.s.toList) = true then 1 else 0), .string (⟨#[]⟩)], .int .i64 0]) ∧ Below w.heap.size w w' := by
  obtain ⟨at_, an, as_⟩ := a
  obtain ⟨bt_, bn, bs_⟩ := b
  unfold aggV
  simp only at hn hm
  cases hq : (Op.bytesLess as_.toList bs_.toList)
  · go_enter Try.func92, Try.ntmps92
    go_wp2_with (first | (go_at_call 72; refine (number_calls _ _).mono ?_; rintro e w1 ⟨rfl, hb⟩; obtain ⟨hc, hf, hz⟩ := bcell hb; (try simp only [World.size_alloc, World.size_drew, World.size_setCell] at hc hf hz)) | (go_at_call 73; refine (text_calls _ _).mono ?_; rintro e w1 ⟨rfl, hb⟩; obtain ⟨hc, hf, hz⟩ := bcell hb; (try simp only [World.size_alloc, World.size_drew, World.size_setCell] at hc hf hz)) | (go_at_call 74; refine (truth_calls _ _).mono ?_; rintro e w1 ⟨rfl, hb⟩; obtain ⟨hc, hf, hz⟩ := bcell hb; (try simp only [World.size_alloc, World.size_drew, World.size_setCell] at hc hf hz)) | (go_at_call 95; refine (packed_calls _ _).mono ?_; rintro e w1 ⟨rfl, hb⟩; obtain ⟨hc, hf, hz⟩ := bcell hb; (try simp only [World.size_alloc, World.size_drew, World.size_setCell] at hc hf hz)))
    exact bodyPost_ret (v := .tuple #[.agg #[.int .i64 3, .int .i64 0, .string ⟨#[]⟩], .int .i64 0]) (by simp [results, Try.results92, go_sem, *]) rfl ⟨rfl, by (repeat (first | with_reducible exact Below.refl _ _ | with_reducible assumption | with_reducible refine Below.drew ?_ | with_reducible refine below_drewN ?_ _ | with_reducible refine Below.alloc ?_ ?_ _ | with_reducible refine Below.setCell ?_ ?_ _ | with_reducible refine below_thn (by with_reducible assumption) ?_ ?_ | (simp only [World.size_alloc, World.size_setCell, World.size_drew, size_drewN]; omega) | omega))⟩
  · go_enter Try.func92, Try.ntmps92
    go_wp2_with (first | (go_at_call 72; refine (number_calls _ _).mono ?_; rintro e w1 ⟨rfl, hb⟩; obtain ⟨hc, hf, hz⟩ := bcell hb; (try simp only [World.size_alloc, World.size_drew, World.size_setCell] at hc hf hz)) | (go_at_call 73; refine (text_calls _ _).mono ?_; rintro e w1 ⟨rfl, hb⟩; obtain ⟨hc, hf, hz⟩ := bcell hb; (try simp only [World.size_alloc, World.size_drew, World.size_setCell] at hc hf hz)) | (go_at_call 74; refine (truth_calls _ _).mono ?_; rintro e w1 ⟨rfl, hb⟩; obtain ⟨hc, hf, hz⟩ := bcell hb; (try simp only [World.size_alloc, World.size_drew, World.size_setCell] at hc hf hz)) | (go_at_call 95; refine (packed_calls _ _).mono ?_; rintro e w1 ⟨rfl, hb⟩; obtain ⟨hc, hf, hz⟩ := bcell hb; (try simp only [World.size_alloc, World.size_drew, World.size_setCell] at hc hf hz)))
    exact bodyPost_ret (v := .tuple #[.agg #[.int .i64 3, .int .i64 1, .string ⟨#[]⟩], .int .i64 0]) (by simp [results, Try.results92, go_sem, *]) rfl ⟨rfl, by (repeat (first | with_reducible exact Below.refl _ _ | with_reducible assumption | with_reducible refine Below.drew ?_ | with_reducible refine below_drewN ?_ _ | with_reducible refine Below.alloc ?_ ?_ _ | with_reducible refine Below.setCell ?_ ?_ _ | with_reducible refine below_thn (by with_reducible assumption) ?_ ?_ | (simp only [World.size_alloc, World.size_setCell, World.size_drew, size_drewN]; omega) | omega))⟩

set_option maxHeartbeats 2000000 in
set_option maxRecDepth 100000 in
theorem text38 (a b : V) (hn : a.s.size ≤ 1000000) (hm : b.s.size ≤ 1000000) (w : World) : Calls Try.prog 92 #[.int .i64 38, aggV a, aggV b] w fun e w' => e = .returned (.tuple #[.agg #[.int .i64 (2), .int .i64 (0), .string (⟨(be8 a.n).toArray⟩)], .int .i64 0]) ∧ Below w.heap.size w w' := by
  obtain ⟨at_, an, as_⟩ := a
  obtain ⟨bt_, bn, bs_⟩ := b
  unfold aggV
  simp only at hn hm
  go_enter Try.func92, Try.ntmps92
  go_wp2_with (first | (go_at_call 95; refine (packed_calls _ _).mono ?_; rintro e w1 ⟨rfl, hb⟩; obtain ⟨hc, hf, hz⟩ := bcell hb; (try simp only [World.size_alloc, World.size_drew, World.size_setCell] at hc hf hz)) | (go_at_call 73; refine (text_calls _ _).mono ?_; rintro e w2 ⟨rfl, hb2⟩; replace hb := below_thn hb2 hb hb.size; clear hc hf hz hb2; obtain ⟨hc, hf, hz⟩ := bcell hb; (try simp only [World.size_alloc, World.size_drew, World.size_setCell] at hc hf hz)))
  exact bodyPost_ret (v := .tuple #[.agg #[.int .i64 (2), .int .i64 (0), .string (⟨(be8 an).toArray⟩)], .int .i64 0]) (by simp [results, Try.results92, go_sem, *]) rfl ⟨rfl, by (repeat (first | with_reducible exact Below.refl _ _ | with_reducible assumption | with_reducible refine Below.drew ?_ | with_reducible refine below_drewN ?_ _ | with_reducible refine Below.alloc ?_ ?_ _ | with_reducible refine Below.setCell ?_ ?_ _ | with_reducible refine below_thn (by with_reducible assumption) ?_ ?_ | (simp only [World.size_alloc, World.size_setCell, World.size_drew, size_drewN]; omega) | omega))⟩

set_option maxHeartbeats 2000000 in
set_option maxRecDepth 100000 in
theorem text39z (a b : V) (hn : a.s.size ≤ 1000000) (hm : b.s.size ≤ 1000000) (h : 8 < a.s.size) (w : World) : Calls Try.prog 92 #[.int .i64 39, aggV a, aggV b] w fun e w' => e = .returned (.tuple #[.agg #[.int .i64 (a.t), .int .i64 (a.n), .string (a.s)], .int .i64 41]) ∧ Below w.heap.size w w' := by
  obtain ⟨at_, an, as_⟩ := a
  obtain ⟨bt_, bn, bs_⟩ := b
  unfold aggV
  simp only at hn hm
  simp only at h
  go_enter Try.func92, Try.ntmps92
  go_wp2_with (first | (go_at_call 72; refine (number_calls _ _).mono ?_; rintro e w1 ⟨rfl, hb⟩; obtain ⟨hc, hf, hz⟩ := bcell hb; (try simp only [World.size_alloc, World.size_drew, World.size_setCell] at hc hf hz)) | (go_at_call 73; refine (text_calls _ _).mono ?_; rintro e w1 ⟨rfl, hb⟩; obtain ⟨hc, hf, hz⟩ := bcell hb; (try simp only [World.size_alloc, World.size_drew, World.size_setCell] at hc hf hz)) | (go_at_call 74; refine (truth_calls _ _).mono ?_; rintro e w1 ⟨rfl, hb⟩; obtain ⟨hc, hf, hz⟩ := bcell hb; (try simp only [World.size_alloc, World.size_drew, World.size_setCell] at hc hf hz)) | (go_at_call 95; refine (packed_calls _ _).mono ?_; rintro e w1 ⟨rfl, hb⟩; obtain ⟨hc, hf, hz⟩ := bcell hb; (try simp only [World.size_alloc, World.size_drew, World.size_setCell] at hc hf hz)))
  exact bodyPost_ret (v := .tuple #[.agg #[.int .i64 (at_), .int .i64 (an), .string (as_)], .int .i64 41]) (by simp [results, Try.results92, go_sem, *]) rfl ⟨rfl, by (repeat (first | with_reducible exact Below.refl _ _ | with_reducible assumption | with_reducible refine Below.drew ?_ | with_reducible refine below_drewN ?_ _ | with_reducible refine Below.alloc ?_ ?_ _ | with_reducible refine Below.setCell ?_ ?_ _ | with_reducible refine below_thn (by with_reducible assumption) ?_ ?_ | (simp only [World.size_alloc, World.size_setCell, World.size_drew, size_drewN]; omega) | omega))⟩


/-- Bytes as a number, the highest first. -/
def unpackN (l : List UInt8) : Int := l.foldl (fun n c => Go.bits .or .i64 (wrap64 (n * 256)) (c.toNat : Int)) 0
theorem unpackN_succ (l : List UInt8) (k : Nat) (h : k < l.length) : unpackN (l.take (k + 1)) = Go.bits .or .i64 (wrap64 (unpackN (l.take k) * 256)) ((l.getD k 0).toNat : Int) := by
  unfold unpackN
  rw [List.take_succ_eq_append_getElem h, List.foldl_append, List.getD_eq_getElem?_getD, List.getElem?_eq_getElem h]; rfl

set_option maxHeartbeats 2000000 in
set_option maxRecDepth 100000 in
theorem text39 (a b : V) (h : a.s.size ≤ 8) (w : World) : Calls Try.prog 92 #[.int .i64 39, aggV a, aggV b] w fun e w' => e = .returned (.tuple #[.agg #[.int .i64 1, .int .i64 (unpackN a.s.data.toList), .string ⟨#[]⟩], .int .i64 0]) ∧ Below w.heap.size w w' := by
  obtain ⟨at_, an, s⟩ := a
  obtain ⟨bt_, bn, bs_⟩ := b
  unfold aggV
  simp only at h
  have hl : s.data.toList.length = s.size := by rw [Array.length_toList]; rfl
  have HL := Lib.hid hl
  clear hl
  have kb := fun (W : World) => Lib.run_convert_string_bytes (P := Try.prog) W 9 75 5 s Try.underlying9 Try.underlying75 Try.underlying5
  have hcells := Lib.bytesWorld_cell (((w.alloc (.cells #[.int .i64 at_, .int .i64 an, .string s] 33)).alloc (.cells #[.int .i64 bt_, .int .i64 bn, .string bs_] 33)).alloc (.cells #[.int .i64 0, .int .i64 0, .string ⟨#[]⟩] 33)) 5 s
  have hsz := Lib.bytesWorld_size (((w.alloc (.cells #[.int .i64 at_, .int .i64 an, .string s] 33)).alloc (.cells #[.int .i64 bt_, .int .i64 bn, .string bs_] 33)).alloc (.cells #[.int .i64 0, .int .i64 0, .string ⟨#[]⟩] 33)) 5 s
  have hold := Lib.bytesWorld_at_old (((w.alloc (.cells #[.int .i64 at_, .int .i64 an, .string s] 33)).alloc (.cells #[.int .i64 bt_, .int .i64 bn, .string bs_] 33)).alloc (.cells #[.int .i64 0, .int .i64 0, .string ⟨#[]⟩] 33)) 5 s
  have hB0 : Below w.heap.size w (Lib.bytesWorld (((w.alloc (.cells #[.int .i64 at_, .int .i64 an, .string s] 33)).alloc (.cells #[.int .i64 bt_, .int .i64 bn, .string bs_] 33)).alloc (.cells #[.int .i64 0, .int .i64 0, .string ⟨#[]⟩] 33)) 5 s) := ⟨rfl, rfl, rfl, by rw [hsz]; simp; omega, fun i hi => by rw [hold i (by simp; omega), Below.heap_alloc _ _ _ (by simp; omega), Below.heap_alloc _ _ _ (by simp; omega), Below.heap_alloc _ _ _ (by omega)]⟩
  have hbox : Blk (Lib.bytesWorld (((w.alloc (.cells #[.int .i64 at_, .int .i64 an, .string s] 33)).alloc (.cells #[.int .i64 bt_, .int .i64 bn, .string bs_] 33)).alloc (.cells #[.int .i64 0, .int .i64 0, .string ⟨#[]⟩] 33)) 5 s) (w.heap.size + 2) #[.int .i64 0, .int .i64 0, .string ⟨#[]⟩] 33 := (hold _ (by simp)).trans (by have h := blk_new ((w.alloc (.cells #[.int .i64 at_, .int .i64 an, .string s] 33)).alloc (.cells #[.int .i64 bt_, .int .i64 bn, .string bs_] 33)) (.cells #[.int .i64 0, .int .i64 0, .string ⟨#[]⟩] 33); simpa using h)
  have kb0 := kb (((w.alloc (.cells #[.int .i64 at_, .int .i64 an, .string s] 33)).alloc (.cells #[.int .i64 bt_, .int .i64 bn, .string bs_] 33)).alloc (.cells #[.int .i64 0, .int .i64 0, .string ⟨#[]⟩] 33))
  generalize hW : Lib.bytesWorld (((w.alloc (.cells #[.int .i64 at_, .int .i64 an, .string s] 33)).alloc (.cells #[.int .i64 bt_, .int .i64 bn, .string bs_] 33)).alloc (.cells #[.int .i64 0, .int .i64 0, .string ⟨#[]⟩] 33)) 5 s = W0 at *
  have HC := Lib.hid hcells
  have HBX := Lib.hid hbox
  have hsz' : W0.heap.size = w.heap.size + 4 := by rw [hsz]; simp
  have HSZ := Lib.hid hsz'
  have hszle : w.heap.size + 4 ≤ W0.heap.size := by omega
  clear kb hW hcells hbox hold hsz hsz'
  go_enter Try.func92, Try.ntmps92
  go_wp2_with fail
  go_loop [8, 89] (fun n i => ∃ k : Nat, k ≤ s.size ∧ i = .int .i64 k ∧ n = .int .i64 (unpackN (s.data.toList.take k))) (fun _ i => s.size - (intOf i).toNat)
  case atStart => exact ⟨0, Nat.zero_le _, rfl, rfl⟩
  case round =>
    obtain ⟨k, hk, rfl, rfl⟩ := hrel
    by_cases hlt : k < s.size
    · have hcell := HC.out k hlt
      simp only [World.size_alloc] at hcell
      have hu := unpackN_succ s.data.toList k (by rw [HL.out]; exact hlt)
      have hcc := UInt8.toNat_lt (s.data.toList.getD k 0)
      generalize (s.data.toList.getD k 0).toNat = cc at hcell hu hcc
      generalize unpackN (s.data.toList.take k) = uu at hu ⊢
      have HU := Lib.hid hu
      clear hu
      go_wp2_with fail
      go_round
      case rel => exact ⟨k + 1, by omega, by go_num, by rw [HU.out]⟩
      case measure => simp [intOf]; omega
    · obtain rfl : k = s.size := by omega
      have hT : s.data.toList.take s.size = s.data.toList := List.take_of_length_le (by rw [HL.out]; exact Nat.le_refl _)
      rw [hT]
      clear hT
      have c0 := blk_cell HBX.out 0
      have c1 := blk_cell HBX.out 1
      have c2 := blk_cell HBX.out 2
      have f0 := blk_frozen HBX.out 0
      have f1 := blk_frozen HBX.out 1
      have f2 := blk_frozen HBX.out 2
      simp only [List.getElem?_toArray, List.getElem?_cons_zero, List.getElem?_cons_succ] at c0 c1 c2
      go_wp2_with (go_at_call 72; refine (number_calls _ _).mono ?_; rintro e w1 ⟨rfl, hb⟩; have hb1 := blk_below HBX.out hb (Nat.le_refl _); have c0' := blk_cell hb1 0; have c1' := blk_cell hb1 1; have c2' := blk_cell hb1 2; have f0' := blk_frozen hb1 0; have f1' := blk_frozen hb1 1; have f2' := blk_frozen hb1 2; simp only [List.getElem?_toArray, List.getElem?_cons_zero, List.getElem?_cons_succ] at c0' c1' c2'; clear hb1 c0 c1 c2 f0 f1 f2; have hzz := hb.size)
      exact bodyPost_ret (v := .tuple #[.agg #[.int .i64 1, .int .i64 (unpackN s.data.toList), .string ⟨#[]⟩], .int .i64 0]) (by simp [results, Try.results92, go_sem, *]) rfl ⟨rfl, by (repeat (first | with_reducible exact Below.refl _ _ | with_reducible assumption | with_reducible refine Below.drew ?_ | with_reducible refine below_drewN ?_ _ | with_reducible refine Below.alloc ?_ ?_ _ | with_reducible refine Below.setCell ?_ ?_ _ | with_reducible refine below_thn (by with_reducible assumption) ?_ ?_ | (simp only [World.size_alloc, World.size_setCell, World.size_drew, size_drewN]; omega) | omega))⟩
end Go.Proofs.Ytnapbjfmkofhcaa.OpE
