/- The plain law of SlowPlain (2): results of operations fit; the script may be. -/
import Derived.Test.YtnapbjfmkofhcaaLaw
namespace Go.Proofs.Ytnapbjfmkofhcaa.Law
set_option linter.unusedVariables false
set_option linter.unusedSimpArgs false
open Go.RowKit Wd Sl Stk OpA OpB OpD OpE Does Shp All RefI

theorem fit1 (t n : Int) (s : ByteArray) (h : V.ok ⟨t, n, s⟩ = true) : fits [⟨t, n, s⟩] [t] = true := by
  unfold fits; simp [h]
theorem ok1 (n : Int) : V.ok ⟨1, n, ⟨#[]⟩⟩ = true := by simp [V.ok, emp]
theorem ok2 (s : ByteArray) (h : s.size ≤ 256) : V.ok ⟨2, 0, s⟩ = true := by simp [V.ok, h]
theorem ok3 (c : Prop) [Decidable c] : V.ok ⟨3, if c then 1 else 0, ⟨#[]⟩⟩ = true := by split <;> simp [V.ok, emp]
theorem num_ok (op a b : Int) (h : (numR op a b).2 = 0) : fits [(numR op a b).1] [1] = true := by
  unfold numR at h ⊢
  split
  · rename_i h2; rw [if_pos h2] at h; cases h
  · exact fit1 1 _ _ (ok1 _)

theorem apply_out (op : Int) (hp : plainB op = true) (h34 : op ≠ 34) (l : List V) (hf : fits l (inOf op) = true) (h0 : (applyR op l).2 = 0) : fits [(applyR op l).1] (typesOf (opRow op).2.2.2.1) = true := by
  have hp' : op = 3 ∨ op = 4 ∨ (11 ≤ op ∧ op ≤ 40) := by unfold plainB at hp; simp at hp; omega
  have hcases : op = 3 ∨ op = 4 ∨ op = 11 ∨ op = 12 ∨ op = 13 ∨ op = 14 ∨ op = 15 ∨ op = 16 ∨ op = 17 ∨ op = 18 ∨ op = 19 ∨ op = 20 ∨ op = 21 ∨ op = 22 ∨ op = 23 ∨ op = 24 ∨ op = 25 ∨ op = 26 ∨ op = 27 ∨ op = 28 ∨ op = 29 ∨ op = 30 ∨ op = 31 ∨ op = 32 ∨ op = 33 ∨ op = 35 ∨ op = 36 ∨ op = 37 ∨ op = 38 ∨ op = 39 ∨ op = 40 := by omega
  rcases hcases with rfl | rfl | rfl | rfl | rfl | rfl | rfl | rfl | rfl | rfl | rfl | rfl | rfl | rfl | rfl | rfl | rfl | rfl | rfl | rfl | rfl | rfl | rfl | rfl | rfl | rfl | rfl | rfl | rfl | rfl | rfl
  · rw [show typesOf (opRow 3).2.2.2.1 = [3] from by decide +kernel]
    exact fit1 3 _ _ (ok3 _)
  · rw [show typesOf (opRow 4).2.2.2.1 = [3] from by decide +kernel]
    exact fit1 3 _ _ (ok3 _)
  · rw [show typesOf (opRow 11).2.2.2.1 = [1] from by decide +kernel]
    exact num_ok 11 (l.headD ⟨0, 0, ⟨#[]⟩⟩).n (l.getLastD ⟨0, 0, ⟨#[]⟩⟩).n h0
  · rw [show typesOf (opRow 12).2.2.2.1 = [1] from by decide +kernel]
    exact num_ok 12 (l.headD ⟨0, 0, ⟨#[]⟩⟩).n (l.getLastD ⟨0, 0, ⟨#[]⟩⟩).n h0
  · rw [show typesOf (opRow 13).2.2.2.1 = [1] from by decide +kernel]
    exact num_ok 13 (l.headD ⟨0, 0, ⟨#[]⟩⟩).n (l.getLastD ⟨0, 0, ⟨#[]⟩⟩).n h0
  · rw [show typesOf (opRow 14).2.2.2.1 = [1] from by decide +kernel]
    exact num_ok 14 (l.headD ⟨0, 0, ⟨#[]⟩⟩).n (l.getLastD ⟨0, 0, ⟨#[]⟩⟩).n h0
  · rw [show typesOf (opRow 15).2.2.2.1 = [1] from by decide +kernel]
    exact num_ok 15 (l.headD ⟨0, 0, ⟨#[]⟩⟩).n (l.getLastD ⟨0, 0, ⟨#[]⟩⟩).n h0
  · rw [show typesOf (opRow 16).2.2.2.1 = [1] from by decide +kernel]
    exact num_ok 16 (l.headD ⟨0, 0, ⟨#[]⟩⟩).n (l.getLastD ⟨0, 0, ⟨#[]⟩⟩).n h0
  · rw [show typesOf (opRow 17).2.2.2.1 = [1] from by decide +kernel]
    exact num_ok 17 (l.headD ⟨0, 0, ⟨#[]⟩⟩).n (l.getLastD ⟨0, 0, ⟨#[]⟩⟩).n h0
  · rw [show typesOf (opRow 18).2.2.2.1 = [1] from by decide +kernel]
    exact num_ok 18 (l.headD ⟨0, 0, ⟨#[]⟩⟩).n (l.getLastD ⟨0, 0, ⟨#[]⟩⟩).n h0
  · rw [show typesOf (opRow 19).2.2.2.1 = [1] from by decide +kernel]
    exact num_ok 19 (l.headD ⟨0, 0, ⟨#[]⟩⟩).n (l.getLastD ⟨0, 0, ⟨#[]⟩⟩).n h0
  · rw [show typesOf (opRow 20).2.2.2.1 = [1] from by decide +kernel]
    exact num_ok 20 (l.headD ⟨0, 0, ⟨#[]⟩⟩).n (l.getLastD ⟨0, 0, ⟨#[]⟩⟩).n h0
  · rw [show typesOf (opRow 21).2.2.2.1 = [1] from by decide +kernel]
    exact num_ok 21 (l.headD ⟨0, 0, ⟨#[]⟩⟩).n (l.getLastD ⟨0, 0, ⟨#[]⟩⟩).n h0
  · rw [show typesOf (opRow 22).2.2.2.1 = [1] from by decide +kernel]
    exact num_ok 22 (l.headD ⟨0, 0, ⟨#[]⟩⟩).n (l.getLastD ⟨0, 0, ⟨#[]⟩⟩).n h0
  · rw [show typesOf (opRow 23).2.2.2.1 = [3] from by decide +kernel]
    exact fit1 3 _ _ (ok3 _)
  · rw [show typesOf (opRow 24).2.2.2.1 = [3] from by decide +kernel]
    exact fit1 3 _ _ (ok3 _)
  · rw [show typesOf (opRow 25).2.2.2.1 = [3] from by decide +kernel]
    exact fit1 3 _ _ (ok3 _)
  · rw [show typesOf (opRow 26).2.2.2.1 = [3] from by decide +kernel]
    exact fit1 3 _ _ (ok3 _)
  · rw [show typesOf (opRow 27).2.2.2.1 = [3] from by decide +kernel]
    exact fit1 3 _ _ (ok3 _)
  · rw [show typesOf (opRow 28).2.2.2.1 = [3] from by decide +kernel]
    exact fit1 3 _ _ (ok3 _)
  · rw [show typesOf (opRow 29).2.2.2.1 = [3] from by decide +kernel]
    exact fit1 3 _ _ (ok3 _)
  · rw [show typesOf (opRow 30).2.2.2.1 = [3] from by decide +kernel]
    exact fit1 3 _ _ (ok3 _)
  · rw [show typesOf (opRow 31).2.2.2.1 = [3] from by decide +kernel]
    exact fit1 3 _ _ (ok3 _)
  · rw [show typesOf (opRow 32).2.2.2.1 = [1] from by decide +kernel]
    exact fit1 1 _ _ (ok1 _)
  · rw [show typesOf (opRow 33).2.2.2.1 = [2] from by decide +kernel]
    obtain ⟨a, b, rfl⟩ := two_of hf (by decide +kernel)
    by_cases h : 256 < a.s.size + b.s.size
    · have e : (applyR 33 [a, b]).2 = 41 := by show (textR 33 a b).2 = 41; simp [textR, h]
      rw [e] at h0; cases h0
    · have e : (applyR 33 [a, b]).1 = ⟨2, 0, a.s ++ b.s⟩ := by show (textR 33 a b).1 = _; simp [textR, h]
      rw [e]
      exact fit1 2 _ _ (ok2 _ (by rw [ByteArray.size_append]; omega))
  · rw [show typesOf (opRow 35).2.2.2.1 = [1] from by decide +kernel]
    obtain ⟨a, b, rfl⟩ := two_of hf (by decide +kernel)
    by_cases h : 0 ≤ b.n ∧ b.n.toNat < a.s.size
    · have e : (applyR 35 [a, b]).1 = ⟨1, ((a.s[b.n.toNat]'h.2).toNat : Int), ⟨#[]⟩⟩ := by show (textR 35 a b).1 = _; simp [textR, h]
      rw [e]
      exact fit1 1 _ _ (ok1 _)
    · have e : (applyR 35 [a, b]).2 = 42 := by show (textR 35 a b).2 = 42; unfold textR; simp only [show ¬ ((35 : Int) = 32) from by decide, show ¬ ((35 : Int) = 33) from by decide, if_false, if_true]; rw [dif_neg h]
      rw [e] at h0; cases h0
  · rw [show typesOf (opRow 36).2.2.2.1 = [3] from by decide +kernel]
    exact fit1 3 _ _ (ok3 _)
  · rw [show typesOf (opRow 37).2.2.2.1 = [3] from by decide +kernel]
    exact fit1 3 _ _ (ok3 _)
  · rw [show typesOf (opRow 38).2.2.2.1 = [2] from by decide +kernel]
    exact fit1 2 _ _ (ok2 _ (by show (be8 _).toArray.size ≤ 256; simp [be8]))
  · rw [show typesOf (opRow 39).2.2.2.1 = [1] from by decide +kernel]
    obtain ⟨a, rfl⟩ := one_of hf (by decide +kernel)
    by_cases h : 8 < a.s.size
    · have e : (applyR 39 [a]).2 = 41 := by show (textR 39 a a).2 = 41; simp [textR, h]
      rw [e] at h0; cases h0
    · have e : (applyR 39 [a]).1 = ⟨1, unpackN a.s.data.toList, ⟨#[]⟩⟩ := by show (textR 39 a a).1 = _; simp [textR, h]
      rw [e]
      exact fit1 1 _ _ (ok1 _)
  · rw [show typesOf (opRow 40).2.2.2.1 = [2] from by decide +kernel]
    exact fit1 2 _ _ (ok2 _ (by show (one _).toArray.size ≤ 256; simp [one]))

theorem pushI_mem : ∀ (ts : List Int) (a b : Int) (x : I), x ∈ pushI ts a b → (∃ z, x = ⟨1, z⟩) ∨ x = ⟨2, 0⟩ ∨ x = ⟨3, 0⟩
  | [], _, _, x, h => by cases h
  | t :: r, a, b, x, h => by
    unfold pushI at h
    split at h
    · rcases List.mem_cons.1 h with rfl | h
      · exact .inl ⟨a, rfl⟩
      · exact pushI_mem r b b x h
    · split at h
      · rcases List.mem_cons.1 h with rfl | h
        · exact .inr (.inl rfl)
        · exact pushI_mem r a b x h
      · rcases List.mem_cons.1 h with rfl | h
        · exact .inr (.inr rfl)
        · exact pushI_mem r a b x h

theorem rightI_1 (s : Sc) (k z : Int) : Code.rightI s k ⟨1, z⟩ = true := by
  unfold Code.rightI; rw [show (opRow 1).2.1 = 1 from by decide +kernel]; rfl
theorem rightI_2 (s : ByteArray) (fs : List Wd.Fn) (k : Int) : Code.rightI ⟨[s], fs⟩ k ⟨2, 0⟩ = true := by
  unfold Code.rightI Code.lim
  rw [show (opRow 2).2.1 = 2 from by decide +kernel, show (opRow 2).1.toList.isEmpty = false from by decide +kernel]
  simp
theorem rightI_0 (s : Sc) (k n : Int) (h1 : (opRow n).2.1 = 0) (h2 : (opRow n).1.toList.isEmpty = false) : Code.rightI s k ⟨n, 0⟩ = true := by
  unfold Code.rightI Code.lim
  simp only [h1, h2]
  simp

theorem right_law (s : ByteArray) (hs : s.size ≤ 256) (n a b : Int) (hp : plainB n = true) : Rt.rightS ⟨[s], [⟨[], typesOf (opRow n).2.2.2.1, [], pushI (inOf n) a b ++ [⟨n, 0⟩]⟩]⟩ = true := by
  obtain ⟨h1, h2, h3, h4, h5, h6, h7, h8⟩ := table n hp
  have hc : ∀ x ∈ pushI (inOf n) a b ++ [⟨n, 0⟩], ∀ k : Int, Code.rightI ⟨[s], [⟨[], typesOf (opRow n).2.2.2.1, [], pushI (inOf n) a b ++ [⟨n, 0⟩]⟩]⟩ k x = true := by
    intro x hx k
    rcases List.mem_append.1 hx with hx | hx
    · rcases pushI_mem _ _ _ _ hx with ⟨z, rfl⟩ | rfl | rfl
      · exact rightI_1 _ _ _
      · exact rightI_2 _ _ _
      · exact rightI_0 _ _ _ (by decide +kernel) (by decide +kernel)
    · simp at hx; subst hx
      exact rightI_0 _ _ _ h3 h4
  have hb : (typesOf (opRow n).2.2.2.1).any Code.badB = false := by
    rw [List.any_eq_false]
    intro t ht
    rcases h8 t ht with rfl | rfl | rfl <;> decide
  have hl : [s].any Code.longB = false := by
    rw [List.any_eq_false]
    intro x hx
    simp at hx; subst hx
    unfold Code.longB
    simp; omega
  unfold Rt.rightS Rt.rightF
  simp only [List.all_cons, List.all_nil, Bool.and_true, hl, List.length_cons, List.length_nil, List.length_append, pushI_len, List.nil_append, List.append_nil, hb]
  have hall : (pushI (inOf n) a b ++ [(⟨n, 0⟩ : I)]).all (Code.rightI ⟨[s], [⟨[], typesOf (opRow n).2.2.2.1, [], pushI (inOf n) a b ++ [⟨n, 0⟩]⟩]⟩ (((0 : Nat) : Int) + ((0 : Nat) : Int))) = true := List.all_eq_true.2 fun x hx => hc x hx _
  simp only [h7]
  rw [show decide ((inOf n).length + (0 + 1) ≤ 256) = true from decide_eq_true (by omega)]
  rw [hall]
  rfl

theorem simple_law (n a b : Int) (hp : plainB n = true) : simple (pushI (inOf n) a b ++ [⟨n, 0⟩]) := by
  intro x hx
  rcases List.mem_append.1 hx with hx | hx
  · rcases pushI_mem _ _ _ _ hx with ⟨z, rfl⟩ | rfl | rfl 
    · left; show (1 : Int) < 48; decide
    · left; decide
    · left; decide
  · simp at hx; subst hx
    left; unfold plainB at hp; simp at hp; show n < 48; omega

/-- What the run comes to. -/
theorem exec_law (s : ByteArray) (hs : s.size ≤ 256) (n a b : Int) (hp : plainB n = true) :
    exec [s] (pushI (inOf n) a b ++ [⟨n, 0⟩]) [] 0 = if (applyR n (pushV s (inOf n) a b)).2 = 0 then ([(applyR n (pushV s (inOf n) a b)).1], (inOf n).length + (opRow n).2.2.2.2, 0) else ([], (inOf n).length + (opRow n).2.2.2.2, (applyR n (pushV s (inOf n) a b)).2) := by
  rw [exec_push, List.nil_append, Int.zero_add, exec_last [s] n hp _ (pushV_len s _ _ _)]
theorem good_law (s : ByteArray) (hs : s.size ≤ 256) (n a b : Int) (hp : plainB n = true) (h34 : n ≠ 34) : good [s] 100 (pushI (inOf n) a b ++ [⟨n, 0⟩]) [] 0 := by
  obtain ⟨h1, h2, h3, h4, h5, h6, h7, h8⟩ := table n hp
  refine good_push s 100 _ a b _ [] 0 (by simp; omega) (by omega) (by omega) ?_
  exact good_last [s] 100 n hp h34 _ (fits_push s hs _ a b h1) _ (by omega) (by omega)
theorem fit_law (s : ByteArray) (hs : s.size ≤ 256) (n a b : Int) (hp : plainB n = true) (h34 : n ≠ 34) (h0 : (applyR n (pushV s (inOf n) a b)).2 = 0) : fits [(applyR n (pushV s (inOf n) a b)).1] (typesOf (opRow n).2.2.2.1) = true :=
  apply_out n hp h34 _ (fits_push s hs _ a b (table n hp).1) h0
end Go.Proofs.Ytnapbjfmkofhcaa.Law
