/- The plain law of SlowPlain: what the code that puts values and does one plain operation comes to. No walk. -/
import Derived.Test.YtnapbjfmkofhcaaAll
import Derived.Test.YtnapbjfmkofhcaaRight
import Derived.Test.YtnapbjfmkofhcaaRefI
namespace Go.Proofs.Ytnapbjfmkofhcaa.Law
set_option linter.unusedVariables false
set_option linter.unusedSimpArgs false
open Go.RowKit Wd Sl Stk OpA OpB OpD OpE Does Shp All

def pushI : List Int → Int → Int → List I
  | [], _, _ => []
  | t :: r, a, b => if t = 1 then ⟨1, a⟩ :: pushI r b b else if t = 2 then ⟨2, 0⟩ :: pushI r a b else ⟨3, 0⟩ :: pushI r a b
def pushV (s : ByteArray) : List Int → Int → Int → List V
  | [], _, _ => []
  | t :: r, a, b => if t = 1 then ⟨1, a, ⟨#[]⟩⟩ :: pushV s r b b else if t = 2 then ⟨2, 0, s⟩ :: pushV s r a b else ⟨3, 1, ⟨#[]⟩⟩ :: pushV s r a b
def okT (ts : List Int) : Prop := ∀ t ∈ ts, t = 1 ∨ t = 2 ∨ t = 3

theorem pushI_len : ∀ (ts : List Int) (a b : Int), (pushI ts a b).length = ts.length
  | [], _, _ => rfl
  | t :: r, a, b => by unfold pushI; split <;> (try split) <;> simp [pushI_len r]
theorem pushV_len (s : ByteArray) : ∀ (ts : List Int) (a b : Int), (pushV s ts a b).length = ts.length
  | [], _, _ => rfl
  | t :: r, a, b => by unfold pushV; split <;> (try split) <;> simp [pushV_len s r]
theorem pushV_types (s : ByteArray) : ∀ (ts : List Int) (a b : Int), okT ts → (pushV s ts a b).map (·.t) = ts
  | [], _, _, _ => rfl
  | t :: r, a, b, h => by
    have hr : okT r := fun x hx => h x (by simp [hx])
    rcases h t (by simp) with rfl | rfl | rfl <;> simp [pushV, pushV_types s r _ _ hr]
theorem emp : (⟨#[]⟩ : ByteArray).toList.isEmpty = true := by decide +kernel
theorem pushV_ok (s : ByteArray) (hs : s.size ≤ 256) : ∀ (ts : List Int) (a b : Int), (pushV s ts a b).all V.ok = true
  | [], _, _ => rfl
  | t :: r, a, b => by
    unfold pushV
    split
    · rw [List.all_cons, pushV_ok s hs r b b]; simp [V.ok, emp]
    · split
      · rw [List.all_cons, pushV_ok s hs r a b]; simp [V.ok, hs]
      · rw [List.all_cons, pushV_ok s hs r a b]; simp [V.ok, emp]
theorem pushV_range (s : ByteArray) : ∀ (ts : List Int) (a b : Int), (-9223372036854775808 ≤ a ∧ a ≤ 9223372036854775807) → (-9223372036854775808 ≤ b ∧ b ≤ 9223372036854775807) → ∀ v ∈ pushV s ts a b, -9223372036854775808 ≤ v.n ∧ v.n ≤ 9223372036854775807
  | [], _, _, _, _ => by intro v hv; cases hv
  | t :: r, a, b, ha, hb => by
    intro v hv
    unfold pushV at hv
    split at hv
    · rcases List.mem_cons.1 hv with rfl | hv
      · exact ha
      · exact pushV_range s r b b hb hb v hv
    · split at hv
      · rcases List.mem_cons.1 hv with rfl | hv
        · simp
        · exact pushV_range s r a b ha hb v hv
      · rcases List.mem_cons.1 hv with rfl | hv
        · simp
        · exact pushV_range s r a b ha hb v hv
theorem fits_push (s : ByteArray) (hs : s.size ≤ 256) (ts : List Int) (a b : Int) (h : okT ts) : fits (pushV s ts a b) ts = true := by
  unfold fits
  rw [pushV_ok s hs, pushV_types s ts a b h, pushV_len]
  simp

theorem in1 : inOf 1 = [] := by decide +kernel
theorem in2 : inOf 2 = [] := by decide +kernel
theorem in3 : inOf 3 = [] := by decide +kernel
theorem co1 : (opRow 1).2.2.2.2 = 1 := by decide +kernel
theorem co2 : (opRow 2).2.2.2.2 = 1 := by decide +kernel
theorem co3 : (opRow 3).2.2.2.2 = 1 := by decide +kernel
theorem do3 (s : ByteArray) : doI [s] ⟨3, 0⟩ [] = ([⟨3, 1, ⟨#[]⟩⟩], 0) := rfl

theorem exec1 (cs : List ByteArray) (x : I) (v : V) (rest : List I) (zs : List V) (G : Int) (hi : inOf x.op = []) (hd : doI cs x [] = ([v], 0)) (hc : (opRow x.op).2.2.2.2 = 1) :
    exec cs (x :: rest) zs G = exec cs rest (zs ++ [v]) (G + 1) := by
  have h0 : zs.drop (zs.length - (inOf x.op).length) = [] := by rw [hi]; simp
  have h1 : zs.take (zs.length - (inOf x.op).length) = zs := by rw [hi]; simp
  rw [exec_cons cs x rest zs G ([v], 0) (by rw [h0]; exact hd), if_pos rfl, h1, hc]
theorem good1 (cs : List ByteArray) (limit : Int) (x : I) (v : V) (rest : List I) (zs : List V) (G : Int) (hi : inOf x.op = []) (hd : doI cs x [] = ([v], 0)) (hc : (opRow x.op).2.2.2.2 = 1) (ho : okI cs x []) (hz : zs.length + 1 ≤ 32) (h0 : 0 ≤ G) (hl : G + 1 ≤ limit) (hg : good cs limit rest (zs ++ [v]) (G + 1)) :
    good cs limit (x :: rest) zs G := by
  have e0 : zs.drop (zs.length - (inOf x.op).length) = [] := by rw [hi]; simp
  have e1 : zs.take (zs.length - (inOf x.op).length) = zs := by rw [hi]; simp
  unfold good
  rw [e0, e1, hd, hc, hi]
  exact ⟨by omega, by cases zs.reverse <;> rfl, ho, by omega, h0, hl, by simp; omega, fun _ => hg⟩

theorem exec_push (s : ByteArray) : ∀ (ts : List Int) (a b : Int) (rest : List I) (zs : List V) (G : Int), exec [s] (pushI ts a b ++ rest) zs G = exec [s] rest (zs ++ pushV s ts a b) (G + ts.length)
  | [], a, b, rest, zs, G => by simp [pushI, pushV]
  | t :: r, a, b, rest, zs, G => by
    have hG : G + ((t :: r).length : Int) = G + 1 + r.length := by simp; omega
    rw [hG]
    unfold pushI pushV
    split
    · rw [List.cons_append, exec1 [s] ⟨1, a⟩ ⟨1, a, ⟨#[]⟩⟩ _ _ _ in1 rfl co1, exec_push s r b b]; simp
    · split
      · rw [List.cons_append, exec1 [s] ⟨2, 0⟩ ⟨2, 0, s⟩ _ _ _ in2 rfl co2, exec_push s r a b]; simp
      · rw [List.cons_append, exec1 [s] ⟨3, 0⟩ ⟨3, 1, ⟨#[]⟩⟩ _ _ _ in3 (do3 s) co3, exec_push s r a b]; simp
theorem good_push (s : ByteArray) (limit : Int) : ∀ (ts : List Int) (a b : Int) (rest : List I) (zs : List V) (G : Int), zs.length + ts.length ≤ 32 → 0 ≤ G → G + ts.length ≤ limit → good [s] limit rest (zs ++ pushV s ts a b) (G + ts.length) → good [s] limit (pushI ts a b ++ rest) zs G
  | [], a, b, rest, zs, G, _, _, _, h => by simpa [pushI, pushV] using h
  | t :: r, a, b, rest, zs, G, h1, h2, h3, h => by
    have hG : G + ((t :: r).length : Int) = G + 1 + r.length := by simp; omega
    rw [hG] at h h3
    simp only [List.length_cons] at h1
    unfold pushI
    unfold pushV at h
    split
    · rename_i ht
      rw [if_pos ht] at h
      exact good1 [s] limit ⟨1, a⟩ ⟨1, a, ⟨#[]⟩⟩ _ _ _ in1 rfl co1 (.inl rfl) (by omega) h2 (by omega) (good_push s limit r b b rest _ _ (by simp; omega) (by omega) h3 (by simpa using h))
    · rename_i ht
      rw [if_neg ht] at h
      split
      · rename_i ht2
        rw [if_pos ht2] at h
        exact good1 [s] limit ⟨2, 0⟩ ⟨2, 0, s⟩ _ _ _ in2 rfl co2 (.inr (.inl ⟨rfl, by decide, by simp⟩)) (by omega) h2 (by omega) (good_push s limit r a b rest _ _ (by simp; omega) (by omega) h3 (by simpa using h))
      · rename_i ht2
        rw [if_neg ht2] at h
        exact good1 [s] limit ⟨3, 0⟩ ⟨3, 1, ⟨#[]⟩⟩ _ _ _ in3 (do3 s) co3 (.inr (.inr ⟨by decide, by decide, by decide +kernel⟩)) (by omega) h2 (by omega) (good_push s limit r a b rest _ _ (by simp; omega) (by omega) h3 (by simpa using h))

theorem takeErr_types : ∀ (vs : List V) (ts : List Int), vs.map (·.t) = ts → takeErr vs ts = 0
  | _, [], _ => by cases ‹List V› <;> rfl
  | [], t :: ts, h => by simp at h
  | v :: vs, t :: ts, h => by
    simp only [List.map_cons, List.cons.injEq] at h
    unfold takeErr
    rw [if_neg (fun h2 => h2.2 h.1)]
    exact takeErr_types vs ts h.2

/-- What the table says of plain operations. -/
theorem table (op : Int) (hp : plainB op = true) : (∀ t ∈ inOf op, t = 1 ∨ t = 2 ∨ t = 3) ∧ (inOf op).length ≤ 3 ∧ (opRow op).2.1 = 0 ∧ (opRow op).1.toList.isEmpty = false ∧ 1 ≤ (opRow op).2.2.2.2 ∧ (opRow op).2.2.2.2 ≤ 50 ∧ (typesOf (opRow op).2.2.2.1).length = 1 ∧ (∀ t ∈ typesOf (opRow op).2.2.2.1, t = 1 ∨ t = 2 ∨ t = 3) := by
  have key : ∀ n : Nat, n < 54 → plainB (n : Int) = true → (∀ t ∈ inOf n, t = 1 ∨ t = 2 ∨ t = 3) ∧ (inOf n).length ≤ 3 ∧ (opRow n).2.1 = 0 ∧ (opRow n).1.toList.isEmpty = false ∧ 1 ≤ (opRow n).2.2.2.2 ∧ (opRow n).2.2.2.2 ≤ 50 ∧ (typesOf (opRow n).2.2.2.1).length = 1 ∧ (∀ t ∈ typesOf (opRow n).2.2.2.1, t = 1 ∨ t = 2 ∨ t = 3) := by decide +kernel
  have h : 3 ≤ op ∧ op ≤ 40 := by unfold plainB at hp; simp at hp; omega
  obtain ⟨n, rfl⟩ : ∃ n : Nat, op = n := ⟨op.toNat, by omega⟩
  exact key n (by omega) hp

theorem exec_last (cs : List ByteArray) (n : Int) (hp : plainB n = true) (vs : List V) (hl : vs.length = (inOf n).length) (G : Int) :
    exec cs [⟨n, 0⟩] vs G = if (applyR n vs).2 = 0 then ([(applyR n vs).1], G + (opRow n).2.2.2.2, 0) else ([], G + (opRow n).2.2.2.2, (applyR n vs).2) := by
  have h : n ≠ 1 ∧ n ≠ 2 := by unfold plainB at hp; simp at hp; omega
  have e0 : vs.drop (vs.length - (inOf n).length) = vs := by rw [hl]; simp
  have e1 : vs.take (vs.length - (inOf n).length) = [] := by rw [hl]; simp
  have hd : doI cs ⟨n, 0⟩ vs = if (applyR n vs).2 = 0 then ([(applyR n vs).1], 0) else ([], (applyR n vs).2) := by
    unfold doI; rw [if_neg h.1, if_neg h.2]
  rw [exec_cons cs ⟨n, 0⟩ [] vs G (doI cs ⟨n, 0⟩ vs) (by rw [e0]), e1, hd]
  by_cases h0 : (applyR n vs).2 = 0
  · rw [if_pos h0, if_pos h0]; rfl
  · rw [if_neg h0, if_neg h0, if_neg h0]
theorem good_last (cs : List ByteArray) (limit : Int) (n : Int) (hp : plainB n = true) (h34 : n ≠ 34) (vs : List V) (hf : fits vs (inOf n) = true) (G : Int) (h0 : 0 ≤ G) (hG : G + (opRow n).2.2.2.2 ≤ limit) : good cs limit [⟨n, 0⟩] vs G := by
  have hl : vs.length = (inOf n).length := by unfold fits at hf; simp only [Bool.and_eq_true, beq_iff_eq] at hf; exact hf.1.1
  have ht : vs.map (·.t) = inOf n := by unfold fits at hf; simp only [Bool.and_eq_true, beq_iff_eq] at hf; exact hf.2
  have hn : n ≠ 1 ∧ n ≠ 2 := by unfold plainB at hp; simp at hp; omega
  obtain ⟨_, h3, _, _, h1, _⟩ := table n hp
  have e0 : vs.drop (vs.length - (inOf n).length) = vs := by rw [hl]; simp
  have e1 : vs.take (vs.length - (inOf n).length) = [] := by rw [hl]; simp
  have hd : (doI cs ⟨n, 0⟩ vs).1.length ≤ 1 := by
    unfold doI; rw [if_neg hn.1, if_neg hn.2]; split <;> simp
  unfold good
  simp only [e0, e1]
  refine ⟨by omega, ?_, .inr (.inr ⟨hp, h34, hf⟩), by omega, h0, hG, by simp; omega, fun _ => ?_⟩
  · exact takeErr_types _ _ (by rw [List.map_reverse, ht])
  · unfold good; simp; omega
end Go.Proofs.Ytnapbjfmkofhcaa.Law
