/- A second rule for a region that draws its order: one condition on what is done, the frame and the world; each operation is walked once. -/
import Derived.Test.YtnapbjfmkofhcaaReg
namespace Go.Proofs.Ytnapbjfmkofhcaa.Reg
set_option linter.unusedVariables false
set_option linter.unusedSimpArgs false
variable {P : Program} {ops : Array Oper}

theorem wpAny_gen (hk : Ok ops) (hgd : ∀ (i : Nat) (o : Oper), ops[i]? = some o → o.guard = none) {Q : Exit → Act → World → Prop} (J : (Nat → Bool) → Act → World → Prop)
    (hg : ∀ (i : Nat) (o : Oper), ops[i]? = some o → ∀ L : Nat → Bool, L i = false → (∀ j ∈ waits o, L j = true) → ∀ a w, J L a w → ∀ K : Act → World → Prop, (∀ a' w', J (fun j => if j = i then true else L j) a' w' → K a' w') → o.wp P a w K Q)
    (hQ : ∀ a w, J (fun j => decide (j < ops.size)) a w → Q .normal a w) :
    ∀ (fuel : Nat) (listed : Array Bool) (a : Act) (w : World), listed.size = ops.size → J (fun j => listed.getD j false) a w → (listed.toList.filter (!·)).length ≤ fuel →
      wpAny P .any ops Q fuel listed a w := by
  have hdone : ∀ (listed : Array Bool) (a : Act) (w : World), listed.size = ops.size → J (fun j => listed.getD j false) a w → Region.ready .any ops listed = [] → Q .normal a w := by
    intro listed a w hsz hS hr
    have hall : ∀ j, j < ops.size → listed.getD j false = true := by
      intro j
      induction j using Nat.strongRecOn with
      | _ j ih =>
        intro hj
        have hn : j ∉ Region.ready .any ops listed := by rw [hr]; simp
        rw [mem_ready] at hn
        cases hb : listed.getD j false with
        | true => rfl
        | false =>
          exfalso
          apply hn
          refine ⟨?_, ops[j], Array.getElem?_eq_getElem hj, fun e he hbe => ?_⟩
          · rw [Array.getD_eq_getD_getElem?] at hb ⊢
            have : j < listed.size := by omega
            simpa [this] using hb
          · have hw : e.on ∈ waits ops[j] := by
              unfold waits
              exact List.mem_map.2 ⟨e, List.mem_filter.2 ⟨by simpa using he, hbe⟩, rfl⟩
            have hlt := hk.lt j _ (Array.getElem?_eq_getElem hj) _ hw
            exact ih e.on hlt (by omega)
    have hS' : (fun j => listed.getD j false) = fun j => decide (j < ops.size) := by
      funext j
      by_cases hj : j < ops.size
      · rw [hall j hj]; simp [hj]
      · have : ¬ j < listed.size := by omega
        simp [hj, this]
    rw [hS'] at hS
    exact hQ a w hS
  intro fuel
  induction fuel with
  | zero =>
    intro listed a w hsz hS hf
    have hr : Region.ready .any ops listed = [] := by
      rw [List.eq_nil_iff_forall_not_mem]
      intro j hj
      rw [mem_ready] at hj
      have hlt : j < listed.size := by
        rw [hsz]; obtain ⟨_, o, ho, _⟩ := hj; exact (Array.getElem?_eq_some_iff.1 ho).1
      have h0 : listed[j] = false := by have := hj.1; simpa [hlt] using this
      have : false ∈ listed.toList.filter (!·) := List.mem_filter.2 ⟨by rw [← h0]; exact Array.mem_toList_iff.2 (Array.getElem_mem hlt), rfl⟩
      have := List.length_pos_of_mem this
      omega
    exact ⟨hr, hdone listed a w hsz hS hr⟩
  | succ fuel ih =>
    intro listed a w hsz hS hf
    refine ⟨hdone listed a w hsz hS, fun i hi => ?_⟩
    rw [mem_ready] at hi
    obtain ⟨h0, o, ho, hall⟩ := hi
    have hlt : i < listed.size := by rw [hsz]; exact (Array.getElem?_eq_some_iff.1 ho).1
    have h0' : listed.getD i false = false := by simpa [hlt] using h0
    have hwaits : ∀ j ∈ waits o, listed.getD j false = true := by
      intro j hj
      obtain ⟨e, he, rfl⟩ := List.mem_map.1 hj
      obtain ⟨he1, he2⟩ := List.mem_filter.1 he
      exact hall e (by simpa using he1) he2
    have hcount : ((listed.setIfInBounds i true).toList.filter (!·)).length ≤ fuel := by
      have h1 : (listed.setIfInBounds i true).toList = listed.toList.set i true := by simp
      have h2 : listed.toList[i]'(by simpa using hlt) = false := by simpa [hlt] using h0
      have h3 : ∀ (l : List Bool) (i : Nat) (h : i < l.length), l[i] = false → ((l.set i true).filter (!·)).length + 1 = (l.filter (!·)).length := by
        intro l
        induction l with
        | nil => intro i h; simp at h
        | cons b l ihl =>
          intro i h hb
          cases i with
          | zero => simp at hb; subst hb; simp
          | succ i =>
            have := ihl i (by simpa using h) (by simpa using hb)
            cases b <;> simp [List.filter_cons] <;> omega
      have := h3 listed.toList i (by simpa using hlt) h2
      rw [h1]; omega
    have hG := hg i o ho (fun j => listed.getD j false) h0' hwaits a w hS (wpAny P .any ops Q fuel (listed.setIfInBounds i true)) (fun a' w' hJ => ?_)
    · unfold wpOp
      simp only [ho]
      have hw : Region.wanted o (yielded ops a.tmps) = true := by unfold Region.wanted; rw [hgd i o ho]
      rw [if_pos hw]
      exact .inl hG
    · refine ih _ _ _ (by simpa using hsz) ?_ hcount
      have : (fun j => (listed.setIfInBounds i true).getD j false) = fun j => if j = i then true else listed.getD j false := by
        funext j
        by_cases hj : j = i
        · subst hj; simp [hlt]
        · rw [getD_set_ne false (Ne.symm hj)]; simp [hj]
      rw [this]; exact hJ

/-- What is asked of all, one behind the other. -/
def EachJ (P : Program) (Q : Exit → Act → World → Prop) (J : (Nat → Bool) → Act → World → Prop) : Nat → List Oper → Prop
  | _, [] => True
  | i, o :: l => (∀ L : Nat → Bool, L i = false → (∀ j ∈ waits o, L j = true) → ∀ a w, J L a w → ∀ K : Act → World → Prop, (∀ a' w', J (fun j => if j = i then true else L j) a' w' → K a' w') → o.wp P a w K Q) ∧ EachJ P Q J (i + 1) l

theorem EachJ.get {Q : Exit → Act → World → Prop} {J : (Nat → Bool) → Act → World → Prop} : ∀ (l : List Oper) (k : Nat), EachJ P Q J k l → ∀ (i : Nat) (o : Oper), l[i]? = some o →
    ∀ L : Nat → Bool, L (k + i) = false → (∀ j ∈ waits o, L j = true) → ∀ a w, J L a w → ∀ K : Act → World → Prop, (∀ a' w', J (fun j => if j = k + i then true else L j) a' w' → K a' w') → o.wp P a w K Q := by
  intro l
  induction l with
  | nil => intro k _ i o h; simp at h
  | cons x l ih =>
    intro k h i o hi
    cases i with
    | zero => simp at hi; subst hi; exact h.1
    | succ i =>
      have := ih (k + 1) h.2 i o (by simpa using hi)
      rwa [show k + 1 + i = k + (i + 1) by omega] at this

/-- THE RULE. J is told the frame in which the region begins. -/
theorem wp_region_gen {id : Nat} {l : List Oper} {a : Act} {w : World} {Q : Exit → Act → World → Prop} (hm : P.follows .mixedOrders = true) (hk : okB l.toArray = true) (hgd : (l.all fun o => o.guard.isNone) = true) (J : Act → (Nat → Bool) → Act → World → Prop)
    (hS : J a (fun _ => false) a w.drew) (hE : EachJ P Q (J a) 0 l) (hQ : ∀ a' w', J a (fun j => decide (j < l.length)) a' w' → Q .normal a' w') :
    (Code.region id l.toArray true).wp P Q a w := by
  refine wp_region_any hm ?_
  refine wpAny_gen (ok_of hk) (fun i o ho => ?_) (J a) (fun i o ho L hL hw => ?_) (fun a' w' h => hQ a' w' (by simpa using h)) _ _ _ _ (by simp) ?_ ?_
  · have h := List.all_eq_true.1 hgd o (List.mem_of_getElem? (by simpa using ho))
    simpa using h
  · have h := EachJ.get l 0 hE i o (by simpa using ho) L (by simpa using hL) hw
    simpa using h
  · have : (fun j => (Array.replicate l.toArray.size false).getD j false) = fun _ => false := by
      funext j
      by_cases hj : j < l.length
      · simp [hj]
      · simp [hj]
    rw [this]; exact hS
  · exact Nat.le_trans (List.length_filter_le _ _) (by simp)
end Go.Proofs.Ytnapbjfmkofhcaa.Reg
