/- A rule for a region that draws its order: each operation's answer is said once, in the frame that stands behind the region; the order does not matter. -/
import Derived.Orders
import Derived.OrdersHeld
import Derived.Tactics
import Derived.KernelRfl
namespace Go.Proofs.Ytnapbjfmkofhcaa.Reg
set_option linter.unusedVariables false
set_option linter.unusedSimpArgs false
variable {P : Program} {ops : Array Oper}

/-- The places that an operation waits for. -/
def waits (o : Oper) : List Nat := (o.after.toList.filter fun e => Region.binds .any e).map (·.on)

/-- Who waits stands behind whom he waits for; each slot has one writer, and who reads it waits for him. -/
def okB (ops : Array Oper) : Bool :=
  Region.noSelect ops &&
  (List.range ops.size).all fun i => match ops[i]? with
    | none => true
    | some o => (waits o).all (fun j => decide (j < i)) &&
      (List.range ops.size).all fun j => match ops[j]? with
        | none => true
        | some u => match u.dst with
          | none => true
          | some d => (!(o.looksAt ops).contains d || (waits o).contains j) && (i == j || o.dst != some d)

structure Ok (ops : Array Oper) : Prop where
  sel : ∀ (i : Nat) (o : Oper) cs b, ops[i]? = some o → o.op ≠ .select cs b
  lt : ∀ (i : Nat) (o : Oper), ops[i]? = some o → ∀ j ∈ waits o, j < i
  reads : ∀ (i : Nat) (o : Oper), ops[i]? = some o → ∀ (j : Nat) (u : Oper) (d : Tmp), ops[j]? = some u → u.dst = some d → d ∈ o.looksAt ops → j ∈ waits o
  one : ∀ (i : Nat) (o : Oper), ops[i]? = some o → ∀ (j : Nat) (u : Oper) (d : Tmp), ops[j]? = some u → u.dst = some d → i ≠ j → o.dst ≠ some d

theorem ok_of (h : okB ops = true) : Ok ops := by
  unfold okB at h
  rw [Bool.and_eq_true, List.all_eq_true] at h
  obtain ⟨hs, h⟩ := h
  have key : ∀ (i : Nat) (o : Oper), ops[i]? = some o → (waits o).all (fun j => decide (j < i)) = true ∧ ∀ (j : Nat) (u : Oper) (d : Tmp), ops[j]? = some u → u.dst = some d →
      ((!(o.looksAt ops).contains d || (waits o).contains j) && (i == j || o.dst != some d)) = true := by
    intro i o ho
    have hi : i < ops.size := (Array.getElem?_eq_some_iff.1 ho).1
    have h1 := h i (List.mem_range.2 hi)
    simp only [ho, Bool.and_eq_true] at h1
    refine ⟨h1.1, fun j u d hu hd => ?_⟩
    have hj : j < ops.size := (Array.getElem?_eq_some_iff.1 hu).1
    have h2 := (List.all_eq_true.1 h1.2) j (List.mem_range.2 hj)
    simp only [hu, hd] at h2
    exact h2
  refine ⟨Region.noSelect_spec hs |> fun f i o cs b ho => f i o cs b ho, fun i o ho j hj => ?_, fun i o ho j u d hu hd hl => ?_, fun i o ho j u d hu hd hne => ?_⟩
  · exact of_decide_eq_true ((List.all_eq_true.1 (key i o ho).1) j hj)
  · have := (key i o ho).2 j u d hu hd
    simp only [Bool.and_eq_true, Bool.or_eq_true, Bool.not_eq_true'] at this
    rcases this.1 with h1 | h1
    · rw [List.contains_eq_mem] at h1; simp [hl] at h1
    · simpa [List.contains_eq_mem] using h1
  · have := (key i o ho).2 j u d hu hd
    simp only [Bool.and_eq_true, Bool.or_eq_true, beq_iff_eq, bne_iff_ne] at this
    exact this.2.resolve_left hne

/-- What is asked of one operation: in the frame A, in every world that S lets in, it answers what A has in its slot, and S holds behind it. -/
def Gives (P : Program) (ops : Array Oper) (A : Act) (S S' : World → Prop) (o : Oper) : Prop :=
  if Region.wanted o (yielded ops A.tmps) = true then ∀ w, S w → ∀ K : Act → World → Prop, (∀ w', S' w' → K A w') → ∀ Q, o.wp P A w K Q else (A.put o.dst undef = A ∧ ∀ w, S w → S' w)

theorem looks_same {o : Oper} {a A : Act} (hsel : ∀ cs b, o.op ≠ .select cs b) (h : ∀ d : Nat, d ∈ o.looksAt ops → a.tmps[d]? = A.tmps[d]?) :
    execOp a.eval o = execOp A.eval o ∧ Region.wanted o (yielded ops a.tmps) = Region.wanted o (yielded ops A.tmps) := by
  constructor
  · refine execOp_congr o hsel fun x hx => ?_
    cases x with
    | tmp t =>
      have := h t (by
        unfold Oper.looksAt
        exact List.mem_append_left _ (List.mem_filterMap.2 ⟨.tmp t, by simpa using hx, rfl⟩))
      simp [Act.eval, this]
    | const v => rfl
    | global g => rfl
    | func f => rfl
  · unfold Region.wanted
    cases hg : o.guard with
    | none => rfl
    | some gp =>
      obtain ⟨g, b⟩ := gp
      have hy : yielded ops a.tmps g = yielded ops A.tmps g := by
        unfold yielded
        cases hd : (ops[g]?).bind (·.dst) with
        | none => rfl
        | some d =>
          have := h d (by simp [Oper.looksAt, hg, hd])
          simp [this]
      simp only [hy]

/-- The frame behind the first operations, in some order: a slot whose writer is done holds what A has. -/
structure Inv (ops : Array Oper) (A : Act) (listed : Array Bool) (a : Act) : Prop where
  size : a.tmps.size = A.tmps.size
  defers : a.defers = A.defers
  slots : ∀ (d : Tmp), (∀ (j : Nat) (u : Oper), ops[j]? = some u → u.dst = some d → listed.getD j false = true) → a.tmps[d]? = A.tmps[d]?

theorem put_get {a : Act} {d t : Nat} {v : Value} : (a.put (some d) v).tmps[t]? = if d = t ∧ d < a.tmps.size then some v else a.tmps[t]? := by
  simp only [Act.put, Array.getElem?_setIfInBounds]
  by_cases h : d = t
  · subst h
    by_cases hs : d < a.tmps.size
    · simp [hs]
    · simp [hs]
  · simp [h]

theorem inv_put (hk : Ok ops) {A a : Act} {listed : Array Bool} {i : Nat} {o : Oper} {v : Value} (ho : ops[i]? = some o) (hsz : listed.size = ops.size) (hI : Inv ops A listed a) (hv : A.put o.dst v = A) :
    Inv ops A (listed.setIfInBounds i true) (a.put o.dst v) := by
  have hset : ∀ j, j ≠ i → (listed.setIfInBounds i true).getD j false = listed.getD j false := fun j hj => getD_set_ne false (Ne.symm hj)
  cases hd : o.dst with
  | none =>
    refine ⟨hI.size, hI.defers, fun d h => hI.slots d fun j u hu hud => ?_⟩
    have := h j u hu hud
    by_cases hji : j = i
    · subst hji; rw [ho] at hu; cases hu; rw [hd] at hud; cases hud
    · rwa [hset j hji] at this
  | some d0 =>
    rw [hd] at hv
    refine ⟨by simpa [Act.put] using hI.size, hI.defers, fun d h => ?_⟩
    by_cases hdd : d0 = d
    · subst hdd
      have hA : A.tmps[d0]? = (A.put (some d0) v).tmps[d0]? := by rw [hv]
      rw [hA, put_get, put_get, hI.size]
      by_cases hlt : d0 < A.tmps.size
      · simp [hlt]
      · simp [hlt, hI.size]
    · rw [put_get, if_neg (fun h => hdd h.1)]
      refine hI.slots d fun j u hu hud => ?_
      have := h j u hu hud
      by_cases hji : j = i
      · subst hji; rw [ho] at hu; cases hu; rw [hd] at hud; cases hud; exact absurd rfl hdd
      · rwa [hset j hji] at this

theorem act_eq {a A : Act} (hs : a.tmps.size = A.tmps.size) (hd : a.defers = A.defers) (h : ∀ d : Nat, a.tmps[d]? = A.tmps[d]?) : a = A := by
  obtain ⟨t, d⟩ := a
  obtain ⟨t', d'⟩ := A
  simp only at hs hd h
  have : t = t' := Array.ext_getElem? h
  rw [this, hd]

theorem wpAny_inv (hk : Ok ops) {A : Act} {Q : Exit → Act → World → Prop} (S : (Nat → Bool) → World → Prop)
    (hg : ∀ (i : Nat) (o : Oper), ops[i]? = some o → ∀ L : Nat → Bool, L i = false → (∀ j ∈ waits o, L j = true) → Gives P ops A (S L) (S fun j => if j = i then true else L j) o)
    (hQ : ∀ w, S (fun j => decide (j < ops.size)) w → Q .normal A w) :
    ∀ (fuel : Nat) (listed : Array Bool) (a : Act) (w : World), listed.size = ops.size → Inv ops A listed a → S (fun j => listed.getD j false) w → (listed.toList.filter (!·)).length ≤ fuel →
      wpAny P .any ops Q fuel listed a w := by
  have hdone : ∀ (listed : Array Bool) (a : Act) (w : World), listed.size = ops.size → Inv ops A listed a → S (fun j => listed.getD j false) w → Region.ready .any ops listed = [] → Q .normal a w := by
    intro listed a w hsz hI hS hr
    have hall : ∀ j, j < ops.size → listed.getD j false = true := by
      intro j
      induction j using Nat.strongRecOn with
      | _ j ih =>
        intro hj
        have hn : j ∉ Region.ready .any ops listed := by rw [hr]; simp
        rw [mem_ready] at hn
        cases hb : listed.getD j false with
        | true => rfl
        | false =>
          exfalso
          apply hn
          refine ⟨?_, ops[j], Array.getElem?_eq_getElem hj, fun e he hbe => ?_⟩
          · rw [Array.getD_eq_getD_getElem?] at hb ⊢
            have : j < listed.size := by omega
            simpa [this] using hb
          · have hw : e.on ∈ waits ops[j] := by
              unfold waits
              exact List.mem_map.2 ⟨e, List.mem_filter.2 ⟨by simpa using he, hbe⟩, rfl⟩
            have hlt := hk.lt j _ (Array.getElem?_eq_getElem hj) _ hw
            exact ih e.on hlt (by omega)
    have hS' : (fun j => listed.getD j false) = fun j => decide (j < ops.size) := by
      funext j
      by_cases hj : j < ops.size
      · rw [hall j hj]; simp [hj]
      · have : ¬ j < listed.size := by omega
        simp [hj, this]
    have ha : a = A := act_eq hI.size hI.defers fun d => hI.slots d fun j u hu _ => hall j (Array.getElem?_eq_some_iff.1 hu).1
    rw [ha]
    rw [hS'] at hS
    exact hQ w hS
  intro fuel
  induction fuel with
  | zero =>
    intro listed a w hsz hI hS hf
    have hr : Region.ready .any ops listed = [] := by
      rw [List.eq_nil_iff_forall_not_mem]
      intro j hj
      rw [mem_ready] at hj
      have hlt : j < listed.size := by
        rw [hsz]; obtain ⟨_, o, ho, _⟩ := hj; exact (Array.getElem?_eq_some_iff.1 ho).1
      have h0 : listed[j] = false := by have := hj.1; simpa [hlt] using this
      have : false ∈ listed.toList.filter (!·) := List.mem_filter.2 ⟨by rw [← h0]; exact Array.mem_toList_iff.2 (Array.getElem_mem hlt), rfl⟩
      have := List.length_pos_of_mem this
      omega
    exact ⟨hr, hdone listed a w hsz hI hS hr⟩
  | succ fuel ih =>
    intro listed a w hsz hI hS hf
    refine ⟨hdone listed a w hsz hI hS, fun i hi => ?_⟩
    rw [mem_ready] at hi
    obtain ⟨h0, o, ho, hall⟩ := hi
    have hlt : i < listed.size := by rw [hsz]; exact (Array.getElem?_eq_some_iff.1 ho).1
    have h0' : listed.getD i false = false := by simpa [hlt] using h0
    have hwaits : ∀ j ∈ waits o, listed.getD j false = true := by
      intro j hj
      obtain ⟨e, he, rfl⟩ := List.mem_map.1 hj
      obtain ⟨he1, he2⟩ := List.mem_filter.1 he
      exact hall e (by simpa using he1) he2
    have hG := hg i o ho (fun j => listed.getD j false) h0' hwaits
    have hl := looks_same (ops := ops) (o := o) (a := a) (A := A) (fun cs b => hk.sel i o cs b ho) (fun d hd => hI.slots d fun j u hu hud => hwaits j (hk.reads i o ho j u d hu hud hd))
    have hcount : ((listed.setIfInBounds i true).toList.filter (!·)).length ≤ fuel := by
      have h1 : (listed.setIfInBounds i true).toList = listed.toList.set i true := by simp
      have h2 : listed.toList[i]'(by simpa using hlt) = false := by simpa [hlt] using h0
      have h3 : ∀ (l : List Bool) (i : Nat) (h : i < l.length), l[i] = false → ((l.set i true).filter (!·)).length + 1 = (l.filter (!·)).length := by
        intro l
        induction l with
        | nil => intro i h; simp at h
        | cons b l ihl =>
          intro i h hb
          cases i with
          | zero => simp at hb; subst hb; simp
          | succ i =>
            have := ihl i (by simpa using h) (by simpa using hb)
            cases b <;> simp [List.filter_cons] <;> omega
      have := h3 listed.toList i (by simpa using hlt) h2
      rw [h1]; omega
    have hstep : ∀ (v : Value) (w' : World), A.put o.dst v = A → S (fun j => if j = i then true else listed.getD j false) w' → wpAny P .any ops Q fuel (listed.setIfInBounds i true) (a.put o.dst v) w' := by
      intro v w' hv hS'
      refine ih _ _ _ (by simpa using hsz) (inv_put hk ho hsz hI hv) ?_ hcount
      have : (fun j => (listed.setIfInBounds i true).getD j false) = fun j => if j = i then true else listed.getD j false := by
        funext j
        by_cases hj : j = i
        · subst hj; simp [hlt]
        · rw [getD_set_ne false (Ne.symm hj)]; simp [hj]
      rw [this]; exact hS'
    unfold wpOp
    simp only [ho]
    unfold Gives at hG
    rw [hl.2]
    by_cases hw : Region.wanted o (yielded ops A.tmps) = true
    · rw [if_pos hw] at hG ⊢
      refine .inl ?_
      have h := hG w hS (fun a' w' => a' = A ∧ S (fun j => if j = i then true else listed.getD j false) w') (fun w' h => ⟨rfl, h⟩) (fun _ _ _ => False)
      unfold Oper.wp at h ⊢
      rw [hl.1]
      generalize (execOp A.eval o).run P w = r at h ⊢
      cases r with
      | ok n w' =>
        cases n <;> simp only [Oper.upon] at h ⊢
        case value v => exact hstep v w' h.1 h.2
        case skip => exact hstep undef w' h.1 h.2
        case defer d =>
          exfalso
          have h1 := congrArg Act.defers h.1
          have h2 := congrArg List.length h1
          cases hd : o.dst <;> simp [Act.put, hd] at h2
        case enter f args =>
          refine Calls.mono h fun e w'' he => ?_
          cases e with
          | returned v => exact hstep v w'' he.1 he.2
          | panicked c => exact he.elim
          | outgrown => exact absurd he (fun ⟨_, _, h⟩ => h)
        case row row args =>
          refine Rows.mono h fun v w'' he => ?_
          exact hstep v w'' he.1 he.2
      | halt x w' => cases x <;> simp only [Oper.upon] at h ⊢
    · rw [if_neg hw] at hG ⊢
      exact hstep undef w hG.1 (hG.2 w hS)

/-- What is asked of all, one behind the other. -/
def Each (P : Program) (ops : Array Oper) (A : Act) (S : (Nat → Bool) → World → Prop) : Nat → List Oper → Prop
  | _, [] => True
  | i, o :: l => (∀ L : Nat → Bool, L i = false → (∀ j ∈ waits o, L j = true) → Gives P ops A (S L) (S fun j => if j = i then true else L j) o) ∧ Each P ops A S (i + 1) l

theorem Each.get {A : Act} {S : (Nat → Bool) → World → Prop} : ∀ (l : List Oper) (k : Nat), Each P ops A S k l → ∀ (i : Nat) (o : Oper), l[i]? = some o →
    ∀ L : Nat → Bool, L (k + i) = false → (∀ j ∈ waits o, L j = true) → Gives P ops A (S L) (S fun j => if j = k + i then true else L j) o := by
  intro l
  induction l with
  | nil => intro k _ i o h; simp at h
  | cons x l ih =>
    intro k h i o hi
    cases i with
    | zero => simp at hi; subst hi; exact h.1
    | succ i =>
      have := ih (k + 1) h.2 i o (by simpa using hi)
      rwa [show k + 1 + i = k + (i + 1) by omega] at this

/-- Does A hold what a holds in each slot that the region does not write? -/
def sameB (ops : List Oper) (a A : Act) : Prop := a.tmps.size = A.tmps.size ∧ a.defers = A.defers ∧ ∀ d : Nat, (∀ u ∈ ops, u.dst ≠ some d) → a.tmps[d]? = A.tmps[d]?

/-- THE RULE. S may ask which operations are done. -/
theorem wp_region_each {id : Nat} {l : List Oper} {a : Act} {w : World} {Q : Exit → Act → World → Prop} (hm : P.follows .mixedOrders = true) (hk : okB l.toArray = true) (A : Act) (S : (Nat → Bool) → World → Prop)
    (hsame : sameB l a A) (hS : S (fun _ => false) w.drew) (hE : Each P l.toArray A S 0 l) (hQ : ∀ w, S (fun j => decide (j < l.length)) w → Q .normal A w) :
    (Code.region id l.toArray true).wp P Q a w := by
  refine wp_region_any hm ?_
  have hk' := ok_of hk
  refine wpAny_inv hk' S (fun i o ho L hL hw => ?_) (fun w h => hQ w (by simpa using h)) _ _ _ _ (by simp) ⟨hsame.1, hsame.2.1, fun d h => hsame.2.2 d fun u hu hud => ?_⟩ ?_ ?_
  · have h := Each.get l 0 hE i o (by simpa using ho) L (by simpa using hL) hw
    simpa using h
  · obtain ⟨j, hj⟩ := List.mem_iff_getElem?.1 hu
    have h1 := h j u (by simpa using hj) hud
    have h2 : j < l.length := (List.getElem?_eq_some_iff.1 hj).1
    simp [h2] at h1
  · have : (fun j => (Array.replicate l.toArray.size false).getD j false) = fun _ => false := by
      funext j
      by_cases hj : j < l.length
      · simp [hj]
      · simp [hj]
    rw [this]; exact hS
  · exact Nat.le_trans (List.length_filter_le _ _) (by simp)

/-- The rule where S is of the world alone. -/
theorem wp_region_ssa {id : Nat} {l : List Oper} {a : Act} {w : World} {Q : Exit → Act → World → Prop} (hm : P.follows .mixedOrders = true) (hk : okB l.toArray = true) (A : Act) (S : World → Prop)
    (hsame : sameB l a A) (hS : S w.drew) (hE : ∀ o ∈ l, Gives P l.toArray A S S o) (hQ : ∀ w, S w → Q .normal A w) :
    (Code.region id l.toArray true).wp P Q a w := by
  refine wp_region_each hm hk A (fun _ => S) hsame hS ?_ hQ
  have : ∀ (l' : List Oper) (k : Nat), (∀ o ∈ l', Gives P l.toArray A S S o) → Each P l.toArray A (fun _ => S) k l' := by
    intro l'
    induction l' with
    | nil => intro k _; exact trivial
    | cons o l' ih => intro k h; exact ⟨fun L _ _ => h o (by simp), ih (k + 1) fun u hu => h u (by simp [hu])⟩
  exact this l 0 hE

/-- A frame with some slots written. -/
def puts (a : Act) (vs : List (Tmp × Value)) : Act := { tmps := (vs.foldl (fun (l : List Value) p => l.set p.1 p.2) a.tmps.toList).toArray, defers := a.defers }

theorem sameB_puts {ops : List Oper} {a : Act} {vs : List (Tmp × Value)} (h : (vs.all fun p => ops.any fun u => u.dst == some p.1) = true) : sameB ops a (puts a vs) := by
  have key : ∀ (vs : List (Tmp × Value)) (l : List Value), (vs.all fun p => ops.any fun u => u.dst == some p.1) = true →
      (vs.foldl (fun (l : List Value) p => l.set p.1 p.2) l).length = l.length ∧ ∀ d : Nat, (∀ u ∈ ops, u.dst ≠ some d) → (vs.foldl (fun (l : List Value) p => l.set p.1 p.2) l)[d]? = l[d]? := by
    intro vs
    induction vs with
    | nil => intro l _; exact ⟨rfl, fun _ _ => rfl⟩
    | cons p vs ih =>
      intro l h
      simp only [List.all_cons, Bool.and_eq_true] at h
      have h2 := ih (l.set p.1 p.2) h.2
      simp only [List.foldl_cons]
      refine ⟨by rw [h2.1]; simp, fun d hd => ?_⟩
      rw [h2.2 d hd]
      obtain ⟨u, hu, hud⟩ := List.any_eq_true.1 h.1
      have hne : p.1 ≠ d := fun e => hd u hu (by rw [← e]; simpa using hud)
      rw [List.getElem?_set_ne hne]
  have h2 := key vs a.tmps.toList h
  refine ⟨?_, rfl, fun d hd => ?_⟩
  · simp only [puts, List.size_toArray, h2.1, Array.length_toList]
  · simp only [puts, List.getElem?_toArray, h2.2 d hd, Array.getElem?_toList]

theorem wp_region_vals {id : Nat} {l : List Oper} {a : Act} {w : World} {Q : Exit → Act → World → Prop} (hm : P.follows .mixedOrders = true) (hk : okB l.toArray = true) (vs : List (Tmp × Value)) (S : World → Prop)
    (hv : (vs.all fun p => l.any fun u => u.dst == some p.1) = true) (hS : S w.drew) (hE : ∀ A, A = puts a vs → ∀ o ∈ l, Gives P l.toArray A S S o) (hQ : ∀ A, A = puts a vs → ∀ w, S w → Q .normal A w) :
    (Code.region id l.toArray true).wp P Q a w :=
  wp_region_ssa hm hk (puts a vs) S (sameB_puts hv) hS (hE _ rfl) (hQ _ rfl)

theorem gives_wanted {o : Oper} {A : Act} {S S' : World → Prop} (h : Region.wanted o (yielded ops A.tmps) = true) (h' : ∀ w, S w → ∀ K : Act → World → Prop, (∀ w', S' w' → K A w') → ∀ Q, o.wp P A w K Q) : Gives P ops A S S' o := by
  unfold Gives; rw [if_pos h]; exact h'
theorem gives_skip {o : Oper} {A : Act} {S : World → Prop} (h : Region.wanted o (yielded ops A.tmps) = false) (h' : A.put o.dst undef = A) : Gives P ops A S S o := by
  unfold Gives; rw [if_neg (by rw [h]; decide)]; exact ⟨h', fun _ hw => hw⟩
end Go.Proofs.Ytnapbjfmkofhcaa.Reg
