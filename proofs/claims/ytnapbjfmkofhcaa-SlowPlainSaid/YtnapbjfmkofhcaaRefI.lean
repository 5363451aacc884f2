/- The reference of layer 3: answer of any plain operation is applyR. -/
import Derived.Test.YtnapbjfmkofhcaaRefF
import Derived.Test.YtnapbjfmkofhcaaRefG
import Derived.Test.YtnapbjfmkofhcaaRefH
import Derived.Test.YtnapbjfmkofhcaaApp
namespace Go.Proofs.Ytnapbjfmkofhcaa.RefI
set_option linter.unusedVariables false
set_option linter.unusedSimpArgs false
open Go.RowKit Wd Sl Beg OpB OpD OpE RefE

theorem u64w (x : Int) : IntKind.u64.wrap x = x % 18446744073709551616 := rfl
theorem ofInt_congr {x y : Int} (h : x % 18446744073709551616 = y % 18446744073709551616) : BitVec.ofInt 64 x = BitVec.ofInt 64 y := by
  apply BitVec.eq_of_toNat_eq
  rw [BitVec.toNat_ofInt, BitVec.toNat_ofInt]
  show (x % 18446744073709551616).toNat = (y % 18446744073709551616).toNat
  rw [h]
theorem or_step (i u c : Int) (h : u = i % 18446744073709551616) : Go.bits .or .u64 (IntKind.u64.wrap (u * 256)) (IntKind.u64.wrap c) = (Go.bits .or .i64 (wrap64 (i * 256)) c) % 18446744073709551616 := by
  have e1 : BitVec.ofInt 64 (IntKind.u64.wrap (u * 256)) = BitVec.ofInt 64 (wrap64 (i * 256)) := ofInt_congr (by rw [u64w, h]; unfold wrap64; omega)
  have e2 : BitVec.ofInt 64 (IntKind.u64.wrap c) = BitVec.ofInt 64 c := ofInt_congr (by rw [u64w]; omega)
  show IntKind.u64.wrap (((BitVec.ofInt 64 (IntKind.u64.wrap (u * 256)) ||| BitVec.ofInt 64 (IntKind.u64.wrap c)).toNat : Nat) : Int) = (IntKind.i64.wrap (((BitVec.ofInt 64 (wrap64 (i * 256)) ||| BitVec.ofInt 64 c).toNat : Nat) : Int)) % 18446744073709551616
  rw [e1, e2, u64w, IntKind.wrap_i64]
  omega
theorem or_range (x y : Int) : -9223372036854775808 ≤ Go.bits .or .i64 x y ∧ Go.bits .or .i64 x y ≤ 9223372036854775807 := by
  show -9223372036854775808 ≤ IntKind.i64.wrap (((BitVec.ofInt 64 x ||| BitVec.ofInt 64 y).toNat : Nat) : Int) ∧ IntKind.i64.wrap (((BitVec.ofInt 64 x ||| BitVec.ofInt 64 y).toNat : Nat) : Int) ≤ _
  rw [IntKind.wrap_i64]; omega
theorem fold_eq : ∀ (l : List UInt8) (i u : Int), u = i % 18446744073709551616 → -9223372036854775808 ≤ i → i ≤ 9223372036854775807 →
    wrap64 (l.foldl (fun n c => Go.bits .or .u64 (IntKind.u64.wrap (n * 256)) (IntKind.u64.wrap (c.toNat : Int))) u) = l.foldl (fun n c => Go.bits .or .i64 (wrap64 (n * 256)) (c.toNat : Int)) i
  | [], i, u, h, h1, h2 => by simp only [List.foldl_nil]; rw [h]; unfold wrap64; omega
  | c :: l, i, u, h, _, _ => by
    simp only [List.foldl_cons]
    exact fold_eq l _ _ (or_step i u c.toNat h) (or_range _ _).1 (or_range _ _).2
theorem unpack_eq (l : List UInt8) : wrap64 (RefD.unpackU l) = unpackN l := fold_eq l 0 0 rfl (by decide) (by decide)

theorem two_of {l : List V} {op : Int} (hf : fits l (inOf op) = true) (h : (inOf op).length = 2) : ∃ a b, l = [a, b] := by
  have hl : l.length = (inOf op).length := by unfold fits at hf; simp only [Bool.and_eq_true, beq_iff_eq] at hf; exact hf.1.1
  rw [h] at hl
  match l, hl with
  | [a, b], _ => exact ⟨a, b, rfl⟩
theorem one_of {l : List V} {op : Int} (hf : fits l (inOf op) = true) (h : (inOf op).length = 1) : ∃ a, l = [a] := by
  have hl : l.length = (inOf op).length := by unfold fits at hf; simp only [Bool.and_eq_true, beq_iff_eq] at hf; exact hf.1.1
  rw [h] at hl
  match l, hl with
  | [a], _ => exact ⟨a, rfl⟩
theorem bool_of {l : List V} (h : fits l [3, 3] = true) : ∀ v ∈ l, v.n = 0 ∨ v.n = 1 := by
  intro v hv
  unfold fits at h
  simp only [Bool.and_eq_true, beq_iff_eq] at h
  obtain ⟨⟨_, hall⟩, ht⟩ := h
  have hok := List.all_eq_true.1 hall v hv
  have h3 : v.t ∈ l.map (·.t) := List.mem_map.2 ⟨v, hv, rfl⟩
  rw [ht] at h3
  simp at h3
  unfold V.ok at hok
  rw [h3] at hok
  simp at hok
  exact hok.1

/-- What answer hands back. -/
def AnsPost (r : V × Int) (w : World) (e : Ending) (w' : World) : Prop :=
  (∃ t n s, e = .returned (.tuple #[.agg #[.int .i64 t, .int .i64 n, .string s], .int .i64 r.2]) ∧ (r.2 = 0 → r.1 = ⟨t, n, s⟩)) ∧ Below w.heap.size w w'
theorem ans_of {f : FuncId} {args : Array Value} {w : World} {t n : Int} {s : ByteArray} {er : Int} {r : V × Int} (h : Calls Try.prog f args w fun e w' => e = .returned (.tuple #[.agg #[.int .i64 t, .int .i64 n, .string s], .int .i64 er]) ∧ Below w.heap.size w w') (h1 : r.2 = er) (h2 : er = 0 → r.1 = ⟨t, n, s⟩) : Calls Try.prog f args w (AnsPost r w) :=
  h.mono fun e w' ⟨he, hb⟩ => ⟨⟨t, n, s, by rw [h1]; exact he, fun h => h2 (by rw [← h1]; exact h)⟩, hb⟩

set_option maxRecDepth 100000 in
theorem answer_calls (op : Int) (hp : plainB op = true) (h34 : op ≠ 34) (l : List V) (A : Option Addr) (c : Nat) (w : World) (hx : Rd encV 3 w A l) (hf : fits l (inOf op) = true) (hr : ∀ v ∈ l, -9223372036854775808 ≤ v.n ∧ v.n ≤ 9223372036854775807) :
    Calls Try.prog 24 #[.int .i64 op, .slice A l.length c] w (AnsPost (applyR op l) w) := by
  have hp' : op = 3 ∨ op = 4 ∨ (11 ≤ op ∧ op ≤ 40) := by unfold plainB at hp; simp at hp; omega
  have hsz : ∀ v ∈ l, v.s.size ≤ 1000000 := by
    intro v hv
    have hok : v.ok = true := by unfold fits at hf; simp only [Bool.and_eq_true] at hf; exact List.all_eq_true.1 hf.1.2 v hv
    have := ok_size hok
    omega
  have hcases : op = 3 ∨ op = 4 ∨ op = 11 ∨ op = 12 ∨ op = 13 ∨ op = 14 ∨ op = 15 ∨ op = 16 ∨ op = 17 ∨ op = 18 ∨ op = 19 ∨ op = 20 ∨ op = 21 ∨ op = 22 ∨ op = 23 ∨ op = 24 ∨ op = 25 ∨ op = 26 ∨ op = 27 ∨ op = 28 ∨ op = 29 ∨ op = 30 ∨ op = 31 ∨ op = 32 ∨ op = 33 ∨ op = 35 ∨ op = 36 ∨ op = 37 ∨ op = 38 ∨ op = 39 ∨ op = 40 := by omega
  rcases hcases with rfl | rfl | rfl | rfl | rfl | rfl | rfl | rfl | rfl | rfl | rfl | rfl | rfl | rfl | rfl | rfl | rfl | rfl | rfl | rfl | rfl | rfl | rfl | rfl | rfl | rfl | rfl | rfl | rfl | rfl | rfl
  · have hl : l = [] := by
      have hl : l.length = (inOf 3).length := by unfold fits at hf; simp only [Bool.and_eq_true, beq_iff_eq] at hf; exact hf.1.1
      exact List.eq_nil_of_length_eq_zero (by rw [hl]; decide +kernel)
    subst hl
    exact ans_of (RefF.ans3 A c w hx) rfl (fun _ => rfl)
  · have hl : l = [] := by
      have hl : l.length = (inOf 4).length := by unfold fits at hf; simp only [Bool.and_eq_true, beq_iff_eq] at hf; exact hf.1.1
      exact List.eq_nil_of_length_eq_zero (by rw [hl]; decide +kernel)
    subst hl
    exact ans_of (RefF.ans4 A c w hx) rfl (fun _ => rfl)
  · obtain ⟨a, b, rfl⟩ := two_of hf (by decide +kernel)
    have ha := hsz a (by simp)
    have hb := hsz b (by simp)
    have ra := hr a (by simp)
    exact ans_of (RefF.ans11 a b A c w hx) rfl (fun _ => rfl)
  · obtain ⟨a, b, rfl⟩ := two_of hf (by decide +kernel)
    have ha := hsz a (by simp)
    have hb := hsz b (by simp)
    have ra := hr a (by simp)
    exact ans_of (RefF.ans12 a b A c w hx) rfl (fun _ => rfl)
  · obtain ⟨a, b, rfl⟩ := two_of hf (by decide +kernel)
    have ha := hsz a (by simp)
    have hb := hsz b (by simp)
    have ra := hr a (by simp)
    exact ans_of (RefF.ans13 a b A c w hx) rfl (fun _ => rfl)
  · obtain ⟨a, b, rfl⟩ := two_of hf (by decide +kernel)
    have ha := hsz a (by simp)
    have hb := hsz b (by simp)
    have ra := hr a (by simp)
    by_cases h : b.n = 0
    · exact ans_of (RefG.ans14z a b A c ra.1 ra.2 h w hx) (by show (numR 14 a.n b.n).2 = 40; simp [numR, h]) (fun h => by cases h)
    · exact ans_of (RefG.ans14 a b A c ra.1 ra.2 h w hx) (by show (numR 14 a.n b.n).2 = 0; simp [numR, h]) (fun _ => by show (numR 14 a.n b.n).1 = _; simp [numR, h])
  · obtain ⟨a, b, rfl⟩ := two_of hf (by decide +kernel)
    have ha := hsz a (by simp)
    have hb := hsz b (by simp)
    have ra := hr a (by simp)
    by_cases h : b.n = 0
    · exact ans_of (RefG.ans15z a b A c ra.1 ra.2 h w hx) (by show (numR 15 a.n b.n).2 = 40; simp [numR, h]) (fun h => by cases h)
    · exact ans_of (RefG.ans15 a b A c ra.1 ra.2 h w hx) (by show (numR 15 a.n b.n).2 = 0; simp [numR, h]) (fun _ => by show (numR 15 a.n b.n).1 = _; simp [numR, h])
  · obtain ⟨a, rfl⟩ := one_of hf (by decide +kernel)
    have ha := hsz a (by simp)
    exact ans_of (RefF.ans16 a A c w hx) rfl (fun _ => rfl)
  · obtain ⟨a, b, rfl⟩ := two_of hf (by decide +kernel)
    have ha := hsz a (by simp)
    have hb := hsz b (by simp)
    have ra := hr a (by simp)
    exact ans_of (RefF.ans17 a b A c w hx) rfl (fun _ => rfl)
  · obtain ⟨a, b, rfl⟩ := two_of hf (by decide +kernel)
    have ha := hsz a (by simp)
    have hb := hsz b (by simp)
    have ra := hr a (by simp)
    exact ans_of (RefF.ans18 a b A c w hx) rfl (fun _ => rfl)
  · obtain ⟨a, b, rfl⟩ := two_of hf (by decide +kernel)
    have ha := hsz a (by simp)
    have hb := hsz b (by simp)
    have ra := hr a (by simp)
    exact ans_of (RefF.ans19 a b A c w hx) rfl (fun _ => rfl)
  · obtain ⟨a, rfl⟩ := one_of hf (by decide +kernel)
    have ha := hsz a (by simp)
    exact ans_of (RefF.ans20 a A c w hx) rfl (fun _ => rfl)
  · obtain ⟨a, b, rfl⟩ := two_of hf (by decide +kernel)
    have ha := hsz a (by simp)
    have hb := hsz b (by simp)
    have ra := hr a (by simp)
    exact ans_of (RefF.ans21 a b A c w hx) rfl (fun _ => rfl)
  · obtain ⟨a, b, rfl⟩ := two_of hf (by decide +kernel)
    have ha := hsz a (by simp)
    have hb := hsz b (by simp)
    have ra := hr a (by simp)
    exact ans_of (RefF.ans22 a b A c w hx) rfl (fun _ => rfl)
  · obtain ⟨a, b, rfl⟩ := two_of hf (by decide +kernel)
    have ha := hsz a (by simp)
    have hb := hsz b (by simp)
    have ra := hr a (by simp)
    exact ans_of (RefG.ans23 a b A c w hx) rfl (fun _ => rfl)
  · obtain ⟨a, b, rfl⟩ := two_of hf (by decide +kernel)
    have ha := hsz a (by simp)
    have hb := hsz b (by simp)
    have ra := hr a (by simp)
    exact ans_of (RefG.ans24 a b A c w hx) rfl (fun _ => rfl)
  · obtain ⟨a, b, rfl⟩ := two_of hf (by decide +kernel)
    have ha := hsz a (by simp)
    have hb := hsz b (by simp)
    have ra := hr a (by simp)
    exact ans_of (RefG.ans25 a b A c w hx) rfl (fun _ => rfl)
  · obtain ⟨a, b, rfl⟩ := two_of hf (by decide +kernel)
    have ha := hsz a (by simp)
    have hb := hsz b (by simp)
    have ra := hr a (by simp)
    exact ans_of (RefG.ans26 a b A c w hx) rfl (fun _ => rfl)
  · obtain ⟨a, b, rfl⟩ := two_of hf (by decide +kernel)
    have ha := hsz a (by simp)
    have hb := hsz b (by simp)
    have ra := hr a (by simp)
    exact ans_of (RefG.ans27 a b A c w hx) rfl (fun _ => rfl)
  · obtain ⟨a, b, rfl⟩ := two_of hf (by decide +kernel)
    have ha := hsz a (by simp)
    have hb := hsz b (by simp)
    have ra := hr a (by simp)
    exact ans_of (RefG.ans28 a b A c w hx) rfl (fun _ => rfl)
  · obtain ⟨a, b, rfl⟩ := two_of hf (by decide +kernel)
    have ha := hsz a (by simp)
    have hb := hsz b (by simp)
    have ra := hr a (by simp)
    have hb2 := bool_of (l := [a, b]) (by rw [← show inOf 29 = [3, 3] from by decide +kernel]; exact hf)
    have b1 := hb2 a (by simp)
    have b2 := hb2 b (by simp)
    obtain ⟨at_, an, as_⟩ := a
    obtain ⟨bt_, bn, bs_⟩ := b
    simp only at b1 b2
    rcases b1 with rfl | rfl
    · exact ans_of (RefG.ans29f _ _ A c rfl w hx) rfl (fun _ => by rcases b2 with rfl | rfl <;> simp [applyR, truthN, wrap64])
    · exact ans_of (RefG.ans29t _ _ A c rfl w hx) rfl (fun _ => by rcases b2 with rfl | rfl <;> simp [applyR, truthN, wrap64])
  · obtain ⟨a, b, rfl⟩ := two_of hf (by decide +kernel)
    have ha := hsz a (by simp)
    have hb := hsz b (by simp)
    have ra := hr a (by simp)
    have hb2 := bool_of (l := [a, b]) (by rw [← show inOf 30 = [3, 3] from by decide +kernel]; exact hf)
    have b1 := hb2 a (by simp)
    have b2 := hb2 b (by simp)
    obtain ⟨at_, an, as_⟩ := a
    obtain ⟨bt_, bn, bs_⟩ := b
    simp only at b1 b2
    rcases b1 with rfl | rfl
    · exact ans_of (RefG.ans30f _ _ A c rfl w hx) rfl (fun _ => by rcases b2 with rfl | rfl <;> simp [applyR, truthN, wrap64])
    · exact ans_of (RefG.ans30t _ _ A c rfl w hx) rfl (fun _ => by rcases b2 with rfl | rfl <;> simp [applyR, truthN, wrap64])
  · obtain ⟨a, rfl⟩ := one_of hf (by decide +kernel)
    have ha := hsz a (by simp)
    exact ans_of (RefG.ans31 a A c w hx) rfl (fun _ => rfl)
  · obtain ⟨a, rfl⟩ := one_of hf (by decide +kernel)
    have ha := hsz a (by simp)
    exact ans_of (RefH.ans32 a A c ha w hx) rfl (fun _ => rfl)
  · obtain ⟨a, b, rfl⟩ := two_of hf (by decide +kernel)
    have ha := hsz a (by simp)
    have hb := hsz b (by simp)
    have ra := hr a (by simp)
    by_cases h : 256 < a.s.size + b.s.size
    · exact ans_of (RefH.ans33z a b A c ha hb h w hx) (by show (textR 33 a b).2 = 41; simp [textR, h]) (fun h => by cases h)
    · exact ans_of (RefH.ans33 a b A c ha hb h w hx) (by show (textR 33 a b).2 = 0; simp [textR, h]) (fun _ => by show (textR 33 a b).1 = _; simp [textR, h])
  · obtain ⟨a, b, rfl⟩ := two_of hf (by decide +kernel)
    have ha := hsz a (by simp)
    have hb := hsz b (by simp)
    have ra := hr a (by simp)
    by_cases h : b.n < 0
    · exact ans_of (RefH.ans35n a b A c ha h w hx) (by show (textR 35 a b).2 = 42; simp [textR, show ¬ 0 ≤ b.n from by omega]) (fun h => by cases h)
    · by_cases h2 : (a.s.size : Int) ≤ b.n
      · exact ans_of (RefH.ans35z a b A c ha h h2 w hx) (by show (textR 35 a b).2 = 42; simp [textR, show ¬ b.n.toNat < a.s.size from by omega]) (fun h => by cases h)
      · have h3 : 0 ≤ b.n ∧ b.n.toNat < a.s.size := by omega
        exact ans_of (RefH.ans35 a b A c b.n.toNat (by omega) h3.2 w hx) (by show (textR 35 a b).2 = 0; simp [textR, h3]) (fun _ => by show (textR 35 a b).1 = _; simp [textR, h3])
  · obtain ⟨a, b, rfl⟩ := two_of hf (by decide +kernel)
    have ha := hsz a (by simp)
    have hb := hsz b (by simp)
    have ra := hr a (by simp)
    exact ans_of (RefH.ans36 a b A c ha hb w hx) rfl (fun _ => rfl)
  · obtain ⟨a, b, rfl⟩ := two_of hf (by decide +kernel)
    have ha := hsz a (by simp)
    have hb := hsz b (by simp)
    have ra := hr a (by simp)
    exact ans_of (RefH.ans37 a b A c ha hb w hx) rfl (fun _ => rfl)
  · obtain ⟨a, rfl⟩ := one_of hf (by decide +kernel)
    have ha := hsz a (by simp)
    exact ans_of (RefH.ans38 a A c w hx) rfl (fun _ => rfl)
  · obtain ⟨a, rfl⟩ := one_of hf (by decide +kernel)
    have ha := hsz a (by simp)
    by_cases h : 8 < a.s.size
    · exact ans_of (RefH.ans39z a A c h w hx) (by show (textR 39 a a).2 = 41; simp [textR, h]) (fun h => by cases h)
    · exact ans_of (RefH.ans39 a A c h w hx) (by show (textR 39 a a).2 = 0; simp [textR, h]) (fun _ => by show (textR 39 a a).1 = _; simp [textR, h, unpack_eq])
  · obtain ⟨a, rfl⟩ := one_of hf (by decide +kernel)
    have ha := hsz a (by simp)
    exact ans_of (RefH.ans40 a A c w hx) rfl (fun _ => rfl)
end Go.Proofs.Ytnapbjfmkofhcaa.RefI
