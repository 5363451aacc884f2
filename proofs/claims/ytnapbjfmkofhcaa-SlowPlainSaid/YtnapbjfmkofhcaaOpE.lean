/- op.packed, text, Apply: contracts. -/
import Derived.Test.YtnapbjfmkofhcaaOpD
import Derived.LoopN
import Derived.Laws.IdiomStrings
namespace Go.Proofs.Ytnapbjfmkofhcaa.OpE
set_option linter.unusedVariables false
set_option linter.unusedSimpArgs false
open Go.RowKit Wd OpA OpB OpD Val ValB Sl

/-- One byte of a number; all eight, the highest first. -/
def byteAt (u : Int) (d : Int) : UInt8 := UInt8.ofNat (u / d % 256).toNat
theorem byteAt_toNat (u d : Int) : ((byteAt u d).toNat : Int) = u / d % 256 := by
  unfold byteAt
  rw [UInt8.toNat_ofNat']
  omega
def be8 (n : Int) : List UInt8 := [byteAt (IntKind.u64.wrap n) 72057594037927936, byteAt (IntKind.u64.wrap n) 281474976710656, byteAt (IntKind.u64.wrap n) 1099511627776, byteAt (IntKind.u64.wrap n) 4294967296, byteAt (IntKind.u64.wrap n) 16777216, byteAt (IntKind.u64.wrap n) 65536, byteAt (IntKind.u64.wrap n) 256, byteAt (IntKind.u64.wrap n) 1]

set_option maxHeartbeats 4000000 in
set_option maxRecDepth 100000 in
theorem packed_calls (n : Int) (w : World) : Calls Try.prog 95 #[.int .i64 n] w fun e w' => e = .returned (.string ⟨(be8 n).toArray⟩) ∧ Below w.heap.size w w' := by
  have hconv : (convert 75 9 (.slice (some ⟨w.heap.size, 0, none⟩) 8 8)).run Try.prog (w.alloc (.cells #[.int .u8 (IntKind.u64.wrap n / 72057594037927936 % 256), .int .u8 (IntKind.u64.wrap n / 281474976710656 % 256), .int .u8 (IntKind.u64.wrap n / 1099511627776 % 256),
      .int .u8 (IntKind.u64.wrap n / 4294967296 % 256), .int .u8 (IntKind.u64.wrap n / 16777216 % 256), .int .u8 (IntKind.u64.wrap n / 65536 % 256), .int .u8 (IntKind.u64.wrap n / 256 % 256), .int .u8 (IntKind.u64.wrap n % 256)] 168)) = .ok (.string ⟨(be8 n).toArray⟩) (w.alloc (.cells #[.int .u8 (IntKind.u64.wrap n / 72057594037927936 % 256), .int .u8 (IntKind.u64.wrap n / 281474976710656 % 256), .int .u8 (IntKind.u64.wrap n / 1099511627776 % 256),
      .int .u8 (IntKind.u64.wrap n / 4294967296 % 256), .int .u8 (IntKind.u64.wrap n / 16777216 % 256), .int .u8 (IntKind.u64.wrap n / 65536 % 256), .int .u8 (IntKind.u64.wrap n / 256 % 256), .int .u8 (IntKind.u64.wrap n % 256)] 168)) := by
    refine run_convert_bytes_back _ 75 9 5 ⟨w.heap.size, 0, none⟩ 8 (be8 n) Try.underlying75 Try.underlying5 Try.underlying9 (fun j hj => ?_)
    have ha : (⟨w.heap.size, 0, none⟩ : Addr).add j = ⟨w.heap.size, j, none⟩ := by unfold Addr.add; split <;> simp_all
    rw [ha, cell_of_row _ _ _ _ _ _ (blk_new w _)]
    have hj8 : j < 8 := hj
    match j, hj8 with
    | 0, _ => simp [be8, byteAt_toNat]
    | 1, _ => simp [be8, byteAt_toNat]
    | 2, _ => simp [be8, byteAt_toNat]
    | 3, _ => simp [be8, byteAt_toNat]
    | 4, _ => simp [be8, byteAt_toNat]
    | 5, _ => simp [be8, byteAt_toNat]
    | 6, _ => simp [be8, byteAt_toNat]
    | 7, _ => simp [be8, byteAt_toNat]
  have HCV := Lib.hid hconv
  clear hconv
  go_enter Try.func95, Try.ntmps95
  go_wp2_with fail
  go_rounds 9
  rw [HCV.out]
  go_wp2_with fail
  go_ret
  exact ⟨rfl, by (repeat (first | with_reducible exact Below.refl _ _ | with_reducible assumption | with_reducible refine Below.drew ?_ | with_reducible refine below_drewN ?_ _ | with_reducible refine Below.alloc ?_ ?_ _ | with_reducible refine Below.setCell ?_ ?_ _ | with_reducible refine below_thn (by with_reducible assumption) ?_ ?_ | (simp only [World.size_alloc, World.size_setCell, World.size_drew, size_drewN]; omega) | omega))⟩
end Go.Proofs.Ytnapbjfmkofhcaa.OpE
