/- The walks of layer 2, of sets that are read as numbers. -/
import Derived.Test.YtamebdebpgakfaaDoorMaskLaws
import Derived.Test.YtamebdebpgakfaaDoorMaskOneW
namespace Go.Proofs.YtamebdebpgakfaaDoor.ML
open Go.RowKit
theorem changes_int (a : Int) (h : 0 ≤ a ∧ a ≤ 4294967295) (n : Int) (w : World) (hT : Tab w) : Calls Tryd.prog 5 #[.int .u32 a, .int .i64 n] w fun e w' => e = .returned (.bool true) ∧ Below w.heap.size w w' := by
  obtain ⟨m, rfl⟩ := mk_of h.1 h.2
  exact changes_any m n w hT
theorem back_int (a : Int) (h : 0 ≤ a ∧ a ≤ 4294967295) (w : World) (hT : Tab w) : Calls Tryd.prog 4 #[.int .u32 a] w fun e w' => e = .returned (.bool true) ∧ Below w.heap.size w w' := by
  obtain ⟨m, rfl⟩ := mk_of h.1 h.2
  exact back_any m w hT
theorem one_int (a : Int) (h : 0 ≤ a ∧ a ≤ 4294967295) (n other : Int) (w : World) (hT : Tab w) : Calls Tryd.prog 8 #[.int .u32 a, .int .i64 n, .int .i64 other] w fun e w' => e = .returned (.bool true) ∧ Below w.heap.size w w' := by
  obtain ⟨m, rfl⟩ := mk_of h.1 h.2
  exact one_any m n other w hT
end Go.Proofs.YtamebdebpgakfaaDoor.ML
