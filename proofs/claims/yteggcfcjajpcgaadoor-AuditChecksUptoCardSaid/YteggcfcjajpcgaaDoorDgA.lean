/- Walks: digest.ror, ref right. -/
import Derived.Test.YteggcfcjajpcgaaDoorProg
import Derived.Test.YteggcfcjajpcgaaDoorDgS
import Derived.Test.YteggcfcjajpcgaaDoorBase
set_option linter.unusedVariables false
namespace Go.Proofs.YteggcfcjajpcgaaDoor
open Go.RowKit
set_option maxHeartbeats 400000 in
theorem ror_any (x n : Int) (w : World) (hn0 : 1 ≤ n) (hn1 : n ≤ 31) :
    Calls Tryd.prog 52 #[.int .u32 x, .int .i64 n] w fun e w' => e = .returned (.int .u32 (ror x n)) ∧ ∃ k, w' = w.drewN k := by
  go_enter Tryd.func52, Tryd.ntmps52
  go_wp2
  go_quiet (fail)
  go_wp2
  go_ret
  exact ⟨rfl, _, rfl⟩
set_option maxHeartbeats 400000 in
theorem right_any (x n : Int) (w : World) (hn0 : 1 ≤ n) (hn1 : n ≤ 31) :
    Calls Tryd.prog 46 #[.int .u32 x, .int .u64 n] w fun e w' => e = .returned (.int .u32 (ror x n)) ∧ w' = w := by
  go_enter Tryd.func46, Tryd.ntmps46
  go_wp2
  go_ret
  exact ⟨rfl, rfl⟩
end Go.Proofs.YteggcfcjajpcgaaDoor
