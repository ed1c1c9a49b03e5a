/- Walks: digest.ror, ref right. -/
import Derived.Test.YtbjgidgohekaaaaDoorProg
import Derived.Test.YtbjgidgohekaaaaDoorDgS
import Derived.Test.YtbjgidgohekaaaaDoorBase
set_option linter.unusedVariables false
namespace Go.Proofs.YtbjgidgohekaaaaDoor
open Go.RowKit
set_option maxHeartbeats 400000 in
theorem ror_any (x n : Int) (w : World) (hn0 : 1 ≤ n) (hn1 : n ≤ 31) :
    Calls Tryd.prog 29 #[.int .u32 x, .int .i64 n] w fun e w' => e = .returned (.int .u32 (ror x n)) ∧ ∃ k, w' = w.drewN k := by
  go_enter Tryd.func29, Tryd.ntmps29
  go_wp2
  go_quiet (fail)
  go_wp2
  go_ret
  exact ⟨rfl, _, rfl⟩
set_option maxHeartbeats 400000 in
theorem right_any (x n : Int) (w : World) (hn0 : 1 ≤ n) (hn1 : n ≤ 31) :
    Calls Tryd.prog 27 #[.int .u32 x, .int .u64 n] w fun e w' => e = .returned (.int .u32 (ror x n)) ∧ w' = w := by
  go_enter Tryd.func27, Tryd.ntmps27
  go_wp2
  go_ret
  exact ⟨rfl, rfl⟩
end Go.Proofs.YtbjgidgohekaaaaDoor
