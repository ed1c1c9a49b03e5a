/- What a bound on the bulk of the acts says of one of them. -/
import Derived.Test.YtebdgohkhadgpaaDoorSlW
set_option linter.unusedVariables false
namespace Go.Proofs.YtebdgohkhadgpaaDoor
theorem ones_sum : ∀ l : List Int, (l.map fun _ => 1).sum = l.length
  | [] => rfl
  | x :: l => by
    rw [List.map_cons, List.sum_cons, ones_sum l, List.length_cons]
    omega
theorem acts_small {acts : List ActT} {n : Nat} (h : (acts.map mAct).sum + 1 ≤ n) (hn : n ≤ 1048576) (a : ActT) (ha : a ∈ acts) : a.bytes.length ≤ 140737488355328 := by
  have h1 := mem_le_sum mAct ha
  have h2 := ones_sum a.bytes
  have h3 : (a.bytes.map fun _ => 1).sum ≤ mAct a := by unfold mAct; omega
  omega
end Go.Proofs.YtebdgohkhadgpaaDoor
