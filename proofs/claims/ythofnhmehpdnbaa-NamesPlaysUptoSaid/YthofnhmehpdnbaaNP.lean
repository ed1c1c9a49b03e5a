/- What a bound on the bulk of the acts says of one of them. -/
import Derived.Test.YthofnhmehpdnbaaN18
import Derived.Test.YthofnhmehpdnbaaNO
set_option linter.unusedVariables false
namespace Go.Proofs.Ythofnhmehpdnbaa
theorem mem_le_sum {α : Type} (m : α → Nat) : ∀ {l : List α} {a : α}, a ∈ l → m a ≤ (l.map m).sum
  | x :: l, a, h => by
    rw [List.map_cons, List.sum_cons]
    rcases List.mem_cons.1 h with rfl | h
    · omega
    · have := mem_le_sum m h
      omega
theorem len_le_sum : ∀ l : List Ad, l.length ≤ (l.map mAd).sum
  | [] => by simp
  | x :: l => by
    have := len_le_sum l
    rw [List.map_cons, List.sum_cons, List.length_cons]
    unfold mAd at *
    omega
theorem acts_small {acts : List ActT} {n : Nat} (h : (acts.map mAct).sum + 1 ≤ n) (hn : n ≤ 1048576) (a : ActT) (ha : a ∈ acts) : a.addrs.length * 4 ≤ 140737488355328 := by
  have h1 := mem_le_sum mAct ha
  have h2 := len_le_sum a.addrs
  have h3 : (a.addrs.map mAd).sum ≤ mAct a := by unfold mAct; omega
  omega
end Go.Proofs.Ythofnhmehpdnbaa
