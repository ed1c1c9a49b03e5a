/- Walk: the slab's small methods. -/
import Derived.Test.YtebdgohkhadgpaaDoorSlA
import Derived.Test.YtebdgohkhadgpaaDoorRep
import Derived.Test.YtebdgohkhadgpaaDoorBase2
import Derived.Test.YtebdgohkhadgpaaDoorProg
import Derived.Deep.RegionHeld3
set_option linter.unusedVariables false
set_option linter.unusedSimpArgs false
namespace Go.Proofs.YtebdgohkhadgpaaDoor
open Go Go.RowKit
theorem held_bit (x k : Nat) (hx : x < 18446744073709551616) : (bits .and .u64 ((x : Int) / 2 ^ k) 1 == 0) = decide (((x >>> k) &&& 1) = 0) := by
  have hle : x / 2 ^ k ≤ x := Nat.div_le_self _ _
  have e2 := bits_and_u64_nat (x / 2 ^ k) 1 (by omega) (by omega)
  rw [show ((x : Int) / 2 ^ k) = ((x / 2 ^ k : Nat) : Int) by simp, show (1 : Int) = ((1 : Nat) : Int) from rfl, e2, Nat.shiftRight_eq_div_pow]
  generalize x / 2 ^ k &&& 1 = m
  rw [Bool.eq_iff_iff, beq_iff_eq, decide_eq_true_iff]
  omega
section
variable {σ w w' : World} {Hs : List Hp} {H M N : Hp}
set_option maxHeartbeats 1000000 in
theorem is_nil (w : World) : Calls Tryd.prog 26 #[.pointer none] w fun e w' => e = .returned (.bool false) ∧ w' = w := by
  go_enter Tryd.func26, Tryd.ntmps26
  go_wp2
  go_ret
  exact ⟨rfl, rfl⟩
set_option maxHeartbeats 1000000 in
theorem is_any (w : World) (g : Nat) (x : Bool) (hc : w.cell? ⟨g, 68, none⟩ = some (.bool x)) : Calls Tryd.prog 26 #[.pointer (some ⟨g, 0, none⟩)] w fun e w' => e = .returned (.bool x) ∧ w' = w := by
  go_enter Tryd.func26, Tryd.ntmps26
  go_wp2
  go_ret
  exact ⟨rfl, rfl⟩
set_option maxHeartbeats 1000000 in
theorem held_out (w : World) (g : Nat) (b n : Int) (hb : b < 0 ∨ n ≤ b) (hc : w.cell? ⟨g, 65, none⟩ = some (.int .i64 n)) : Calls Tryd.prog 30 #[.pointer (some ⟨g, 0, none⟩), .int .i64 b] w fun e w' => e = .returned (.bool false) ∧ w' = w := by
  by_cases h0 : 0 ≤ b
  · have h1 : ¬ b < n := by omega
    go_enter Tryd.func30, Tryd.ntmps30
    go_wp2
    go_ret
    exact ⟨rfl, rfl⟩
  · go_enter Tryd.func30, Tryd.ntmps30
    go_wp2
    go_ret
    exact ⟨rfl, rfl⟩
set_option maxHeartbeats 1000000 in
theorem held_in (w : World) (g b n : Nat) (x : Nat) (hb : b < n) (hn : n ≤ 4096) (hx : x < 18446744073709551616) (hc : w.cell? ⟨g, 65, none⟩ = some (.int .i64 n)) (hw : w.cell? ⟨g, b / 64, none⟩ = some (.int .u64 x)) :
    Calls Tryd.prog 30 #[.pointer (some ⟨g, 0, none⟩), .int .i64 b] w fun e w' => e = .returned (.bool (decide (((x >>> (b % 64)) &&& 1) = 0))) ∧ w' = w := by
  have h1 : (b : Int) < n := by omega
  have h2 : (b : Int) / 64 < 64 := by omega
  go_enter Tryd.func30, Tryd.ntmps30
  go_wp2
  go_ret
  exact ⟨congrArg (fun b => Ending.returned (.bool b)) (held_bit x _ hx), rfl⟩
end
end Go.Proofs.YtebdgohkhadgpaaDoor
