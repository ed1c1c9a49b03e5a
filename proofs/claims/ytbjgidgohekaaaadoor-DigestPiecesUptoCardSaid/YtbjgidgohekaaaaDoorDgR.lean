/- Walks: half, ref digit. -/
import Derived.Test.YtbjgidgohekaaaaDoorDgH
set_option linter.unusedVariables false
namespace Go.Proofs.YtbjgidgohekaaaaDoor
open Go.RowKit
/-- a digit's number; below zero: it is none -/
def halfI (c : Int) : Int := if 48 ≤ c ∧ c ≤ 57 then c - 48 else if 97 ≤ c ∧ c ≤ 102 then c - 87 else -1
def digI (c : Int) : Int := if 48 ≤ c ∧ c ≤ 57 then c - 48 else if 97 ≤ c ∧ c ≤ 102 then c - 87 else 16
theorem half_any (c : Int) (w : World) (h0 : 0 ≤ c) (h1 : c < 256) :
    Calls Tryd.prog 25 #[.int .u8 c] w fun e w' => e = .returned (.int .i64 (halfI c)) ∧ w' = w := by
  by_cases a : 48 ≤ c
  · by_cases b : c ≤ 57
    · have e : IntKind.u8.wrap (c - 48) = c - 48 := by simp [IntKind.wrap, IntKind.bits, IntKind.signed]; omega
      have e2 : IntKind.i64.wrap (c - 48) = c - 48 := IntWalk.i64_in _ (by omega)
      have r : halfI c = c - 48 := by simp [halfI, a, b]
      rw [r]
      clear r h0 h1
      go_enter Tryd.func25, Tryd.ntmps25
      go_wp2
      go_ret
      exact ⟨rfl, rfl⟩
    · by_cases a2 : 97 ≤ c
      · by_cases b2 : c ≤ 102
        · have e : IntKind.u8.wrap (c - 97) = c - 97 := by simp [IntKind.wrap, IntKind.bits, IntKind.signed]; omega
          have e2 : IntKind.i64.wrap (c - 97) = c - 97 := IntWalk.i64_in _ (by omega)
          have e3 : IntKind.i64.wrap (c - 97 + 10) = c - 97 + 10 := IntWalk.i64_in _ (by omega)
          have r : halfI c = c - 97 + 10 := by simp [halfI, a, b, a2, b2]; omega
          rw [r]
          clear r h0 h1
          go_enter Tryd.func25, Tryd.ntmps25
          go_wp2
          go_ret
          exact ⟨rfl, rfl⟩
        · have r : halfI c = -1 := by simp [halfI, b, b2]
          rw [r]
          clear r h0 h1
          go_enter Tryd.func25, Tryd.ntmps25
          go_wp2
          go_ret
          exact ⟨rfl, rfl⟩
      · have r : halfI c = -1 := by simp [halfI, b, a2]
        rw [r]
        clear r h0 h1
        go_enter Tryd.func25, Tryd.ntmps25
        go_wp2
        go_ret
        exact ⟨rfl, rfl⟩
  · have r : halfI c = -1 := by simp [halfI, a]; omega
    have a3 : ¬ 97 ≤ c := by omega
    rw [r]
    clear r h0 h1
    go_enter Tryd.func25, Tryd.ntmps25
    go_wp2
    go_ret
    exact ⟨rfl, rfl⟩
theorem run_digN {P : Program} (t : TypeId) (ht : P.underlying t = some .string) (n : Nat) (h : n < 16) :
    ∀ w : World, (Instr.index t (.string (⟨#[48, 49, 50, 51, 52, 53, 54, 55, 56, 57, 97, 98, 99, 100, 101, 102]⟩ : ByteArray)) (.int .i64 (n : Int))).run P w = .ok (.int .u8 (hd n)) w := by
  intro w
  have hd1 : ((if n < 10 then 48 + n else 87 + n : Nat) : Int) = hd n := by unfold hd; split <;> split <;> omega
  have hlt : (if n < 10 then 48 + n else 87 + n : Nat) < 256 := by split <;> omega
  simp [Instr.index, asIntOf, run_underlying ht, dig_at n h]
  rw [← hd1]
  omega
theorem digit_any (c : Int) (w : World) (h0 : 0 ≤ c) (h1 : c < 256) :
    Calls Tryd.prog 26 #[.int .u8 c] w fun e w' => e = .returned (.int .u8 (digI c)) ∧ w' = w := by
  go_enter Tryd.func26, Tryd.ntmps26
  go_wp2
  go_loopw [3] (fun i wr => ∃ k : Nat, k ≤ 16 ∧ i = .int .i64 k ∧ wr = w ∧ ∀ j : Nat, j < k → hd j ≠ c) (fun i _ => 16 - (intOf i).toNat)
  case atStart => exact ⟨0, by omega, rfl, rfl, fun j hj => by omega⟩
  case round =>
    obtain ⟨k, hk, rfl, rfl, hne⟩ := hrel
    have HNE := Lib.hid hne; clear hne
    by_cases hlt : k < 16
    · have hix : ∀ w : World, _ := run_digN (P := Tryd.prog) 9 Tryd.underlying9 k hlt
      by_cases hc : hd k = c
      · have e1 : IntKind.u8.wrap (k : Int) = k := by simp [IntKind.wrap, IntKind.bits, IntKind.signed]; omega
        have r : digI c = (k : Int) := by
          subst hc
          unfold digI hd
          split <;> omega
        have HD := Lib.hid r; clear r
        go_wp2
        go_ret
        exact ⟨by rw [HD.out]; rfl, rfl⟩
      · go_wp2
        go_roundw
        case measure => simp [intOf]; omega
        case rel =>
          refine ⟨k + 1, by omega, by go_num, trivial, fun j hj => ?_⟩
          by_cases e : j = k
          · subst e; exact hc
          · exact HNE.out j (by omega)
    · obtain rfl : k = 16 := by omega
      have r : digI c = 16 := by
        unfold digI
        by_cases a : 48 ≤ c ∧ c ≤ 57
        · have := HNE.out (c - 48).toNat (by omega)
          unfold hd at this
          split at this <;> omega
        · rw [if_neg a]
          by_cases b : 97 ≤ c ∧ c ≤ 102
          · have := HNE.out (c - 87).toNat (by omega)
            unfold hd at this
            split at this <;> omega
          · rw [if_neg b]
      have HD := Lib.hid r; clear r
      go_wp2
      go_ret
      exact ⟨by rw [HD.out]; rfl, rfl⟩
end Go.Proofs.YtbjgidgohekaaaaDoor
