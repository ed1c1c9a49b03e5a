/- Walk: Get. -/
import Derived.Test.YtebdgohkhadgpaaDoorSlG
import Derived.Deep.MidRow
set_option linter.unusedVariables false
set_option linter.unusedSimpArgs false
namespace Go.Proofs.YtebdgohkhadgpaaDoor
open Go Go.RowKit
section
variable {σ w w' : World} {Hs : List Hp} {H M N : Hp}
def w64 (ws : Nat → Nat) : List Value := (List.range 64).map fun i => .int .u64 ((ws i : Nat) : Int)
theorem w64_get (ws : Nat → Nat) (i : Nat) (hi : i < 64) : (w64 ws).toArray[i]? = some (.int .u64 ((ws i : Nat) : Int)) := by
  unfold w64; simp [hi]
theorem least_full {held : List Bool} (h : least held = held.length) (c : Nat) : freeAt held c = false := by
  by_cases hc : c < held.length
  · exact least_not (by omega)
  · unfold freeAt
    rw [List.getElem?_eq_none (by omega)]
    rfl
theorem run_ix (W : Array Value) (k : Nat) (x : Int) (w : World) (hk : k < 64) (h : W[k]? = some (.int .u64 x)) : (Instr.index 57 (.agg W) (.int .i64 (k : Int))).run Tryd.prog w = .ok (.int .u64 x) w := by
  have hr : (0 : Int) ≤ (k : Int) ∧ (k : Int) < 64 := by omega
  simp [Instr.index, run_underlying Tryd.underlying57, asIntOf, hr, h, go_sem]
  intro h64
  omega
set_option maxHeartbeats 4000000 in
theorem get_full {g size : Nat} {held : List Bool} {mem : List Int} {A : Option Addr} {c : Nat} (w : World) (hw : Sat σ w Hs) (hM : M ∈ Hs) (h : Slb M g size held mem A c) (hf : least held = held.length) :
    Calls Tryd.prog 11 #[.pointer (some ⟨g, 0, none⟩)] w fun e w' => e = .returned (.tuple #[.int .i64 0, .int .i64 4]) ∧ w' = w := by
  obtain ⟨cs, ws, h1, h2, h3, h4, h5, h6, h7, h8, h9⟩ := id h.ex
  have c68 := hw.cellAt hM (Hp.cell_of h1 h8)
  have hrng : w.rangeAt g 0 (w64 ws) := fun j v hv => by
    have hj : j < 64 := by
      have := (List.getElem?_eq_some_iff.1 hv).1
      simpa [w64] using this
    have e : (w64 ws)[j]? = some (.int .u64 ((ws j : Nat) : Int)) := by unfold w64; simp [hj]
    rw [e] at hv
    injection hv with hv
    subst hv
    rw [Nat.zero_add]
    exact hw.cellAt hM (Hp.cell_of h1 (h3 j hj))
  have hz : ∀ i, i < 64 → ws i = 0 := fun i hi => Decidable.byContradiction fun hn => by
    have := (some_word h9 hi hn (fun c _ => least_full hf c))
    omega
  have HR := Lib.hid hrng; have HZ := Lib.hid hz
  have HI : Hid ((Tryd.prog.info? 57).map (·.size) = some (w64 ws).length) := Lib.hid (by rw [show (w64 ws).length = 64 by simp [w64]]; kernel_rfl)
  have HG : Hid (∀ i, i < 64 → (w64 ws).toArray[i]? = some (.int .u64 0)) := Lib.hid (fun i hi => by rw [w64_get ws i hi, hz i hi]; rfl)
  generalize w64 ws = W64 at *
  clear h h1 h2 h3 h4 h5 h6 h7 h8 h9 hrng hz
  go_enter Tryd.func11, Tryd.ntmps11
  go_wp2_with fail
  refine (is_any w g true c68).mono ?_
  rintro e w1 ⟨rfl, rfl⟩
  go_wp2_with (refine wpList_load_mid rfl 57 (.tmp 12) rfl g 0 rfl W64 _ HR.out Tryd.underlying57 rfl HI.out ?_)
  go_loopw [4, 5, 14] (fun _ _ i wr => ∃ k : Nat, k ≤ 64 ∧ i = .int .i64 k ∧ wr = w1) (fun _ _ i _ => 64 - (intOf i).toNat)
  case atStart => exact ⟨0, by omega, rfl, rfl⟩
  case round =>
    obtain ⟨k, hk, rfl, rfl⟩ := hrel
    by_cases hlt : k < 64
    · have hk1 := fun w => run_ix _ k 0 w hlt (HG.out k hlt)
      have hki : (k : Int) < 64 := by omega
      go_wp2
      go_roundw
      case measure => simp [intOf]; omega
      case rel => exact ⟨k + 1, by omega, by go_num, trivial⟩
    · obtain rfl : k = 64 := by omega
      go_wp2
      go_ret2
      exact ⟨rfl, rfl⟩
end
end Go.Proofs.YtebdgohkhadgpaaDoor
