/- Walks: Hand, Used, Keys of a store. -/
import Derived.Test.YtfieipigbdopaaaS3
set_option linter.unusedVariables false
set_option linter.unusedSimpArgs false
namespace Go.Proofs.Ytfieipigbdopaaa
open Go.RowKit
set_option maxHeartbeats 1000000
def heldB (x : SE) : Bool := !x.key.toList.isEmpty
def usedL (xs : List SE) : Nat := (xs.filter heldB).length
theorem usedL_take (xs : List SE) (k : Nat) (x : SE) (hx : xs[k]? = some x) : usedL (xs.take (k + 1)) = usedL (xs.take k) + (if heldB x then 1 else 0) := by
  obtain ⟨hk, rfl⟩ := List.getElem?_eq_some_iff.1 hx
  rw [List.take_succ_eq_append_getElem hk]
  unfold usedL
  rw [List.filter_append, List.length_append]
  by_cases h : heldB xs[k] <;> simp [h]
theorem usedL_le (xs : List SE) : usedL xs ≤ xs.length := List.length_filter_le _ _
section
variable {σ : World} {Hs : List Hp} {H M N Ha : Hp}
theorem hand_any (b : Nat) (keep : Int) (hand : Nat) (xs : List SE) (hS : Sto M b keep hand xs) (w : World) (Hs : List Hp) (hw : Sat σ w Hs) (hM : M ∈ Hs) :
    Calls Try.prog 19 #[.pointer (some ⟨b, 0, none⟩)] w fun e w' => e = .returned (.int .i64 hand) ∧ Sat σ w' Hs := by
  have HIS := Lib.hid (hS.is w hw hM)
  obtain ⟨A, c, hb, hsl⟩ := hS.cells
  have cb2 : w.cell? ⟨b, 2, none⟩ = some (.int .i64 hand) := hw.cellAt hM (Hp.cell_of hb rfl)
  clear hb hsl hS
  go_enter Try.func19, Try.ntmps19
  go_wp2_with (go_at_call 34; refine HIS.out.mono ?_; rintro e w3 ⟨rfl, rfl⟩)
  go_ret
  exact ⟨rfl, hw⟩
theorem used_any (b : Nat) (keep : Int) (hand : Nat) (xs : List SE) (hS : Sto M b keep hand xs) (w : World) (Hs : List Hp) (hw : Sat σ w Hs) (hM : M ∈ Hs) :
    Calls Try.prog 18 #[.pointer (some ⟨b, 0, none⟩)] w fun e w' => e = .returned (.int .i64 (usedL xs : Int)) ∧ Sat σ w' Hs := by
  have HIS := Lib.hid (hS.is w hw hM)
  obtain ⟨A, c, hb, hsl⟩ := hS.cells
  have hlen := hS.ok.len
  have hcap := hsl.cap
  have cb0 : w.cell? ⟨b, 0, none⟩ = some (.slice A xs.length c) := hw.cellAt hM (Hp.cell_of hb rfl)
  clear hb hS
  go_enter Try.func18, Try.ntmps18
  go_wp2_with (go_at_call 34; refine HIS.out.mono ?_; rintro e w3 ⟨rfl, rfl⟩)
  go_loopw [13, 3, 5] (fun i n _ wr => ∃ k : Nat, k ≤ xs.length ∧ i = .int .i64 k ∧ n = .int .i64 (usedL (xs.take k) : Int) ∧ Sat σ wr Hs) (fun i _ _ _ => xs.length - (intOf i).toNat)
  case atStart => exact ⟨0, by omega, rfl, rfl, hw⟩
  case round =>
    obtain ⟨k, hk, rfl, rfl, hwr⟩ := hrel
    clear cb0 hw
    by_cases hlt : k < xs.length
    · obtain ⟨gb, off, c', Au, cu, x, hx, hv, e0, e1, e2, e3, e4, hu⟩ := se_get hsl hlt
      injection hv with hv1 hv2 hv3
      subst hv1; subst hv3; clear hv2
      have c0 := hwr.cellAt hM e0; have c1 := hwr.cellAt hM e1; have c2 := hwr.cellAt hM e2; have c3 := hwr.cellAt hM e3; have c4 := hwr.cellAt hM e4
      have hsn := usedL_take xs k x hx
      have hul := usedL_le (xs.take k)
      have hul2 : (xs.take k).length ≤ k := List.length_take_le _ _
      have HSN := Lib.hid hsn
      have hgl : gb < wr.heap.size := World.block_lt_of_cell? wr _ c0
      have hki : (k : Int) < xs.length := by omega
      clear hsn hx hsl e0 e1 e2 e3 e4 hu
      generalize usedL (xs.take k) = q at *
      cases hh : x.key.toList.isEmpty
      · have HH : Hid (heldB x = true) := Lib.hid (by unfold heldB; rw [hh]; rfl)
        go_wp2
        go_roundw
        case measure => simp [intOf]; omega
        case rel => exact ⟨k + 1, by omega, by go_num, by rw [HSN.out, HH.out]; simp, hwr.alloc' _⟩
      · have HH : Hid (heldB x = false) := Lib.hid (by unfold heldB; rw [hh]; rfl)
        go_wp2
        go_roundw
        case measure => simp [intOf]; omega
        case rel => exact ⟨k + 1, by omega, by go_num, by rw [HSN.out, HH.out]; simp, hwr.alloc' _⟩
    · obtain rfl : k = xs.length := by omega
      go_wp2
      go_ret
      exact ⟨by simp, hwr⟩
end
end Go.Proofs.Ytfieipigbdopaaa
