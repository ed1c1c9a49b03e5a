/- Walk: digest.Hex. -/
import Derived.Test.YtbjgidgohekaaaaDoorDgF
set_option linter.unusedVariables false
namespace Go.Proofs.YtbjgidgohekaaaaDoor
open Go.RowKit
/-- a digit of the base 16 -/
def hd (n : Int) : Int := if n < 10 then 48 + n else 87 + n
def hexF (l : List Int) (j : Nat) : Int := if j % 2 = 0 then hd (l.getD (j / 2) 0 / 16) else hd (l.getD (j / 2) 0 % 16)
def hexL (l : List Int) : List Int := (List.range 64).map (hexF l)
theorem outV_get (l : List Int) (i : Nat) (h : i < l.length) : (outV l)[i]? = some (.int .u8 (l.getD i 0)) := by
  simp [outV, List.getD_eq_getElem?_getD, h]
theorem dig_at (n : Nat) (h : n < 16) : (⟨#[48, 49, 50, 51, 52, 53, 54, 55, 56, 57, 97, 98, 99, 100, 101, 102]⟩ : ByteArray)[n]? = some (UInt8.ofNat (if n < 10 then 48 + n else 87 + n)) := by
  have h16 : ∀ m : Fin 16, (⟨#[48, 49, 50, 51, 52, 53, 54, 55, 56, 57, 97, 98, 99, 100, 101, 102]⟩ : ByteArray)[m.val]? = some (UInt8.ofNat (if m.val < 10 then 48 + m.val else 87 + m.val)) := by decide
  exact h16 ⟨n, h⟩
theorem run_dig {P : Program} (t : TypeId) (ht : P.underlying t = some .string) (n : Nat) (h : n < 16) :
    ∀ w : World, (Instr.index t (.string (⟨#[48, 49, 50, 51, 52, 53, 54, 55, 56, 57, 97, 98, 99, 100, 101, 102]⟩ : ByteArray)) (.int .u8 (n : Int))).run P w = .ok (.int .u8 (hd n)) w := by
  intro w
  have hd1 : ((if n < 10 then 48 + n else 87 + n : Nat) : Int) = hd n := by unfold hd; split <;> split <;> omega
  have hlt : (if n < 10 then 48 + n else 87 + n : Nat) < 256 := by split <;> omega
  simp [Instr.index, asIntOf, run_underlying ht, dig_at n h]
  rw [← hd1]
  omega
set_option maxRecDepth 100000 in
set_option maxHeartbeats 2000000 in
theorem hex_any (l : List Int) (w : World) (hl : l.length = 32) (hr : ∀ i, 0 ≤ l.getD i 0 ∧ l.getD i 0 < 256) :
    Calls Tryd.prog 21 #[.agg (outV l)] w fun e w' => e = .returned (.string (strOfNums (hexL l))) ∧ Below w.heap.size w w' := by
  have HL := Lib.hid hl
  have HR := Lib.hid hr; clear hr
  have hsz : (outV l).size = 32 := by rw [outV_size, hl]
  have HSZ := Lib.hid hsz
  clear hsz hl
  go_enter Tryd.func21, Tryd.ntmps21
  go_upto_region 2 with (fail)
  refine wp_gen (fun w0 => w0.heap[w.heap.size]? = some (.cells (outV l) 24 (0, 0)) ∧ w0.rowIs (w.heap.size + 1) 54 64 (fun _ => .int .u8 0) ∧ Below w.heap.size w w0) ⟨?_, alloc_rep (w.alloc _) 64 54 (.int .u8 0) _ _ (by simp) (by rfl), ((Below.refl _ _).alloc (Nat.le_refl _) _).alloc (by simp) _⟩ ?_
  · rw [Below.heap_alloc _ _ _ (by simp), heap_alloc_new]
  intro w0 ⟨hb0, hb1, hlow⟩
  have HB0 := Lib.hid hb0; have HB1 := Lib.hid hb1; have HLOW := Lib.hid hlow
  clear hb0 hb1 hlow
  go_wp2_with (refine wpList_load_row rfl 24 (.tmp 1) rfl w.heap.size rfl 24 _ (0, 0) _ HB0.out Tryd.underlying24 rfl (by rw [HSZ.out]; kernel_rfl) ?_)
  go_loopw [7] (fun i wr => ∃ k : Nat, k ≤ 32 ∧ i = .int .i64 k ∧ wr.rowIs (w.heap.size + 1) 54 64 (fun j => .int .u8 (if j < 2 * k then hexF l j else 0)) ∧ Below w.heap.size w wr) (fun i _ => 32 - (intOf i).toNat)
  case atStart => exact ⟨0, by omega, rfl, HB1.out.congr (fun i hi => by simp), HLOW.out⟩
  case round =>
    obtain ⟨k, hk, rfl, hrow, hlow⟩ := hrel
    by_cases hlt : k < 32
    · have hix := run_index_arr (P := Tryd.prog) 24 5 32 (outV l) k _ Tryd.underlying24 (by kernel_rfl) (by kernel_rfl) hlt (outV_get l k (by rw [HL.out]; exact hlt))
      obtain ⟨hx0, hx1⟩ := HR.out k
      obtain ⟨x, hx⟩ := Int.eq_ofNat_of_zero_le hx0
      rw [hx] at hix hx1
      have HX := Lib.hid hx
      clear hx hx0
      have hd1 : ∀ w : World, (Instr.index 9 (.string (⟨#[48, 49, 50, 51, 52, 53, 54, 55, 56, 57, 97, 98, 99, 100, 101, 102]⟩ : ByteArray)) (.int .u8 ((x : Int) / 16))).run Tryd.prog w = .ok (.int .u8 (hd ((x : Int) / 16))) w := run_dig (P := Tryd.prog) 9 Tryd.underlying9 (x / 16) (by omega)
      have hd2 : ∀ w : World, (Instr.index 9 (.string (⟨#[48, 49, 50, 51, 52, 53, 54, 55, 56, 57, 97, 98, 99, 100, 101, 102]⟩ : ByteArray)) (.int .u8 ((x : Int) % 16))).run Tryd.prog w = .ok (.int .u8 (hd ((x : Int) % 16))) w := run_dig (P := Tryd.prog) 9 Tryd.underlying9 (x % 16) (by omega)
      have o0 := hrow.cell (i := 2 * k) (by omega)
      have o1 := hrow.cell (i := 2 * k + 1) (by omega)
      have p0 := hrow.frozen (2 * k)
      have p1 := hrow.frozen (2 * k + 1)
      have HROW := Lib.hid hrow; clear hrow
      have q0 : 0 ≤ 2 * (k : Int) := by omega
      have q1 : 0 ≤ 2 * (k : Int) + 1 := by omega
      have q2 : 2 * (k : Int) < 64 := by omega
      have q3 : 2 * (k : Int) + 1 < 64 := by omega
      go_wp2
      go_region
      clear q0 q1 q2 q3 hd1 hd2 hix
      go_wp2
      refine ⟨⟨k + 1, by omega, by go_num, (((HROW.out.set (2 * k) _).set (2 * k + 1) _).drew).congr (fun i hi => ?_), ((hlow.setCell (by simp) _).setCell (by simp) _).drew⟩, by simp [intOf]; omega⟩
      have hxx : l.getD k 0 = (x : Int) := HX.out
      by_cases e1 : i = 2 * k + 1
      · subst e1
        rw [if_pos rfl, if_pos (by omega)]
        unfold hexF
        rw [if_neg (by omega), show (2 * k + 1) / 2 = k by omega, hxx]
      · rw [if_neg e1]
        by_cases e0 : i = 2 * k
        · subst e0
          rw [if_pos rfl, if_pos (by omega)]
          unfold hexF
          rw [if_pos (by omega), show 2 * k / 2 = k by omega, hxx]
        · rw [if_neg e0]
          by_cases el : i < 2 * k
          · rw [if_pos el, if_pos (by omega)]
          · rw [if_neg el, if_neg (by omega)]
    · obtain rfl : k = 32 := by omega
      have hconv : (convert 28 9 (.slice (some ⟨w.heap.size + 1, 0, none⟩) 64 64)).run Tryd.prog wr = .ok (.string (strOfNums (hexL l))) wr := run_convert_bytes_arg wr 28 5 Tryd.underlying28 Tryd.underlying5 (w.heap.size + 1) 0 64 64 (hexL l) (by simp [hexL]) (fun i hi => by
        rw [Nat.zero_add, hrow.cell hi, if_pos (by omega)]
        simp [hexL, hi]) _ Tryd.underlying9
      have HLW := Lib.hid hlow
      clear hrow hlow
      go_wp2
      go_ret
      exact ⟨rfl, HLW.out⟩
end Go.Proofs.YtbjgidgohekaaaaDoor
