/- The argument [][]byte opened: its rows as lists of numbers, and what the bulk says of them. -/
import Derived.Test.YtbjgidgohekaaaaDoorBase2
import Derived.Test.YtbjgidgohekaaaaDoorBulk
import Derived.Deep.Matrix
set_option linter.unusedVariables false
namespace Go.Proofs.YtbjgidgohekaaaaDoor
open Go.RowKit Go.Deep
open Go.ChangeShapes Go.WideShapes
theorem bulk_lits {H : Type} (k : IntKind) (zs : List Int) : zs.length ≤ Rows.uptoBulkAll (lits (H := H) k zs) := by
  have := bulks.length_le (lits (H := H) k zs)
  have e : (lits (H := H) k zs).length = zs.length := by simp [lits]
  omega
theorem bulk_row {H : Type} (k : IntKind) (A : Option Addr) (L : Nat) (zs : List Int) (h : A = none → zs.length = 0) : (zs.take L).length + 1 ≤ Rows.uptoBulk (intRow (H := H) k A L zs) := by
  cases A with
  | none =>
    have := h rfl
    simp only [intRow, Rows.uptoBulk, List.length_take]
    omega
  | some a =>
    have h1 := bulk_lits (H := H) k (zs.take L)
    have h2 := bulks.slice_elems (lits (H := H) k (zs.take L)) (lits k (zs.drop L))
    simp only [intRow]
    omega
theorem bulk_rows {H : Type} (k : IntKind) (A : Nat → Option Addr) (L : Nat → Nat) (Z : Nat → List Int) (rs : List Nat) (h : ∀ r ∈ rs, A r = none → (Z r).length = 0) :
    rs.length + (rs.map fun r => (Z r).take (L r)).flatten.length ≤ Rows.uptoBulkAll (rs.map fun r => intRow (H := H) k (A r) (L r) (Z r)) := by
  induction rs with
  | nil => simp [Rows.uptoBulkAll]
  | cons r rs ih =>
    have h1 := bulk_row (H := H) k (A r) (L r) (Z r) (h r (by simp))
    have h2 := ih (fun x hx => h x (by simp [hx]))
    simp only [List.map_cons, List.flatten_cons, List.length_append, List.length_cons, Rows.uptoBulkAll]
    omega
theorem open_rows {H : Type} {enc : TypeId × Value → H} {w : World} {base : Nat} {held : Bool} {fuel : Nat} {cs : List Value} {x : DataW H × List MemPlace}
    (h : DataW.trod enc Tryd.prog w base (fun _ => true) held fuel 22 cs = some x) :
    ∃ A n c ls, cs = [.slice A n c] ∧ RdRows w (.slice A n c) ls (fun b => b < w.heap.size) ∧ ls.length + ls.flatten.length ≤ Rows.uptoBulk x.1 := by
  rcases open_int_rows Tryd.underlying22 Tryd.underlying28 Tryd.underlying5 (by kernel_rfl) (by kernel_rfl) h with ⟨rfl, rfl⟩ | ⟨a, len, cap, A, L, C, Z, rfl, hb, hl, hm, rfl, hr⟩
  · exact ⟨none, 0, 0, [], rfl, ⟨none, 0, rfl, by simp, by simp, fun h => absurd h (by simp)⟩, by simp [Rows.uptoBulk]⟩
  · refine ⟨some a, len, cap, (List.range len).map fun r => (Z r).take (L r), rfl, ⟨some a, cap, by simp, by simpa using hl, by simpa [maxLen] using hm, fun h0 => ?_⟩, ?_⟩
    · have h0' : 0 < len := by simpa using h0
      obtain ⟨b, off, spot⟩ := a
      have hs : spot = none := by simpa [Addr.add] using World.cell?_spot (hr 0 (by omega)).1
      subst hs
      refine ⟨b, off, rfl, ?_, fun j hj => ?_⟩
      · have := World.block_lt_of_cell? w _ (hr 0 (by omega)).1
        simpa [Addr.add] using this
      have hj' : j < len := by simpa using hj
      obtain ⟨hc, hLC, hCm, hZ, hwz, hn, hcs⟩ := hr j (by omega)
      refine ⟨.slice (A j) (L j) (C j), by rw [addr_add] at hc; exact hc, ?_⟩
      have e : ((List.range len).map fun r => (Z r).take (L r)).getD j [] = (Z j).take (L j) := by simp [List.getD_eq_getElem?_getD, hj']
      have eL : ((Z j).take (L j)).length = L j := by rw [List.length_take]; omega
      rw [e]
      refine ⟨A j, C j, by rw [eL], by omega, by simpa [maxLen] using hCm, fun hp => ?_⟩
      rw [eL] at hp
      cases hA : A j with
      | none => have := hn hA; omega
      | some a' =>
        obtain ⟨hb', hcell⟩ := hcs a' hA
        obtain ⟨b', off', spot'⟩ := a'
        have hs : spot' = none := by simpa [Addr.add] using World.cell?_spot (hcell 0 (by omega))
        subst hs
        refine ⟨b', off', rfl, ?_, fun i hi => ?_⟩
        · have := World.block_lt_of_cell? w _ (hcell 0 (by omega))
          simpa [Addr.add] using this
        · rw [eL] at hi
          have hc := hcell i (by omega)
          rw [List.getD_eq_getElem?_getD, List.getElem?_take, if_pos hi, ← List.getD_eq_getElem?_getD]
          rw [addr_add] at hc
          exact hc
    · have h1 := bulk_rows (H := H) .u8 A L Z (List.range len) (fun r hr' hA => by
        have hr2 : r < len := by simpa using hr'
        have h2 := hr r (by omega)
        have := h2.2.2.2.2.2.1 hA
        omega)
      have h2 := bulks.slice_elems ((List.range len).map fun r => intRow (H := H) .u8 (A r) (L r) (Z r)) ((List.range (cap - len)).map fun j => intRow .u8 (A (len + j)) (L (len + j)) (Z (len + j)))
      simp only [List.length_map] at h1 ⊢
      omega
end Go.Proofs.YtbjgidgohekaaaaDoor
