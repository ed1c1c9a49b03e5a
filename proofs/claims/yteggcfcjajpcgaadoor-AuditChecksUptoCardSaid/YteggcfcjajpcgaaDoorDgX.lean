/- Walks: digest.Chain, ref.Chain. -/
import Derived.Test.YteggcfcjajpcgaaDoorDgL
import Derived.Test.YteggcfcjajpcgaaDoorDgU
import Derived.Test.YteggcfcjajpcgaaDoorDgG
import Derived.Lib.ConvBytes
set_option linter.unusedVariables false
namespace Go.Proofs.YteggcfcjajpcgaaDoor
open Go.RowKit
/-- a string's bytes -/
def byL (s : ByteArray) : List Int := s.data.toList.map fun b => (b.toNat : Int)
theorem byL_length (s : ByteArray) : (byL s).length = s.size := by
  unfold byL
  rw [List.length_map, Array.length_toList]
  rfl
def chL (l : List Int) (s : ByteArray) : List (List Int) := [l, [(s.size : Int) / 16777216, (s.size : Int) / 65536 % 256, (s.size : Int) / 256 % 256, (s.size : Int) % 256], byL s]
theorem bytesWorld_below (W : World) (e : TypeId) (s : ByteArray) : Below W.heap.size W (Lib.bytesWorld W e s) :=
  ⟨by simp [Lib.bytesWorld, World.freeze, World.alloc, World.drew, -World.alloc_eq, -World.drew_eq], by simp [Lib.bytesWorld, World.freeze, World.alloc, World.drew, -World.alloc_eq, -World.drew_eq], by simp [Lib.bytesWorld, World.freeze, World.alloc, World.drew, -World.alloc_eq, -World.drew_eq], by rw [Lib.bytesWorld_size]; omega, fun i hi => Lib.bytesWorld_at_old W e s i hi⟩
theorem chain_rows {w0 : World} {v8 : Value} {l : List Int} {F : Nat → Prop} (h8 : RdI w0 .u8 v8 l F) (hF : ∀ b, F b → b < w0.heap.size) (b0 b1 b2 b3 : Int) (s : ByteArray) (hs : s.size ≤ 1000000000) (e et : TypeId) :
    RdRows ((Lib.bytesWorld (w0.alloc (.cells #[.int .u8 b0, .int .u8 b1, .int .u8 b2, .int .u8 b3] e)) e s).alloc (.cells #[v8, .slice (some ⟨w0.heap.size, 0, none⟩) 4 4, .slice (some ⟨w0.heap.size + 1, 0, none⟩) s.size (grownCap (w0.alloc (.cells #[.int .u8 b0, .int .u8 b1, .int .u8 b2, .int .u8 b3] e)) s.size 0 e)] et))
      (.slice (some ⟨w0.heap.size + 1 + 1, 0, none⟩) 3 3) [l, [b0, b1, b2, b3], byL s] (fun b => b < w0.heap.size + 3) := by
  generalize hC : (Obj.cells #[.int .u8 b0, .int .u8 b1, .int .u8 b2, .int .u8 b3] e) = C
  have z1 : (w0.alloc C).heap.size = w0.heap.size + 1 := by simp
  have z2 : (Lib.bytesWorld (w0.alloc C) e s).heap.size = w0.heap.size + 1 + 1 := by rw [Lib.bytesWorld_size, z1]
  have B1 : Below w0.heap.size w0 (w0.alloc C) := (Below.refl _ _).alloc (Nat.le_refl _) _
  have B2 := bytesWorld_below (w0.alloc C) e s
  generalize hD : (Obj.cells #[v8, .slice (some ⟨w0.heap.size, 0, none⟩) 4 4, .slice (some ⟨w0.heap.size + 1, 0, none⟩) s.size (grownCap (w0.alloc C) s.size 0 e)] et) = D
  have B3 : Below (Lib.bytesWorld (w0.alloc C) e s).heap.size (Lib.bytesWorld (w0.alloc C) e s) ((Lib.bytesWorld (w0.alloc C) e s).alloc D) := (Below.refl _ _).alloc (Nat.le_refl _) _
  refine ⟨_, 3, rfl, Nat.le_refl _, by decide, fun _ => ⟨w0.heap.size + 1 + 1, 0, rfl, by omega, fun j hj => ?_⟩⟩
  have hj3 : j < 3 := hj
  have hrow : ∀ j, ((Lib.bytesWorld (w0.alloc C) e s).alloc D).cell? ⟨w0.heap.size + 1 + 1, 0 + j, none⟩ = #[v8, .slice (some ⟨w0.heap.size, 0, none⟩) 4 4, .slice (some ⟨w0.heap.size + 1, 0, none⟩) s.size (grownCap (w0.alloc C) s.size 0 e)][j]? := fun j => by
    subst hD
    rw [Nat.zero_add]
    exact cell_new _ _ _ _ _ z2.symm
  match j, hj3 with
  | 0, _ => exact ⟨v8, (hrow 0).trans rfl, (((h8.touch (.of_below (S := fun _ => False) B1) (fun _ _ h => h)).touch (.of_below (S := fun _ => False) B2) (fun _ _ h => h)).touch (.of_below (S := fun _ => False) B3) (fun _ _ h => h)).mono (fun b hb _ => by have := hF b hb; omega)⟩
  | 1, _ =>
    refine ⟨_, (hrow 1).trans rfl, _, 4, rfl, Nat.le_refl _, by decide, fun _ => ⟨w0.heap.size, 0, rfl, by omega, fun i hi => ?_⟩⟩
    rw [B3.cell (by show w0.heap.size < _; omega), B2.cell (by show w0.heap.size < _; omega)]
    subst hC
    rw [cell_new _ _ _ _ _ rfl]
    have hi4 : i < 4 := hi
    match i, hi4 with
    | 0, _ | 1, _ | 2, _ | 3, _ => rfl
  | 2, _ =>
    refine ⟨_, (hrow 2).trans rfl, some ⟨w0.heap.size + 1, 0, none⟩, grownCap (w0.alloc C) s.size 0 e, ?_, ?_, ?_, fun _ => ⟨w0.heap.size + 1, 0, rfl, by omega, fun i hi => ?_⟩⟩
    · show _ = Value.slice _ (byL s).length _
      rw [byL_length]
      rfl
    · show (byL s).length ≤ _
      rw [byL_length]; exact grownCap_ge _ _ _ _
    · exact Nat.le_trans (grownCap_le_maxLen _ _ _ _ (by simp [maxLen]; omega)) (by simp [maxLen])
    · have hi' : i < s.size := by have h : i < (byL s).length := hi; rw [byL_length] at h; exact h
      rw [B3.cell (by show w0.heap.size + 1 < _; omega), Nat.zero_add, ← z1, Lib.bytesWorld_cell _ _ _ _ hi']
      show _ = some (Value.int .u8 ((byL s).getD i 0))
      have h3 : i < s.data.size := hi'
      simp only [byL, List.getD_eq_getElem?_getD, List.getElem?_map, Array.getElem?_toList]
      rw [Array.getElem?_eq_getElem h3]
      rfl
set_option maxRecDepth 100000 in
set_option maxHeartbeats 1000000 in
theorem chain_any (l : List Int) (s : ByteArray) (w : World) (hl : l.length = 32) (hs : s.size ≤ 1000000000)
    (hk0 : w.heap[0]? = some (.cells kV 90 (0, 0))) :
    Calls Tryd.prog 21 #[.agg (outV l), .string s] w fun e w' => e = .returned (.agg (outV (sha (chL l s).flatten))) ∧ Below w.heap.size w w' := by
  have HKL : Hid (0 < w.heap.size) := Lib.hid (row_of_heap hk0 undef).lt
  have HK := Lib.hid hk0; clear hk0
  go_enter Tryd.func21, Tryd.ntmps21
  go_upto_region 1 with (fail)
  refine wp_gen (fun w0 => w0.rowIs w.heap.size 29 32 (fun i => .int .u8 (l.getD i 0)) ∧ w0.rowIs (w.heap.size + 1) 29 32 (fun _ => .int .u8 0) ∧ Below w.heap.size w w0 ∧ w0.heap.size = w.heap.size + 2) ⟨?_, ?_, ((Below.refl _ _).alloc (Nat.le_refl _) _).alloc (by simp) _, by simp⟩ ?_
  · exact (show (w.alloc (.cells (outV l) 29)).rowIs w.heap.size 29 32 (fun i => .int .u8 (l.getD i 0)) from ⟨_, heap_alloc_new w _, by simp [outV_size, hl], fun i hi => outV_get l i (by omega)⟩).of_block (Below.heap_alloc _ _ _ (by simp))
  · exact alloc_rep (w.alloc _) 32 29 (.int .u8 0) _ _ (by simp) (by rfl)
  intro w0 ⟨hb0, hb1, hlow, hsz⟩
  have HB0 := Lib.hid hb0; have HB1 := Lib.hid hb1; have HLOW := Lib.hid hlow; have HSZ := Lib.hid hsz
  clear hb0 hb1 hlow hsz
  have hcv := fun W => Lib.run_convert_string_bytes (P := Tryd.prog) W 9 64 5 s (u := .string) Tryd.underlying9 Tryd.underlying64 Tryd.underlying5
  have hcs := fun W => Lib.bytesWorld_size W 5 s
  go_wp2_with fail
  have h8 : RdI w0 .u8 (.slice (some ⟨w.heap.size, 0, none⟩) 32 32) l (fun b => b = w.heap.size) := ⟨_, 32, by rw [hl], by omega, by omega, fun _ => ⟨_, 0, rfl, rfl, fun j hj => by rw [Nat.zero_add]; exact HB0.out.cell (by omega)⟩⟩
  have hrows := chain_rows h8 (fun b hb => by have := HSZ.out; omega) ((s.size : Int) / 16777216) ((s.size : Int) / 65536 % 256) ((s.size : Int) / 256 % 256) ((s.size : Int) % 256) s hs 5 64
  have hlen : (chL l s).flatten.length ≤ 140737488350000 := by simp [chL, hl, byL_length]; omega
  generalize hC : (Obj.cells #[.int .u8 ((s.size : Int) / 16777216), .int .u8 ((s.size : Int) / 65536 % 256), .int .u8 ((s.size : Int) / 256 % 256), .int .u8 ((s.size : Int) % 256)] 5) = C at *
  have z1 : (w0.alloc C).heap.size = w0.heap.size + 1 := by simp
  have B2 : Below w0.heap.size w0 (Lib.bytesWorld (w0.alloc C) 5 s) := ((Below.refl w0.heap.size w0).alloc (Nat.le_refl _) C).trans ((bytesWorld_below (w0.alloc C) 5 s).mono (by omega))
  generalize hW : Lib.bytesWorld (w0.alloc C) 5 s = W1 at *
  have B3 : Below w0.heap.size w0 (W1.alloc (.cells #[.slice (some ⟨w.heap.size, 0, none⟩) 32 32, .slice (some ⟨w0.heap.size, 0, none⟩) 4 4, .slice (some ⟨w0.heap.size + 1, 0, none⟩) s.size (grownCap (w0.alloc C) s.size 0 5)] 64)) := B2.alloc B2.size _
  have hz2 : W1.heap.size = w0.heap.size + 2 := by rw [← hW, Lib.bytesWorld_size, z1]
  generalize hW2 : W1.alloc (.cells #[.slice (some ⟨w.heap.size, 0, none⟩) 32 32, .slice (some ⟨w0.heap.size, 0, none⟩) 4 4, .slice (some ⟨w0.heap.size + 1, 0, none⟩) s.size (grownCap (w0.alloc C) s.size 0 5)] 64) = W2 at *
  have hz3 : W2.heap.size = w0.heap.size + 3 := by rw [← hW2]; simp [hz2]
  have BL : Below w.heap.size w W2 := HLOW.out.trans (B3.mono HLOW.out.size)
  refine (sum_any _ (chL l s) _ W2 hrows hlen ((BL.block _ HKL.out).trans HK.out) (fun b hb => by omega)).mono ?_
  rintro e w3 ⟨rfl, hb3⟩
  have HH1 := Lib.hid (((hb3.mono B3.size).block (w.heap.size + 1) (by have := HSZ.out; omega)).trans ((B3.block (w.heap.size + 1) (by have := HSZ.out; omega)).trans (row_heap HB1.out (outV (List.replicate 32 0)) (by rfl) (fun i hi => zeros_at i hi))))
  have HB3 := Lib.hid (BL.trans (hb3.mono BL.size))
  clear hrows hb3 B2 B3 BL hz2 hz3 z1 hlen h8 hcv hcs
  go_wp2_with (refine wpList_store_row rfl 29 (.tmp 4) (.tmp 24) rfl (w.heap.size + 1) (outV (sha (chL l s).flatten)) rfl (by rfl) 29 _ HH1.out (by kernel_rfl) (by rfl) (outV_one _) ?_)
  refine bodyPost_ret (v := .agg (outV (sha (chL l s).flatten))) (results_cell_row (p := 4) (ty := 29) (by kernel_rfl) _ _ (w.heap.size + 1) 29 (outV (sha (chL l s).flatten)) (0, 0) _ (by rfl) (heap_setRow HH1.out _) Tryd.underlying29 rfl (by kernel_rfl)) rfl ⟨rfl, ?_⟩
  exact ((Touch.of_below (S := fun b => w.heap.size ≤ b) HB3.out).setRow (.inl (by omega)) _).below (Nat.le_refl _) (fun k hk => hk)
end Go.Proofs.YteggcfcjajpcgaaDoor
