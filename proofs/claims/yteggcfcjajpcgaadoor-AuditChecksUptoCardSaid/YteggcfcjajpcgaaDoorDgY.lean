/- Walk: ref.Chain. -/
import Derived.Test.YteggcfcjajpcgaaDoorDgX
set_option linter.unusedVariables false
namespace Go.Proofs.YteggcfcjajpcgaaDoor
open Go.RowKit
set_option maxRecDepth 100000 in
set_option maxHeartbeats 1000000 in
theorem rchain_any (l : List Int) (s : ByteArray) (w : World) (hl : l.length = 32) (hs : s.size ≤ 900000000) :
    Calls Tryd.prog 29 #[.agg (outV l), .string s] w fun e w' => e = .returned (.agg (outV (sha (chL l s).flatten))) ∧ Below w.heap.size w w' := by
  go_enter Tryd.func29, Tryd.ntmps29
  go_upto_region 1 with (fail)
  refine wp_gen (fun w0 => w0.rowIs w.heap.size 29 32 (fun i => .int .u8 (l.getD i 0)) ∧ w0.rowIs (w.heap.size + 1) 29 32 (fun _ => .int .u8 0) ∧ Below w.heap.size w w0 ∧ w0.heap.size = w.heap.size + 2) ⟨?_, ?_, ((Below.refl _ _).alloc (Nat.le_refl _) _).alloc (by simp) _, by simp⟩ ?_
  · exact (show (w.alloc (.cells (outV l) 29)).rowIs w.heap.size 29 32 (fun i => .int .u8 (l.getD i 0)) from ⟨_, heap_alloc_new w _, by simp [outV_size, hl], fun i hi => outV_get l i (by omega)⟩).of_block (Below.heap_alloc _ _ _ (by simp))
  · exact alloc_rep (w.alloc _) 32 29 (.int .u8 0) _ _ (by simp) (by rfl)
  intro w0 ⟨hb0, hb1, hlow, hsz⟩
  have HB0 := Lib.hid hb0; have HB1 := Lib.hid hb1; have HLOW := Lib.hid hlow; have HSZ := Lib.hid hsz
  clear hb0 hb1 hlow hsz
  have h8 : RdI w0 .u8 (.slice (some ⟨w.heap.size, 0, none⟩) 32 32) l (fun b => b = w.heap.size) := ⟨_, 32, by rw [hl], by omega, by omega, fun _ => ⟨_, 0, rfl, rfl, fun j hj => by rw [Nat.zero_add]; exact HB0.out.cell (by omega)⟩⟩
  go_wp2_with (at_builtin; refine app_row w0.heap.size rfl (.tmp 8) (.tmp 9) 64 5 .u8 1 rfl Tryd.underlying64 (by kernel_rfl) (by decide) _ _ [] l (fun b => b = w.heap.size) rfl rfl (own_empty_at _ _ _ _ _ ?c0 ?c1) ?c2 ?c3 ?c4 ?_)
  case c0 => rfl
  case c1 => exact Nat.le_refl _
  case c2 => exact h8.touch ((Touch.refl (fun _ => False) w0).alloc _) (fun _ _ h => h)
  case c3 => simp
  case c4 => simp [hl]
  intro A1 n1 cp1 w1 ho1 T1 hat1 hn1 _
  have BW1 : Below w0.heap.size w0 w1 := ((Below.refl w0.heap.size w0).alloc (Nat.le_refl _) _).trans (T1.below (by simp) (fun k hk => by cases hk; exact Nat.le_refl _))
  have h9 := ho1.rd
  have hblk := fun b hb => (ho1.lt (b := b) hb).2
  subst hn1
  clear hat1 T1 ho1 h8
  have hcv := fun W => Lib.run_convert_string_bytes (P := Tryd.prog) W 9 64 5 s (u := .string) Tryd.underlying9 Tryd.underlying64 Tryd.underlying5
  have hcs := fun W => Lib.bytesWorld_size W 5 s
  go_wp2_with fail
  have hrows := chain_rows h9 hblk ((s.size : Int) / 16777216) ((s.size : Int) / 65536 % 256) ((s.size : Int) / 256 % 256) ((s.size : Int) % 256) s (by omega) 5 64
  have hlen : (chL l s).flatten.length ≤ 1000000000 := by simp [chL, hl, byL_length]; omega
  generalize hC : (Obj.cells #[.int .u8 ((s.size : Int) / 16777216), .int .u8 ((s.size : Int) / 65536 % 256), .int .u8 ((s.size : Int) / 256 % 256), .int .u8 ((s.size : Int) % 256)] 5) = C at *
  have z1 : (w1.alloc C).heap.size = w1.heap.size + 1 := by simp
  have B2 : Below w1.heap.size w1 (Lib.bytesWorld (w1.alloc C) 5 s) := ((Below.refl w1.heap.size w1).alloc (Nat.le_refl _) C).trans ((bytesWorld_below (w1.alloc C) 5 s).mono (by omega))
  generalize hW : Lib.bytesWorld (w1.alloc C) 5 s = W1 at *
  have B3 : Below w1.heap.size w1 (W1.alloc (.cells #[.slice A1 32 cp1, .slice (some ⟨w1.heap.size, 0, none⟩) 4 4, .slice (some ⟨w1.heap.size + 1, 0, none⟩) s.size (grownCap (w1.alloc C) s.size 0 5)] 64)) := B2.alloc B2.size _
  generalize hW2 : W1.alloc (.cells #[.slice A1 32 cp1, .slice (some ⟨w1.heap.size, 0, none⟩) 4 4, .slice (some ⟨w1.heap.size + 1, 0, none⟩) s.size (grownCap (w1.alloc C) s.size 0 5)] 64) = W2 at *
  have B4 : Below w0.heap.size w0 W2 := BW1.trans (B3.mono BW1.size)
  have BL : Below w.heap.size w W2 := HLOW.out.trans (B4.mono HLOW.out.size)
  refine (rsum_any _ (chL l s) _ W2 hrows hlen).mono ?_
  rintro e w3 ⟨rfl, hb3⟩
  have HH1 := Lib.hid (((hb3.mono B4.size).block (w.heap.size + 1) (by have := HSZ.out; omega)).trans ((B4.block (w.heap.size + 1) (by have := HSZ.out; omega)).trans (row_heap HB1.out (outV (List.replicate 32 0)) (by rfl) (fun i hi => zeros_at i hi))))
  have HB3 := Lib.hid (BL.trans (hb3.mono BL.size))
  clear hrows hb3 B2 B3 B4 BL z1 hlen h9 hblk hcv hcs
  go_wp2_with (refine wpList_store_row rfl 29 (.tmp 4) (.tmp 26) rfl (w.heap.size + 1) (outV (sha (chL l s).flatten)) rfl (by rfl) 29 _ HH1.out (by kernel_rfl) (by rfl) (outV_one _) ?_)
  refine bodyPost_ret (v := .agg (outV (sha (chL l s).flatten))) (results_cell_row (p := 4) (ty := 29) (by kernel_rfl) _ _ (w.heap.size + 1) 29 (outV (sha (chL l s).flatten)) (0, 0) _ (by rfl) (heap_setRow HH1.out _) Tryd.underlying29 rfl (by kernel_rfl)) rfl ⟨rfl, ?_⟩
  exact ((Touch.of_below (S := fun b => w.heap.size ≤ b) HB3.out).setRow (.inl (by omega)) _).below (Nat.le_refl _) (fun k hk => hk)
end Go.Proofs.YteggcfcjajpcgaaDoor
