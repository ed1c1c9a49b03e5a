/- Walks: the reference's Line and Add; Clone; nil and zero logs. -/
import Derived.Test.YteggcfcjajpcgaaDoorAuH
import Derived.Test.YteggcfcjajpcgaaDoorItb
import Derived.Test.YteggcfcjajpcgaaDoorDgY
set_option linter.unusedVariables false
set_option linter.unusedSimpArgs false
namespace Go.Proofs.YteggcfcjajpcgaaDoor
open Go Go.RowKit
section
variable {σ w w' : World} {Hs : List Hp} {H H1 H2 M N Y G : Hp}
set_option maxHeartbeats 4000000
theorem rline_any (n : Int) (t : ByteArray) (h0 : -9223372036854775808 ≤ n) (h1 : n ≤ 9223372036854775807) (ht : t.size ≤ 1000000000) (w : World) (hw : Sat σ w Hs) :
    Calls Tryd.prog 30 #[.int .i64 n, .string t] w fun e w' => e = .returned (.string (lineB n t)) ∧ Sat σ w' Hs := by
  have HI : Hid (Calls Tryd.prog 37 #[.int .i64 n] w fun e w' => e = .returned (.string (itoB n)) ∧ Sat σ w' Hs) := Lib.hid (itob_any n h0 h1 w hw)
  have hs := itoB_size n h0 h1
  have s1 : ¬ (9223372036854775807 < (itoB n).size + 1) := by omega
  have s2 : ¬ (9223372036854775807 < (itoB n).size + 1 + t.size) := by omega
  unfold lineB
  generalize itoB n = b at *
  clear hw
  go_enter Tryd.func30, Tryd.ntmps30
  go_wp2_with (go_at_call 37; refine HI.out.mono ?_; rintro e w1 ⟨rfl, hw1⟩)
  go_ret
  exact ⟨rfl, hw1⟩
theorem rchainS (l : List Int) (s : ByteArray) (w : World) (hw : Sat σ w Hs) (hl : l.length = 32) (hs : s.size ≤ 900000000) :
    Calls Tryd.prog 29 #[.agg (outV l), .string s] w fun e w' => e = .returned (.agg (outV (sha (chL l s).flatten))) ∧ Sat σ w' Hs :=
  (rchain_any l s w hl hs).mono fun e w' ⟨h1, h2⟩ => ⟨h1, hw.below h2⟩
theorem lineB_size2 (n : Int) (t : ByteArray) (h0 : -9223372036854775808 ≤ n) (h1 : n ≤ 9223372036854775807) (ht : t.size ≤ 800000000) : (lineB n t).size ≤ 900000000 := by
  have := itoB_size n h0 h1
  unfold lineB
  rw [ByteArray.size_append, ByteArray.size_append]
  show (itoB n).size + 1 + t.size ≤ _
  omega
theorem clone_any {g : Nat} {xs : List Ent} (w : World) (hw : Sat σ w Hs) (hG : G ∈ Hs) (hN : N ∈ Hs) (h : LogR G N g xs) :
    Calls Tryd.prog 14 #[.pointer (some ⟨g, 0, none⟩)] w (MadeP σ Hs xs) := by
  obtain ⟨⟨v, rfl, ho⟩, hok, hl⟩ := h.out
  have HC := Lib.hid (fun w' (h : Sat σ w' Hs) => sclone_any v xs w' h hN ho hok hl)
  have c0 : w.cell? ⟨g, 0, none⟩ = some v := hw.cellAt hG ((Hp.one_cell _ _ _ _).trans rfl)
  have c1 : w.cell? ⟨g, 1, none⟩ = some (.bool true) := hw.cellAt hG ((Hp.one_cell _ _ _ _).trans rfl)
  have HOK := Lib.hid hok
  unfold EntP at HC
  unfold MadeP
  clear ho hok h
  go_enter Tryd.func14, Tryd.ntmps14
  go_wp2_with (go_at_call 26; refine (HC.out _ hw).mono ?_; rintro e w1 ⟨vo, NE, rfl, hw1, h2⟩; obtain ⟨A, c, rfl, _⟩ := h2.slice; have H2 := Lib.hid h2; clear h2)
  go_ret
  exact ⟨_, _, NE, rfl, hw1.alloc _, ⟨⟨_, rfl, H2.out⟩, HOK.out, hl⟩⟩
theorem clone_nil (w : World) (hw : Sat σ w Hs) : Calls Tryd.prog 14 #[.pointer none] w fun e w' => e = .returned (.pointer none) ∧ Sat σ w' Hs := by
  go_enter Tryd.func14, Tryd.ntmps14
  go_wp2
  go_ret
  exact ⟨rfl, hw⟩
theorem clone_zero {g : Nat} (w : World) (hw : Sat σ w Hs) (hG : Hp.one g (.cells #[.slice none 0 0, .bool false] 42 (0, 0)) ∈ Hs) : Calls Tryd.prog 14 #[.pointer (some ⟨g, 0, none⟩)] w fun e w' => e = .returned (.pointer none) ∧ Sat σ w' Hs := by
  have c1 : w.cell? ⟨g, 1, none⟩ = some (.bool false) := hw.cellAt hG ((Hp.one_cell _ _ _ _).trans rfl)
  go_enter Tryd.func14, Tryd.ntmps14
  go_wp2
  go_ret
  exact ⟨rfl, hw⟩
theorem entries_nil (w : World) (hw : Sat σ w Hs) : Calls Tryd.prog 10 #[.pointer none] w fun e w' => e = .returned (.slice none 0 0) ∧ Sat σ w' Hs := by
  go_enter Tryd.func10, Tryd.ntmps10
  go_wp2
  go_ret
  exact ⟨rfl, hw⟩
theorem sclone_nil (w : World) (hw : Sat σ w Hs) : Calls Tryd.prog 26 #[.slice none 0 0] w fun e w' => e = .returned (.slice none 0 0) ∧ Sat σ w' Hs := by
  have ne1 := nil_eq; have ne2 := nil_ne
  go_enter Tryd.func26, Tryd.ntmps26
  go_wp2
  go_ret
  exact ⟨rfl, hw⟩
theorem entries_zero {g : Nat} (w : World) (hw : Sat σ w Hs) (hG : Hp.one g (.cells #[.slice none 0 0, .bool false] 42 (0, 0)) ∈ Hs) : Calls Tryd.prog 10 #[.pointer (some ⟨g, 0, none⟩)] w fun e w' => e = .returned (.slice none 0 0) ∧ Sat σ w' Hs := by
  have c0 : w.cell? ⟨g, 0, none⟩ = some (.slice none 0 0) := hw.cellAt hG ((Hp.one_cell _ _ _ _).trans rfl)
  go_enter Tryd.func10, Tryd.ntmps10
  go_wp2_with (go_at_call 26; refine (sclone_nil _ hw).mono ?_; rintro e w1 ⟨rfl, hw1⟩)
  go_ret
  exact ⟨rfl, hw1⟩
set_option maxRecDepth 10000 in
theorem head_nil (w : World) (hw : Sat σ w Hs) : Calls Tryd.prog 12 #[.pointer none] w fun e w' => e = .returned (.agg (outV (List.replicate 32 0))) ∧ Sat σ w' Hs := by
  go_enter Tryd.func12, Tryd.ntmps12
  have hw2 := hw.alloc (.cells #[.int .u8 0, .int .u8 0, .int .u8 0, .int .u8 0, .int .u8 0, .int .u8 0, .int .u8 0, .int .u8 0, .int .u8 0, .int .u8 0, .int .u8 0, .int .u8 0, .int .u8 0, .int .u8 0, .int .u8 0, .int .u8 0, .int .u8 0, .int .u8 0, .int .u8 0, .int .u8 0, .int .u8 0, .int .u8 0, .int .u8 0, .int .u8 0, .int .u8 0, .int .u8 0, .int .u8 0, .int .u8 0, .int .u8 0, .int .u8 0, .int .u8 0, .int .u8 0] 29)
  go_upto_if 4 with fail
  generalize World.alloc w _ = w2 at *
  generalize w.heap.size = nr at *
  have HW3 := Lib.hid hw2
  clear hw hw2
  go_wp2_with (with_reducible show wpList _ _ _ [_] _ _; go_must (refine wpList_store_row rfl 29 (.tmp 2) (.tmp 5) rfl nr (outV (List.replicate 32 0)) rfl rfl 29 _ HW3.out.heap (by kernel_rfl) (by kernel_rfl) (outV_one _) ?_))
  have hw4 := HW3.out.setRow (outV (List.replicate 32 0))
  refine bodyPost_ret (results_cell_row rfl _ _ nr _ _ _ _ rfl hw4.heap Tryd.underlying29 rfl (by kernel_rfl)) rfl ?_
  exact ⟨rfl, hw4.drop⟩
set_option maxRecDepth 10000 in
theorem head_zero {g : Nat} (w : World) (hw : Sat σ w Hs) (hG : Hp.one g (.cells #[.slice none 0 0, .bool false] 42 (0, 0)) ∈ Hs) : Calls Tryd.prog 12 #[.pointer (some ⟨g, 0, none⟩)] w fun e w' => e = .returned (.agg (outV (List.replicate 32 0))) ∧ Sat σ w' Hs := by
  have HLAST := Lib.hid (fun w' Hs' (h : Sat σ w' Hs') (hm : Hp.one g (.cells #[.slice none 0 0, .bool false] 42 (0, 0)) ∈ Hs') => last_any (.slice none 0 0) [] w' h hm Kd.IsSl.nil)
  have hls : ent0.sum.length = 32 := rfl
  have hl0 : ([] : List Ent).getLastD ent0 = ent0 := rfl
  rw [hl0] at HLAST
  have HE0 : Hid (outV (List.replicate 32 0) = outV ent0.sum) := Lib.hid rfl
  rw [HE0.out]
  clear HE0 hl0
  generalize ent0 = la at *
  go_enter Tryd.func12, Tryd.ntmps12
  have hw2 := hw.alloc (.cells #[.int .u8 0, .int .u8 0, .int .u8 0, .int .u8 0, .int .u8 0, .int .u8 0, .int .u8 0, .int .u8 0, .int .u8 0, .int .u8 0, .int .u8 0, .int .u8 0, .int .u8 0, .int .u8 0, .int .u8 0, .int .u8 0, .int .u8 0, .int .u8 0, .int .u8 0, .int .u8 0, .int .u8 0, .int .u8 0, .int .u8 0, .int .u8 0, .int .u8 0, .int .u8 0, .int .u8 0, .int .u8 0, .int .u8 0, .int .u8 0, .int .u8 0, .int .u8 0] 29)
  go_upto_if 4 with fail
  generalize World.alloc w _ = w2 at *
  generalize w.heap.size = nr at *
  have c0 : w2.cell? ⟨g, 0, none⟩ = some (.slice none 0 0) := hw2.cellAt (List.mem_cons_of_mem _ hG) ((Hp.one_cell _ _ _ _).trans rfl)
  clear hw
  go_wp2_with fail
  refine (HLAST.out _ _ hw2 (List.mem_cons_of_mem _ hG)).mono ?_
  rintro e w3 ⟨rfl, hw3⟩
  have hf := field_sum la hls
  clear hw2 c0
  have HW3 := Lib.hid hw3
  have hos : (outV la.sum).size = 32 := by rw [outV_size, hls]
  clear hw3
  go_wp2_with (with_reducible show wpList _ _ _ [_] _ _; go_must (refine wpList_store_row rfl 29 (.tmp 2) (.tmp 11) rfl nr (outV la.sum) rfl rfl 29 _ HW3.out.heap (by rw [hos]; kernel_rfl) (by rw [hos]; kernel_rfl) (outV_one _) ?_))
  have hw4 := HW3.out.setRow (outV la.sum)
  refine bodyPost_ret (results_cell_row rfl _ _ nr _ _ _ _ rfl hw4.heap Tryd.underlying29 rfl (by rw [hos]; kernel_rfl)) rfl ?_
  exact ⟨rfl, hw4.drop⟩
set_option maxRecDepth 10000 in
theorem aadd_nil (n : Int) (t : ByteArray) (w : World) (hw : Sat σ w Hs) : Calls Tryd.prog 15 #[.pointer none, .int .i64 n, .string t] w fun e w' => e = .returned (.tuple #[.agg (EA ent0), .int .i64 1]) ∧ Sat σ w' Hs := by
  go_enter Tryd.func15, Tryd.ntmps15
  have hw2 := hw.alloc (.cells #[.int .i64 0, .string ⟨#[]⟩, .int .u8 0, .int .u8 0, .int .u8 0, .int .u8 0, .int .u8 0, .int .u8 0, .int .u8 0, .int .u8 0, .int .u8 0, .int .u8 0, .int .u8 0, .int .u8 0, .int .u8 0, .int .u8 0, .int .u8 0, .int .u8 0, .int .u8 0, .int .u8 0, .int .u8 0, .int .u8 0, .int .u8 0, .int .u8 0, .int .u8 0, .int .u8 0, .int .u8 0, .int .u8 0, .int .u8 0, .int .u8 0, .int .u8 0, .int .u8 0, .int .u8 0, .int .u8 0] 32)
  go_upto_if 18 with fail
  generalize World.alloc w _ = w2 at *
  rw [← EA_zero] at hw2
  generalize w.heap.size = nr at *
  have HW2 := Lib.hid hw2
  skip
  clear hw hw2
  go_wp2_with (with_reducible show wpList _ _ _ [_, _] _ _; (refine wpList_store_row rfl 32 (.tmp 6) (.tmp 19) rfl nr (EA ent0) rfl rfl 32 _ HW2.out.heap (by kernel_rfl) rfl (EA_one _) ?_))
  have hw7 := HW2.out.setRow (EA ent0)
  refine bodyPost_ret (results_row_tmp rfl _ _ nr _ _ _ _ rfl hw7.heap Tryd.underlying32 rfl (by kernel_rfl)) rfl ?_
  exact ⟨rfl, hw7.drop⟩
set_option maxRecDepth 10000 in
theorem aadd_zero {g : Nat} (n : Int) (t : ByteArray) (w : World) (hw : Sat σ w Hs) (hG : Hp.one g (.cells #[.slice none 0 0, .bool false] 42 (0, 0)) ∈ Hs) : Calls Tryd.prog 15 #[.pointer (some ⟨g, 0, none⟩), .int .i64 n, .string t] w fun e w' => e = .returned (.tuple #[.agg (EA ent0), .int .i64 1]) ∧ Sat σ w' Hs := by
  have c1 : (w.alloc (.cells #[.int .i64 0, .string ⟨#[]⟩, .int .u8 0, .int .u8 0, .int .u8 0, .int .u8 0, .int .u8 0, .int .u8 0, .int .u8 0, .int .u8 0, .int .u8 0, .int .u8 0, .int .u8 0, .int .u8 0, .int .u8 0, .int .u8 0, .int .u8 0, .int .u8 0, .int .u8 0, .int .u8 0, .int .u8 0, .int .u8 0, .int .u8 0, .int .u8 0, .int .u8 0, .int .u8 0, .int .u8 0, .int .u8 0, .int .u8 0, .int .u8 0, .int .u8 0, .int .u8 0, .int .u8 0, .int .u8 0] 32)).cell? ⟨g, 1, none⟩ = some (.bool false) := (hw.alloc (.cells #[.int .i64 0, .string ⟨#[]⟩, .int .u8 0, .int .u8 0, .int .u8 0, .int .u8 0, .int .u8 0, .int .u8 0, .int .u8 0, .int .u8 0, .int .u8 0, .int .u8 0, .int .u8 0, .int .u8 0, .int .u8 0, .int .u8 0, .int .u8 0, .int .u8 0, .int .u8 0, .int .u8 0, .int .u8 0, .int .u8 0, .int .u8 0, .int .u8 0, .int .u8 0, .int .u8 0, .int .u8 0, .int .u8 0, .int .u8 0, .int .u8 0, .int .u8 0, .int .u8 0, .int .u8 0, .int .u8 0] 32)).cellAt (List.mem_cons_of_mem _ hG) ((Hp.one_cell _ _ _ _).trans rfl)
  go_enter Tryd.func15, Tryd.ntmps15
  have hw2 := hw.alloc (.cells #[.int .i64 0, .string ⟨#[]⟩, .int .u8 0, .int .u8 0, .int .u8 0, .int .u8 0, .int .u8 0, .int .u8 0, .int .u8 0, .int .u8 0, .int .u8 0, .int .u8 0, .int .u8 0, .int .u8 0, .int .u8 0, .int .u8 0, .int .u8 0, .int .u8 0, .int .u8 0, .int .u8 0, .int .u8 0, .int .u8 0, .int .u8 0, .int .u8 0, .int .u8 0, .int .u8 0, .int .u8 0, .int .u8 0, .int .u8 0, .int .u8 0, .int .u8 0, .int .u8 0, .int .u8 0, .int .u8 0] 32)
  go_upto_if 18 with fail
  generalize World.alloc w _ = w2 at *
  rw [← EA_zero] at hw2
  generalize w.heap.size = nr at *
  have HW2 := Lib.hid hw2
  clear c1
  clear hw hw2
  go_wp2_with (with_reducible show wpList _ _ _ [_, _] _ _; (refine wpList_store_row rfl 32 (.tmp 6) (.tmp 19) rfl nr (EA ent0) rfl rfl 32 _ HW2.out.heap (by kernel_rfl) rfl (EA_one _) ?_))
  have hw7 := HW2.out.setRow (EA ent0)
  refine bodyPost_ret (results_row_tmp rfl _ _ nr _ _ _ _ rfl hw7.heap Tryd.underlying32 rfl (by kernel_rfl)) rfl ?_
  exact ⟨rfl, hw7.drop⟩
end
end Go.Proofs.YteggcfcjajpcgaaDoor
