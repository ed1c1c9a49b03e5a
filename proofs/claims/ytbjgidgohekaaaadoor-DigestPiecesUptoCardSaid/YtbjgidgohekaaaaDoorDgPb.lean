/- Bytes as a piece, its mutation, and the nil and the zero digest. -/
import Derived.Test.YtbjgidgohekaaaaDoorDgPa
import Derived.Test.YtbjgidgohekaaaaDoorDgU
set_option linter.unusedVariables false
set_option linter.unusedSimpArgs false
namespace Go.Proofs.YtbjgidgohekaaaaDoor
open Go Go.RowKit
section
variable {σ w w' : World} {Hs : List Hp} {H M N : Hp}
structure Bytes1 (N : Hp) (g : Nat) (t : TypeId) (n : Nat) : Prop where mk :: (out : ∃ cs, N g = some (.cells cs t (0, 0)) ∧ ∀ j, j < n → ∃ x, cs[j]? = some (.int .u8 x))
theorem bytes1_set {N : Hp} {g : Nat} {t : TypeId} {n : Nat} {w : World} (h : Bytes1 N g t n) (hw : Sat σ w (N :: Hs)) (j : Nat) (hj : j < n) : ∃ x, w.cell? ⟨g, j, none⟩ = some (.int .u8 x) ∧ ∀ y, ∃ N', Sat σ (w.setCell ⟨g, j, none⟩ (.int .u8 y)) (N' :: Hs) ∧ Bytes1 N' g t n := by
  obtain ⟨cs, hg, hall⟩ := h.out
  obtain ⟨x, hx⟩ := hall j hj
  refine ⟨x, hw.m_cell hg hx, fun y => ⟨_, hw.upd hg _, ⟨_, Hp.upd_self _ _ _, fun i hi => ?_⟩⟩⟩
  obtain ⟨z, hz⟩ := hall i hi
  by_cases e : i = j
  · subst e
    exact ⟨y, by simp [(Array.getElem?_eq_some_iff.1 hz).1]⟩
  · exact ⟨z, by rw [Array.getElem?_setIfInBounds_ne (fun h => e h.symm)]; exact hz⟩
theorem reps_ints : ∀ (xs : List Int), kB.reps H xs (ints .u8 xs)
  | [] => rfl
  | x :: xs => ⟨_, _, rfl, rfl, reps_ints xs⟩
theorem own_bytes1 {t : TypeId} {v : Value} {xs : List Int} (h : Own N t 1 v xs.length (ints .u8 xs)) (h0 : 0 < xs.length) : ∃ g c, v = .slice (some ⟨g, 0, none⟩) xs.length c ∧ Bytes1 N g t xs.length := by
  rcases h.out.2 with ⟨_, e⟩ | ⟨g, cap, cur, e, hg, k1, k2, k3, k4⟩
  · omega
  · refine ⟨g, cap, e, ⟨cur, hg, fun j hj => ⟨xs[j], ?_⟩⟩⟩
    have hx : (ints .u8 xs)[j]? = some (.int .u8 xs[j]) := by simp [ints, hj]
    rw [← k4, List.getElem?_take, if_pos (by omega)] at hx
    simpa using hx
theorem bytes_piece {v : Value} {xs : List Int} (hs : kB.IsSl H v xs) (hw : Sat σ w Hs) (hH : H ∈ Hs) (hl : xs.length ≤ 140737488355328) :
    Calls Tryd.prog 14 #[v] w fun e w' => ∃ A c N, e = .returned (.slice A xs.length c) ∧ Sat σ w' (N :: Hs) ∧ Own N 5 1 (.slice A xs.length c) xs.length (ints .u8 xs) :=
  (bytes_any v xs _ w (rd_piece hs (hw.has _ hH)) hl).mono fun e w' ⟨A, n, c, he, ho, hb⟩ => by
    obtain ⟨A', c', e'⟩ := ho.slice
    injection e' with e1 e2 e3
    subst e2
    refine ⟨A, c, _, he, hw.fresh hb, own_from ho.out fun k hk => ?_⟩
    have := (ho.lt hk).1
    unfold newOf
    rw [if_pos this]
set_option maxHeartbeats 1000000 in
theorem add_nil (A : Option Addr) (n c : Nat) (w : World) : Calls Tryd.prog 15 #[.pointer none, .slice A n c] w fun e w' => e = .returned (.tuple #[]) ∧ w' = w := by
  go_enter Tryd.func15, Tryd.ntmps15
  go_wp2
  (try simp only [Exit.inBlock, Exit.then]); refine bodyPost_ret (results_none rfl _ _ _) rfl ?_
  exact ⟨rfl, rfl⟩
set_option maxHeartbeats 1000000 in
theorem add_zero (g : Nat) (A : Option Addr) (n c : Nat) (w : World) (h : w.cell? ⟨g, 10, none⟩ = some (.bool false)) : Calls Tryd.prog 15 #[.pointer (some ⟨g, 0, none⟩), .slice A n c] w fun e w' => e = .returned (.tuple #[]) ∧ w' = w := by
  go_enter Tryd.func15, Tryd.ntmps15
  go_wp2
  (try simp only [Exit.inBlock, Exit.then]); refine bodyPost_ret (results_none rfl _ _ _) rfl ?_
  exact ⟨rfl, rfl⟩
theorem zero_block (w : World) : (w.alloc (.cells #[.int .u8 0, .int .u8 0, .int .u8 0, .int .u8 0, .int .u8 0, .int .u8 0, .int .u8 0, .int .u8 0, .int .u8 0, .int .u8 0, .int .u8 0, .int .u8 0, .int .u8 0, .int .u8 0, .int .u8 0, .int .u8 0, .int .u8 0, .int .u8 0, .int .u8 0, .int .u8 0, .int .u8 0, .int .u8 0, .int .u8 0, .int .u8 0, .int .u8 0, .int .u8 0, .int .u8 0, .int .u8 0, .int .u8 0, .int .u8 0, .int .u8 0, .int .u8 0] 24)).heap[w.heap.size]? = some (.cells (outV (List.replicate 32 0)) 24 (0, 0)) :=
  row_heap (alloc_rep w 32 24 (.int .u8 0) _ _ rfl (by rfl)) (outV (List.replicate 32 0)) (by rfl) (fun i hi => zeros_at i hi)
set_option maxHeartbeats 1000000 in
theorem sum_nil (w : World) (hw : Sat σ w Hs) : Calls Tryd.prog 16 #[.pointer none] w fun e w' => e = .returned (.agg (outV (List.replicate 32 0))) ∧ Sat σ w' Hs := by
  go_enter Tryd.func16, Tryd.ntmps16
  go_upto_region 2 with (fail)
  refine wp_gen (fun w3 => w3.heap[w.heap.size]? = some (.cells (outV (List.replicate 32 0)) 24 (0, 0)) ∧ w3.heap[w.heap.size + 1]? = some (.cells (outV (List.replicate 32 0)) 24 (0, 0)) ∧ Below w.heap.size w w3) ⟨?_, ?_, ?_⟩ ?_
  · exact row_heap ((alloc_rep w 32 24 (.int .u8 0) _ _ rfl (by rfl)).alloc _) (outV (List.replicate 32 0)) (by rfl) (fun i hi => zeros_at i hi)
  · exact row_heap (alloc_rep (w.alloc _) 32 24 (.int .u8 0) _ _ (by simp) (by rfl)) (outV (List.replicate 32 0)) (by rfl) (fun i hi => zeros_at i hi)
  · exact ((Below.refl _ _).alloc (Nat.le_refl _) _).alloc (by simp) _
  intro w3 ⟨hres, hout, hlow⟩
  have HO := Lib.hid hout; have HR := Lib.hid hres; have HB := Lib.hid hlow
  clear hout hres hlow
  go_wp2_with (first | (refine wpList_load_row rfl 24 (.tmp 3) rfl (w.heap.size + 1) rfl 24 _ (0, 0) _ HO.out Tryd.underlying24 rfl (by kernel_rfl) ?_) | (refine wpList_store_row rfl 24 (.tmp 2) (.tmp 17) rfl w.heap.size (outV (List.replicate 32 0)) rfl (by rfl) 24 _ HR.out (by kernel_rfl) (by rfl) (outV_one _) ?_))
  refine bodyPost_ret (v := .agg (outV (List.replicate 32 0))) (results_cell_row (p := 2) (ty := 24) (by kernel_rfl) _ _ w.heap.size 24 (outV (List.replicate 32 0)) (0, 0) _ (by rfl) (heap_setRow HR.out _) Tryd.underlying24 rfl (by kernel_rfl)) rfl ⟨rfl, hw.below ?_⟩
  exact (Touch.of_below (S := fun b => w.heap.size ≤ b) HB.out |>.setRow (.inl (Nat.le_refl _)) _).below (Nat.le_refl _) (fun k hk => hk)
set_option maxHeartbeats 1000000 in
theorem sum_zero (g : Nat) (w : World) (hw : Sat σ w Hs) (h : w.cell? ⟨g, 10, none⟩ = some (.bool false)) : Calls Tryd.prog 16 #[.pointer (some ⟨g, 0, none⟩)] w fun e w' => e = .returned (.agg (outV (List.replicate 32 0))) ∧ Sat σ w' Hs := by
  have hl := World.block_lt_of_cell? w _ h
  go_enter Tryd.func16, Tryd.ntmps16
  go_upto_region 2 with (fail)
  refine wp_gen (fun w3 => w3.heap[w.heap.size]? = some (.cells (outV (List.replicate 32 0)) 24 (0, 0)) ∧ w3.heap[w.heap.size + 1]? = some (.cells (outV (List.replicate 32 0)) 24 (0, 0)) ∧ Below w.heap.size w w3) ⟨?_, ?_, ?_⟩ ?_
  · exact row_heap ((alloc_rep w 32 24 (.int .u8 0) _ _ rfl (by rfl)).alloc _) (outV (List.replicate 32 0)) (by rfl) (fun i hi => zeros_at i hi)
  · exact row_heap (alloc_rep (w.alloc _) 32 24 (.int .u8 0) _ _ (by simp) (by rfl)) (outV (List.replicate 32 0)) (by rfl) (fun i hi => zeros_at i hi)
  · exact ((Below.refl _ _).alloc (Nat.le_refl _) _).alloc (by simp) _
  intro w3 ⟨hres, hout, hlow⟩
  have c10 : w3.cell? ⟨g, 10, none⟩ = some (.bool false) := (hlow.cell hl).trans h
  have HO := Lib.hid hout; have HR := Lib.hid hres; have HB := Lib.hid hlow
  clear hout hres hlow
  go_wp2_with (first | (refine wpList_load_row rfl 24 (.tmp 3) rfl (w.heap.size + 1) rfl 24 _ (0, 0) _ HO.out Tryd.underlying24 rfl (by kernel_rfl) ?_) | (refine wpList_store_row rfl 24 (.tmp 2) (.tmp 17) rfl w.heap.size (outV (List.replicate 32 0)) rfl (by rfl) 24 _ HR.out (by kernel_rfl) (by rfl) (outV_one _) ?_))
  refine bodyPost_ret (v := .agg (outV (List.replicate 32 0))) (results_cell_row (p := 2) (ty := 24) (by kernel_rfl) _ _ w.heap.size 24 (outV (List.replicate 32 0)) (0, 0) _ (by rfl) (heap_setRow HR.out _) Tryd.underlying24 rfl (by kernel_rfl)) rfl ⟨rfl, hw.below ?_⟩
  exact (Touch.of_below (S := fun b => w.heap.size ≤ b) HB.out |>.setRow (.inl (Nat.le_refl _)) _).below (Nat.le_refl _) (fun k hk => hk)
end
end Go.Proofs.YtbjgidgohekaaaaDoor
