/- Walk: Clone. -/
import Derived.Test.YtebdgohkhadgpaaDoorSlN
set_option linter.unusedVariables false
set_option linter.unusedSimpArgs false
namespace Go.Proofs.YtebdgohkhadgpaaDoor
open Go Go.RowKit
section
variable {σ w w' : World} {Hs : List Hp} {H M N : Hp}
theorem slab_one {cs : Array Value} {ws : Nat → Nat} {v : Value} {n s u : Int} (hv : v.oneCell' = true) (h2 : cs.size = 69) (h3 : ∀ i, i < 64 → cs[i]? = some (.int .u64 ((ws i : Nat) : Int))) (h4 : cs[64]? = some v) (h5 : cs[65]? = some (.int .i64 n)) (h6 : cs[66]? = some (.int .i64 s)) (h7 : cs[67]? = some (.int .i64 u)) (h8 : cs[68]? = some (.bool true)) : cs.all (·.oneCell') = true := by
  rw [Array.all_eq_true]
  intro i hi
  have key : ∀ x, cs[i]? = some x → x.oneCell' = true → cs[i].oneCell' = true := fun x hx h => by
    rw [Array.getElem?_eq_getElem hi] at hx
    injection hx with hx
    rw [hx]; exact h
  by_cases h : i < 64
  · exact key _ (h3 i h) rfl
  have hc : i = 64 ∨ i = 65 ∨ i = 66 ∨ i = 67 ∨ i = 68 := by omega
  rcases hc with rfl | rfl | rfl | rfl | rfl
  · exact key _ h4 hv
  · exact key _ h5 rfl
  · exact key _ h6 rfl
  · exact key _ h7 rfl
  · exact key _ h8 rfl
set_option maxHeartbeats 2000000 in
theorem clone_any {g size : Nat} {held : List Bool} {mem : List Int} {A : Option Addr} {c : Nat} (w : World) (hw : Sat σ w Hs) (hM : M ∈ Hs) (h : Slb M g size held mem A c) :
    Calls Tryd.prog 23 #[.pointer (some ⟨g, 0, none⟩)] w fun e w' => ∃ g2 M2 A2 c2, e = .returned (.pointer (some ⟨g2, 0, none⟩)) ∧ Sat σ w' (M2 :: Hs) ∧ Slb M2 g2 size held mem A2 c2 := by
  obtain ⟨cs, ws, h1, h2, h3, h4, h5, h6, h7, h8, h9⟩ := id h.ex
  have c68 := hw.cellAt hM (Hp.cell_of h1 h8)
  have HB := Lib.hid (hw.blk hM h1)
  have HS := Lib.hid h2
  have HONE := Lib.hid (slab_one (v := .slice A mem.length c) rfl h2 h3 h4 h5 h6 h7 h8)
  have HH := Lib.hid h
  have hzv : ∀ w : World, (zeroValue 59).run Tryd.prog w = .ok (.agg #[.int .u64 0, .int .u64 0, .int .u64 0, .int .u64 0, .int .u64 0, .int .u64 0, .int .u64 0, .int .u64 0, .int .u64 0, .int .u64 0, .int .u64 0, .int .u64 0, .int .u64 0, .int .u64 0, .int .u64 0, .int .u64 0, .int .u64 0, .int .u64 0, .int .u64 0, .int .u64 0, .int .u64 0, .int .u64 0, .int .u64 0, .int .u64 0, .int .u64 0, .int .u64 0, .int .u64 0, .int .u64 0, .int .u64 0, .int .u64 0, .int .u64 0, .int .u64 0, .int .u64 0, .int .u64 0, .int .u64 0, .int .u64 0, .int .u64 0, .int .u64 0, .int .u64 0, .int .u64 0, .int .u64 0, .int .u64 0, .int .u64 0, .int .u64 0, .int .u64 0, .int .u64 0, .int .u64 0, .int .u64 0, .int .u64 0, .int .u64 0, .int .u64 0, .int .u64 0, .int .u64 0, .int .u64 0, .int .u64 0, .int .u64 0, .int .u64 0, .int .u64 0, .int .u64 0, .int .u64 0, .int .u64 0, .int .u64 0, .int .u64 0, .int .u64 0, .slice none 0 0, .int .i64 0, .int .i64 0, .int .i64 0, .bool false]) w := fun w => rfl
  have HX := Lib.hid (And.intro h3 (And.intro h4 (And.intro h5 (And.intro h6 (And.intro h7 (And.intro h8 h9))))))
  clear h h1 h2 h3 h4 h5 h6 h7 h8 h9
  go_enter Tryd.func23, Tryd.ntmps23
  go_wp2_with fail
  refine (is_any w g true c68).mono ?_
  rintro e w1 ⟨rfl, rfl⟩
  go_upto_region 4 with (first | (refine wpList_load_row rfl 59 (.tmp 8) rfl g rfl 59 cs (0, 0) _ HB.out Tryd.underlying59 rfl (by rw [HS.out]; kernel_rfl) ?_) | (refine wpList_store_row rfl 59 (.tmp 3) (.tmp 9) rfl _ cs rfl rfl 59 _ (heap_alloc_new _ _) (by rw [HS.out]; kernel_rfl) (by rw [HS.out]; rfl) HONE.out ?_))
  clear hzv
  have hw2 := (hw.alloc (.cells #[.int .u64 0, .int .u64 0, .int .u64 0, .int .u64 0, .int .u64 0, .int .u64 0, .int .u64 0, .int .u64 0, .int .u64 0, .int .u64 0, .int .u64 0, .int .u64 0, .int .u64 0, .int .u64 0, .int .u64 0, .int .u64 0, .int .u64 0, .int .u64 0, .int .u64 0, .int .u64 0, .int .u64 0, .int .u64 0, .int .u64 0, .int .u64 0, .int .u64 0, .int .u64 0, .int .u64 0, .int .u64 0, .int .u64 0, .int .u64 0, .int .u64 0, .int .u64 0, .int .u64 0, .int .u64 0, .int .u64 0, .int .u64 0, .int .u64 0, .int .u64 0, .int .u64 0, .int .u64 0, .int .u64 0, .int .u64 0, .int .u64 0, .int .u64 0, .int .u64 0, .int .u64 0, .int .u64 0, .int .u64 0, .int .u64 0, .int .u64 0, .int .u64 0, .int .u64 0, .int .u64 0, .int .u64 0, .int .u64 0, .int .u64 0, .int .u64 0, .int .u64 0, .int .u64 0, .int .u64 0, .int .u64 0, .int .u64 0, .int .u64 0, .int .u64 0, .slice none 0 0, .int .i64 0, .int .i64 0, .int .i64 0, .bool false] 59)).setRow cs
  generalize World.setRow _ _ _ = w2 at *
  generalize w1.heap.size = g2 at *
  obtain ⟨cells, hcs, hsrc⟩ := (HH.out.own.isSl (d := kB) (reps_ints mem) rfl (Hp.le_refl _)).src (P := Tryd.prog) (t := 22) Tryd.underlying22
  obtain rfl := reps_is hcs
  have HSRC := Lib.hid hsrc
  have c64 : w2.cell? ⟨g, 64, none⟩ = some (.slice A mem.length c) := by
    obtain ⟨cs', ws', k1, k2, k3, k4, _⟩ := HH.out.ex
    exact hw2.cellAt (List.mem_cons_of_mem _ hM) (Hp.cell_of k1 k4)
  have htot := HH.out.tot
  have hgl : g < w2.heap.size := World.block_lt_of_cell? w2 _ c64
  go_wp2_with (at_builtin; refine wpList_app (hw2.alloc _) rfl (.tmp 10) (.tmp 14) 22 22 5 (.int .u8 0) 1 1 rfl Tryd.underlying22 (by kernel_rfl) rfl (by decide) _ _ 0 mem.length [] _ rfl rfl (own_lit0 _ _ _) (HSRC.out _ ((hw2.alloc _).has _ (by simp [hM]))) (by omega) ?_; intro A1 c1 w3 N1 hw3 ho1 _ _; have f64 := heap_free (hw3.swap.le g2 _ (Hp.one_self _ _)) 64; have d64 := hw3.swap.one_cell (o := 64) HX.out.2.1)
  go_ret
  obtain ⟨h3, h4, h5, h6, h7, h8, h9⟩ := HX.out
  have hf := hw3.swap.set (o := 64) (.slice A1 mem.length c1)
  have hd : Hp.dj (Hp.one g2 (.cells (cs.setIfInBounds 64 (.slice A1 mem.length c1)) 59 (0, 0))) N1 := (List.pairwise_cons.1 hf.dj).1 N1 (by simp)
  have hne : ∀ j u, j ≠ 64 → cs[j]? = some u → (cs.setIfInBounds 64 (Value.slice A1 mem.length c1))[j]? = some u := fun j u hj h => by rw [Array.getElem?_setIfInBounds_ne (fun e => hj e.symm)]; exact h
  have ho : Own N1 5 1 (.slice A1 mem.length c1) mem.length (ints .u8 mem) := by simpa using ho1
  have hcap : mem.length ≤ c1 := by obtain ⟨_, _, e, k1, _⟩ := ho.slice; injection e with _ _ e; omega
  exact ⟨g2, _, A1, c1, rfl, hf.join, ⟨⟨_, ws, Hp.le_or_left _ _ _ _ (Hp.one_self _ _), by simp [HS.out], fun i hi => hne _ _ (by omega) (h3 i hi), by rw [Array.getElem?_setIfInBounds_self_of_lt (by have := HS.out; omega)], hne _ _ (by omega) h5, hne _ _ (by omega) h6, hne _ _ (by omega) h7, hne _ _ (by omega) h8, h9⟩, ho.le (Hp.le_or_right hd), hcap, HH.out.len, HH.out.n, HH.out.sz, HH.out.tot⟩⟩
end
end Go.Proofs.YtebdgohkhadgpaaDoor
