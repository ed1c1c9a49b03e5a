/- Walks of the reference's slab: Get. -/
import Derived.Test.YtebdgohkhadgpaaDoorRb
set_option linter.unusedVariables false
set_option linter.unusedSimpArgs false
namespace Go.Proofs.YtebdgohkhadgpaaDoor
open Go Go.RowKit
section
variable {σ w w' : World} {Hs : List Hp} {H M N Y : Hp}
set_option maxHeartbeats 4000000
theorem least_false {held : List Bool} (h : least held < held.length) : held[least held]? = some false := by
  have := least_free h
  unfold freeAt at this
  simpa using this
theorem before_least {held : List Bool} {q : Nat} (h : q < least held) : held[q]? = some true := by
  have h1 := least_not h
  have h2 : q < held.length := Nat.lt_of_lt_of_le h (least_le held)
  unfold freeAt at h1
  rw [List.getElem?_eq_getElem h2] at h1 ⊢
  cases hx : held[q] <;> simp_all
/-- A new block behind a piece, put into it. -/
theorem Sat.addNew {o : Obj} (h : Sat σ w (Y :: Hs)) : Sat σ (w.alloc o) (Hp.upd Y w.heap.size o :: Hs) ∧ Y w.heap.size = none := by
  refine ⟨h.upd_to rfl rfl rfl (by simp) (.inr (Nat.le_refl _)) (fun k hk _ => Below.heap_alloc w o k hk) (heap_alloc_new w _), ?_⟩
  cases hc : Y w.heap.size with
  | none => rfl
  | some x => have := h.lt List.mem_cons_self hc; omega
theorem Hp.upd_comm {a b : Nat} {o o' : Obj} (h : a ≠ b) : Hp.upd (Hp.upd Y a o) b o' = Hp.upd (Hp.upd Y b o') a o := by
  funext k
  unfold Hp.upd
  by_cases h1 : k = b
  · by_cases h2 : k = a
    · exact absurd (h2.symm.trans h1) h
    · simp only [if_pos h1, if_neg h2]
  · simp only [if_neg h1]
theorem rget_any {g size : Nat} {held : List Bool} {bl : List (Option (Nat × List Int))} (w : World) (hw : Sat σ w (Y :: Hs)) (h : RS Y g size held bl) (hf : least held < held.length) :
    Calls Tryd.prog 18 #[.pointer (some ⟨g, 0, none⟩)] w fun e w' => e = .returned (.tuple #[.int .i64 (least held), .int .i64 0]) ∧ ∃ Y' nb, Sat σ w' (Y' :: Hs) ∧ RS Y' g size (held.set (least held) true) (bl.set (least held) (some (nb, List.replicate size 0))) := by
  obtain ⟨Ab, cb, hb, ch, cur, h1, h2, h3, h4⟩ := h.heldRow (by omega)
  have c2 := hw.m_cell h1 (o := 2) rfl
  have hsz := h.sz; have hn := h.n
  have HLB := Lib.hid (fun q hq => hw.m_cell h2 (h3 q true (before_least hq)))
  have cl := hw.m_cell h2 (h3 _ _ (least_false hf))
  have fl := heap_free (hw.le _ _ h2) (least held)
  have hbl := hw.lt List.mem_cons_self h2
  have HU := Lib.hid (hw.upd h2 (o := least held) (.bool true))
  have H4 := Lib.hid (h4 (least held) true)
  have HLS : Hid ((held.set (least held) true).length = held.length) := Lib.hid List.length_set
  clear h1 h2 h3 h4 h
  generalize held.set (least held) true = held' at *
  generalize least held = l at *
  go_enter Tryd.func18, Tryd.ntmps18
  go_wp2
  go_loopw [4] (fun i wr => ∃ k : Nat, k ≤ l ∧ i = .int .i64 k ∧ wr = w) (fun i _ => held.length - (intOf i).toNat)
  case atStart => exact ⟨0, by omega, rfl, rfl⟩
  case round =>
    obtain ⟨k, hk, rfl, _⟩ := hrel
    have hki : (k : Int) < held.length := by omega
    by_cases hlt : k < l
    · have cq := HLB.out k hlt
      go_wp2
      go_roundw
      case measure => simp [intOf]; omega
      case rel => exact ⟨k + 1, by omega, by go_num, trivial⟩
    · obtain rfl : k = l := by omega
      obtain ⟨bb, cb5, Ah5, ch5, cur5, k1, k2, k3, k4⟩ := H4.out.blkRow (by rw [HLS.out]; omega)
      rw [HLS.out] at k1 k4
      have hw1 := HU.out
      obtain ⟨q, hq⟩ : ∃ o, bl[k]? = some o := by
        have h := H4.out.len
        rw [HLS.out] at h
        exact ⟨_, List.getElem?_eq_getElem (by omega)⟩
      have hmk : ∀ W : World, (Instr.makeSlice 22 (.int .i64 (size : Int)) (.int .i64 (size : Int))).run Tryd.prog W = .ok (.slice (some ⟨W.heap.size, 0, none⟩) size size) (W.alloc (.cells (ints .u8 (List.replicate size 0)).toArray 5)) := fun W => make_bytes W size (by omega)
      go_upto_region 6 with fail
      generalize World.setCell w _ _ = w1 at *
      obtain ⟨Y1, hY1⟩ : ∃ Y1, Hp.upd Y hb (.cells (cur.setIfInBounds k (.bool true)) 4 (0, 0)) = Y1 := ⟨_, rfl⟩
      rw [hY1] at k1 k2 k4 hw1
      have HS : Hid (∀ w' Hs', Sat σ w' (Y1 :: Hs') → (w'.cell? ⟨g, 0, none⟩ = some (.int .i64 size) ∧ w'.cell? ⟨g, 1, none⟩ = some (.slice (some ⟨bb, 0, none⟩) held.length cb5))) := Lib.hid (fun w' Hs' h => ⟨h.m_cell k1 rfl, h.m_cell k1 rfl⟩)
      have cb := hw1.m_cell k2 (k3 k _ hq)
      have fb := heap_free (hw1.le _ _ k2) k
      have hbb := hw1.lt List.mem_cons_self k2
      have hA := hw1.upd k2 (o := k) (.slice (some ⟨w1.heap.size, 0, none⟩) size size)
      have hB := (hA.addNew (o := (.cells (ints .u8 (List.replicate size 0)).toArray 5 (0, 0)))).1
      rw [show (w1.setCell ⟨bb, k, none⟩ (.slice (some ⟨w1.heap.size, 0, none⟩) size size)).heap.size = w1.heap.size by simp] at hB
      have hnn := (hw1.addNew (o := (.cells (ints .u8 (List.replicate size 0)).toArray 5 (0, 0)))).2
      rw [Hp.upd_comm (by omega)] at hB
      have hgb : g ≠ bb := fun e => by subst e; rw [k1] at k2; injection k2 with k2; injection k2 with _ k2; exact absurd k2 (by decide)
      have hgl : g < w1.heap.size := hw1.lt List.mem_cons_self k1
      have k1' : Hp.upd (Hp.upd Y1 w1.heap.size (.cells (ints .u8 (List.replicate size 0)).toArray 5 (0, 0))) bb (.cells (cur5.setIfInBounds k (.slice (some ⟨w1.heap.size, 0, none⟩) size size)) 22 (0, 0)) g = some (.cells #[.int .i64 size, .slice (some ⟨bb, 0, none⟩) held.length cb5, .slice Ah5 held.length ch5] 53 (0, 0)) := by
        rw [Hp.upd_ne hgb, Hp.upd_ne (by omega)]; exact k1
      have HS2 : Hid (∀ w' Hs', Sat σ w' (Hp.upd (Hp.upd Y1 w1.heap.size (.cells (ints .u8 (List.replicate size 0)).toArray 5 (0, 0))) bb (.cells (cur5.setIfInBounds k (.slice (some ⟨w1.heap.size, 0, none⟩) size size)) 22 (0, 0)) :: Hs') → (w'.cell? ⟨g, 0, none⟩ = some (.int .i64 size) ∧ w'.cell? ⟨g, 1, none⟩ = some (.slice (some ⟨bb, 0, none⟩) held.length cb5))) := Lib.hid (fun w' Hs' h => ⟨h.m_cell k1' rfl, h.m_cell k1' rfl⟩)
      have HFIN := Lib.hid (And.intro hB (k4 k w1.heap.size (by omega) hnn))
      clear k1 k2 k3 k4 hq hY1 HU H4 cl fl hbl c2 HLB hA hB hnn k1' hgb hgl
      go_region_held3 (fun w' => w'.cell? ⟨g, 0, none⟩ = some (.int .i64 size) ∧ w'.cell? ⟨g, 1, none⟩ = some (.slice (some ⟨bb, 0, none⟩) held.length cb5))
        (first | exact HS.out _ _ hw1.drew | exact HS.out _ _ (hw1.drew.alloc _).drop | exact HS2.out _ _ HFIN.out.1.drew)
        (first | fail)
      go_wp2
      go_ret2
      exact ⟨rfl, _, _, HFIN.out.1.drew, HFIN.out.2⟩
end
end Go.Proofs.YtebdgohkhadgpaaDoor
