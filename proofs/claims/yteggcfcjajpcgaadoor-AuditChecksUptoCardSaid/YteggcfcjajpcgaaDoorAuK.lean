/- Walk: the reference's Add. -/
import Derived.Test.YteggcfcjajpcgaaDoorAuJ
set_option linter.unusedVariables false
set_option linter.unusedSimpArgs false
namespace Go.Proofs.YteggcfcjajpcgaaDoor
open Go Go.RowKit
def addR (la : Ent) (len : Nat) (n : Int) (t : ByteArray) : Ent × Int :=
  if n < la.at_ ∨ maxTick < n then (ent0, 2) else if 65536 < t.size ∨ 4096 ≤ len then (ent0, 3) else (⟨n, t, sha (chL la.sum (lineB n t)).flatten⟩, 0)
theorem addR_eq (xs : List Ent) (n : Int) (t : ByteArray) : addE xs n t = addR (xs.getLastD ent0) xs.length n t := by
  unfold addE addR nextE
  generalize xs.getLastD ent0 = la
  dsimp only
  by_cases h1 : n < la.at_ ∨ maxTick < n
  · rw [if_pos h1, if_pos h1, if_pos (by decide)]
  · rw [if_neg h1, if_neg h1]
    by_cases h2 : 65536 < t.size
    · rw [if_pos h2, if_pos (by decide), if_pos (.inl h2)]
    · rw [if_neg h2, if_neg (fun h => h rfl)]
      by_cases h3 : 4096 ≤ xs.length
      · rw [if_pos h3, if_pos (.inr h3)]
      · rw [if_neg h3, if_neg (by omega)]
def z32 : List Int := List.replicate 32 0
theorem z32_eq : z32 = ent0.sum := rfl
section
variable {σ w w' : World} {Hs : List Hp} {H H1 H2 M N Y G : Hp}
set_option maxHeartbeats 4000000
set_option maxRecDepth 10000 in
theorem radd_any (v : Value) (xs : List Ent) (n : Int) (t : ByteArray) (ht : t.size ≤ 9223372036854775807) (hok : ∀ x ∈ xs, okE x) (w : World) (hw : Sat σ w Hs) (hH : H ∈ Hs) (hs : kE.IsSl H v xs) :
    Calls Tryd.prog 16 #[v, .int .i64 n, .string t] w fun e w' => e = .returned (.tuple #[.agg (EA (addE xs n t).1), .int .i64 (addE xs n t).2]) ∧ Sat σ w' Hs := by
  obtain ⟨A, c, rfl, hc1, hc2, _⟩ := hs.form
  have hlk := ok_last hok
  have HADD : Hid (addE xs n t = addR (xs.getLastD ent0) xs.length n t) := Lib.hid (addR_eq xs n t)
  have HROW : Hid (xs.length ≠ 0 → ∃ k b off, xs.length = k + 1 ∧ A = some ⟨b, off, none⟩ ∧ ∀ W Hs', Sat σ W Hs' → H ∈ Hs' → W.rangeAt b (off + k * 34) (EA (xs.getLastD ent0)).toList) := Lib.hid (fun h0 => by
    obtain ⟨k, hk⟩ : ∃ k, xs.length = k + 1 := ⟨xs.length - 1, by omega⟩
    obtain ⟨x, hx⟩ : ∃ x, xs[k]? = some x := ⟨_, List.getElem?_eq_getElem (by omega)⟩
    obtain ⟨b, off, cs, rfl, ⟨hl, rfl⟩, hcell⟩ := hs.get k x hx
    have HX : xs.getLastD ent0 = x := by
      rw [List.getLastD_eq_getLast?, List.getLast?_eq_getElem?, hk, Nat.add_sub_cancel, hx]; rfl
    exact ⟨k, b, off, hk, rfl, fun W Hs' h hm j v hv => by rw [HX] at hv; exact h.cellAt hm (hcell j v hv)⟩)
  have H0 : Hid (xs.length = 0 → xs.getLastD ent0 = ent0) := Lib.hid (fun h => by rw [List.eq_nil_of_length_eq_zero h]; rfl)
  have hLc : xs.length ≤ 9223372036854775807 := by omega
  clear hs hc1 hok
  generalize addE xs n t = R at *
  generalize xs.getLastD ent0 = la at *
  generalize xs.length = L at *
  have hls := hlk.1
  have HMT : Hid ((1099511627776 : Int) = maxTick) := Lib.hid rfl
  have HAT := Lib.hid hlk.2
  clear hlk
  by_cases h0 : L = 0
  · obtain rfl : la = ent0 := H0.out h0
    have h0i : ¬ (0 : Int) < L := by omega
    clear HROW H0 h0
    go_enter Tryd.func16, Tryd.ntmps16
    have hw1 := hw.alloc (.cells #[.int .i64 0, .string ⟨#[]⟩, .int .u8 0, .int .u8 0, .int .u8 0, .int .u8 0, .int .u8 0, .int .u8 0, .int .u8 0, .int .u8 0, .int .u8 0, .int .u8 0, .int .u8 0, .int .u8 0, .int .u8 0, .int .u8 0, .int .u8 0, .int .u8 0, .int .u8 0, .int .u8 0, .int .u8 0, .int .u8 0, .int .u8 0, .int .u8 0, .int .u8 0, .int .u8 0, .int .u8 0, .int .u8 0, .int .u8 0, .int .u8 0, .int .u8 0, .int .u8 0, .int .u8 0, .int .u8 0] 32)
    go_upto_region 1 with fail
    generalize World.alloc w _ = w1 at *
    rw [← EA_zero] at hw1
    generalize w.heap.size = nr at *
    have hw2 := hw1.alloc (.cells #[.int .u8 0, .int .u8 0, .int .u8 0, .int .u8 0, .int .u8 0, .int .u8 0, .int .u8 0, .int .u8 0, .int .u8 0, .int .u8 0, .int .u8 0, .int .u8 0, .int .u8 0, .int .u8 0, .int .u8 0, .int .u8 0, .int .u8 0, .int .u8 0, .int .u8 0, .int .u8 0, .int .u8 0, .int .u8 0, .int .u8 0, .int .u8 0, .int .u8 0, .int .u8 0, .int .u8 0, .int .u8 0, .int .u8 0, .int .u8 0, .int .u8 0, .int .u8 0] 29)
    have HW2 := Lib.hid hw2
    clear hw hw1 hw2
    go_upto_if 13 with (with_reducible show wpList _ _ _ [{ dst := none, op := _, type := _, pos := _, after := _, guard := _ }] _ _; go_must (refine wpList_store_row rfl 29 (.tmp 9) (.tmp 10) rfl w1.heap.size (outV z32) rfl rfl 29 _ HW2.out.heap (by kernel_rfl) rfl (outV_one _) ?_))
    have hw3 := HW2.out.setRow (outV z32)
    clear HW2
    generalize World.setRow _ _ _ = w3 at *
    generalize w1.heap.size = ns at *
    rw [z32_eq] at hw3
    go_upto_region 4 with fail
    clear h0i
    have HR := Lib.hid hw3.swap
    have HW3 := Lib.hid hw3
    clear hw3
    by_cases h1 : n < 0
    · have HA : Hid (R = (ent0, 2)) := Lib.hid (by rw [HADD.out]; unfold addR; rw [if_pos (.inl h1)])
      go_wp2_with (with_reducible show wpList _ _ _ [_, _] _ _; (refine wpList_store_row rfl 32 (.tmp 6) (.tmp 36) rfl nr (EA ent0) rfl rfl 32 _ HR.out.heap (by kernel_rfl) rfl (EA_one _) ?_))
      have hw7 := HR.out.setRow (EA ent0)
      refine bodyPost_ret (results_row_tmp rfl _ _ nr _ _ _ _ rfl hw7.heap Tryd.underlying32 rfl (by kernel_rfl)) rfl ?_
      rw [HA.out]
      exact ⟨rfl, hw7.drop.drop⟩
    · by_cases h2 : 1099511627776 < n
      · have HA : Hid (R = (ent0, 2)) := Lib.hid (by rw [HADD.out]; unfold addR; rw [if_pos (.inr (by rw [← HMT.out]; exact h2))])
        go_wp2_with (with_reducible show wpList _ _ _ [_, _] _ _; (refine wpList_store_row rfl 32 (.tmp 6) (.tmp 36) rfl nr (EA ent0) rfl rfl 32 _ HR.out.heap (by kernel_rfl) rfl (EA_one _) ?_))
        have hw7 := HR.out.setRow (EA ent0)
        refine bodyPost_ret (results_row_tmp rfl _ _ nr _ _ _ _ rfl hw7.heap Tryd.underlying32 rfl (by kernel_rfl)) rfl ?_
        rw [HA.out]
        exact ⟨rfl, hw7.drop.drop⟩
      · by_cases h3 : (65536 : Int) < t.size
        · have HA : Hid (R = (ent0, 3)) := Lib.hid (by rw [HADD.out]; unfold addR; rw [if_neg (fun h => h.elim h1 (by rw [← HMT.out]; exact h2)), if_pos (.inl (by omega))])
          go_wp2_with (with_reducible show wpList _ _ _ [_, _] _ _; (refine wpList_store_row rfl 32 (.tmp 6) (.tmp 46) rfl nr (EA ent0) rfl rfl 32 _ HR.out.heap (by kernel_rfl) rfl (EA_one _) ?_))
          have hw7 := HR.out.setRow (EA ent0)
          refine bodyPost_ret (results_row_tmp rfl _ _ nr _ _ _ _ rfl hw7.heap Tryd.underlying32 rfl (by kernel_rfl)) rfl ?_
          rw [HA.out]
          exact ⟨rfl, hw7.drop.drop⟩
        · by_cases h4 : (4096 : Int) ≤ L
          · have HA : Hid (R = (ent0, 3)) := Lib.hid (by rw [HADD.out]; unfold addR; rw [if_neg (fun h => h.elim h1 (by rw [← HMT.out]; exact h2)), if_pos (.inr (by omega))])
            go_wp2_with (with_reducible show wpList _ _ _ [_, _] _ _; (refine wpList_store_row rfl 32 (.tmp 6) (.tmp 46) rfl nr (EA ent0) rfl rfl 32 _ HR.out.heap (by kernel_rfl) rfl (EA_one _) ?_))
            have hw7 := HR.out.setRow (EA ent0)
            refine bodyPost_ret (results_row_tmp rfl _ _ nr _ _ _ _ rfl hw7.heap Tryd.underlying32 rfl (by kernel_rfl)) rfl ?_
            rw [HA.out]
            exact ⟨rfl, hw7.drop.drop⟩
          · have HA : Hid (R = (⟨n, t, sha (chL ent0.sum (lineB n t)).flatten⟩, 0)) := Lib.hid (by rw [HADD.out]; unfold addR; rw [if_neg (fun h => h.elim h1 (by rw [← HMT.out]; exact h2)), if_neg (by omega)])
            have hnn : -9223372036854775808 ≤ n := by have := HAT.out.1; have e : 0 = ent0.at_ := rfl; omega
            have HLINE := Lib.hid (fun w' Hs' (h : Sat σ w' Hs') => rline_any n t hnn (by omega) (by omega) w' h)
            have HCH := Lib.hid (fun w' Hs' (h : Sat σ w' Hs') => rchainS ent0.sum (lineB n t) w' h hls (lineB_size2 n t hnn (by omega) (by omega)))
            have hsl : (sha (chL ent0.sum (lineB n t)).flatten).length = 32 := sha_length _
            generalize sha (chL ent0.sum (lineB n t)).flatten = l at *
            generalize lineB n t = b at *
            have hsz2 := EA_size ⟨n, t, l⟩ hsl
            have hfold := fold_ent n t l hsl
            have hos : (outV l).size = 32 := by rw [outV_size, hsl]
            have HSZ2 := Lib.hid hsz2
            have HS : Hid (∀ W Hs', Sat σ W Hs' → Hp.one ns (.cells (outV ent0.sum) 29 (0, 0)) ∈ Hs' → W.rangeAt ns 0 (outV ent0.sum).toList) := Lib.hid (fun W Hs' h hm j v hv => h.cellAt hm ((Hp.one_cell _ _ _ _).trans (by rw [Nat.zero_add]; simpa using hv)))
            have hu29 := Tryd.underlying29
            have hi29 : (Tryd.prog.info? 29).map (·.size) = some (outV ent0.sum).toList.length := by rw [Array.length_toList, outV_size, hls]; kernel_rfl
            clear hsl HADD HAT
            go_upto_region 8 with fail
            go_region_held3 (fun W => W.rangeAt ns 0 (outV ent0.sum).toList)
              (first | exact HS.out _ _ HW3.out List.mem_cons_self | exact HS.out _ _ HW3.out.drew List.mem_cons_self | exact HS.out _ _ hw5 List.mem_cons_self | exact HS.out _ _ hw6 List.mem_cons_self | exact HS.out _ _ (hw6.swap.setRow _).swap List.mem_cons_self)
              (first
                | (go_at_call 30; refine (HLINE.out _ _ HW3.out.drew).mono ?_; rintro e w5 ⟨rfl, hw5⟩)
                | (go_at_call 29; refine (HCH.out _ _ hw5).mono ?_; rintro e w6 ⟨rfl, hw6⟩; have hst := store_all (P := Tryd.prog) (cells := EA ⟨n, t, l⟩) hw6.swap ((EA_size _ rfl).trans HSZ2.out.symm) (EA_one _)))
            go_wp2
            have hw7 := hw6.swap.setRow (EA ⟨n, t, l⟩)
            refine bodyPost_ret (results_row_tmp rfl _ _ nr _ _ _ _ rfl hw7.heap Tryd.underlying32 rfl (by rw [HSZ2.out]; kernel_rfl)) rfl ?_
            rw [HA.out]
            exact ⟨rfl, hw7.drop.drop⟩
  · obtain ⟨k, b, off, hk, rfl, hrow⟩ := HROW.out h0
    have HRG := Lib.hid hrow
    have h0i : (0 : Int) < L := by omega
    have mk : IntKind.i64.wrap ((L : Int) - 1) = (k : Int) := by rw [IntWalk.i64_in _ (by omega)]; omega
    have hki : (k : Int) < L := by omega
    have hk0 : (0 : Int) ≤ k := by omega
    clear HROW H0 h0 hrow hk
    go_enter Tryd.func16, Tryd.ntmps16
    have hw1 := hw.alloc (.cells #[.int .i64 0, .string ⟨#[]⟩, .int .u8 0, .int .u8 0, .int .u8 0, .int .u8 0, .int .u8 0, .int .u8 0, .int .u8 0, .int .u8 0, .int .u8 0, .int .u8 0, .int .u8 0, .int .u8 0, .int .u8 0, .int .u8 0, .int .u8 0, .int .u8 0, .int .u8 0, .int .u8 0, .int .u8 0, .int .u8 0, .int .u8 0, .int .u8 0, .int .u8 0, .int .u8 0, .int .u8 0, .int .u8 0, .int .u8 0, .int .u8 0, .int .u8 0, .int .u8 0, .int .u8 0, .int .u8 0] 32)
    go_upto_region 1 with fail
    generalize World.alloc w _ = w1 at *
    rw [← EA_zero] at hw1
    generalize w.heap.size = nr at *
    have hw2 := hw1.alloc (.cells #[.int .u8 0, .int .u8 0, .int .u8 0, .int .u8 0, .int .u8 0, .int .u8 0, .int .u8 0, .int .u8 0, .int .u8 0, .int .u8 0, .int .u8 0, .int .u8 0, .int .u8 0, .int .u8 0, .int .u8 0, .int .u8 0, .int .u8 0, .int .u8 0, .int .u8 0, .int .u8 0, .int .u8 0, .int .u8 0, .int .u8 0, .int .u8 0, .int .u8 0, .int .u8 0, .int .u8 0, .int .u8 0, .int .u8 0, .int .u8 0, .int .u8 0, .int .u8 0] 29)
    have HW2 := Lib.hid hw2
    clear hw hw1 hw2
    go_upto_if 13 with (with_reducible show wpList _ _ _ [{ dst := none, op := _, type := _, pos := _, after := _, guard := _ }] _ _; go_must (refine wpList_store_row rfl 29 (.tmp 9) (.tmp 10) rfl w1.heap.size (outV z32) rfl rfl 29 _ HW2.out.heap (by kernel_rfl) rfl (outV_one _) ?_))
    have hw3 := HW2.out.setRow (outV z32)
    clear HW2
    generalize World.setRow _ _ _ = w3 at *
    generalize w1.heap.size = ns at *
    rw [z32_eq] at hw3
    go_upto_region 3 with fail
    have HW3 := Lib.hid hw3
    have hos : (outV la.sum).size = 32 := by rw [outV_size, hls]
    have hi29 : (Tryd.prog.info? 29).map (·.size) = some (outV la.sum).toList.length := by rw [Array.length_toList, hos]; kernel_rfl
    have HS : Hid (∀ W Hs', Sat σ W Hs' → H ∈ Hs' → W.cell? ⟨b, off + k * 34, none⟩ = some (.int .i64 la.at_) ∧ W.rangeAt b (off + k * 34 + 2) (outV la.sum).toList) := Lib.hid (fun W Hs' h hm => by
      have hr := HRG.out W Hs' h hm
      refine ⟨?_, fun j v hv => ?_⟩
      · have := hr 0 (.int .i64 la.at_) (by rw [EA_list]; rfl)
        simpa using this
      · have := hr (2 + j) v (by rw [Array.getElem?_toList]; exact EA_sum la j v hv)
        rw [Nat.add_assoc]; exact this)
    have hmH : H ∈ Hp.one ns (.cells (outV ent0.sum) 29 (0, 0)) :: Hp.one nr (.cells (EA ent0) 32 (0, 0)) :: Hs := List.mem_cons_of_mem _ (List.mem_cons_of_mem _ hH)
    have hrg := HRG
    clear hw3 HRG
    refine wp_region_held_drew (S := fun W => W.cell? ⟨b, off + k * 34, none⟩ = some (.int .i64 la.at_) ∧ W.rangeAt b (off + k * 34 + 2) (outV la.sum).toList) (by kernel_rfl) (HS.out _ _ HW3.out.drew hmH) (fun hS0 => ?_)
    refine wpAnyH_take (i := 0) (v := ?_) rfl (by kernel_rfl) (by kernel_rfl) (by kernel_rfl) (fun _ _ _ h => h) (Or.inl ⟨by kernel_rfl, ?_⟩) hS0 ?_
    rotate_left
    · intro w hSw; clear hSw; go_simp; (try with_reducible rfl)
    (try simp only [Act.put, List.getElem_toArray, List.getElem_cons_succ, List.getElem_cons_zero, List.setIfInBounds_toArray, List.set_cons_zero, List.set_cons_succ, Array.toArray_toList])
    refine wpAnyH_take (i := 1) (v := ?_) rfl (by kernel_rfl) (by kernel_rfl) (by kernel_rfl) (fun _ _ _ h => h) (Or.inl ⟨by kernel_rfl, ?_⟩) hS0 ?_
    rotate_left
    · intro w hSw; clear hSw; go_simp; (try with_reducible rfl)
    (try simp only [Act.put, List.getElem_toArray, List.getElem_cons_succ, List.getElem_cons_zero, List.setIfInBounds_toArray, List.set_cons_zero, List.set_cons_succ, Array.toArray_toList])
    refine wpAnyH_take (i := 2) (v := ?_) rfl (by kernel_rfl) (by kernel_rfl) (by kernel_rfl) (fun _ _ _ h => h) (Or.inl ⟨by kernel_rfl, ?_⟩) hS0 ?_
    rotate_left
    · intro w hSw; clear hSw; go_simp; (try with_reducible rfl)
    (try simp only [Act.put, List.getElem_toArray, List.getElem_cons_succ, List.getElem_cons_zero, List.setIfInBounds_toArray, List.set_cons_zero, List.set_cons_succ, Array.toArray_toList])
    refine wpAnyH_take (i := 3) (v := ?_) rfl (by kernel_rfl) (by kernel_rfl) (by kernel_rfl) (fun _ _ _ h => h) (Or.inl ⟨by kernel_rfl, ?_⟩) hS0 ?_
    rotate_left
    · intro w hSw; clear hSw; go_simp; (try with_reducible rfl)
    (try simp only [Act.put, List.getElem_toArray, List.getElem_cons_succ, List.getElem_cons_zero, List.setIfInBounds_toArray, List.set_cons_zero, List.set_cons_succ, Array.toArray_toList])
    refine wpAnyH_take (i := 4) (v := ?_) rfl (by kernel_rfl) (by kernel_rfl) (by kernel_rfl) (fun _ _ _ h => h) (Or.inl ⟨by kernel_rfl, ?_⟩) hS0 ?_
    rotate_left
    · intro w hSw; clear hSw; go_simp; (try with_reducible rfl)
    (try simp only [Act.put, List.getElem_toArray, List.getElem_cons_succ, List.getElem_cons_zero, List.setIfInBounds_toArray, List.set_cons_zero, List.set_cons_succ, Array.toArray_toList])
    refine wpAnyH_take (i := 5) (v := ?_) rfl (by kernel_rfl) (by kernel_rfl) (by kernel_rfl) (fun _ _ _ h => h) (Or.inl ⟨by kernel_rfl, ?_⟩) hS0 ?_
    rotate_left
    · intro w hSw; clear hSw; go_simp; (try with_reducible rfl)
    (try simp only [Act.put, List.getElem_toArray, List.getElem_cons_succ, List.getElem_cons_zero, List.setIfInBounds_toArray, List.set_cons_zero, List.set_cons_succ, Array.toArray_toList])
    refine wpAnyH_take (i := 6) (v := ?_) rfl (by kernel_rfl) (by kernel_rfl) (by kernel_rfl) (fun _ _ _ h => h) (Or.inl ⟨by kernel_rfl, ?_⟩) hS0 ?_
    rotate_left
    · intro w hSw; obtain ⟨c0, c2⟩ := hSw; clear c2; go_simp; (try with_reducible rfl)
    (try simp only [Act.put, List.getElem_toArray, List.getElem_cons_succ, List.getElem_cons_zero, List.setIfInBounds_toArray, List.set_cons_zero, List.set_cons_succ, Array.toArray_toList])
    refine wpAnyH_take (i := 7) (v := ?_) rfl (by kernel_rfl) (by kernel_rfl) (by kernel_rfl) (fun _ _ _ h => h) (Or.inl ⟨by kernel_rfl, ?_⟩) hS0 ?_
    rotate_left
    · intro w hSw; clear hSw; go_simp; (try with_reducible rfl)
    (try simp only [Act.put, List.getElem_toArray, List.getElem_cons_succ, List.getElem_cons_zero, List.setIfInBounds_toArray, List.set_cons_zero, List.set_cons_succ, Array.toArray_toList])
    refine wpAnyH_take (i := 8) (v := ?_) rfl (by kernel_rfl) (by kernel_rfl) (by kernel_rfl) (fun _ _ _ h => h) (Or.inl ⟨by kernel_rfl, ?_⟩) hS0 ?_
    rotate_left
    · intro w hSw; clear hSw; go_simp; (try with_reducible rfl)
    (try simp only [Act.put, List.getElem_toArray, List.getElem_cons_succ, List.getElem_cons_zero, List.setIfInBounds_toArray, List.set_cons_zero, List.set_cons_succ, Array.toArray_toList])
    refine wpAnyH_take (i := 9) (v := ?_) rfl (by kernel_rfl) (by kernel_rfl) (by kernel_rfl) (fun _ _ _ h => h) (Or.inl ⟨by kernel_rfl, ?_⟩) hS0 ?_
    rotate_left
    · intro w hSw; clear hSw; go_simp; (try with_reducible rfl)
    (try simp only [Act.put, List.getElem_toArray, List.getElem_cons_succ, List.getElem_cons_zero, List.setIfInBounds_toArray, List.set_cons_zero, List.set_cons_succ, Array.toArray_toList])
    refine wpAnyH_take (i := 10) (v := ?_) rfl (by kernel_rfl) (by kernel_rfl) (by kernel_rfl) (fun _ _ _ h => h) (Or.inl ⟨by kernel_rfl, ?_⟩) hS0 ?_
    rotate_left
    · intro w hSw; clear hSw; go_simp; (try with_reducible rfl)
    (try simp only [Act.put, List.getElem_toArray, List.getElem_cons_succ, List.getElem_cons_zero, List.setIfInBounds_toArray, List.set_cons_zero, List.set_cons_succ, Array.toArray_toList])
    refine wpAnyH_take (i := 11) (v := ?_) rfl (by kernel_rfl) (by kernel_rfl) (by kernel_rfl) (fun _ _ _ h => h) (Or.inl ⟨by kernel_rfl, ?_⟩) hS0 ?_
    rotate_left
    · intro w hSw; clear hSw; go_simp; (try with_reducible rfl)
    (try simp only [Act.put, List.getElem_toArray, List.getElem_cons_succ, List.getElem_cons_zero, List.setIfInBounds_toArray, List.set_cons_zero, List.set_cons_succ, Array.toArray_toList])
    refine wpAnyH_take (i := 12) (v := ?_) rfl (by kernel_rfl) (by kernel_rfl) (by kernel_rfl) (fun _ _ _ h => h) (Or.inl ⟨by kernel_rfl, ?_⟩) hS0 ?_
    rotate_left
    · intro w hSw; clear hSw; go_simp; (try with_reducible rfl)
    (try simp only [Act.put, List.getElem_toArray, List.getElem_cons_succ, List.getElem_cons_zero, List.setIfInBounds_toArray, List.set_cons_zero, List.set_cons_succ, Array.toArray_toList])
    refine wpAnyH_take (i := 13) rfl (by kernel_rfl) (by kernel_rfl) (by kernel_rfl) (fun _ _ _ h => h) (yieldsIf_load_mid (by kernel_rfl) _ _ rfl _ _ rfl ((outV la.sum).toList) _ (fun w h => h.2) Tryd.underlying29 rfl hi29) hS0 ?_
    (try simp only [Act.put, List.getElem_toArray, List.getElem_cons_succ, List.getElem_cons_zero, List.setIfInBounds_toArray, List.set_cons_zero, List.set_cons_succ, Array.toArray_toList])
    refine wpAnyH_take (i := 14) (v := ?_) rfl (by kernel_rfl) (by kernel_rfl) (by kernel_rfl) (fun _ _ _ h => h) (Or.inl ⟨by kernel_rfl, ?_⟩) hS0 ?_
    rotate_left
    · intro w hSw; clear hSw; go_simp; (try with_reducible rfl)
    (try simp only [Act.put, List.getElem_toArray, List.getElem_cons_succ, List.getElem_cons_zero, List.setIfInBounds_toArray, List.set_cons_zero, List.set_cons_succ, Array.toArray_toList])
    refine wpAnyH_ready (rs := [15]) (by kernel_rfl) (by simp) ?_
    refine AllReadyH.cons rfl (fun K hK => ?_) AllReadyH.nil
    refine step_store_row rfl 29 (.tmp 9) (.tmp 27) rfl ns (outV la.sum) rfl rfl 29 _ HW3.out.drew.heap (by rw [hos]; kernel_rfl) (by rw [hos]; kernel_rfl) (outV_one _) ?_
    have hw4 := HW3.out.drew.setRow (outV la.sum)
    refine hK.out _ _ (HS.out _ _ hw4 (List.mem_cons_of_mem _ (List.mem_cons_of_mem _ hH))) (fun hS1 => ?_)
    clear hK K HW3
    (try simp only [Act.put, List.getElem_toArray, List.getElem_cons_succ, List.getElem_cons_zero, List.setIfInBounds_toArray, List.set_cons_zero, List.set_cons_succ, Array.toArray_toList])
    refine wpAnyH_done (by kernel_rfl) ?_ _
    generalize World.setRow _ _ _ = w5 at *
    clear HS hS0 hS1 hrg hi29 hos
    have hw3 := hw4
    clear hw4
    have HR := Lib.hid hw3.swap
    have HW3 := Lib.hid hw3
    clear hw3
    by_cases h1 : n < la.at_
    · have HA : Hid (R = (ent0, 2)) := Lib.hid (by rw [HADD.out]; unfold addR; rw [if_pos (.inl h1)])
      go_wp2_with (with_reducible show wpList _ _ _ [_, _] _ _; (refine wpList_store_row rfl 32 (.tmp 6) (.tmp 36) rfl nr (EA ent0) rfl rfl 32 _ HR.out.heap (by kernel_rfl) rfl (EA_one _) ?_))
      have hw7 := HR.out.setRow (EA ent0)
      refine bodyPost_ret (results_row_tmp rfl _ _ nr _ _ _ _ rfl hw7.heap Tryd.underlying32 rfl (by kernel_rfl)) rfl ?_
      rw [HA.out]
      exact ⟨rfl, hw7.drop.drop⟩
    · by_cases h2 : 1099511627776 < n
      · have HA : Hid (R = (ent0, 2)) := Lib.hid (by rw [HADD.out]; unfold addR; rw [if_pos (.inr (by rw [← HMT.out]; exact h2))])
        go_wp2_with (with_reducible show wpList _ _ _ [_, _] _ _; (refine wpList_store_row rfl 32 (.tmp 6) (.tmp 36) rfl nr (EA ent0) rfl rfl 32 _ HR.out.heap (by kernel_rfl) rfl (EA_one _) ?_))
        have hw7 := HR.out.setRow (EA ent0)
        refine bodyPost_ret (results_row_tmp rfl _ _ nr _ _ _ _ rfl hw7.heap Tryd.underlying32 rfl (by kernel_rfl)) rfl ?_
        rw [HA.out]
        exact ⟨rfl, hw7.drop.drop⟩
      · by_cases h3 : (65536 : Int) < t.size
        · have HA : Hid (R = (ent0, 3)) := Lib.hid (by rw [HADD.out]; unfold addR; rw [if_neg (fun h => h.elim h1 (by rw [← HMT.out]; exact h2)), if_pos (.inl (by omega))])
          go_wp2_with (with_reducible show wpList _ _ _ [_, _] _ _; (refine wpList_store_row rfl 32 (.tmp 6) (.tmp 46) rfl nr (EA ent0) rfl rfl 32 _ HR.out.heap (by kernel_rfl) rfl (EA_one _) ?_))
          have hw7 := HR.out.setRow (EA ent0)
          refine bodyPost_ret (results_row_tmp rfl _ _ nr _ _ _ _ rfl hw7.heap Tryd.underlying32 rfl (by kernel_rfl)) rfl ?_
          rw [HA.out]
          exact ⟨rfl, hw7.drop.drop⟩
        · by_cases h4 : (4096 : Int) ≤ L
          · have HA : Hid (R = (ent0, 3)) := Lib.hid (by rw [HADD.out]; unfold addR; rw [if_neg (fun h => h.elim h1 (by rw [← HMT.out]; exact h2)), if_pos (.inr (by omega))])
            go_wp2_with (with_reducible show wpList _ _ _ [_, _] _ _; (refine wpList_store_row rfl 32 (.tmp 6) (.tmp 46) rfl nr (EA ent0) rfl rfl 32 _ HR.out.heap (by kernel_rfl) rfl (EA_one _) ?_))
            have hw7 := HR.out.setRow (EA ent0)
            refine bodyPost_ret (results_row_tmp rfl _ _ nr _ _ _ _ rfl hw7.heap Tryd.underlying32 rfl (by kernel_rfl)) rfl ?_
            rw [HA.out]
            exact ⟨rfl, hw7.drop.drop⟩
          · have HA : Hid (R = (⟨n, t, sha (chL la.sum (lineB n t)).flatten⟩, 0)) := Lib.hid (by rw [HADD.out]; unfold addR; rw [if_neg (fun h => h.elim h1 (by rw [← HMT.out]; exact h2)), if_neg (by omega)])
            have hnn : -9223372036854775808 ≤ n := by have := HAT.out.1; have e : la.at_ = la.at_ := rfl; omega
            have HLINE := Lib.hid (fun w' Hs' (h : Sat σ w' Hs') => rline_any n t hnn (by omega) (by omega) w' h)
            have HCH := Lib.hid (fun w' Hs' (h : Sat σ w' Hs') => rchainS la.sum (lineB n t) w' h hls (lineB_size2 n t hnn (by omega) (by omega)))
            have hsl : (sha (chL la.sum (lineB n t)).flatten).length = 32 := sha_length _
            generalize sha (chL la.sum (lineB n t)).flatten = l at *
            generalize lineB n t = b at *
            have hsz2 := EA_size ⟨n, t, l⟩ hsl
            have hfold := fold_ent n t l hsl
            have hos : (outV l).size = 32 := by rw [outV_size, hsl]
            have HSZ2 := Lib.hid hsz2
            have HS : Hid (∀ W Hs', Sat σ W Hs' → Hp.one ns (.cells (outV la.sum) 29 (0, 0)) ∈ Hs' → W.rangeAt ns 0 (outV la.sum).toList) := Lib.hid (fun W Hs' h hm j v hv => h.cellAt hm ((Hp.one_cell _ _ _ _).trans (by rw [Nat.zero_add]; simpa using hv)))
            have hu29 := Tryd.underlying29
            have hi29 : (Tryd.prog.info? 29).map (·.size) = some (outV la.sum).toList.length := by rw [Array.length_toList, outV_size, hls]; kernel_rfl
            clear hsl HADD HAT
            go_upto_region 8 with fail
            go_region_held3 (fun W => W.rangeAt ns 0 (outV la.sum).toList)
              (first | exact HS.out _ _ HW3.out List.mem_cons_self | exact HS.out _ _ HW3.out.drew List.mem_cons_self | exact HS.out _ _ hw5 List.mem_cons_self | exact HS.out _ _ hw6 List.mem_cons_self | exact HS.out _ _ (hw6.swap.setRow _).swap List.mem_cons_self)
              (first
                | (go_at_call 30; refine (HLINE.out _ _ HW3.out.drew).mono ?_; rintro e w5 ⟨rfl, hw5⟩)
                | (go_at_call 29; refine (HCH.out _ _ hw5).mono ?_; rintro e w6 ⟨rfl, hw6⟩; have hst := store_all (P := Tryd.prog) (cells := EA ⟨n, t, l⟩) hw6.swap ((EA_size _ rfl).trans HSZ2.out.symm) (EA_one _)))
            go_wp2
            have hw7 := hw6.swap.setRow (EA ⟨n, t, l⟩)
            refine bodyPost_ret (results_row_tmp rfl _ _ nr _ _ _ _ rfl hw7.heap Tryd.underlying32 rfl (by rw [HSZ2.out]; kernel_rfl)) rfl ?_
            rw [HA.out]
            exact ⟨rfl, hw7.drop.drop⟩
end
end Go.Proofs.YteggcfcjajpcgaaDoor
