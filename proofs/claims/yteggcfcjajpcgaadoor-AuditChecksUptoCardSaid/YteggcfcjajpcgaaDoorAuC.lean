/- Walk: Add. -/
import Derived.Test.YteggcfcjajpcgaaDoorAuB
set_option linter.unusedVariables false
set_option linter.unusedSimpArgs false
namespace Go.Proofs.YteggcfcjajpcgaaDoor
open Go Go.RowKit
def entC (xs : List Ent) : List Value := xs.flatMap fun x => (EA x).toList
def okE (x : Ent) : Prop := x.sum.length = 32 ∧ 0 ≤ x.at_ ∧ x.at_ ≤ maxTick
theorem reps_ent {H : Hp} : ∀ (xs : List Ent), (∀ x ∈ xs, okE x) → kE.reps H xs (entC xs)
  | [], _ => rfl
  | x :: xs, h => ⟨_, _, rfl, ⟨(h x (by simp)).1, rfl⟩, reps_ent xs (fun y hy => h y (by simp [hy]))⟩
theorem ok0 : okE ent0 := ⟨rfl, by decide, by decide⟩
theorem ok_last {xs : List Ent} (h : ∀ x ∈ xs, okE x) : okE (xs.getLastD ent0) := by
  have hm : xs.getLastD ent0 ∈ ent0 :: xs := List.getLastD_mem_cons
  rcases List.mem_cons.1 hm with e | hm
  · rw [e]; exact ok0
  · exact h _ hm
theorem fold_set0 : ∀ (vs : List Value) (k : Nat) (pre suf : List Value), pre.length = k → suf.length = vs.length → (vs.zipIdx k).foldl (fun (cs : Array Value) (x : Value × Nat) => cs.setIfInBounds x.snd x.fst) (pre ++ suf).toArray = (pre ++ vs).toArray
  | [], k, pre, suf, _, h => by
    obtain rfl := List.eq_nil_of_length_eq_zero h
    rfl
  | v :: vs, k, pre, [], hp, h => by simp at h
  | v :: vs, k, pre, s :: suf, hp, h => by
    rw [List.zipIdx_cons, List.foldl_cons]
    have e : (pre ++ s :: suf).toArray.setIfInBounds k v = ((pre ++ [v]) ++ suf).toArray := by
      apply Array.ext'
      rw [Array.toList_setIfInBounds, List.set_append_right _ _ (by omega), ← hp, Nat.sub_self]
      simp
    show List.foldl _ ((pre ++ s :: suf).toArray.setIfInBounds k v) _ = _
    rw [e, fold_set0 vs (k + 1) (pre ++ [v]) suf (by rw [List.length_append]; simp; omega) (by simpa using h)]
    simp
theorem fold_row (y : Ent) (hl : y.sum.length = 32) : Array.foldl (fun (cs : Array Value) (x : Value × Nat) => cs.setIfInBounds x.snd x.fst) #[.int .i64 0, .string ⟨#[]⟩, .int .u8 0, .int .u8 0, .int .u8 0, .int .u8 0, .int .u8 0, .int .u8 0, .int .u8 0, .int .u8 0, .int .u8 0, .int .u8 0, .int .u8 0, .int .u8 0, .int .u8 0, .int .u8 0, .int .u8 0, .int .u8 0, .int .u8 0, .int .u8 0, .int .u8 0, .int .u8 0, .int .u8 0, .int .u8 0, .int .u8 0, .int .u8 0, .int .u8 0, .int .u8 0, .int .u8 0, .int .u8 0, .int .u8 0, .int .u8 0, .int .u8 0, .int .u8 0] (EA y).zipIdx 0 34 = EA y := by
  have hz : (34 : Nat) = (EA y).zipIdx.size := by rw [Array.size_zipIdx, EA_size y hl]
  have h := fold_set0 (EA y).toList 0 [] (EA ent0).toList rfl (by rw [Array.length_toList, Array.length_toList, EA_size y hl]; exact EA_size _ rfl)
  have h2 : Array.foldl (fun (cs : Array Value) (x : Value × Nat) => cs.setIfInBounds x.snd x.fst) #[.int .i64 0, .string ⟨#[]⟩, .int .u8 0, .int .u8 0, .int .u8 0, .int .u8 0, .int .u8 0, .int .u8 0, .int .u8 0, .int .u8 0, .int .u8 0, .int .u8 0, .int .u8 0, .int .u8 0, .int .u8 0, .int .u8 0, .int .u8 0, .int .u8 0, .int .u8 0, .int .u8 0, .int .u8 0, .int .u8 0, .int .u8 0, .int .u8 0, .int .u8 0, .int .u8 0, .int .u8 0, .int .u8 0, .int .u8 0, .int .u8 0, .int .u8 0, .int .u8 0, .int .u8 0, .int .u8 0] (EA y).zipIdx 0 (EA y).zipIdx.size = EA y := by
    rw [← Array.foldl_toList, Array.toList_zipIdx]
    apply Array.ext'
    exact congrArg Array.toList h
  rw [← hz] at h2
  exact h2
theorem Sat.bring {σ w : World} {l₁ l₂ : List Hp} {a : Hp} (h : Sat σ w (l₁ ++ a :: l₂)) : Sat σ w (a :: (l₁ ++ l₂)) := h.perm List.perm_middle
theorem one_ent {b : Nat} {t : TypeId} (y : Ent) (hl : y.sum.length = 32) : kE.IsSl (Hp.one b (.cells (EA y) t (0, 0))) (.slice (some ⟨b, 0, none⟩) 1 1) [y] :=
  ⟨_, _, rfl, Nat.le_refl _, by decide, fun _ => ⟨b, 0, (EA y).toList, rfl, ⟨_, _, (List.append_nil _).symm, ⟨hl, rfl⟩, rfl⟩, fun j v hv => by
    rw [Hp.one_cell, Nat.zero_add]; simpa using hv⟩⟩
/-- What Add tells, and what the log holds then. -/
def addE (xs : List Ent) (n : Int) (t : ByteArray) : Ent × Int :=
  let r := nextE (xs.getLastD ent0) n t
  if r.2 ≠ 0 then r else if 4096 ≤ xs.length then (ent0, 3) else r
def logAdd (xs : List Ent) (n : Int) (t : ByteArray) : List Ent := if (addE xs n t).2 = 0 then xs ++ [(addE xs n t).1] else xs
theorem next_ok {x : Ent} (h : okE x) (n : Int) (t : ByteArray) : okE (nextE x n t).1 := by
  unfold nextE
  split
  · exact ok0
  · split
    · exact ok0
    · rename_i h1 _
      have h2 := not_or.1 h1
      exact ⟨sha_length _, by show 0 ≤ n; have := h.2.1; omega, by show n ≤ maxTick; have := h2.2; omega⟩
/-- A log: its struct, and its entries. -/
structure LogR (G N : Hp) (g : Nat) (xs : List Ent) : Prop where mk :: (out : (∃ v, G = Hp.one g (.cells #[v, .bool true] 42 (0, 0)) ∧ Own N 32 34 v xs.length (entC xs)) ∧ (∀ x ∈ xs, okE x) ∧ xs.length ≤ 4096)
section
variable {σ w w' : World} {Hs : List Hp} {H H1 H2 M N Y G : Hp}
def AddP (σ : World) (Hs : List Hp) (g : Nat) (xs : List Ent) (n : Int) (t : ByteArray) (e : Ending) (w' : World) : Prop :=
  ∃ G' N', e = .returned (.tuple #[.agg (EA (addE xs n t).1), .int .i64 (addE xs n t).2]) ∧ Sat σ w' (G' :: N' :: Hs) ∧ LogR G' N' g (logAdd xs n t)
set_option maxHeartbeats 4000000
set_option maxRecDepth 10000 in
theorem aadd_any {g : Nat} {xs : List Ent} (n : Int) (t : ByteArray) (ht : t.size ≤ 9223372036854775807) (w : World) (hw : Sat σ w (G :: N :: Hs)) (h : LogR G N g xs) (hH : H ∈ Hs) {tt : TypeId} {fr : Nat × Nat} (hk : H 1 = some (.cells powV tt fr)) (hk0 : H 0 = some (.cells kV 90 (0, 0))) :
    Calls Tryd.prog 15 #[.pointer (some ⟨g, 0, none⟩), .int .i64 n, .string t] w (AddP σ Hs g xs n t) := by
  unfold AddP
  obtain ⟨⟨v, rfl, ho⟩, hok, hlen⟩ := h.out
  obtain ⟨A, c, rfl, _⟩ := ho.slice
  have HO := Lib.hid ho
  have hsl := ho.isSl (d := kE) (reps_ent xs hok) rfl (Hp.le_refl _)
  have HSL := Lib.hid hsl; have HOK := Lib.hid hok
  have hlast := ok_last hok
  have HNEXT := Lib.hid (fun w' Hs' (h : Sat σ w' Hs') (hm : H ∈ Hs') => next_any (xs.getLastD ent0) n t hlast.1 hlast.2 (by omega) w' h hm hk hk0)
  have hnx := next_ok hlast n t
  have HLAST := Lib.hid (fun w' Hs' (h : Sat σ w' Hs') (hm : N ∈ Hs') => last_any _ xs w' h hm hsl)
  have HADD : Hid (addE xs n t = let r := nextE (xs.getLastD ent0) n t; if r.2 ≠ 0 then r else if 4096 ≤ xs.length then (ent0, 3) else r) := Lib.hid rfl
  obtain ⟨la, hla⟩ : ∃ la, xs.getLastD ent0 = la := ⟨_, rfl⟩
  rw [hla] at HLAST HNEXT HADD hnx
  obtain ⟨y, ey, hy⟩ : ∃ y ey, nextE la n t = (y, ey) := ⟨_, _, rfl⟩
  rw [hy] at HNEXT hnx HADD
  have HY := Lib.hid hnx
  clear hk hk0 hsl hok ho hy hlast h hnx hla
  have hw2 := hw.alloc (.cells #[.int .i64 0, .string ⟨#[]⟩, .int .u8 0, .int .u8 0, .int .u8 0, .int .u8 0, .int .u8 0, .int .u8 0, .int .u8 0, .int .u8 0, .int .u8 0, .int .u8 0, .int .u8 0, .int .u8 0, .int .u8 0, .int .u8 0, .int .u8 0, .int .u8 0, .int .u8 0, .int .u8 0, .int .u8 0, .int .u8 0, .int .u8 0, .int .u8 0, .int .u8 0, .int .u8 0, .int .u8 0, .int .u8 0, .int .u8 0, .int .u8 0, .int .u8 0, .int .u8 0, .int .u8 0, .int .u8 0] 32)
  have d0 : (w.alloc (.cells #[.int .i64 0, .string ⟨#[]⟩, .int .u8 0, .int .u8 0, .int .u8 0, .int .u8 0, .int .u8 0, .int .u8 0, .int .u8 0, .int .u8 0, .int .u8 0, .int .u8 0, .int .u8 0, .int .u8 0, .int .u8 0, .int .u8 0, .int .u8 0, .int .u8 0, .int .u8 0, .int .u8 0, .int .u8 0, .int .u8 0, .int .u8 0, .int .u8 0, .int .u8 0, .int .u8 0, .int .u8 0, .int .u8 0, .int .u8 0, .int .u8 0, .int .u8 0, .int .u8 0, .int .u8 0, .int .u8 0] 32)).cell? ⟨g, 1, none⟩ = some (.bool true) := hw2.drop.one_cell rfl
  go_enter Tryd.func15, Tryd.ntmps15
  go_upto_if 18 with fail
  generalize hW : World.alloc w _ = w2 at *
  rw [← EA_zero] at hw2
  have hlr := hw2.one_lt
  generalize w.heap.size = nr at *
  have d1 : w2.cell? ⟨g, 0, none⟩ = some (.slice A xs.length c) := hw2.swap.one_cell rfl
  clear hW hw
  go_wp2_with fail
  refine (HLAST.out _ _ hw2 (List.mem_cons_of_mem _ (List.mem_cons_of_mem _ List.mem_cons_self))).mono ?_
  rintro e w3 ⟨rfl, hw3⟩
  clear hw2 d0 d1
  go_wp2_with fail
  refine (HNEXT.out _ _ hw3 (List.mem_cons_of_mem _ (List.mem_cons_of_mem _ (List.mem_cons_of_mem _ hH)))).mono ?_
  rintro e w4 ⟨rfl, hw4⟩
  clear hw3
  have hys := EA_size y HY.out.1
  have hw5 := hw4.alloc (.cells #[.int .i64 0, .string ⟨#[]⟩, .int .u8 0, .int .u8 0, .int .u8 0, .int .u8 0, .int .u8 0, .int .u8 0, .int .u8 0, .int .u8 0, .int .u8 0, .int .u8 0, .int .u8 0, .int .u8 0, .int .u8 0, .int .u8 0, .int .u8 0, .int .u8 0, .int .u8 0, .int .u8 0, .int .u8 0, .int .u8 0, .int .u8 0, .int .u8 0, .int .u8 0, .int .u8 0, .int .u8 0, .int .u8 0, .int .u8 0, .int .u8 0, .int .u8 0, .int .u8 0, .int .u8 0, .int .u8 0] 32)
  have HW5 := Lib.hid hw5
  have HEZ : Hid (EA ent0 = #[.int .i64 0, .string ⟨#[]⟩, .int .u8 0, .int .u8 0, .int .u8 0, .int .u8 0, .int .u8 0, .int .u8 0, .int .u8 0, .int .u8 0, .int .u8 0, .int .u8 0, .int .u8 0, .int .u8 0, .int .u8 0, .int .u8 0, .int .u8 0, .int .u8 0, .int .u8 0, .int .u8 0, .int .u8 0, .int .u8 0, .int .u8 0, .int .u8 0, .int .u8 0, .int .u8 0, .int .u8 0, .int .u8 0, .int .u8 0, .int .u8 0, .int .u8 0, .int .u8 0, .int .u8 0, .int .u8 0]) := Lib.hid EA_zero
  clear hw4 hw5
  go_upto_if 31 with (with_reducible show wpList _ _ _ [_, _] _ _; (refine wpList_store_row rfl 32 (.tmp 8) (.tmp 29) rfl w4.heap.size (EA y) rfl rfl 32 _ HW5.out.heap (by rw [hys]; kernel_rfl) (by rw [hys]; kernel_rfl) (EA_one _) ?_))
  have hw6 := HW5.out.setRow (EA y)
  clear HW5
  generalize World.setRow _ _ _ = w6 at *
  generalize w4.heap.size = ny at *
  have HW6 := Lib.hid hw6
  have hey0 := EA_size ent0 rfl
  clear hlr
  by_cases he : ey = 0
  · subst he
    have hlast : ∃ v, w6.cell? ⟨g, 0, none⟩ = some v := ⟨_, hw6.drop.drop.one_cell (o := 0) rfl⟩
    have d1 : w6.cell? ⟨g, 0, none⟩ = some (.slice A xs.length c) := hw6.drop.drop.one_cell rfl
    clear hlast hw6
    by_cases hfull : 4096 ≤ xs.length
    · have hfi : (4096 : Int) ≤ xs.length := by omega
      have HA : Hid (addE xs n t = (ent0, 3)) := Lib.hid (by rw [HADD.out]; simp only [ne_eq, not_true_eq_false, if_false]; rw [if_pos hfull])
      have HLA : Hid (logAdd xs n t = xs) := Lib.hid (by unfold logAdd; rw [HA.out]; rfl)
      clear HADD hfull
      go_wp2_with (with_reducible show wpList _ _ _ [_, _] _ _; (refine wpList_store_row rfl 32 (.tmp 6) (.tmp 43) rfl nr (EA ent0) rfl rfl 32 _ HW6.out.swap.heap (by rw [hey0]; kernel_rfl) rfl (EA_one _) ?_))
      have hw7 := HW6.out.swap.setRow (EA ent0)
      refine bodyPost_ret (results_row_tmp rfl _ _ nr _ _ _ _ rfl hw7.heap Tryd.underlying32 rfl (by rw [hey0]; kernel_rfl)) rfl ?_
      rw [HA.out, HLA.out]
      exact ⟨_, N, rfl, hw7.drop.drop, ⟨⟨_, rfl, HO.out⟩, HOK.out, hlen⟩⟩
    · have hfi : ¬ (4096 : Int) ≤ xs.length := by omega
      have HA : Hid (addE xs n t = (y, 0)) := Lib.hid (by rw [HADD.out]; simp only [ne_eq, not_true_eq_false, if_false]; rw [if_neg hfull])
      have HLA : Hid (logAdd xs n t = xs ++ [y]) := Lib.hid (by unfold logAdd; rw [HA.out]; rfl)
      clear HADD
      go_upto_region 8 with fail
      have HS : Hid (∀ W Hs', Sat σ W Hs' → Hp.one ny (.cells (EA y) 32 (0, 0)) ∈ Hs' → W.rangeAt ny 0 (EA y).toList) := Lib.hid (fun W Hs' h h1 => fun j v hv => h.cellAt h1 ((Hp.one_cell _ _ _ _).trans (by rw [Nat.zero_add]; simpa using hv)))
      have hiE : (Tryd.prog.info? 32).map (·.size) = some (EA y).toList.length := by rw [Array.length_toList, hys]; kernel_rfl
      refine wp_region_held_drew (S := fun W => W.rangeAt ny 0 (EA y).toList) (by kernel_rfl) (HS.out _ _ HW6.out.drew (by simp)) (fun hS0 => ?_)
      refine wpAnyH_take (i := 0) (v := ?_) rfl (by kernel_rfl) (by kernel_rfl) (by kernel_rfl) (fun _ _ _ h => h) (Or.inl ⟨by kernel_rfl, ?_⟩) hS0 ?_
      rotate_left
      · intro w hSw; go_simp; (try with_reducible rfl)
      (try simp only [Act.put, List.getElem_toArray, List.getElem_cons_succ, List.getElem_cons_zero, List.setIfInBounds_toArray, List.set_cons_zero, List.set_cons_succ])
      refine wpAnyH_take (i := 1) (v := ?_) rfl (by kernel_rfl) (by kernel_rfl) (by kernel_rfl) (fun _ _ _ h => h) (Or.inl ⟨by kernel_rfl, ?_⟩) hS0 ?_
      rotate_left
      · intro w hSw; go_simp; (try with_reducible rfl)
      (try simp only [Act.put, List.getElem_toArray, List.getElem_cons_succ, List.getElem_cons_zero, List.setIfInBounds_toArray, List.set_cons_zero, List.set_cons_succ])
      refine wpAnyH_take (i := 2) (v := ?_) rfl (by kernel_rfl) (by kernel_rfl) (by kernel_rfl) (fun _ _ _ h => h) (Or.inl ⟨by kernel_rfl, ?_⟩) hS0 ?_
      rotate_left
      · intro w hSw; go_simp; (try with_reducible rfl)
      (try simp only [Act.put, List.getElem_toArray, List.getElem_cons_succ, List.getElem_cons_zero, List.setIfInBounds_toArray, List.set_cons_zero, List.set_cons_succ])
      refine wpAnyH_take (i := 3) (v := ?_) rfl (by kernel_rfl) (by kernel_rfl) (by kernel_rfl) (fun _ _ _ h => h) (Or.inl ⟨by kernel_rfl, ?_⟩) hS0 ?_
      rotate_left
      · intro w hSw; go_simp; (try with_reducible rfl)
      (try simp only [Act.put, List.getElem_toArray, List.getElem_cons_succ, List.getElem_cons_zero, List.setIfInBounds_toArray, List.set_cons_zero, List.set_cons_succ])
      refine wpAnyH_take (i := 5) rfl (by kernel_rfl) (by kernel_rfl) (by kernel_rfl) (fun _ _ _ h => h) (yieldsIf_load_mid (by kernel_rfl) _ _ rfl _ _ rfl ((EA y).toList) _ (fun w h => h) Tryd.underlying32 rfl hiE) hS0 ?_
      (try simp only [Act.put, List.getElem_toArray, List.getElem_cons_succ, List.getElem_cons_zero, List.setIfInBounds_toArray, List.set_cons_zero, List.set_cons_succ])
      have hfold := fold_row y HY.out.1
      have hwb := Sat.bring (l₁ := [Hp.one w6.heap.size (.cells (EA y) 32 (0, 0)), Hp.one ny (.cells (EA y) 32 (0, 0)), Hp.one nr (.cells (EA ent0) 32 (0, 0)), Hp.one g (.cells #[.slice A xs.length c, .bool true] 42 (0, 0))]) (HW6.out.alloc (.cells (EA y) 32)).drew
      have d4 : (w6.alloc (.cells (EA y) 32)).cell? ⟨g, 0, none⟩ = some (.slice A xs.length c) := (HW6.out.alloc (.cells (EA y) 32)).drop.drop.drop.one_cell rfl
      refine wpAnyH_ready (rs := [4, 6]) (by kernel_rfl) (by simp) ?_
      refine (AllReadyH.cons rfl (fun K hK => ?_) (AllReadyH.cons rfl (fun K hK => ?_) AllReadyH.nil))
      · go_simp
        refine hK.out _ _ hS0 (fun hS0 => ?_)
        clear hK K
        (try simp only [Act.put, List.getElem_toArray, List.getElem_cons_succ, List.getElem_cons_zero, List.setIfInBounds_toArray, List.set_cons_zero, List.set_cons_succ])
        refine wpAnyH_ready (rs := [6]) (by kernel_rfl) (by simp) ?_
        refine AllReadyH.cons rfl (fun K hK => ?_) AllReadyH.nil
        go_simp
        refine hK.out _ _ (HS.out _ _ hwb (by simp)) (fun hS1 => ?_)
        clear hK K
        (try simp only [Act.put, List.getElem_toArray, List.getElem_cons_succ, List.getElem_cons_zero, List.setIfInBounds_toArray, List.set_cons_zero, List.set_cons_succ])
        refine wpAnyH_ready (rs := [7]) (by kernel_rfl) (by simp) ?_
        refine AllReadyH.cons rfl (fun K hK => ?_) AllReadyH.nil
        obtain ⟨cells, hcs, hsrc⟩ := (one_ent (b := w6.heap.size) (t := 32) y HY.out.1).src (P := Tryd.prog) (t := 26) Tryd.underlying26
        obtain ⟨c8, r8, rfl, ⟨_, rfl⟩, rfl⟩ := hcs
        rw [List.append_nil] at hsrc
        refine step_app hwb rfl (.tmp 48) (.tmp 50) 26 26 32 (.agg #[.int .i64 0, .string ⟨#[]⟩, .int .u8 0, .int .u8 0, .int .u8 0, .int .u8 0, .int .u8 0, .int .u8 0, .int .u8 0, .int .u8 0, .int .u8 0, .int .u8 0, .int .u8 0, .int .u8 0, .int .u8 0, .int .u8 0, .int .u8 0, .int .u8 0, .int .u8 0, .int .u8 0, .int .u8 0, .int .u8 0, .int .u8 0, .int .u8 0, .int .u8 0, .int .u8 0, .int .u8 0, .int .u8 0, .int .u8 0, .int .u8 0, .int .u8 0, .int .u8 0, .int .u8 0, .int .u8 0]) 34 56 rfl Tryd.underlying26 (by kernel_rfl) rfl (by decide) _ _ xs.length 1 (entC xs) (EA y).toList rfl rfl HO.out (hsrc _ (hwb.has _ (List.mem_cons_of_mem _ List.mem_cons_self))) (by omega) ?_
        intro A7 c7 w7 N7 hw7 ho7 _ _
        have hE : entC xs ++ (EA y).toList = entC (xs ++ [y]) := by unfold entC; simp
        rw [hE] at ho7
        refine hK.out _ _ (HS.out _ _ hw7 (by simp)) (fun hS2 => ?_)
        clear hK K
        have HO7 := Lib.hid ho7
        clear ho7 hsrc hwb
        (try simp only [Act.put, List.getElem_toArray, List.getElem_cons_succ, List.getElem_cons_zero, List.setIfInBounds_toArray, List.set_cons_zero, List.set_cons_succ])
        refine wpAnyH_take (i := 8) (v := ?_) rfl (by kernel_rfl) (by kernel_rfl) (by kernel_rfl) (fun _ _ _ h => h) (Or.inl ⟨by kernel_rfl, ?_⟩) hS2 ?_
        rotate_left
        · intro w hSw; go_simp; (try with_reducible rfl)
        (try simp only [Act.put, List.getElem_toArray, List.getElem_cons_succ, List.getElem_cons_zero, List.setIfInBounds_toArray, List.set_cons_zero, List.set_cons_succ])
        refine wpAnyH_take (i := 9) (v := ?_) rfl (by kernel_rfl) (by kernel_rfl) (by kernel_rfl) (fun _ _ _ h => h) (Or.inl ⟨by kernel_rfl, ?_⟩) hS2 ?_
        rotate_left
        · intro w hSw; go_simp; (try with_reducible rfl)
        (try simp only [Act.put, List.getElem_toArray, List.getElem_cons_succ, List.getElem_cons_zero, List.setIfInBounds_toArray, List.set_cons_zero, List.set_cons_succ])
        have hwg := Sat.bring (l₁ := [N7, Hp.one w6.heap.size (.cells (EA y) 32 (0, 0)), Hp.one ny (.cells (EA y) 32 (0, 0)), Hp.one nr (.cells (EA ent0) 32 (0, 0))]) hw7
        have e1 : w7.cell? ⟨g, 0, none⟩ = some (.slice A xs.length c) := hwg.one_cell rfl
        have e2 := heap_free hwg.heap 0
        have HWG := Lib.hid hwg
        clear hw7 hwg
        refine wpAnyH_ready (rs := [10]) (by kernel_rfl) (by simp) ?_
        refine AllReadyH.cons rfl (fun K hK => ?_) AllReadyH.nil
        go_simp
        have hw8 := HWG.out.set (o := 0) (.slice A7 (xs.length + 1) c7)
        change Sat σ _ (Hp.one g (.cells #[.slice A7 (xs.length + 1) c7, .bool true] 42 (0, 0)) :: N7 :: Hp.one w6.heap.size (.cells (EA y) 32 (0, 0)) :: Hp.one ny (.cells (EA y) 32 (0, 0)) :: Hp.one nr (.cells (EA ent0) 32 (0, 0)) :: Hs) at hw8
        refine hK.out _ _ (HS.out _ _ hw8 (by simp)) (fun hS3 => ?_)
        clear hK K HWG e1 e2
        (try simp only [Act.put, List.getElem_toArray, List.getElem_cons_succ, List.getElem_cons_zero, List.setIfInBounds_toArray, List.set_cons_zero, List.set_cons_succ])
        refine wpAnyH_done (by kernel_rfl) ?_ _
        generalize World.setCell w7 _ _ = w8 at *
        have hwy : Sat σ w8 (Hp.one ny (.cells (EA y) 32 (0, 0)) :: Hp.one g (.cells #[.slice A7 (xs.length + 1) c7, .bool true] 42 (0, 0)) :: N7 :: Hp.one w6.heap.size (.cells (EA y) 32 (0, 0)) :: Hp.one nr (.cells (EA ent0) 32 (0, 0)) :: Hs) := Sat.bring (l₁ := [Hp.one g (.cells #[.slice A7 (xs.length + 1) c7, .bool true] 42 (0, 0)), N7, Hp.one w6.heap.size (.cells (EA y) 32 (0, 0))]) hw8
        have hwr : Sat σ w8 (Hp.one nr (.cells (EA ent0) 32 (0, 0)) :: Hp.one g (.cells #[.slice A7 (xs.length + 1) c7, .bool true] 42 (0, 0)) :: N7 :: Hp.one w6.heap.size (.cells (EA y) 32 (0, 0)) :: Hp.one ny (.cells (EA y) 32 (0, 0)) :: Hs) := Sat.bring (l₁ := [Hp.one g (.cells #[.slice A7 (xs.length + 1) c7, .bool true] 42 (0, 0)), N7, Hp.one w6.heap.size (.cells (EA y) 32 (0, 0)), Hp.one ny (.cells (EA y) 32 (0, 0))]) hw8
        have HWY := Lib.hid hwy; have HWR := Lib.hid hwr
        clear hwy hwr hw8 hS3 hS2 hS1 hS0
        go_wp2_with (first
          | (with_reducible show wpList _ _ _ [_, _, _, _] _ _; (refine wpList_load_row rfl 32 (.tmp 8) rfl ny rfl 32 (EA y) (0, 0) _ HWY.out.heap Tryd.underlying32 rfl (by rw [hys]; kernel_rfl) ?_))
          | (with_reducible show wpList _ _ _ [_, _] _ _; (refine wpList_store_row rfl 32 (.tmp 6) (.tmp 54) rfl nr (EA y) rfl rfl 32 _ HWR.out.heap (by rw [hys]; kernel_rfl) (hey0.trans hys.symm) (EA_one _) ?_)))
        have hw9 := HWR.out.setRow (EA y)
        refine bodyPost_ret (results_row_tmp rfl _ _ nr _ _ _ _ rfl hw9.heap Tryd.underlying32 rfl (by rw [hys]; kernel_rfl)) rfl ?_
        rw [HA.out, HLA.out]
        refine ⟨rfl, _, N7, hw9.drop.sub (List.Sublist.cons_cons _ (List.Sublist.cons_cons _ ((List.sublist_cons_self _ _).trans (List.sublist_cons_self _ _)))), ⟨⟨_, rfl, by rw [List.length_append]; exact HO7.out⟩, fun x hx => ?_, by rw [List.length_append]; simp; omega⟩⟩
        rcases List.mem_append.1 hx with hx | hx
        · exact HOK.out x hx
        · simp at hx; subst hx; exact HY.out
      · go_simp
        refine hK.out _ _ (HS.out _ _ hwb (by simp)) (fun hS0 => ?_)
        clear hK K
        (try simp only [Act.put, List.getElem_toArray, List.getElem_cons_succ, List.getElem_cons_zero, List.setIfInBounds_toArray, List.set_cons_zero, List.set_cons_succ])
        refine wpAnyH_ready (rs := [4]) (by kernel_rfl) (by simp) ?_
        refine AllReadyH.cons rfl (fun K hK => ?_) AllReadyH.nil
        go_simp
        refine hK.out _ _ hS0 (fun hS1 => ?_)
        clear hK K
        (try simp only [Act.put, List.getElem_toArray, List.getElem_cons_succ, List.getElem_cons_zero, List.setIfInBounds_toArray, List.set_cons_zero, List.set_cons_succ])
        refine wpAnyH_ready (rs := [7]) (by kernel_rfl) (by simp) ?_
        refine AllReadyH.cons rfl (fun K hK => ?_) AllReadyH.nil
        obtain ⟨cells, hcs, hsrc⟩ := (one_ent (b := w6.heap.size) (t := 32) y HY.out.1).src (P := Tryd.prog) (t := 26) Tryd.underlying26
        obtain ⟨c8, r8, rfl, ⟨_, rfl⟩, rfl⟩ := hcs
        rw [List.append_nil] at hsrc
        refine step_app hwb rfl (.tmp 48) (.tmp 50) 26 26 32 (.agg #[.int .i64 0, .string ⟨#[]⟩, .int .u8 0, .int .u8 0, .int .u8 0, .int .u8 0, .int .u8 0, .int .u8 0, .int .u8 0, .int .u8 0, .int .u8 0, .int .u8 0, .int .u8 0, .int .u8 0, .int .u8 0, .int .u8 0, .int .u8 0, .int .u8 0, .int .u8 0, .int .u8 0, .int .u8 0, .int .u8 0, .int .u8 0, .int .u8 0, .int .u8 0, .int .u8 0, .int .u8 0, .int .u8 0, .int .u8 0, .int .u8 0, .int .u8 0, .int .u8 0, .int .u8 0, .int .u8 0]) 34 56 rfl Tryd.underlying26 (by kernel_rfl) rfl (by decide) _ _ xs.length 1 (entC xs) (EA y).toList rfl rfl HO.out (hsrc _ (hwb.has _ (List.mem_cons_of_mem _ List.mem_cons_self))) (by omega) ?_
        intro A7 c7 w7 N7 hw7 ho7 _ _
        have hE : entC xs ++ (EA y).toList = entC (xs ++ [y]) := by unfold entC; simp
        rw [hE] at ho7
        refine hK.out _ _ (HS.out _ _ hw7 (by simp)) (fun hS2 => ?_)
        clear hK K
        have HO7 := Lib.hid ho7
        clear ho7 hsrc hwb
        (try simp only [Act.put, List.getElem_toArray, List.getElem_cons_succ, List.getElem_cons_zero, List.setIfInBounds_toArray, List.set_cons_zero, List.set_cons_succ])
        refine wpAnyH_take (i := 8) (v := ?_) rfl (by kernel_rfl) (by kernel_rfl) (by kernel_rfl) (fun _ _ _ h => h) (Or.inl ⟨by kernel_rfl, ?_⟩) hS2 ?_
        rotate_left
        · intro w hSw; go_simp; (try with_reducible rfl)
        (try simp only [Act.put, List.getElem_toArray, List.getElem_cons_succ, List.getElem_cons_zero, List.setIfInBounds_toArray, List.set_cons_zero, List.set_cons_succ])
        refine wpAnyH_take (i := 9) (v := ?_) rfl (by kernel_rfl) (by kernel_rfl) (by kernel_rfl) (fun _ _ _ h => h) (Or.inl ⟨by kernel_rfl, ?_⟩) hS2 ?_
        rotate_left
        · intro w hSw; go_simp; (try with_reducible rfl)
        (try simp only [Act.put, List.getElem_toArray, List.getElem_cons_succ, List.getElem_cons_zero, List.setIfInBounds_toArray, List.set_cons_zero, List.set_cons_succ])
        have hwg := Sat.bring (l₁ := [N7, Hp.one w6.heap.size (.cells (EA y) 32 (0, 0)), Hp.one ny (.cells (EA y) 32 (0, 0)), Hp.one nr (.cells (EA ent0) 32 (0, 0))]) hw7
        have e1 : w7.cell? ⟨g, 0, none⟩ = some (.slice A xs.length c) := hwg.one_cell rfl
        have e2 := heap_free hwg.heap 0
        have HWG := Lib.hid hwg
        clear hw7 hwg
        refine wpAnyH_ready (rs := [10]) (by kernel_rfl) (by simp) ?_
        refine AllReadyH.cons rfl (fun K hK => ?_) AllReadyH.nil
        go_simp
        have hw8 := HWG.out.set (o := 0) (.slice A7 (xs.length + 1) c7)
        change Sat σ _ (Hp.one g (.cells #[.slice A7 (xs.length + 1) c7, .bool true] 42 (0, 0)) :: N7 :: Hp.one w6.heap.size (.cells (EA y) 32 (0, 0)) :: Hp.one ny (.cells (EA y) 32 (0, 0)) :: Hp.one nr (.cells (EA ent0) 32 (0, 0)) :: Hs) at hw8
        refine hK.out _ _ (HS.out _ _ hw8 (by simp)) (fun hS3 => ?_)
        clear hK K HWG e1 e2
        (try simp only [Act.put, List.getElem_toArray, List.getElem_cons_succ, List.getElem_cons_zero, List.setIfInBounds_toArray, List.set_cons_zero, List.set_cons_succ])
        refine wpAnyH_done (by kernel_rfl) ?_ _
        generalize World.setCell w7 _ _ = w8 at *
        have hwy : Sat σ w8 (Hp.one ny (.cells (EA y) 32 (0, 0)) :: Hp.one g (.cells #[.slice A7 (xs.length + 1) c7, .bool true] 42 (0, 0)) :: N7 :: Hp.one w6.heap.size (.cells (EA y) 32 (0, 0)) :: Hp.one nr (.cells (EA ent0) 32 (0, 0)) :: Hs) := Sat.bring (l₁ := [Hp.one g (.cells #[.slice A7 (xs.length + 1) c7, .bool true] 42 (0, 0)), N7, Hp.one w6.heap.size (.cells (EA y) 32 (0, 0))]) hw8
        have hwr : Sat σ w8 (Hp.one nr (.cells (EA ent0) 32 (0, 0)) :: Hp.one g (.cells #[.slice A7 (xs.length + 1) c7, .bool true] 42 (0, 0)) :: N7 :: Hp.one w6.heap.size (.cells (EA y) 32 (0, 0)) :: Hp.one ny (.cells (EA y) 32 (0, 0)) :: Hs) := Sat.bring (l₁ := [Hp.one g (.cells #[.slice A7 (xs.length + 1) c7, .bool true] 42 (0, 0)), N7, Hp.one w6.heap.size (.cells (EA y) 32 (0, 0)), Hp.one ny (.cells (EA y) 32 (0, 0))]) hw8
        have HWY := Lib.hid hwy; have HWR := Lib.hid hwr
        clear hwy hwr hw8 hS3 hS2 hS1 hS0
        go_wp2_with (first
          | (with_reducible show wpList _ _ _ [_, _, _, _] _ _; (refine wpList_load_row rfl 32 (.tmp 8) rfl ny rfl 32 (EA y) (0, 0) _ HWY.out.heap Tryd.underlying32 rfl (by rw [hys]; kernel_rfl) ?_))
          | (with_reducible show wpList _ _ _ [_, _] _ _; (refine wpList_store_row rfl 32 (.tmp 6) (.tmp 54) rfl nr (EA y) rfl rfl 32 _ HWR.out.heap (by rw [hys]; kernel_rfl) (hey0.trans hys.symm) (EA_one _) ?_)))
        have hw9 := HWR.out.setRow (EA y)
        refine bodyPost_ret (results_row_tmp rfl _ _ nr _ _ _ _ rfl hw9.heap Tryd.underlying32 rfl (by rw [hys]; kernel_rfl)) rfl ?_
        rw [HA.out, HLA.out]
        refine ⟨rfl, _, N7, hw9.drop.sub (List.Sublist.cons_cons _ (List.Sublist.cons_cons _ ((List.sublist_cons_self _ _).trans (List.sublist_cons_self _ _)))), ⟨⟨_, rfl, by rw [List.length_append]; exact HO7.out⟩, fun x hx => ?_, by rw [List.length_append]; simp; omega⟩⟩
        rcases List.mem_append.1 hx with hx | hx
        · exact HOK.out x hx
        · simp at hx; subst hx; exact HY.out
  · have heb : (ey != 0) = true := by simpa using he
    have HA : Hid (addE xs n t = (y, ey)) := Lib.hid (by rw [HADD.out]; exact if_pos he)
    have HLA : Hid (logAdd xs n t = xs) := Lib.hid (by unfold logAdd; rw [HA.out, if_neg he])
    clear HADD hw6
    go_wp2_with (first
      | (with_reducible show wpList _ _ _ [_, _, _, _] _ _; (refine wpList_load_row rfl 32 (.tmp 8) rfl ny rfl 32 (EA y) (0, 0) _ HW6.out.heap Tryd.underlying32 rfl (by rw [hys]; kernel_rfl) ?_))
      | (with_reducible show wpList _ _ _ [_, _] _ _; (refine wpList_store_row rfl 32 (.tmp 6) (.tmp 34) rfl nr (EA y) rfl rfl 32 _ HW6.out.swap.heap (by rw [hys]; kernel_rfl) (hey0.trans hys.symm) (EA_one _) ?_)))
    have hw7 := HW6.out.swap.setRow (EA y)
    refine bodyPost_ret (results_row_tmp rfl _ _ nr _ _ _ _ rfl hw7.heap Tryd.underlying32 rfl (by rw [hys]; kernel_rfl)) rfl ?_
    rw [HA.out, HLA.out]
    exact ⟨_, N, rfl, hw7.drop.drop, ⟨⟨_, rfl, HO.out⟩, HOK.out, hlen⟩⟩
end
end Go.Proofs.YteggcfcjajpcgaaDoor
