/- Walk: Line, next. -/
import Derived.Test.YteggcfcjajpcgaaDoorAuA
import Derived.Test.YteggcfcjajpcgaaDoorIto
set_option linter.unusedVariables false
set_option linter.unusedSimpArgs false
namespace Go.Proofs.YteggcfcjajpcgaaDoor
open Go Go.RowKit
section
variable {σ w w' : World} {Hs : List Hp} {H H1 H2 M N Y : Hp}
set_option maxHeartbeats 4000000
def itoB (n : Int) : ByteArray := ⟨(Lib.itoa n).toArray⟩
def lineB (n : Int) (t : ByteArray) : ByteArray := itoB n ++ ⟨#[32]⟩ ++ t
theorem itoB_size (n : Int) (h0 : -9223372036854775808 ≤ n) (h1 : n ≤ 9223372036854775807) : (itoB n).size ≤ 21 := by
  have := Lib.itoa_length_le n h0 h1
  show (Lib.itoa n).toArray.size ≤ 21
  simpa using this
theorem line_any (n : Int) (t : ByteArray) (h0 : -9223372036854775808 ≤ n) (h1 : n ≤ 9223372036854775807) (ht : t.size ≤ 1000000000) (w : World) (hw : Sat σ w Hs) (hH : H ∈ Hs) {tt : TypeId} {fr : Nat × Nat} (hk : H 1 = some (.cells powV tt fr)) :
    Calls Tryd.prog 17 #[.int .i64 n, .string t] w fun e w' => e = .returned (.string (lineB n t)) ∧ Sat σ w' Hs := by
  have HI : Hid (Calls Tryd.prog 31 #[.int .i64 n] w fun e w' => e = .returned (.string (itoB n)) ∧ Sat σ w' Hs) := Lib.hid (itoaS n h0 h1 w hw hH hk)
  have hs := itoB_size n h0 h1
  have s1 : ¬ (9223372036854775807 < (itoB n).size + 1) := by omega
  have s2 : ¬ (9223372036854775807 < (itoB n).size + 1 + t.size) := by omega
  unfold lineB
  generalize itoB n = b at *
  clear hk hw
  go_enter Tryd.func17, Tryd.ntmps17
  go_wp2_with (go_at_call 31; refine HI.out.mono ?_; rintro e w1 ⟨rfl, hw1⟩)
  go_ret
  exact ⟨rfl, hw1⟩
theorem EA_get0 (x : Ent) : (EA x)[0]? = some (.int .i64 x.at_) := by rw [← Array.getElem?_toList, EA_list]; rfl
section
variable {P : Program} {ops : Array Oper} {o : Oper} {a : Act} {W : World} {Q : Exit → Act → World → Prop} {K : Act → World → Prop} {E : Prop}
/-- a row's store, in a region that draws -/
theorem step_store_row (hgd : o.guard = none) (ty : TypeId) (x y : Operand) (ho : o.op = .store ty x y)
    (g : Nat) (cells : Array Value) (hx : a.eval x = .pointer (some ⟨g, 0, none⟩)) (hy : a.eval y = .agg cells)
    (t : TypeId) (old : Array Value) (hg : W.heap[g]? = some (.cells old t (0, 0))) (hi : (P.info? ty).map (·.size) = some cells.size)
    (hold : old.size = cells.size) (h1 : cells.all (·.oneCell') = true) (h : K (a.put o.dst undef) (W.setRow g cells)) : if Region.wanted o (yielded ops a.tmps) = true then Oper.wp P o a W K Q else E := by
  have hwt : Region.wanted o (yielded ops a.tmps) = true := by simp [Region.wanted, hgd]
  rw [if_pos hwt]
  exact wp_store_row ty x y ho g cells hx hy t old hg hi hold h1 h
/-- a struct that is built, in a region that draws -/
theorem step_build (hgd : o.guard = none) (t : TypeId) (parts : Array (Nat × Operand)) (ho : o.op = .build t parts) (cells : Array Value)
    (hf : P.built t (parts.map fun (i, x) => (i, a.eval x)).toList = some cells) (h : K (a.put o.dst (.agg cells)) W) : if Region.wanted o (yielded ops a.tmps) = true then Oper.wp P o a W K Q else E := by
  have hwt : Region.wanted o (yielded ops a.tmps) = true := by simp [Region.wanted, hgd]
  rw [if_pos hwt]
  exact wp_build t parts ho (by rw [hf]; rfl) (by rw [hf]; exact h)
end
theorem store_all {P : Program} {g : Nat} {t : TypeId} {old cells : Array Value} (hw : Sat σ w (Hp.one g (.cells old t (0, 0)) :: Hs)) (hold : old.size = cells.size) (h1 : cells.all (·.oneCell') = true) :
    (storeCells ⟨g, 0, none⟩ cells.toList).run P w = .ok () (w.setRow g cells) := by
  have := run_storeCells_from (P := P) g t cells.toList 0 old w hw.heap (by simp; omega) (fun v hv => (Array.all_eq_true_iff_forall_mem.1 h1) v (by simpa using hv))
  simpa using this
theorem fold_set : ∀ (vs : List Value) (k : Nat) (pre suf : List Value), pre.length = 2 + k → suf.length = vs.length → (vs.zipIdx k).foldl (fun (cs : Array Value) (x : Value × Nat) => cs.setIfInBounds (2 + x.snd) x.fst) (pre ++ suf).toArray = (pre ++ vs).toArray
  | [], k, pre, suf, _, h => by
    obtain rfl := List.eq_nil_of_length_eq_zero h
    rfl
  | v :: vs, k, pre, [], hp, h => by simp at h
  | v :: vs, k, pre, s :: suf, hp, h => by
    rw [List.zipIdx_cons, List.foldl_cons]
    have e : (pre ++ s :: suf).toArray.setIfInBounds (2 + k) v = ((pre ++ [v]) ++ suf).toArray := by
      apply Array.ext'
      rw [Array.toList_setIfInBounds, List.set_append_right _ _ (by omega), ← hp, Nat.sub_self]
      simp
    show List.foldl _ ((pre ++ s :: suf).toArray.setIfInBounds (2 + k) v) _ = _
    rw [e, fold_set vs (k + 1) (pre ++ [v]) suf (by rw [List.length_append]; simp; omega) (by simpa using h)]
    simp
theorem fold_ent (n : Int) (t : ByteArray) (l : List Int) (hl : l.length = 32) : Array.foldl (fun (cs : Array Value) (x : Value × Nat) => cs.setIfInBounds (2 + x.snd) x.fst) #[.int .i64 n, .string t, .int .u8 0, .int .u8 0, .int .u8 0, .int .u8 0, .int .u8 0, .int .u8 0, .int .u8 0, .int .u8 0, .int .u8 0, .int .u8 0, .int .u8 0, .int .u8 0, .int .u8 0, .int .u8 0, .int .u8 0, .int .u8 0, .int .u8 0, .int .u8 0, .int .u8 0, .int .u8 0, .int .u8 0, .int .u8 0, .int .u8 0, .int .u8 0, .int .u8 0, .int .u8 0, .int .u8 0, .int .u8 0, .int .u8 0, .int .u8 0, .int .u8 0, .int .u8 0] (outV l).zipIdx 0 32 = EA ⟨n, t, l⟩ := by
  have hz : (32 : Nat) = (outV l).zipIdx.size := by simp [outV, hl]
  have h := fold_set (l.map (.int .u8)) 0 [.int .i64 n, .string t] (List.replicate 32 (.int .u8 0)) rfl (by simp [hl])
  have h2 : Array.foldl (fun (cs : Array Value) (x : Value × Nat) => cs.setIfInBounds (2 + x.snd) x.fst) #[.int .i64 n, .string t, .int .u8 0, .int .u8 0, .int .u8 0, .int .u8 0, .int .u8 0, .int .u8 0, .int .u8 0, .int .u8 0, .int .u8 0, .int .u8 0, .int .u8 0, .int .u8 0, .int .u8 0, .int .u8 0, .int .u8 0, .int .u8 0, .int .u8 0, .int .u8 0, .int .u8 0, .int .u8 0, .int .u8 0, .int .u8 0, .int .u8 0, .int .u8 0, .int .u8 0, .int .u8 0, .int .u8 0, .int .u8 0, .int .u8 0, .int .u8 0, .int .u8 0, .int .u8 0] (outV l).zipIdx 0 (outV l).zipIdx.size = EA ⟨n, t, l⟩ := by
    rw [← Array.foldl_toList, Array.toList_zipIdx]
    apply Array.ext'
    rw [EA_list]
    exact congrArg Array.toList h
  rw [← hz] at h2
  exact h2
theorem chainS (l : List Int) (s : ByteArray) (w : World) (hw : Sat σ w Hs) (hH : H ∈ Hs) (hl : l.length = 32) (hs : s.size ≤ 1000000000) (hk0 : H 0 = some (.cells kV 90 (0, 0))) :
    Calls Tryd.prog 21 #[.agg (outV l), .string s] w fun e w' => e = .returned (.agg (outV (sha (chL l s).flatten))) ∧ Sat σ w' Hs :=
  (chain_any l s w hl hs (hw.blk hH hk0)).mono fun e w' ⟨h1, h2⟩ => ⟨h1, hw.below h2⟩
theorem lineB_size (n : Int) (t : ByteArray) (h0 : -9223372036854775808 ≤ n) (h1 : n ≤ 9223372036854775807) (ht : t.size ≤ 900000000) : (lineB n t).size ≤ 1000000000 := by
  have := itoB_size n h0 h1
  unfold lineB
  rw [ByteArray.size_append, ByteArray.size_append]
  show (itoB n).size + 1 + t.size ≤ _
  omega
theorem EA_sum (x : Ent) (j : Nat) (v : Value) (hv : (outV x.sum).toList[j]? = some v) : (EA x)[2 + j]? = some v := by
  rw [← Array.getElem?_toList, EA_list, show 2 + j = j + 1 + 1 from by omega]
  simpa [outV] using hv
def maxTick : Int := 1099511627776
/-- The record behind another one: what is told, and which error. -/
def nextE (x : Ent) (n : Int) (t : ByteArray) : Ent × Int :=
  if n < x.at_ ∨ maxTick < n then (ent0, 2) else if 65536 < t.size then (ent0, 3) else (⟨n, t, sha (chL x.sum (lineB n t)).flatten⟩, 0)
set_option maxRecDepth 10000 in
theorem next_any0 (x : Ent) (n : Int) (t : ByteArray) (hl : x.sum.length = 32) (hx : x.at_ ≤ n → -9223372036854775808 ≤ n) (ht : t.size ≤ 9223372036854775807) (w : World) (hw : Sat σ w Hs) (hH : H ∈ Hs) {tt : TypeId} {fr : Nat × Nat} (hk : H 1 = some (.cells powV tt fr)) (hk0 : H 0 = some (.cells kV 90 (0, 0))) :
    Calls Tryd.prog 28 #[.agg (EA x), .int .i64 n, .string t] w fun e w' => e = .returned (.tuple #[.agg (EA (nextE x n t).1), .int .i64 (nextE x n t).2]) ∧ Sat σ w' Hs := by
  have hsz := EA_size x hl
  have hE0 : ∀ h, (EA x)[0]'h = .int .i64 x.at_ := fun h => by have h2 := EA_get0 x; rw [Array.getElem?_eq_getElem h] at h2; exact Option.some.inj h2
  have hmt : (1099511627776 : Int) = maxTick := rfl
  have HB := Lib.hid hk; have HK := Lib.hid hk0
  have hw2 := (hw.alloc (.cells (EA x) 32)).alloc (.cells #[.int .i64 0, .string ⟨#[]⟩, .int .u8 0, .int .u8 0, .int .u8 0, .int .u8 0, .int .u8 0, .int .u8 0, .int .u8 0, .int .u8 0, .int .u8 0, .int .u8 0, .int .u8 0, .int .u8 0, .int .u8 0, .int .u8 0, .int .u8 0, .int .u8 0, .int .u8 0, .int .u8 0, .int .u8 0, .int .u8 0, .int .u8 0, .int .u8 0, .int .u8 0, .int .u8 0, .int .u8 0, .int .u8 0, .int .u8 0, .int .u8 0, .int .u8 0, .int .u8 0, .int .u8 0, .int .u8 0] 32)
  rw [World.size_alloc] at hw2
  clear hk hk0
  by_cases h1 : n < x.at_
  · have HN : Hid (nextE x n t = (ent0, 2)) := Lib.hid (by unfold nextE; rw [if_pos (.inl h1)])
    go_enter Tryd.func28, Tryd.ntmps28
    go_upto_if 8 with fail
    generalize World.alloc (World.alloc w _) _ = w2 at *
    rw [← EA_zero] at hw2
    generalize w.heap.size = nx at *
    have HW2 := Lib.hid hw2
    clear hw hw2
    go_wp2_with (with_reducible show wpList _ _ _ [{ dst := none, op := _, type := _, pos := _, after := _, guard := _ }, _] _ _; go_must (refine wpList_store_row rfl 32 (.tmp 6) (.tmp 17) rfl (nx + 1) (EA ent0) rfl rfl 32 (EA ent0) HW2.out.heap (by kernel_rfl) rfl (EA_one _) ?_))
    have hw3 := HW2.out.setRow (EA ent0)
    refine bodyPost_ret (results_row_tmp rfl _ _ (nx + 1) _ _ _ _ rfl hw3.heap Tryd.underlying32 rfl (by kernel_rfl)) rfl ?_
    rw [HN.out]
    exact ⟨rfl, hw3.drop.drop⟩
  · by_cases h2 : 1099511627776 < n
    · have HN : Hid (nextE x n t = (ent0, 2)) := Lib.hid (by unfold nextE; rw [if_pos (.inr h2)])
      go_enter Tryd.func28, Tryd.ntmps28
      go_upto_if 8 with fail
      generalize World.alloc (World.alloc w _) _ = w2 at *
      rw [← EA_zero] at hw2
      generalize w.heap.size = nx at *
      have HW2 := Lib.hid hw2
      clear hw hw2
      go_wp2_with (with_reducible show wpList _ _ _ [{ dst := none, op := _, type := _, pos := _, after := _, guard := _ }, _] _ _; go_must (refine wpList_store_row rfl 32 (.tmp 6) (.tmp 17) rfl (nx + 1) (EA ent0) rfl rfl 32 (EA ent0) HW2.out.heap (by kernel_rfl) rfl (EA_one _) ?_))
      have hw3 := HW2.out.setRow (EA ent0)
      refine bodyPost_ret (results_row_tmp rfl _ _ (nx + 1) _ _ _ _ rfl hw3.heap Tryd.underlying32 rfl (by kernel_rfl)) rfl ?_
      rw [HN.out]
      exact ⟨rfl, hw3.drop.drop⟩
    · by_cases h3 : (65536 : Int) < t.size
      · have HN : Hid (nextE x n t = (ent0, 3)) := Lib.hid (by unfold nextE; rw [if_neg (fun h => h.elim h1 h2), if_pos (by omega)])
        go_enter Tryd.func28, Tryd.ntmps28
        go_upto_if 8 with fail
        generalize World.alloc (World.alloc w _) _ = w2 at *
        rw [← EA_zero] at hw2
        generalize w.heap.size = nx at *
        have HW2 := Lib.hid hw2
        clear hw hw2
        go_wp2_with (with_reducible show wpList _ _ _ [{ dst := none, op := _, type := _, pos := _, after := _, guard := _ }, _] _ _; go_must (refine wpList_store_row rfl 32 (.tmp 6) (.tmp 22) rfl (nx + 1) (EA ent0) rfl rfl 32 (EA ent0) HW2.out.heap (by kernel_rfl) rfl (EA_one _) ?_))
        have hw3 := HW2.out.setRow (EA ent0)
        refine bodyPost_ret (results_row_tmp rfl _ _ (nx + 1) _ _ _ _ rfl hw3.heap Tryd.underlying32 rfl (by kernel_rfl)) rfl ?_
        rw [HN.out]
        exact ⟨rfl, hw3.drop.drop⟩
      · have HN : Hid (nextE x n t = (⟨n, t, sha (chL x.sum (lineB n t)).flatten⟩, 0)) := Lib.hid (by unfold nextE; rw [if_neg (fun h => h.elim h1 h2), if_neg (by omega)])
        have HLINE := Lib.hid (fun w' Hs' (h : Sat σ w' Hs') (hm : H ∈ Hs') => line_any n t (hx (by omega)) (by omega) (by omega) w' h hm HB.out)
        go_enter Tryd.func28, Tryd.ntmps28
        go_upto_if 8 with fail
        generalize World.alloc (World.alloc w _) _ = w2 at *
        rw [← EA_zero] at hw2
        generalize w.heap.size = nx at *
        clear hw
        have HW2 := Lib.hid hw2
        have HCH := Lib.hid (fun w' Hs' (h : Sat σ w' Hs') (hm : H ∈ Hs') => chainS x.sum (lineB n t) w' h hm hl (lineB_size n t (hx (by omega)) (by omega) (by omega)) HK.out)
        have hsl : (sha (chL x.sum (lineB n t)).flatten).length = 32 := sha_length _
        generalize sha (chL x.sum (lineB n t)).flatten = l at *
        generalize lineB n t = b at *
        have hsz2 := EA_size ⟨n, t, l⟩ hsl
        have hfold := fold_ent n t l hsl
        have hos : (outV l).size = 32 := by rw [outV_size, hsl]
        have HSZ2 := Lib.hid hsz2
        have HS : Hid (∀ W Hs', Sat σ W Hs' → Hp.one nx (.cells (EA x) 32 (0, 0)) ∈ Hs' → W.rangeAt nx 2 (outV x.sum).toList) := Lib.hid (fun W Hs' h hm j v hv => h.cellAt hm ((Hp.one_cell _ _ _ _).trans (EA_sum x j v hv)))
        have hu29 := Tryd.underlying29
        have hi29 : (Tryd.prog.info? 29).map (·.size) = some (outV x.sum).toList.length := by rw [Array.length_toList, outV_size, hl]; kernel_rfl
        clear hw2 hsl
        go_upto_region 5 with fail
        go_region_held3 (fun W => W.rangeAt nx 2 (outV x.sum).toList)
          (first | exact HS.out _ _ HW2.out (by simp) | exact HS.out _ _ HW2.out.drew (by simp) | exact HS.out _ _ hw3 (by simp) | exact HS.out _ _ hw4 (by simp) | exact HS.out _ _ (hw4.setRow _) (by simp))
          (first
            | (go_at_call 17; refine (HLINE.out _ _ HW2.out.drew (by simp [hH])).mono ?_; rintro e w3 ⟨rfl, hw3⟩)
            | (go_at_call 21; refine (HCH.out _ _ hw3 (by simp [hH])).mono ?_; rintro e w4 ⟨rfl, hw4⟩; have hst := store_all (P := Tryd.prog) (cells := EA ⟨n, t, l⟩) hw4 ((EA_size _ rfl).trans HSZ2.out.symm) (EA_one _)))
        go_wp2
        have hw5 := hw4.setRow (EA ⟨n, t, l⟩)
        refine bodyPost_ret (results_row_tmp rfl _ _ (nx + 1) _ _ _ _ rfl hw5.heap Tryd.underlying32 rfl (by rw [HSZ2.out]; kernel_rfl)) rfl ?_
        rw [HN.out]
        exact ⟨rfl, hw5.drop.drop⟩
theorem next_any (x : Ent) (n : Int) (t : ByteArray) (hl : x.sum.length = 32) (hx : 0 ≤ x.at_ ∧ x.at_ ≤ maxTick) (ht : t.size ≤ 9223372036854775807) (w : World) (hw : Sat σ w Hs) (hH : H ∈ Hs) {tt : TypeId} {fr : Nat × Nat} (hk : H 1 = some (.cells powV tt fr)) (hk0 : H 0 = some (.cells kV 90 (0, 0))) :
    Calls Tryd.prog 28 #[.agg (EA x), .int .i64 n, .string t] w fun e w' => e = .returned (.tuple #[.agg (EA (nextE x n t).1), .int .i64 (nextE x n t).2]) ∧ Sat σ w' Hs :=
  next_any0 x n t hl (fun h => by have := hx.1; omega) ht w hw hH hk hk0
end
end Go.Proofs.YteggcfcjajpcgaaDoor
