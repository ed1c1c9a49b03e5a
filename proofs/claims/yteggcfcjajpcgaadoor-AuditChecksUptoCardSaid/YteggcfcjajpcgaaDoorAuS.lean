/- Walks: the reference's Find; Open. -/
import Derived.Test.YteggcfcjajpcgaaDoorAuR
set_option linter.unusedVariables false
set_option linter.unusedSimpArgs false
namespace Go.Proofs.YteggcfcjajpcgaaDoor
open Go Go.RowKit
theorem prev_at {xs : List Ent} (h : okLog xs) : ∀ k, k ≤ xs.length → 0 ≤ (prevE xs k).at_ := fun k => by
  induction k with
  | zero => intro _; exact Int.le_refl _
  | succ k ih =>
    intro hk
    have h1 := okS_facts (h k hk)
    have e : prevE xs (k + 1) = xs[k]?.getD ent0 := by unfold prevE; rw [if_neg (by omega), Nat.add_sub_cancel]
    rw [e]
    have := ih (by omega)
    exact Int.le_trans this h1.1
/-- A list that Check lets by is a log. -/
theorem check_log {xs : List Ent} (h : (checkE xs).2 = 0) (hs : ∀ x ∈ xs, anyE x) : xs.length ≤ 4096 ∧ okLog xs ∧ ∀ x ∈ xs, okE x := by
  unfold checkE at h
  by_cases hl : 4096 < xs.length
  · rw [if_pos hl] at h; exact absurd h (by decide)
  rw [if_neg hl] at h
  have hb : badAt xs = none := by
    cases e : badAt xs with
    | none => rfl
    | some k => rw [e] at h; exact absurd h (show ¬ ((210 : Int) = 0) from by decide)
  have hok : okLog xs := fun k hk => by
    have := List.find?_eq_none.1 hb k (List.mem_range.2 hk)
    simpa using this
  refine ⟨by omega, hok, fun x hx => ?_⟩
  obtain ⟨k, hk, rfl⟩ := List.getElem_of_mem hx
  have h1 := hok k hk
  unfold okAt at h1
  rw [List.getElem?_eq_getElem hk] at h1
  have h2 := okS_facts h1
  have := prev_at hok k (by omega)
  exact ⟨(hs _ hx).1, Int.le_trans this h2.1, h2.2.1⟩
section
variable {σ w w' : World} {Hs : List Hp} {H H1 H2 M N Y G : Hp}
set_option maxHeartbeats 4000000
set_option maxRecDepth 10000 in
theorem rfind_any (v : Value) (xs : List Ent) (h : List Int) (hxs : ∀ x ∈ xs, anyE x) (hl : h.length = 32) (w : World) (hw : Sat σ w Hs) (hH1 : H1 ∈ Hs) (hs : kE.IsSl H1 v xs) :
    Calls Tryd.prog 24 #[v, .agg (outV h)] w fun e w' => e = .returned (.tuple #[.int .i64 (findE xs h).1, .int .i64 (findE xs h).2]) ∧ Sat σ w' Hs := by
  obtain ⟨A, c, rfl, hc1, hc2, _⟩ := hs.form
  have HSL := Lib.hid hs; have HXS := Lib.hid hxs
  have HC := Lib.hid (fun w' Hs' (h : Sat σ w' Hs') (h1 : H1 ∈ Hs') => rcheck_any _ xs hxs w' h h1 hs)
  have HFE : Hid (findE xs h = if (checkE xs).2 ≠ 0 then (0, (checkE xs).2) else if h = z32' then (0, 0) else if idxI (isSum h) xs < 0 then (0, 5) else (idxI (isSum h) xs + 1, 0)) := Lib.hid rfl
  have hlx : xs.length ≤ 9223372036854775807 := Nat.le_trans hc1 hc2
  have HIY : Hid (∀ (k : Nat) (x : Ent), xs[k]? = some x → isSum h x = true → (∀ (j : Nat) (y : Ent), j < k → xs[j]? = some y → isSum h y = false) → idxI (isSum h) xs = k) := Lib.hid (fun k x h1 h2 h3 => idxI_yes _ _ k x h1 h2 h3)
  have HIN : Hid ((∀ (j : Nat) (y : Ent), xs[j]? = some y → isSum h y = false) → idxI (isSum h) xs = -1) := Lib.hid (fun h1 => idxI_no _ _ h1)
  obtain ⟨cn, ce, hce⟩ : ∃ cn ce, checkE xs = (cn, ce) := ⟨_, _, rfl⟩
  rw [hce] at HFE HC
  clear hs hxs hce hc1
  generalize findE xs h = fe at *
  generalize idxI (isSum h) xs = ix at *
  have hoh : (outV h).size = 32 := by rw [outV_size, hl]
  have hzz : outV z32' = #[.int .u8 0, .int .u8 0, .int .u8 0, .int .u8 0, .int .u8 0, .int .u8 0, .int .u8 0, .int .u8 0, .int .u8 0, .int .u8 0, .int .u8 0, .int .u8 0, .int .u8 0, .int .u8 0, .int .u8 0, .int .u8 0, .int .u8 0, .int .u8 0, .int .u8 0, .int .u8 0, .int .u8 0, .int .u8 0, .int .u8 0, .int .u8 0, .int .u8 0, .int .u8 0, .int .u8 0, .int .u8 0, .int .u8 0, .int .u8 0, .int .u8 0, .int .u8 0] := rfl
  have hcmp : ∀ W, (Op.equalIn 10000 29 (.agg (outV h)) (.agg #[.int .u8 0, .int .u8 0, .int .u8 0, .int .u8 0, .int .u8 0, .int .u8 0, .int .u8 0, .int .u8 0, .int .u8 0, .int .u8 0, .int .u8 0, .int .u8 0, .int .u8 0, .int .u8 0, .int .u8 0, .int .u8 0, .int .u8 0, .int .u8 0, .int .u8 0, .int .u8 0, .int .u8 0, .int .u8 0, .int .u8 0, .int .u8 0, .int .u8 0, .int .u8 0, .int .u8 0, .int .u8 0, .int .u8 0, .int .u8 0, .int .u8 0, .int .u8 0])).run Tryd.prog W = .ok (decide (h = z32')) W := fun W => by
    have := arr_eqd 9998 h z32' hl rfl W
    rw [hzz] at this
    exact this
  have hw2 := hw.alloc (.cells (outV h) 29)
  clear hzz
  go_enter Tryd.func24, Tryd.ntmps24
  go_wp2_with fail
  refine (HC.out _ _ hw2 (List.mem_cons_of_mem _ hH1)).mono ?_
  rintro e w3 ⟨rfl, hw3⟩
  generalize w.heap.size = nb at *
  clear hw hw2 HC
  have HW3 := Lib.hid hw3
  by_cases he : ce = 0
  · subst he
    have HB : Hid (w3.heap[nb]? = some (.cells (outV h) 29 (0, 0))) := Lib.hid HW3.out.heap
    by_cases hz : h = z32'
    · rw [decide_eq_true hz] at hcmp
      have HR : Hid (fe = (0, 0)) := Lib.hid (by rw [HFE.out, if_neg (fun h => h rfl), if_pos hz])
      clear HFE hz hw3
      go_wp2_with (with_reducible show wpList _ _ _ [_, _, _] _ _; refine wpList_load_row rfl 29 (.tmp 3) rfl nb rfl 29 (outV h) (0, 0) _ HB.out Tryd.underlying29 rfl (by rw [hoh]; kernel_rfl) ?_)
      go_ret2
      exact ⟨by rw [HR.out]; rfl, HW3.out.drop⟩
    · rw [decide_eq_false hz] at hcmp
      have HR : Hid (fe = if ix < 0 then (0, 5) else (ix + 1, 0)) := Lib.hid (by rw [HFE.out, if_neg (fun h => h rfl), if_neg hz])
      clear HFE hz
      have hih : (Tryd.prog.info? 29).map (·.size) = some (outV h).toList.length := by rw [Array.length_toList, hoh]; kernel_rfl
      go_wp2_with (with_reducible show wpList _ _ _ [_, _, _] _ _; refine wpList_load_row rfl 29 (.tmp 3) rfl nb rfl 29 (outV h) (0, 0) _ HB.out Tryd.underlying29 rfl (by rw [hoh]; kernel_rfl) ?_)
      go_loopw [8] (fun i wr => ∃ k : Nat, k ≤ xs.length ∧ i = .int .i64 k ∧ Sat σ wr (Hp.one nb (.cells (outV h) 29 (0, 0)) :: Hs) ∧ Eager (∀ (j : Nat) (y : Ent), j < k → xs[j]? = some y → isSum h y = false)) (fun i _ => xs.length - (intOf i).toNat)
      case atStart => exact ⟨0, Nat.zero_le _, rfl, hw3, ⟨fun j y hj => absurd hj (Nat.not_lt_zero _)⟩⟩
      case round =>
        obtain ⟨k, hk, rfl, hwr, hst⟩ := hrel
        have HST := Lib.hid hst.out
        have HWR := Lib.hid hwr
        clear hst hw3 HW3 HB hwr
        by_cases hlt : k < xs.length
        · obtain ⟨x, hx⟩ : ∃ x, xs[k]? = some x := ⟨_, List.getElem?_eq_getElem hlt⟩
          obtain ⟨b, off, cs, rfl, ⟨hxl, rfl⟩, hcell⟩ := HSL.out.get k x hx
          have hki : (k : Int) < xs.length := by omega
          have hk0 : (0 : Int) ≤ k := by omega
          have hox : (outV x.sum).size = 32 := by rw [outV_size, hxl]
          have hix : (Tryd.prog.info? 29).map (·.size) = some (outV x.sum).toList.length := by rw [Array.length_toList, hox]; kernel_rfl
          have HS9 : Hid (∀ W, Sat σ W (Hp.one nb (.cells (outV h) 29 (0, 0)) :: Hs) → W.rangeAt b (off + k * 34 + 2) (outV x.sum).toList ∧ W.rangeAt nb 0 (outV h).toList) := Lib.hid (fun W hw' => ⟨fun j v hv => by
            rw [Nat.add_assoc]
            exact hw'.cellAt (List.mem_cons_of_mem _ hH1) (hcell (2 + j) v (by rw [Array.getElem?_toList]; exact EA_sum x j v hv)), fun j v hv => hw'.cellAt List.mem_cons_self ((Hp.one_cell _ _ _ _).trans (by rw [Nat.zero_add]; simpa using hv))⟩)
          have HX := Lib.hid hx
          have heq : ∀ W, (Op.equalIn 10000 29 (.agg (outV x.sum)) (.agg (outV h))).run Tryd.prog W = .ok (isSum h x) W := fun W => arr_eqd 9998 x.sum h hxl hl W
          obtain ⟨q, hq⟩ : ∃ q, isSum h x = q := ⟨_, rfl⟩
          rw [hq] at heq
          have HQ := Lib.hid hq
          clear hcell hx hq hxl
          go_upto_region 9 with fail
          refine wp_region_held_drew (S := fun W => W.rangeAt b (off + k * 34 + 2) (outV x.sum).toList ∧ W.rangeAt nb 0 (outV h).toList) (by kernel_rfl) (HS9.out _ HWR.out.drew) (fun hS0 => ?_)
          (try simp only [Act.put, List.getElem_toArray, List.getElem_cons_succ, List.getElem_cons_zero, List.setIfInBounds_toArray, List.set_cons_zero, List.set_cons_succ, Array.toArray_toList])
          refine wpAnyH_take (i := 0) (v := ?_) rfl (by kernel_rfl) (by kernel_rfl) (by kernel_rfl) (fun _ _ _ h => h) (Or.inl ⟨by kernel_rfl, ?_⟩) hS0 ?_
          rotate_left
          · intro w hSw; clear hSw; go_simp; (try with_reducible rfl)
          (try simp only [Act.put, List.getElem_toArray, List.getElem_cons_succ, List.getElem_cons_zero, List.setIfInBounds_toArray, List.set_cons_zero, List.set_cons_succ, Array.toArray_toList])
          refine wpAnyH_take (i := 1) (v := ?_) rfl (by kernel_rfl) (by kernel_rfl) (by kernel_rfl) (fun _ _ _ h => h) (Or.inl ⟨by kernel_rfl, ?_⟩) hS0 ?_
          rotate_left
          · intro w hSw; clear hSw; go_simp; (try with_reducible rfl)
          (try simp only [Act.put, List.getElem_toArray, List.getElem_cons_succ, List.getElem_cons_zero, List.setIfInBounds_toArray, List.set_cons_zero, List.set_cons_succ, Array.toArray_toList])
          refine wpAnyH_take (i := 2) (v := ?_) rfl (by kernel_rfl) (by kernel_rfl) (by kernel_rfl) (fun _ _ _ h => h) (Or.inl ⟨by kernel_rfl, ?_⟩) hS0 ?_
          rotate_left
          · intro w hSw; clear hSw; go_simp; (try with_reducible rfl)
          (try simp only [Act.put, List.getElem_toArray, List.getElem_cons_succ, List.getElem_cons_zero, List.setIfInBounds_toArray, List.set_cons_zero, List.set_cons_succ, Array.toArray_toList])
          refine wpAnyH_take (i := 3) (v := ?_) rfl (by kernel_rfl) (by kernel_rfl) (by kernel_rfl) (fun _ _ _ h => h) (Or.inl ⟨by kernel_rfl, ?_⟩) hS0 ?_
          rotate_left
          · intro w hSw; clear hSw; go_simp; (try with_reducible rfl)
          (try simp only [Act.put, List.getElem_toArray, List.getElem_cons_succ, List.getElem_cons_zero, List.setIfInBounds_toArray, List.set_cons_zero, List.set_cons_succ, Array.toArray_toList])
          refine wpAnyH_take (i := 4) rfl (by kernel_rfl) (by kernel_rfl) (by kernel_rfl) (fun _ _ _ h => h) (yieldsIf_load_mid (by kernel_rfl) _ _ rfl _ _ rfl ((outV x.sum).toList) _ (fun w h => h.1) Tryd.underlying29 rfl hix) hS0 ?_
          (try simp only [Act.put, List.getElem_toArray, List.getElem_cons_succ, List.getElem_cons_zero, List.setIfInBounds_toArray, List.set_cons_zero, List.set_cons_succ, Array.toArray_toList])
          refine wpAnyH_take (i := 5) rfl (by kernel_rfl) (by kernel_rfl) (by kernel_rfl) (fun _ _ _ h => h) (yieldsIf_load_mid (by kernel_rfl) _ _ rfl _ _ rfl ((outV h).toList) _ (fun w h => h.2) Tryd.underlying29 rfl hih) hS0 ?_
          (try simp only [Act.put, List.getElem_toArray, List.getElem_cons_succ, List.getElem_cons_zero, List.setIfInBounds_toArray, List.set_cons_zero, List.set_cons_succ, Array.toArray_toList])
          refine wpAnyH_take (i := 6) (v := ?_) rfl (by kernel_rfl) (by kernel_rfl) (by kernel_rfl) (fun _ _ _ h => h) (Or.inl ⟨by kernel_rfl, ?_⟩) hS0 ?_
          rotate_left
          · intro w hSw; clear hSw; go_simp; (try with_reducible rfl)
          (try simp only [Act.put, List.getElem_toArray, List.getElem_cons_succ, List.getElem_cons_zero, List.setIfInBounds_toArray, List.set_cons_zero, List.set_cons_succ, Array.toArray_toList])
          refine wpAnyH_done (by kernel_rfl) ?_ _
          clear hS0 HS9
          have hwd := HWR.out.drew
          generalize hWD : World.drew _ = wd at *
          clear hWD HWR
          cases q
          · go_wp2
            refine ⟨⟨k + 1, hlt, by go_num, hwd, ⟨fun j y hj hy => ?_⟩⟩, by simp [intOf]; omega⟩
            rcases Nat.lt_or_ge j k with h1 | h1
            · exact HST.out j y h1 hy
            · obtain rfl : j = k := by omega
              rw [HX.out] at hy
              injection hy with hy
              subst hy
              exact HQ.out
          · have HE : Hid (fe = ((k : Int) + 1, 0)) := Lib.hid (by rw [HR.out, HIY.out k x HX.out HQ.out HST.out, if_neg (by omega)])
            have m1 : IntKind.i64.wrap ((k : Int) + 1) = (k : Int) + 1 := IntWalk.i64_in _ (by omega)
            go_wp2
            go_ret2
            exact ⟨by rw [HE.out]; rfl, hwd.drop⟩
        · obtain rfl : k = xs.length := by omega
          have HE : Hid (fe = (0, 5)) := Lib.hid (by rw [HR.out, HIN.out (fun j y hy => HST.out j y (List.getElem?_eq_some_iff.1 hy).1 hy)]; rfl)
          have hwe := HWR.out
          clear HWR
          go_wp2
          go_ret2
          exact ⟨by rw [HE.out]; rfl, hwe.drop⟩
  · have heb : (ce != 0) = true := by simpa using he
    have HR : Hid (fe = (0, ce)) := Lib.hid (by rw [HFE.out, if_pos he])
    clear HFE he hw3
    go_wp2_with fail
    go_ret2
    exact ⟨by rw [HR.out]; rfl, HW3.out.drop⟩
def OpenP (σ : World) (Hs : List Hp) (xs : List Ent) (e : Ending) (w' : World) : Prop :=
  ((checkE xs).2 ≠ 0 ∧ e = .returned (.tuple #[.pointer none, .int .i64 (checkE xs).2]) ∧ Sat σ w' Hs) ∨
  ((checkE xs).2 = 0 ∧ ∃ g G N, e = .returned (.tuple #[.pointer (some ⟨g, 0, none⟩), .int .i64 0]) ∧ Sat σ w' (G :: N :: Hs) ∧ LogR G N g xs)
theorem open_any (v : Value) (xs : List Ent) (hxs : ∀ x ∈ xs, anyE x) (w : World) (hw : Sat σ w Hs) (hN : N ∈ Hs) (ho : Own N 32 34 v xs.length (entC xs)) (hs : kE.IsSl N v xs) (hH : H ∈ Hs) {tt : TypeId} {fr : Nat × Nat} (hk : H 1 = some (.cells powV tt fr)) (hk0 : H 0 = some (.cells kV 90 (0, 0))) :
    Calls Tryd.prog 25 #[v] w (OpenP σ Hs xs) := by
  have HC := Lib.hid (check_any v xs hxs w hw hN hs hH hk hk0)
  have HL := Lib.hid (fun h => check_log (xs := xs) h hxs)
  have HCL := Lib.hid (fun w' (h : Sat σ w' Hs) (h1 : xs.length ≤ 4096) (h2 : ∀ x ∈ xs, okE x) => sclone_any v xs w' h hN ho h2 h1)
  unfold EntP at HCL
  obtain ⟨cn, ce, hce⟩ : ∃ cn ce, checkE xs = (cn, ce) := ⟨_, _, rfl⟩
  rw [hce] at HC HL
  have HCE := Lib.hid hce
  clear hce ho hs hk hk0
  go_enter Tryd.func25, Tryd.ntmps25
  go_wp2_with fail
  refine HC.out.mono ?_
  rintro e w3 ⟨rfl, hw3⟩
  clear hw HC
  by_cases he : ce = 0
  · subst he
    obtain ⟨h1, h2, h3⟩ := HL.out rfl
    have HOK := Lib.hid h3
    clear HL h2 h3
    go_wp2_with (go_at_call 26; refine (HCL.out _ hw3 h1 HOK.out).mono ?_; rintro e w4 ⟨vo, NE, rfl, hw4, h5⟩; obtain ⟨A, c, rfl, _⟩ := h5.slice; have H5 := Lib.hid h5; clear h5)
    go_ret2
    unfold OpenP
    rw [HCE.out]
    exact .inr ⟨rfl, _, _, NE, rfl, hw4.alloc _, ⟨⟨_, rfl, H5.out⟩, HOK.out, h1⟩⟩
  · have heb : (ce != 0) = true := by simpa using he
    have HE := Lib.hid he
    clear he
    go_wp2_with fail
    go_ret2
    unfold OpenP
    rw [HCE.out]
    exact .inl ⟨HE.out, rfl, hw3⟩
end
end Go.Proofs.YteggcfcjajpcgaaDoor
