/- Walk: the reference's parts. -/
import Derived.Test.YtcndkpmeakaapaaDoorHrB
set_option linter.unusedVariables false
set_option linter.unusedSimpArgs false
namespace Go.Proofs.YtcndkpmeakaapaaDoor
open Go Go.RowKit
theorem str_app (a b : List Int) : strOfNums (a ++ b) = strOfNums a ++ strOfNums b := by
  apply ByteArray.ext
  rw [ByteArray.data_append]
  unfold strOfNums
  simp
theorem str_cut (s : ByteArray) (k : Nat) (hk : k < s.size) : s.extract k (k + 1) = strOfNums [chS s k] := by
  have h : byL (s.extract k (k + 1)) = [chS s k] := by
    unfold byL
    rw [ByteArray.data_extract, Array.toList_extract, List.extract_eq_take_drop, show k + 1 - k = 1 from by omega, List.take_one, List.head?_drop]
    have h1 := byL_get s k hk
    unfold byL at h1
    rw [List.getElem?_map] at h1
    cases e : s.data.toList[k]? with
    | none => rw [e] at h1; cases h1
    | some b =>
      rw [e] at h1
      injection h1 with h1
      have h2 : (b.toNat : Int) = chS s k := h1
      show [(b.toNat : Int)] = _
      rw [h2]
  rw [← h, str_byL]
theorem spl_dot : ∀ l : List Int, splL (l ++ [46]) = splL l ++ [[]]
  | [] => rfl
  | c :: r => by
    show splL (c :: (r ++ [46])) = _
    conv => lhs; unfold splL
    conv => rhs; unfold splL
    rw [spl_dot r]
    by_cases hc : c = 46
    · rw [if_pos hc, if_pos hc]; rfl
    · rw [if_neg hc, if_neg hc]
      cases h : splL r with
      | nil => exact absurd h (splL_ne r)
      | cons a t => rfl
theorem spl_chr (c : Int) (hc : c ≠ 46) : ∀ l : List Int, ∃ init last, splL l = init ++ [last] ∧ splL (l ++ [c]) = init ++ [last ++ [c]]
  | [] => ⟨[], [], rfl, by show (if c = 46 then _ else _) = _; rw [if_neg hc]; rfl⟩
  | d :: r => by
    obtain ⟨init, last, h1, h2⟩ := spl_chr c hc r
    by_cases hd : d = 46
    · refine ⟨[] :: init, last, ?_, ?_⟩
      · conv => lhs; unfold splL
        rw [if_pos hd, h1]; rfl
      · show splL (d :: (r ++ [c])) = _
        conv => lhs; unfold splL
        rw [if_pos hd, h2]; rfl
    · cases init with
      | nil =>
        refine ⟨[], d :: last, ?_, ?_⟩
        · conv => lhs; unfold splL
          rw [if_neg hd, h1]; rfl
        · show splL (d :: (r ++ [c])) = _
          conv => lhs; unfold splL
          rw [if_neg hd, h2]; rfl
      | cons a t =>
        refine ⟨(d :: a) :: t, last, ?_, ?_⟩
        · conv => lhs; unfold splL
          rw [if_neg hd, h1]; rfl
        · show splL (d :: (r ++ [c])) = _
          conv => lhs; unfold splL
          rw [if_neg hd, h2]; rfl
theorem startL_all : ∀ l : List Int, startL (splL l) (splL l).length = l.length + 1
  | [] => rfl
  | c :: r => by
    have h := startL_all r
    unfold startL at h ⊢
    rw [List.take_of_length_le (Nat.le_refl _)] at h ⊢
    unfold splL
    by_cases hc : c = 46
    · rw [if_pos hc, List.map_cons, List.sum_cons, h]; simp; omega
    · rw [if_neg hc]
      cases e : splL r with
      | nil => exact absurd e (splL_ne r)
      | cons a t =>
        rw [e, List.map_cons, List.sum_cons] at h
        show (((c :: a) :: t).map fun p => p.length + 1).sum = _
        rw [List.map_cons, List.sum_cons]
        simp only [List.length_cons]
        omega
def startsL (ps : List (List Int)) : List Int := (List.range ps.length).map fun i => (startL ps i : Int)
theorem startsL_length (ps : List (List Int)) : (startsL ps).length = ps.length := by simp [startsL]
theorem startL_app (ps qs : List (List Int)) (i : Nat) (h : i ≤ ps.length) : startL (ps ++ qs) i = startL ps i := by
  unfold startL
  rw [List.take_append_of_le_length h]
theorem startsL_dot (l : List Int) : startsL (splL l ++ [[]]) = startsL (splL l) ++ [((l.length + 1 : Nat) : Int)] := by
  unfold startsL
  rw [List.length_append, List.length_singleton, List.range_succ, List.map_append]
  congr 1
  · apply List.map_congr_left
    intro i hi
    rw [startL_app _ _ _ (by have := List.mem_range.1 hi; omega)]
  · show [((startL (splL l ++ [[]]) (splL l).length : Nat) : Int)] = _
    rw [startL_app _ _ _ (Nat.le_refl _), startL_all]
theorem startsL_last (init : List (List Int)) (x y : List Int) : startsL (init ++ [x]) = startsL (init ++ [y]) := by
  unfold startsL
  rw [List.length_append, List.length_append]
  apply List.map_congr_left
  intro i hi
  have hi' := List.mem_range.1 hi
  simp only [List.length_singleton] at hi'
  rw [startL_app _ _ _ (by omega), startL_app _ _ _ (by omega)]
theorem spl_len (l : List Int) : (splL l).length ≤ l.length + 1 := by
  have h := startL_all l
  unfold startL at h
  rw [List.take_of_length_le (Nat.le_refl _)] at h
  have h2 : ∀ ps : List (List Int), ps.length ≤ (ps.map fun p => p.length + 1).sum := fun ps => by
    induction ps with
    | nil => exact Nat.le_refl _
    | cons a t ih => rw [List.map_cons, List.sum_cons, List.length_cons]; omega
  have := h2 (splL l)
  omega
def txtC (ps : List (List Int)) : List Value := ps.map fun p => Value.string (strOfNums p)
def numC (l : List Int) : List Value := l.map (Value.int .i64)
section
variable {σ w w' : World} {Hs : List Hp} {H H1 H2 M N Y R E X HB : Hp}
set_option maxHeartbeats 4000000
def PartsP (σ : World) (Hs : List Hp) (l : List Int) (e : Ending) (w' : World) : Prop := ∃ v1 v2 M1 M2, e = .returned (.tuple #[v1, v2]) ∧ Sat σ w' (M1 :: M2 :: Hs) ∧ Own M1 9 1 v1 (splL l).length (txtC (splL l)) ∧ Own M2 3 1 v2 (splL l).length (numC (startsL (splL l)))
theorem PartsP.mk {l : List Int} {e : Ending} (v1 v2 : Value) (M1 M2 : Hp) (h1 : e = .returned (.tuple #[v1, v2])) (h2 : Sat σ w' (M1 :: M2 :: Hs)) (h3 : Own M1 9 1 v1 (splL l).length (txtC (splL l))) (h4 : Own M2 3 1 v2 (splL l).length (numC (startsL (splL l)))) : PartsP σ Hs l e w' := ⟨v1, v2, M1, M2, h1, h2, h3, h4⟩
set_option maxRecDepth 10000 in
theorem parts_any (s : ByteArray) (hs : s.size ≤ 1000000) (w : World) (hw : Sat σ w Hs) : Calls Tryd.prog 68 #[.string s] w (PartsP σ Hs (byL s)) := by
  have hw2 := (hw.alloc (.cells #[.string ⟨#[]⟩] 9)).alloc (.cells #[.int .i64 0] 3)
  rw [World.size_alloc] at hw2
  have ho1 : Own (Hp.one w.heap.size (.cells #[.string ⟨#[]⟩] 9 (0, 0))) 9 1 (.slice (some ⟨w.heap.size, 0, none⟩) 1 1) 1 [.string ⟨#[]⟩] := own_lit w.heap.size _ _ 1 1 rfl (by decide)
  have ho2 : Own (Hp.one (w.heap.size + 1) (.cells #[.int .i64 0] 3 (0, 0))) 3 1 (.slice (some ⟨w.heap.size + 1, 0, none⟩) 1 1) 1 [.int .i64 0] := own_lit (w.heap.size + 1) _ _ 1 1 rfl (by decide)
  have HO1 := Lib.hid ho1
  have HO2 := Lib.hid ho2
  have HW2 := Lib.hid hw2.swap
  have hbl := byL_length s
  clear ho1 ho2 hw2 hw
  go_enter Tryd.func68, Tryd.ntmps68
  go_wp2
  generalize hq : byL s = L at *
  go_loopw [6, 4, 5] (fun i o a wr => ∃ (k : Nat) (A1 A2 : Option Addr) (c1 c2 n : Nat) (M1 M2 : Hp), k ≤ s.size ∧ i = .int .i64 k ∧ n = (splL (L.take k)).length ∧ o = .slice A1 n c1 ∧ a = .slice A2 n c2 ∧ Sat σ wr (M1 :: M2 :: Hs) ∧ Own M1 9 1 (.slice A1 n c1) n (txtC (splL (L.take k))) ∧ Own M2 3 1 (.slice A2 n c2) n (numC (startsL (splL (L.take k))))) (fun i _ _ _ => s.size - (intOf i).toNat)
  case atStart => exact ⟨0, _, _, 1, 1, 1, _, _, by omega, rfl, rfl, rfl, rfl, HW2.out, HO1.out, HO2.out⟩
  case round =>
    obtain ⟨k, A1, A2, c1, c2, n, M1, M2, hk, rfl, hn, rfl, rfl, hwr, ho1, ho2⟩ := hrel
    by_cases hlt : k < s.size
    · have hki : (k : Int) < s.size := by omega
      have hk0 : (0 : Int) ≤ k := by omega
      have hch := index_str (P := Tryd.prog) 9 Tryd.underlying9 s k hlt k rfl
      have hcut := str_cut s k hlt
      have hget : L[k]? = some (chS s k) := by rw [← hq]; exact byL_get s k hlt
      obtain ⟨ch, hce⟩ : ∃ ch, chS s k = ch := ⟨_, rfl⟩
      rw [hce] at hch hget hcut
      have htk : L.take (k + 1) = L.take k ++ [ch] := by
        rw [List.take_succ_eq_append_getElem (by omega)]
        congr 2
        have h2 := List.getElem?_eq_getElem (l := L) (i := k) (by omega)
        rw [hget] at h2
        injection h2 with h2
        exact h2.symm
      have hnl : n ≤ k + 1 := by
        have := spl_len (L.take k)
        rw [List.length_take] at this
        omega
      have hkl : (L.take k).length = k := by rw [List.length_take]; omega
      have m1 : IntKind.i64.wrap ((k : Int) + 1) = (k : Int) + 1 := IntWalk.i64_in _ (by omega)
      clear hce hget
      by_cases hd : ch = 46
      · have hdb : (ch == 46) = true := beq_iff_eq.2 hd
        have HSP : Hid (splL (L.take (k + 1)) = splL (L.take k) ++ [[]]) := Lib.hid (by rw [htk, hd, spl_dot])
        have HST : Hid (startsL (splL (L.take (k + 1))) = startsL (splL (L.take k)) ++ [((k + 1 : Nat) : Int)]) := Lib.hid (by rw [HSP.out, startsL_dot, hkl])
        have HN := Lib.hid hn
        have HW1 := Lib.hid (hwr.alloc' (.cells #[.string ⟨#[]⟩] 9))
        have HO1 := Lib.hid ho1
        have HO2 := Lib.hid ho2
        clear htk hkl hcut hd hn hwr ho1 ho2 hbl hq
        go_wp2_with (first
          | (at_builtin; refine wpList_app HW1.out rfl (.tmp 19) (.tmp 20) 111 111 9 (.string ⟨#[]⟩) 1 16 rfl Tryd.underlying111 (by kernel_rfl) rfl (by decide) _ _ n 1 _ [.string ⟨#[]⟩] rfl rfl HO1.out (src_new Tryd.underlying111 _ [.string ⟨#[]⟩] _ 1 1 1 (by simp) rfl rfl) (by omega) ?_; intro A3 c3 w3 N3 hw3 ho3 _ _; have HO3 := Lib.hid ho3; have HW3 := Lib.hid (hw3.swap.alloc' (.cells #[.int .i64 ((k : Int) + 1)] 3)); clear hw3 ho3)
          | (at_builtin; go_must (refine wpList_app HW3.out rfl (.tmp 22) (.tmp 25) 48 48 3 (.int .i64 0) 1 8 rfl Tryd.underlying48 (by kernel_rfl) rfl (by decide) _ _ n 1 _ [.int .i64 ((k : Int) + 1)] rfl rfl HO2.out (src_new Tryd.underlying48 _ [.int .i64 ((k : Int) + 1)] _ 1 1 1 (by simp) rfl rfl) (by omega) ?_); intro A4 c4 w4 N4 hw4 ho4 _ _))
        go_roundw
        case measure => simp [intOf]; omega
        case rel =>
          refine ⟨k + 1, A3, A4, c3, c4, n + 1, N3, N4, by omega, by go_num, ?_, rfl, rfl, hw4.swap, ?_, ?_⟩
          · rw [HSP.out, List.length_append, ← HN.out]; rfl
          · rw [HSP.out]
            have h := HO3.out
            unfold txtC at h ⊢
            rw [List.map_append]
            exact h
          · rw [HST.out]
            unfold numC at ho4 ⊢
            rw [List.map_append]
            exact ho4
      · have hdb : (ch == 46) = false := beq_eq_false_iff_ne.2 hd
        obtain ⟨init, last, e1, e2⟩ := spl_chr ch hd (L.take k)
        rw [← htk] at e2
        have hn1 : n = init.length + 1 := by rw [hn, e1, List.length_append]; rfl
        obtain ⟨g, cap, cur, hv, hN, hcap, hcap2, hcur, htkc⟩ := ho1.blk (by omega)
        injection hv with hv1 _ hv3
        subst hv1; subst hv3
        have hget : (txtC (splL (L.take k)))[init.length]? = some (.string (strOfNums last)) := by
          rw [e1]; unfold txtC
          rw [List.map_append, List.getElem?_append_right (by simp)]; simp
        have hcell : wr.cell? ⟨g, init.length, none⟩ = some (.string (strOfNums last)) := hwr.cellAt List.mem_cons_self (Hp.cell_of hN (cur_get htkc hget))
        have hfz := heap_free (hwr.le g _ hN) init.length
        have hlen1 : IntKind.i64.wrap ((n : Int) - 1) = (init.length : Int) := by rw [show (n : Int) - 1 = (init.length : Int) from by omega]; exact IntWalk.i64_in _ (by omega)
        have hcat : strOfNums last ++ s.extract k (k + 1) = strOfNums (last ++ [ch]) := by rw [hcut, str_app]
        have hlast : last.length ≤ k := by
          have h := startL_all (L.take k)
          rw [e1] at h
          unfold startL at h
          rw [List.take_of_length_le (Nat.le_refl _), List.map_append, List.sum_append, hkl] at h
          simp at h
          omega
        have hs32 : (strOfNums last).size ≤ 1000000 := by rw [strOfNums_size]; omega
        have hs37 : (s.extract k (k + 1)).size = 1 := by rw [hcut, strOfNums_size]; rfl
        have hup := hwr.upd hN (o := init.length) (.string (strOfNums (last ++ [ch])))
        have hou := ho1.upd_set hN init.length (.string (strOfNums (last ++ [ch])))
        have hst : (txtC (splL (L.take k))).set init.length (.string (strOfNums (last ++ [ch]))) = txtC (splL (L.take (k + 1))) := by
          rw [e1, e2]; unfold txtC
          rw [List.map_append, List.map_append, List.set_append_right _ _ (by simp)]; simp
        rw [hst] at hou
        have HSS : Hid (startsL (splL (L.take (k + 1))) = startsL (splL (L.take k))) := Lib.hid (by rw [e1, e2]; exact startsL_last _ _ _)
        have HNN : Hid (n = (splL (L.take (k + 1))).length) := Lib.hid (by rw [e2, hn1, List.length_append]; rfl)
        have HUP := Lib.hid hup.drew
        have HOU := Lib.hid hou
        have HO2 := Lib.hid ho2
        have hil : (init.length : Int) < n := by omega
        have hil0 : (0 : Int) ≤ init.length := by omega
        clear hlast htk hkl hcut hd hn ho1 ho2 hbl hq e1 e2 hup hou hst htkc hget hN hn1 hcur
        go_wp2
        go_region
        (try simp only [Exit.inBlock, Exit.then])
        go_wp2
        go_roundw
        case measure => simp [intOf]; omega
        case rel => exact ⟨k + 1, _, _, _, _, n, _, M2, by omega, by go_num, HNN.out, rfl, rfl, HUP.out, HOU.out, by rw [HSS.out]; exact HO2.out⟩
    · obtain rfl : k = s.size := by omega
      rw [List.take_of_length_le (by omega)] at hn ho1 ho2
      go_wp2
      go_ret2
      subst hn
      exact PartsP.mk _ _ M1 M2 rfl hwr ho1 ho2
end
end Go.Proofs.YtcndkpmeakaapaaDoor
