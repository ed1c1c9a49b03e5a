/- Walks: New, Entries, Head. -/
import Derived.Test.YteggcfcjajpcgaaDoorAuC
set_option linter.unusedVariables false
set_option linter.unusedSimpArgs false
namespace Go.Proofs.YteggcfcjajpcgaaDoor
open Go Go.RowKit
section
variable {σ w w' : World} {Hs : List Hp} {H H1 H2 M N Y G : Hp}
set_option maxHeartbeats 4000000
theorem anew_any (w : World) (hw : Sat σ w Hs) : Calls Tryd.prog 13 #[] w fun e w' => ∃ g G N, e = .returned (.pointer (some ⟨g, 0, none⟩)) ∧ Sat σ w' (G :: N :: Hs) ∧ LogR G N g [] := by
  go_enter Tryd.func13, Tryd.ntmps13
  go_wp2
  go_ret
  exact ⟨_, _, Hp.emp, rfl, (hw.emp).alloc _, ⟨⟨_, rfl, Own.nil _ _ _⟩, fun x hx => by simp at hx, by decide⟩⟩
theorem reps_entC {H : Hp} : ∀ {xs : List Ent} {cs : List Value}, kE.reps H xs cs → cs = entC xs
  | [], _, h => h
  | x :: xs, _, ⟨c, r, e, hc, hr⟩ => by rw [e, hc.2, reps_entC hr]; rfl
theorem nil_eq (W : World) : (Go.binOp .eql 26 (.slice none 0 0) (.slice none 0 0)).run Tryd.prog W = .ok (.bool true) W := by kernel_rfl
theorem nil_ne (W : World) (a : Addr) (n c : Nat) : (Go.binOp .eql 26 (.slice (some a) n c) (.slice none 0 0)).run Tryd.prog W = .ok (.bool false) W := by kernel_rfl
def EntP (σ : World) (Hs : List Hp) (xs : List Ent) (e : Ending) (w' : World) : Prop := ∃ vo NE, e = .returned vo ∧ Sat σ w' (NE :: Hs) ∧ Own NE 32 34 vo xs.length (entC xs)
set_option maxRecDepth 10000 in
theorem sclone_any (v : Value) (xs : List Ent) (w : World) (hw : Sat σ w Hs) (hN : N ∈ Hs) (ho : Own N 32 34 v xs.length (entC xs)) (hok : ∀ x ∈ xs, okE x) (hl : xs.length ≤ 4096) :
    Calls Tryd.prog 26 #[v] w (EntP σ Hs xs) := by
  unfold EntP
  have hsl := ho.isSl (d := kE) (reps_ent xs hok) rfl (Hp.le_refl _)
  have HO := Lib.hid ho
  rcases ho.out.2 with ⟨rfl, h0⟩ | ⟨gb, cap, cur, rfl, _⟩
  · have hx : xs = [] := List.eq_nil_of_length_eq_zero h0
    subst hx
    clear hsl ho
    have ne1 := nil_eq; have ne2 := nil_ne
    go_enter Tryd.func26, Tryd.ntmps26
    go_wp2
    go_ret
    exact ⟨.slice none 0 0, Hp.emp, rfl, hw.emp, Own.nil _ _ _⟩
  · obtain ⟨cells, hcs, hsrc⟩ := hsl.src (P := Tryd.prog) (t := 26) Tryd.underlying26
    obtain rfl := reps_entC hcs
    have HSRC := Lib.hid hsrc
    have hw2 := hw.alloc (.cells #[] 32)
    have hlx : xs.length ≤ 1000000 := by omega
    clear hcs hsrc hsl ho
    have ne1 := nil_eq; have ne2 := nil_ne
    go_enter Tryd.func26, Tryd.ntmps26
    go_wp2_with (at_builtin; go_must (refine wpList_app hw2 rfl (.tmp 5) (.tmp 6) 26 26 32 (.agg #[.int .i64 0, .string ⟨#[]⟩, .int .u8 0, .int .u8 0, .int .u8 0, .int .u8 0, .int .u8 0, .int .u8 0, .int .u8 0, .int .u8 0, .int .u8 0, .int .u8 0, .int .u8 0, .int .u8 0, .int .u8 0, .int .u8 0, .int .u8 0, .int .u8 0, .int .u8 0, .int .u8 0, .int .u8 0, .int .u8 0, .int .u8 0, .int .u8 0, .int .u8 0, .int .u8 0, .int .u8 0, .int .u8 0, .int .u8 0, .int .u8 0, .int .u8 0, .int .u8 0, .int .u8 0, .int .u8 0]) 34 56 rfl Tryd.underlying26 (by kernel_rfl) rfl (by decide) _ _ 0 xs.length [] (entC xs) rfl rfl (own_lit0 _ _ _) (HSRC.out _ (hw2.has _ (List.mem_cons_of_mem _ hN))) (by omega) ?_); intro A7 c7 w7 N7 hw7 ho7 _ _)
    go_ret
    exact ⟨.slice A7 xs.length c7, N7, rfl, hw7, by simpa using ho7⟩
theorem entries_any {g : Nat} {xs : List Ent} (w : World) (hw : Sat σ w Hs) (hG : G ∈ Hs) (hN : N ∈ Hs) (h : LogR G N g xs) :
    Calls Tryd.prog 10 #[.pointer (some ⟨g, 0, none⟩)] w (EntP σ Hs xs) := by
  obtain ⟨⟨v, rfl, ho⟩, hok, hl⟩ := h.out
  have HC := Lib.hid (fun w' (h : Sat σ w' Hs) => sclone_any v xs w' h hN ho hok hl)
  have c0 : w.cell? ⟨g, 0, none⟩ = some v := hw.cellAt hG ((Hp.one_cell _ _ _ _).trans rfl)
  unfold EntP at *
  clear ho hok h
  go_enter Tryd.func10, Tryd.ntmps10
  go_wp2_with (go_at_call 26; refine (HC.out _ hw).mono ?_; rintro e w1 ⟨vo, NE, rfl, h1, h2⟩; have H2 := Lib.hid h2; clear h2)
  go_ret
  exact ⟨vo, NE, rfl, h1, H2.out⟩
theorem EA_ext (x : Ent) (hl : x.sum.length = 32) : (EA x).extract 2 34 = outV x.sum := by
  apply Array.ext'
  rw [Array.toList_extract, EA_list]
  simp [outV, hl, List.extract]
  exact List.take_of_length_le (by rw [List.length_map, hl]; exact Nat.le_refl _)
theorem field_sum (x : Ent) (hl : x.sum.length = 32) (W : World) : (Instr.field 32 (.agg (EA x)) 2).run Tryd.prog W = .ok (.agg (outV x.sum)) W := by
  have h1 := Tryd.isAgg29 W
  have h2 := Tryd.sizeOf29 W
  simp [Instr.field, run_underlying Tryd.underlying32, asAgg, part, h1, h2, EA_ext x hl]
set_option maxRecDepth 10000 in
theorem head_any {g : Nat} {xs : List Ent} (w : World) (hw : Sat σ w Hs) (hG : G ∈ Hs) (hN : N ∈ Hs) (h : LogR G N g xs) :
    Calls Tryd.prog 12 #[.pointer (some ⟨g, 0, none⟩)] w fun e w' => e = .returned (.agg (outV (xs.getLastD ent0).sum)) ∧ Sat σ w' Hs := by
  obtain ⟨⟨v, rfl, ho⟩, hok, hl⟩ := h.out
  have hsl := ho.isSl (d := kE) (reps_ent xs hok) rfl (Hp.le_refl _)
  have HLAST := Lib.hid (fun w' Hs' (h : Sat σ w' Hs') (hm : N ∈ Hs') => last_any v xs w' h hm hsl)
  have hlk := ok_last hok
  obtain ⟨la, hla⟩ : ∃ la, xs.getLastD ent0 = la := ⟨_, rfl⟩
  rw [hla] at HLAST hlk ⊢
  have hls := hlk.1
  clear ho hok h hsl hla
  go_enter Tryd.func12, Tryd.ntmps12
  have hw2 := hw.alloc (.cells #[.int .u8 0, .int .u8 0, .int .u8 0, .int .u8 0, .int .u8 0, .int .u8 0, .int .u8 0, .int .u8 0, .int .u8 0, .int .u8 0, .int .u8 0, .int .u8 0, .int .u8 0, .int .u8 0, .int .u8 0, .int .u8 0, .int .u8 0, .int .u8 0, .int .u8 0, .int .u8 0, .int .u8 0, .int .u8 0, .int .u8 0, .int .u8 0, .int .u8 0, .int .u8 0, .int .u8 0, .int .u8 0, .int .u8 0, .int .u8 0, .int .u8 0, .int .u8 0] 29)
  go_upto_if 4 with fail
  generalize World.alloc w _ = w2 at *
  generalize w.heap.size = nr at *
  have c0 : w2.cell? ⟨g, 0, none⟩ = some v := hw2.cellAt (List.mem_cons_of_mem _ hG) ((Hp.one_cell _ _ _ _).trans rfl)
  clear hw
  go_wp2_with fail
  refine (HLAST.out _ _ hw2 (List.mem_cons_of_mem _ hN)).mono ?_
  rintro e w3 ⟨rfl, hw3⟩
  have hf := field_sum la hls
  clear hw2 c0
  have HW3 := Lib.hid hw3
  have hos : (outV la.sum).size = 32 := by rw [outV_size, hls]
  clear hw3
  go_wp2_with (with_reducible show wpList _ _ _ [_] _ _; go_must (refine wpList_store_row rfl 29 (.tmp 2) (.tmp 11) rfl nr (outV la.sum) rfl rfl 29 _ HW3.out.heap (by rw [hos]; kernel_rfl) (by rw [hos]; kernel_rfl) (outV_one _) ?_))
  have hw4 := HW3.out.setRow (outV la.sum)
  refine bodyPost_ret (results_cell_row rfl _ _ nr _ _ _ _ rfl hw4.heap Tryd.underlying29 rfl (by rw [hos]; kernel_rfl)) rfl ?_
  exact ⟨rfl, hw4.drop⟩
end
end Go.Proofs.YteggcfcjajpcgaaDoor
