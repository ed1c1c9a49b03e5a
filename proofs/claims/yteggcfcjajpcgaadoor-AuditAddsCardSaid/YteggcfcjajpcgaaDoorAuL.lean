/- Walk: AuditAdds. -/
import Derived.Test.YteggcfcjajpcgaaDoorAuK
import Derived.Deep.DeepCutAuto
set_option linter.unusedVariables false
set_option linter.unusedSimpArgs false
namespace Go.Proofs.YteggcfcjajpcgaaDoor
open Go Go.RowKit
theorem addE_ok {xs : List Ent} (h : ∀ x ∈ xs, okE x) (n : Int) (t : ByteArray) : okE (addE xs n t).1 := by
  unfold addE
  dsimp only
  split
  · exact next_ok (ok_last h) n t
  · split
    · exact ok0
    · exact next_ok (ok_last h) n t
theorem itoB7 : itoB 7 = ⟨#[55]⟩ := by
  unfold itoB
  rw [show (7 : Int) = ((7 : Nat) : Int) from rfl, Lib.itoa_nonneg, Lib.decDigits]
  rfl
theorem line7 : lineB 7 ⟨#[113]⟩ = ⟨#[55, 32, 113]⟩ := by unfold lineB; rw [itoB7]; rfl
section
variable {σ w w' : World} {Hs : List Hp} {H H1 H2 M N Y G : Hp}
set_option maxHeartbeats 4000000
set_option maxRecDepth 10000 in
theorem adds_any (v : Value) (ns : List Nt) (w : World) (hw : Sat σ w Hs) (hH1 : H1 ∈ Hs) (hs : kN.IsSl H1 v ns) (hts : ∀ x ∈ ns, x.text.size ≤ 9223372036854775807) (hH : H ∈ Hs) {tt : TypeId} {fr : Nat × Nat} (hk : H 1 = some (.cells powV tt fr)) (hk0 : H 0 = some (.cells kV 90 (0, 0))) :
    Calls Tryd.prog 4 #[v] w fun e w' => e = .returned (.bool true) ∧ Sat σ w' Hs := by
  obtain ⟨A, c, rfl, hc1, hc2, _⟩ := hs.form
  have HNS := Lib.hid hs; have HTS := Lib.hid hts
  have HADD := Lib.hid (fun (g : Nat) (xs : List Ent) (n : Int) (t : ByteArray) G N w' Hs' (h : Sat σ w' (G :: N :: Hs')) (hl : LogR G N g xs) (hm : H ∈ Hs') (ht : t.size ≤ 9223372036854775807) => aadd_any n t ht w' h hl hm hk hk0)
  have HWK := Lib.hid (fun w' Hs' (h : Sat σ w' Hs') (hm : H ∈ Hs') => aworks_any w' h hm hk hk0)
  have HLINE := Lib.hid (fun w' Hs' (h : Sat σ w' Hs') (hm : H ∈ Hs') => line_any 7 ⟨#[113]⟩ (by decide) (by decide) (by decide) w' h hm hk)
  have hNL : ns.length ≤ 9223372036854775807 := Nat.le_trans hc1 hc2
  clear hs hts hk hk0 hc1
  go_enter Tryd.func4, Tryd.ntmps4
  go_wp2_with fail
  refine (anew_any w hw).mono ?_
  rintro e w1 ⟨g0, G0, N0, rfl, hw1, hl0⟩
  have hw2 := hw1.alloc (.cells #[] 32)
  have ho0 := own_lit0 w1.heap.size 32 34
  clear hw hw1
  go_wp2_with fail
  generalize World.alloc w1 _ = w2 at *
  generalize w1.heap.size = wb at *
  have HL0 := Lib.hid hl0; have HO0 := Lib.hid ho0
  clear hl0 ho0
  go_loopw [3, 4, 5, 6, 7, 8, 9, 10, 11, 12, 13] (fun lv wv i _ _ _ _ _ _ _ _ wr => ∃ (k g : Nat) (xs : List Ent) (G N Y : Hp) (A2 : Option Addr) (c2 : Nat), k ≤ ns.length ∧ lv = .pointer (some ⟨g, 0, none⟩) ∧ wv = .slice A2 xs.length c2 ∧ i = .int .i64 k ∧ Sat σ wr (G :: N :: Y :: Hs) ∧ Eager (LogR G N g xs ∧ Own Y 32 34 (.slice A2 xs.length c2) xs.length (entC xs))) (fun _ _ i _ _ _ _ _ _ _ _ _ => ns.length - (intOf i).toNat)
  case atStart => exact ⟨0, g0, [], G0, N0, _, _, _, by omega, rfl, rfl, rfl, hw2.down2, ⟨HL0.out, HO0.out⟩⟩
  case round =>
    obtain ⟨k, g, xs, G, N, Y, A2, c2, hk, rfl, rfl, rfl, hwr, hst⟩ := hrel
    obtain ⟨hlr, hoy⟩ := hst.out
    have HLR := Lib.hid hlr; have HOY := Lib.hid hoy
    have hx4 : xs.length ≤ 4096 := hlr.out.2.2
    have HOK := Lib.hid hlr.out.2.1
    clear hst hw2 HL0 HO0 hlr hoy
    by_cases hlt : k < ns.length
    · obtain ⟨x, hx⟩ : ∃ x, ns[k]? = some x := ⟨_, List.getElem?_eq_getElem hlt⟩
      obtain ⟨b, off, cs, rfl, hcs, hcell⟩ := HNS.out.get k x hx
      obtain rfl : cs = _ := hcs
      have hki : (k : Int) < ns.length := by omega
      have HKL : Hid (k + 1 ≤ ns.length) := Lib.hid hlt
      have hk0 : (0 : Int) ≤ k := by omega
      have HTX := Lib.hid (HTS.out x (List.mem_of_getElem? hx))
      have HS : Hid (∀ W Hs', Sat σ W Hs' → H1 ∈ Hs' → (W.cell? ⟨b, off + k * 2, none⟩ = some (.int .i64 x.at_) ∧ W.cell? ⟨b, off + k * 2 + 1, none⟩ = some (.string x.text))) := Lib.hid (fun W Hs' h hm => ⟨h.cellAt hm (hcell 0 _ rfl), h.cellAt hm (hcell 1 _ rfl)⟩)
      obtain ⟨m, hm⟩ : ∃ m, k % 5 = m := ⟨_, rfl⟩
      have hmod : (k : Int).tmod 5 = (m : Int) := by rw [Int.tmod_eq_emod_of_nonneg (by omega)]; omega
      have hm5 : m < 5 := by omega
      clear hcell hx hm
      go_upto_if 32 with fail
      go_cut [3] (fun lv wc => ∃ (g : Nat) (G N : Hp), lv = .pointer (some ⟨g, 0, none⟩) ∧ Sat σ wc (G :: N :: Y :: Hs) ∧ Eager (LogR G N g xs))
      case first =>
        -- done<
        by_cases h4 : m = 4
        · subst h4
          go_wp2_with fail
          refine (clone_any wr hwr List.mem_cons_self (List.mem_cons_of_mem _ List.mem_cons_self) HLR.out).mono ?_
          rintro e w3 ⟨g2, G2, N2, rfl, hw3, hl2⟩
          have HL2 := Lib.hid hl2
          have hw4 := Sat.bring (l₁ := [N, G2, N2]) (Sat.bring (l₁ := [G2, N2, G]) hw3)
          clear hl2 hwr hw3
          go_wp2_with fail
          refine (HADD.out g xs 1099511627776 ⟨#[115, 112, 111, 105, 108, 116]⟩ G N w3 _ hw4 HLR.out (List.mem_cons_of_mem _ (List.mem_cons_of_mem _ (List.mem_cons_of_mem _ hH))) (by decide)).mono ?_
          rintro e w5 ⟨G5, N5, rfl, hw5, _⟩
          clear hw4
          go_wp2_with fail
          go_meet
          exact ⟨g2, G2, N2, rfl, hw5.drop.drop, ⟨HL2.out⟩⟩
        · have h4b : ((m : Int) == 4) = false := beq_eq_false_iff_ne.2 (by omega)
          go_wp2_with fail
          go_meet
          exact ⟨g, G, N, rfl, hwr, ⟨HLR.out⟩⟩
        -- done>
      case rest =>
        clear hwr HLR
        obtain ⟨g, G, N, rfl, hwr, hlr⟩ := hcut
        have HLR := Lib.hid hlr.out
        clear hlr
        go_upto_region 14 with fail
        obtain ⟨y, ey, hye⟩ : ∃ y ey, addE xs x.at_ x.text = (y, ey) := ⟨_, _, rfl⟩
        have hyo : okE y := by have := addE_ok HOK.out x.at_ x.text; rw [hye] at this; exact this
        have HLA : Hid (logAdd xs x.at_ x.text = if ey = 0 then xs ++ [y] else xs) := Lib.hid (by unfold logAdd; rw [hye])
        have HAD : Hid (∀ G N w' Hs', Sat σ w' (G :: N :: Hs') → LogR G N g xs → H ∈ Hs' → Calls Tryd.prog 15 #[.pointer (some ⟨g, 0, none⟩), .int .i64 x.at_, .string x.text] w' fun e w2 => ∃ G' N', e = .returned (.tuple #[.agg (EA y), .int .i64 ey]) ∧ Sat σ w2 (G' :: N' :: Hs') ∧ LogR G' N' g (logAdd xs x.at_ x.text)) := Lib.hid (fun G N w' Hs' h hl hm => by
          have h1 := HADD.out g xs x.at_ x.text G N w' Hs' h hl hm HTX.out
          unfold AddP at h1
          rw [hye] at h1
          exact h1)
        have HRA : Hid (∀ w' Hs', Sat σ w' Hs' → Y ∈ Hs' → Calls Tryd.prog 16 #[.slice A2 xs.length c2, .int .i64 x.at_, .string x.text] w' fun e w2 => e = .returned (.tuple #[.agg (EA y), .int .i64 ey]) ∧ Sat σ w2 Hs') := Lib.hid (fun w' Hs' h hm => by
          have h1 := radd_any _ xs x.at_ x.text HTX.out HOK.out w' h hm (HOY.out.isSl (d := kE) (reps_ent xs HOK.out) rfl (Hp.le_refl _))
          rw [hye] at h1
          exact h1)
        have hys := EA_size y hyo.1
        have hys0 := EA_size ent0 rfl
        have HYO := Lib.hid hyo
        clear hye hyo
        generalize logAdd xs x.at_ x.text = xs2 at *
        have HWR := Lib.hid hwr
        go_cut [7, 8] (fun p ev wc => ∃ (nx : Nat) (G N : Hp), p = .pointer (some ⟨nx, 0, none⟩) ∧ ev = .int .i64 ey ∧ Sat σ wc (G :: N :: Hp.one nx (.cells (EA y) 32 (0, 0)) :: Y :: Hs) ∧ Eager (LogR G N g xs2))
        case first =>
          -- done<
          clear hwr
          refine wp_region_held_drew (S := fun W => W.cell? ⟨b, off + k * 2, none⟩ = some (.int .i64 x.at_) ∧ W.cell? ⟨b, off + k * 2 + 1, none⟩ = some (.string x.text)) (by kernel_rfl) (HS.out _ _ HWR.out.drew (List.mem_cons_of_mem _ (List.mem_cons_of_mem _ (List.mem_cons_of_mem _ hH1)))) (fun hS0 => ?_)
          refine wpAnyH_take (i := 0) (v := ?_) rfl (by kernel_rfl) (by kernel_rfl) (by kernel_rfl) (fun _ _ _ h => h) (Or.inl ⟨by kernel_rfl, ?_⟩) hS0 ?_
          rotate_left
          · intro w hSw; clear hSw; go_simp; (try with_reducible rfl)
          (try simp only [Act.put, List.getElem_toArray, List.getElem_cons_succ, List.getElem_cons_zero, List.setIfInBounds_toArray, List.set_cons_zero, List.set_cons_succ, Array.toArray_toList])
          refine wpAnyH_take (i := 1) (v := ?_) rfl (by kernel_rfl) (by kernel_rfl) (by kernel_rfl) (fun _ _ _ h => h) (Or.inl ⟨by kernel_rfl, ?_⟩) hS0 ?_
          rotate_left
          · intro w hSw; clear hSw; go_simp; (try with_reducible rfl)
          (try simp only [Act.put, List.getElem_toArray, List.getElem_cons_succ, List.getElem_cons_zero, List.setIfInBounds_toArray, List.set_cons_zero, List.set_cons_succ, Array.toArray_toList])
          refine wpAnyH_take (i := 2) (v := ?_) rfl (by kernel_rfl) (by kernel_rfl) (by kernel_rfl) (fun _ _ _ h => h) (Or.inl ⟨by kernel_rfl, ?_⟩) hS0 ?_
          rotate_left
          · intro w hSw; clear hSw; go_simp; (try with_reducible rfl)
          (try simp only [Act.put, List.getElem_toArray, List.getElem_cons_succ, List.getElem_cons_zero, List.setIfInBounds_toArray, List.set_cons_zero, List.set_cons_succ, Array.toArray_toList])
          refine wpAnyH_take (i := 3) (v := ?_) rfl (by kernel_rfl) (by kernel_rfl) (by kernel_rfl) (fun _ _ _ h => h) (Or.inl ⟨by kernel_rfl, ?_⟩) hS0 ?_
          rotate_left
          · intro w hSw; clear hSw; go_simp; (try with_reducible rfl)
          (try simp only [Act.put, List.getElem_toArray, List.getElem_cons_succ, List.getElem_cons_zero, List.setIfInBounds_toArray, List.set_cons_zero, List.set_cons_succ, Array.toArray_toList])
          refine wpAnyH_take (i := 4) (v := ?_) rfl (by kernel_rfl) (by kernel_rfl) (by kernel_rfl) (fun _ _ _ h => h) (Or.inl ⟨by kernel_rfl, ?_⟩) hS0 ?_
          rotate_left
          · intro w hSw; clear hSw; go_simp; (try with_reducible rfl)
          (try simp only [Act.put, List.getElem_toArray, List.getElem_cons_succ, List.getElem_cons_zero, List.setIfInBounds_toArray, List.set_cons_zero, List.set_cons_succ, Array.toArray_toList])
          refine wpAnyH_take (i := 5) (v := ?_) rfl (by kernel_rfl) (by kernel_rfl) (by kernel_rfl) (fun _ _ _ h => h) (Or.inl ⟨by kernel_rfl, ?_⟩) hS0 ?_
          rotate_left
          · intro w hSw; obtain ⟨c0, c1⟩ := hSw; clear c1; go_simp; (try with_reducible rfl)
          (try simp only [Act.put, List.getElem_toArray, List.getElem_cons_succ, List.getElem_cons_zero, List.setIfInBounds_toArray, List.set_cons_zero, List.set_cons_succ, Array.toArray_toList])
          refine wpAnyH_take (i := 6) (v := ?_) rfl (by kernel_rfl) (by kernel_rfl) (by kernel_rfl) (fun _ _ _ h => h) (Or.inl ⟨by kernel_rfl, ?_⟩) hS0 ?_
          rotate_left
          · intro w hSw; clear hSw; go_simp; (try with_reducible rfl)
          (try simp only [Act.put, List.getElem_toArray, List.getElem_cons_succ, List.getElem_cons_zero, List.setIfInBounds_toArray, List.set_cons_zero, List.set_cons_succ, Array.toArray_toList])
          refine wpAnyH_take (i := 7) (v := ?_) rfl (by kernel_rfl) (by kernel_rfl) (by kernel_rfl) (fun _ _ _ h => h) (Or.inl ⟨by kernel_rfl, ?_⟩) hS0 ?_
          rotate_left
          · intro w hSw; clear hSw; go_simp; (try with_reducible rfl)
          (try simp only [Act.put, List.getElem_toArray, List.getElem_cons_succ, List.getElem_cons_zero, List.setIfInBounds_toArray, List.set_cons_zero, List.set_cons_succ, Array.toArray_toList])
          refine wpAnyH_take (i := 8) (v := ?_) rfl (by kernel_rfl) (by kernel_rfl) (by kernel_rfl) (fun _ _ _ h => h) (Or.inl ⟨by kernel_rfl, ?_⟩) hS0 ?_
          rotate_left
          · intro w hSw; clear hSw; go_simp; (try with_reducible rfl)
          (try simp only [Act.put, List.getElem_toArray, List.getElem_cons_succ, List.getElem_cons_zero, List.setIfInBounds_toArray, List.set_cons_zero, List.set_cons_succ, Array.toArray_toList])
          refine wpAnyH_take (i := 9) (v := ?_) rfl (by kernel_rfl) (by kernel_rfl) (by kernel_rfl) (fun _ _ _ h => h) (Or.inl ⟨by kernel_rfl, ?_⟩) hS0 ?_
          rotate_left
          · intro w hSw; clear hSw; go_simp; (try with_reducible rfl)
          (try simp only [Act.put, List.getElem_toArray, List.getElem_cons_succ, List.getElem_cons_zero, List.setIfInBounds_toArray, List.set_cons_zero, List.set_cons_succ, Array.toArray_toList])
          refine wpAnyH_take (i := 10) (v := ?_) rfl (by kernel_rfl) (by kernel_rfl) (by kernel_rfl) (fun _ _ _ h => h) (Or.inl ⟨by kernel_rfl, ?_⟩) hS0 ?_
          rotate_left
          · intro w hSw; obtain ⟨c0, c1⟩ := hSw; clear c0; go_simp; (try with_reducible rfl)
          (try simp only [Act.put, List.getElem_toArray, List.getElem_cons_succ, List.getElem_cons_zero, List.setIfInBounds_toArray, List.set_cons_zero, List.set_cons_succ, Array.toArray_toList])
          refine wpAnyH_ready (rs := [11, 15]) (by kernel_rfl) (by simp) ?_
          refine AllReadyH.cons rfl (fun K hK => ?_) (AllReadyH.cons rfl (fun K hK => ?_) AllReadyH.nil)
          · go_simp
            refine (HAD.out G N _ _ HWR.out.drew HLR.out (List.mem_cons_of_mem _ hH)).mono ?_
            rintro e w5 ⟨G5, N5, rfl, hw5, hl5⟩
            have HL5 := Lib.hid hl5
            clear hl5
            (try go_wp2_with fail)
            refine hK.out _ _ (HS.out _ _ hw5 (List.mem_cons_of_mem _ (List.mem_cons_of_mem _ (List.mem_cons_of_mem _ hH1)))) (fun hS1 => ?_)
            clear hK K
            (try simp only [Act.put, List.getElem_toArray, List.getElem_cons_succ, List.getElem_cons_zero, List.setIfInBounds_toArray, List.set_cons_zero, List.set_cons_succ, Array.toArray_toList])
            refine wpAnyH_take (i := 12) (v := ?_) rfl (by kernel_rfl) (by kernel_rfl) (by kernel_rfl) (fun _ _ _ h => h) (Or.inl ⟨by kernel_rfl, ?_⟩) hS1 ?_
            rotate_left
            · intro w hSw; clear hSw; go_simp; (try with_reducible rfl)
            (try simp only [Act.put, List.getElem_toArray, List.getElem_cons_succ, List.getElem_cons_zero, List.setIfInBounds_toArray, List.set_cons_zero, List.set_cons_succ, Array.toArray_toList])
            refine wpAnyH_take (i := 13) (v := ?_) rfl (by kernel_rfl) (by kernel_rfl) (by kernel_rfl) (fun _ _ _ h => h) (Or.inl ⟨by kernel_rfl, ?_⟩) hS1 ?_
            rotate_left
            · intro w hSw; clear hSw; go_simp; (try with_reducible rfl)
            (try simp only [Act.put, List.getElem_toArray, List.getElem_cons_succ, List.getElem_cons_zero, List.setIfInBounds_toArray, List.set_cons_zero, List.set_cons_succ, Array.toArray_toList])
            refine wpAnyH_take (i := 14) (v := ?_) rfl (by kernel_rfl) (by kernel_rfl) (by kernel_rfl) (fun _ _ _ h => h) (Or.inl ⟨by kernel_rfl, ?_⟩) hS1 ?_
            rotate_left
            · intro w hSw; clear hSw; go_simp; (try with_reducible rfl)
            (try simp only [Act.put, List.getElem_toArray, List.getElem_cons_succ, List.getElem_cons_zero, List.setIfInBounds_toArray, List.set_cons_zero, List.set_cons_succ, Array.toArray_toList])
            have hw6 := hw5.alloc (.cells #[.int .i64 0, .string ⟨#[]⟩, .int .u8 0, .int .u8 0, .int .u8 0, .int .u8 0, .int .u8 0, .int .u8 0, .int .u8 0, .int .u8 0, .int .u8 0, .int .u8 0, .int .u8 0, .int .u8 0, .int .u8 0, .int .u8 0, .int .u8 0, .int .u8 0, .int .u8 0, .int .u8 0, .int .u8 0, .int .u8 0, .int .u8 0, .int .u8 0, .int .u8 0, .int .u8 0, .int .u8 0, .int .u8 0, .int .u8 0, .int .u8 0, .int .u8 0, .int .u8 0, .int .u8 0, .int .u8 0] 32)
            refine wpAnyH_ready (rs := [15]) (by kernel_rfl) (by simp) ?_
            refine AllReadyH.cons rfl (fun K hK => ?_) AllReadyH.nil
            go_simp
            refine hK.out _ _ (HS.out _ _ hw6 (List.mem_cons_of_mem _ (List.mem_cons_of_mem _ (List.mem_cons_of_mem _ (List.mem_cons_of_mem _ hH1))))) (fun hS2 => ?_)
            clear hK K
            (try simp only [Act.put, List.getElem_toArray, List.getElem_cons_succ, List.getElem_cons_zero, List.setIfInBounds_toArray, List.set_cons_zero, List.set_cons_succ, Array.toArray_toList])
            refine wpAnyH_ready (rs := [16]) (by kernel_rfl) (by simp) ?_
            refine AllReadyH.cons rfl (fun K hK => ?_) AllReadyH.nil
            refine step_store_row rfl 32 (.tmp 7) (.tmp 53) rfl w5.heap.size (EA y) rfl rfl 32 _ hw6.heap (by rw [hys]; kernel_rfl) (hys0.trans hys.symm) (EA_one _) ?_
            have hw8 := hw6.setRow (EA y)
            refine hK.out _ _ (HS.out _ _ hw8 (List.mem_cons_of_mem _ (List.mem_cons_of_mem _ (List.mem_cons_of_mem _ (List.mem_cons_of_mem _ hH1))))) (fun hS3 => ?_)
            clear hK K
            (try simp only [Act.put, List.getElem_toArray, List.getElem_cons_succ, List.getElem_cons_zero, List.setIfInBounds_toArray, List.set_cons_zero, List.set_cons_succ, Array.toArray_toList])
            refine wpAnyH_take (i := 17) (v := ?_) rfl (by kernel_rfl) (by kernel_rfl) (by kernel_rfl) (fun _ _ _ h => h) (Or.inl ⟨by kernel_rfl, ?_⟩) hS3 ?_
            rotate_left
            · intro w hSw; clear hSw; go_simp; (try with_reducible rfl)
            (try simp only [Act.put, List.getElem_toArray, List.getElem_cons_succ, List.getElem_cons_zero, List.setIfInBounds_toArray, List.set_cons_zero, List.set_cons_succ, Array.toArray_toList])
            refine wpAnyH_done (by kernel_rfl) ?_ _
            clear hS0 hS1 hS2 hS3
            generalize World.setRow _ _ _ = w8 at *
            go_wp2_with fail
            go_meet
            exact ⟨_, G5, N5, rfl, rfl, hw8.down2, ⟨HL5.out⟩⟩
          · have hw4 := HWR.out.drew.alloc (.cells #[.int .i64 0, .string ⟨#[]⟩, .int .u8 0, .int .u8 0, .int .u8 0, .int .u8 0, .int .u8 0, .int .u8 0, .int .u8 0, .int .u8 0, .int .u8 0, .int .u8 0, .int .u8 0, .int .u8 0, .int .u8 0, .int .u8 0, .int .u8 0, .int .u8 0, .int .u8 0, .int .u8 0, .int .u8 0, .int .u8 0, .int .u8 0, .int .u8 0, .int .u8 0, .int .u8 0, .int .u8 0, .int .u8 0, .int .u8 0, .int .u8 0, .int .u8 0, .int .u8 0, .int .u8 0, .int .u8 0] 32)
            rw [show wc.drew.heap.size = wc.heap.size from rfl] at hw4
            go_simp
            refine hK.out _ _ (HS.out _ _ hw4 (List.mem_cons_of_mem _ (List.mem_cons_of_mem _ (List.mem_cons_of_mem _ (List.mem_cons_of_mem _ hH1))))) (fun hS1 => ?_)
            clear hK K
            (try simp only [Act.put, List.getElem_toArray, List.getElem_cons_succ, List.getElem_cons_zero, List.setIfInBounds_toArray, List.set_cons_zero, List.set_cons_succ, Array.toArray_toList])
            refine wpAnyH_ready (rs := [11]) (by kernel_rfl) (by simp) ?_
            refine AllReadyH.cons rfl (fun K hK => ?_) AllReadyH.nil
            go_simp
            refine (HAD.out G N _ _ hw4.down2 HLR.out (List.mem_cons_of_mem _ (List.mem_cons_of_mem _ hH))).mono ?_
            rintro e w5 ⟨G5, N5, rfl, hw5, hl5⟩
            have HL5 := Lib.hid hl5
            clear hl5
            replace hw5 := Sat.bring (l₁ := [G5, N5]) hw5
            (try go_wp2_with fail)
            refine hK.out _ _ (HS.out _ _ hw5 (List.mem_cons_of_mem _ (List.mem_cons_of_mem _ (List.mem_cons_of_mem _ (List.mem_cons_of_mem _ hH1))))) (fun hS2 => ?_)
            clear hK K
            (try simp only [Act.put, List.getElem_toArray, List.getElem_cons_succ, List.getElem_cons_zero, List.setIfInBounds_toArray, List.set_cons_zero, List.set_cons_succ, Array.toArray_toList])
            refine wpAnyH_take (i := 12) (v := ?_) rfl (by kernel_rfl) (by kernel_rfl) (by kernel_rfl) (fun _ _ _ h => h) (Or.inl ⟨by kernel_rfl, ?_⟩) hS2 ?_
            rotate_left
            · intro w hSw; clear hSw; go_simp; (try with_reducible rfl)
            (try simp only [Act.put, List.getElem_toArray, List.getElem_cons_succ, List.getElem_cons_zero, List.setIfInBounds_toArray, List.set_cons_zero, List.set_cons_succ, Array.toArray_toList])
            refine wpAnyH_take (i := 13) (v := ?_) rfl (by kernel_rfl) (by kernel_rfl) (by kernel_rfl) (fun _ _ _ h => h) (Or.inl ⟨by kernel_rfl, ?_⟩) hS2 ?_
            rotate_left
            · intro w hSw; clear hSw; go_simp; (try with_reducible rfl)
            (try simp only [Act.put, List.getElem_toArray, List.getElem_cons_succ, List.getElem_cons_zero, List.setIfInBounds_toArray, List.set_cons_zero, List.set_cons_succ, Array.toArray_toList])
            refine wpAnyH_take (i := 14) (v := ?_) rfl (by kernel_rfl) (by kernel_rfl) (by kernel_rfl) (fun _ _ _ h => h) (Or.inl ⟨by kernel_rfl, ?_⟩) hS2 ?_
            rotate_left
            · intro w hSw; clear hSw; go_simp; (try with_reducible rfl)
            (try simp only [Act.put, List.getElem_toArray, List.getElem_cons_succ, List.getElem_cons_zero, List.setIfInBounds_toArray, List.set_cons_zero, List.set_cons_succ, Array.toArray_toList])
            refine wpAnyH_ready (rs := [16]) (by kernel_rfl) (by simp) ?_
            refine AllReadyH.cons rfl (fun K hK => ?_) AllReadyH.nil
            refine step_store_row rfl 32 (.tmp 7) (.tmp 53) rfl wc.heap.size (EA y) rfl rfl 32 _ hw5.heap (by rw [hys]; kernel_rfl) (hys0.trans hys.symm) (EA_one _) ?_
            have hw8 := hw5.setRow (EA y)
            refine hK.out _ _ (HS.out _ _ hw8 (List.mem_cons_of_mem _ (List.mem_cons_of_mem _ (List.mem_cons_of_mem _ (List.mem_cons_of_mem _ hH1))))) (fun hS3 => ?_)
            clear hK K
            (try simp only [Act.put, List.getElem_toArray, List.getElem_cons_succ, List.getElem_cons_zero, List.setIfInBounds_toArray, List.set_cons_zero, List.set_cons_succ, Array.toArray_toList])
            refine wpAnyH_take (i := 17) (v := ?_) rfl (by kernel_rfl) (by kernel_rfl) (by kernel_rfl) (fun _ _ _ h => h) (Or.inl ⟨by kernel_rfl, ?_⟩) hS3 ?_
            rotate_left
            · intro w hSw; clear hSw; go_simp; (try with_reducible rfl)
            (try simp only [Act.put, List.getElem_toArray, List.getElem_cons_succ, List.getElem_cons_zero, List.setIfInBounds_toArray, List.set_cons_zero, List.set_cons_succ, Array.toArray_toList])
            refine wpAnyH_done (by kernel_rfl) ?_ _
            clear hS0 hS1 hS2 hS3
            generalize World.setRow _ _ _ = w8 at *
            go_wp2_with fail
            go_meet
            exact ⟨_, G5, N5, rfl, rfl, hw8.down2, ⟨HL5.out⟩⟩
          -- done>
        case rest =>
          clear hwr HWR HLR HAD
          obtain ⟨nx, G, N, rfl, rfl, hwr, hlr⟩ := hcut
          have HLR := Lib.hid hlr.out
          have HWR := Lib.hid hwr
          clear hlr
          go_upto_region 15 with fail
          go_cut [9, 10] (fun p ev wc => ∃ (ny : Nat), p = .pointer (some ⟨ny, 0, none⟩) ∧ ev = .int .i64 ey ∧ Sat σ wc (Hp.one ny (.cells (EA y) 32 (0, 0)) :: G :: N :: Hp.one nx (.cells (EA y) 32 (0, 0)) :: Y :: Hs))
          case first =>
            -- done<
            clear hwr
            refine wp_region_held_drew (S := fun W => W.cell? ⟨b, off + k * 2, none⟩ = some (.int .i64 x.at_) ∧ W.cell? ⟨b, off + k * 2 + 1, none⟩ = some (.string x.text)) (by kernel_rfl) (HS.out _ _ HWR.out.drew (List.mem_cons_of_mem _ (List.mem_cons_of_mem _ (List.mem_cons_of_mem _ (List.mem_cons_of_mem _ hH1))))) (fun hS0 => ?_)
            refine wpAnyH_take (i := 0) (v := ?_) rfl (by kernel_rfl) (by kernel_rfl) (by kernel_rfl) (fun _ _ _ h => h) (Or.inl ⟨by kernel_rfl, ?_⟩) hS0 ?_
            rotate_left
            · intro w hSw; clear hSw; go_simp; (try with_reducible rfl)
            (try simp only [Act.put, List.getElem_toArray, List.getElem_cons_succ, List.getElem_cons_zero, List.setIfInBounds_toArray, List.set_cons_zero, List.set_cons_succ, Array.toArray_toList])
            refine wpAnyH_take (i := 1) (v := ?_) rfl (by kernel_rfl) (by kernel_rfl) (by kernel_rfl) (fun _ _ _ h => h) (Or.inl ⟨by kernel_rfl, ?_⟩) hS0 ?_
            rotate_left
            · intro w hSw; clear hSw; go_simp; (try with_reducible rfl)
            (try simp only [Act.put, List.getElem_toArray, List.getElem_cons_succ, List.getElem_cons_zero, List.setIfInBounds_toArray, List.set_cons_zero, List.set_cons_succ, Array.toArray_toList])
            refine wpAnyH_take (i := 2) (v := ?_) rfl (by kernel_rfl) (by kernel_rfl) (by kernel_rfl) (fun _ _ _ h => h) (Or.inl ⟨by kernel_rfl, ?_⟩) hS0 ?_
            rotate_left
            · intro w hSw; clear hSw; go_simp; (try with_reducible rfl)
            (try simp only [Act.put, List.getElem_toArray, List.getElem_cons_succ, List.getElem_cons_zero, List.setIfInBounds_toArray, List.set_cons_zero, List.set_cons_succ, Array.toArray_toList])
            refine wpAnyH_take (i := 3) (v := ?_) rfl (by kernel_rfl) (by kernel_rfl) (by kernel_rfl) (fun _ _ _ h => h) (Or.inl ⟨by kernel_rfl, ?_⟩) hS0 ?_
            rotate_left
            · intro w hSw; clear hSw; go_simp; (try with_reducible rfl)
            (try simp only [Act.put, List.getElem_toArray, List.getElem_cons_succ, List.getElem_cons_zero, List.setIfInBounds_toArray, List.set_cons_zero, List.set_cons_succ, Array.toArray_toList])
            refine wpAnyH_take (i := 4) (v := ?_) rfl (by kernel_rfl) (by kernel_rfl) (by kernel_rfl) (fun _ _ _ h => h) (Or.inl ⟨by kernel_rfl, ?_⟩) hS0 ?_
            rotate_left
            · intro w hSw; clear hSw; go_simp; (try with_reducible rfl)
            (try simp only [Act.put, List.getElem_toArray, List.getElem_cons_succ, List.getElem_cons_zero, List.setIfInBounds_toArray, List.set_cons_zero, List.set_cons_succ, Array.toArray_toList])
            refine wpAnyH_take (i := 5) (v := ?_) rfl (by kernel_rfl) (by kernel_rfl) (by kernel_rfl) (fun _ _ _ h => h) (Or.inl ⟨by kernel_rfl, ?_⟩) hS0 ?_
            rotate_left
            · intro w hSw; obtain ⟨c0, c1⟩ := hSw; clear c1; go_simp; (try with_reducible rfl)
            (try simp only [Act.put, List.getElem_toArray, List.getElem_cons_succ, List.getElem_cons_zero, List.setIfInBounds_toArray, List.set_cons_zero, List.set_cons_succ, Array.toArray_toList])
            refine wpAnyH_take (i := 6) (v := ?_) rfl (by kernel_rfl) (by kernel_rfl) (by kernel_rfl) (fun _ _ _ h => h) (Or.inl ⟨by kernel_rfl, ?_⟩) hS0 ?_
            rotate_left
            · intro w hSw; clear hSw; go_simp; (try with_reducible rfl)
            (try simp only [Act.put, List.getElem_toArray, List.getElem_cons_succ, List.getElem_cons_zero, List.setIfInBounds_toArray, List.set_cons_zero, List.set_cons_succ, Array.toArray_toList])
            refine wpAnyH_take (i := 7) (v := ?_) rfl (by kernel_rfl) (by kernel_rfl) (by kernel_rfl) (fun _ _ _ h => h) (Or.inl ⟨by kernel_rfl, ?_⟩) hS0 ?_
            rotate_left
            · intro w hSw; clear hSw; go_simp; (try with_reducible rfl)
            (try simp only [Act.put, List.getElem_toArray, List.getElem_cons_succ, List.getElem_cons_zero, List.setIfInBounds_toArray, List.set_cons_zero, List.set_cons_succ, Array.toArray_toList])
            refine wpAnyH_take (i := 8) (v := ?_) rfl (by kernel_rfl) (by kernel_rfl) (by kernel_rfl) (fun _ _ _ h => h) (Or.inl ⟨by kernel_rfl, ?_⟩) hS0 ?_
            rotate_left
            · intro w hSw; clear hSw; go_simp; (try with_reducible rfl)
            (try simp only [Act.put, List.getElem_toArray, List.getElem_cons_succ, List.getElem_cons_zero, List.setIfInBounds_toArray, List.set_cons_zero, List.set_cons_succ, Array.toArray_toList])
            refine wpAnyH_take (i := 9) (v := ?_) rfl (by kernel_rfl) (by kernel_rfl) (by kernel_rfl) (fun _ _ _ h => h) (Or.inl ⟨by kernel_rfl, ?_⟩) hS0 ?_
            rotate_left
            · intro w hSw; clear hSw; go_simp; (try with_reducible rfl)
            (try simp only [Act.put, List.getElem_toArray, List.getElem_cons_succ, List.getElem_cons_zero, List.setIfInBounds_toArray, List.set_cons_zero, List.set_cons_succ, Array.toArray_toList])
            refine wpAnyH_take (i := 10) (v := ?_) rfl (by kernel_rfl) (by kernel_rfl) (by kernel_rfl) (fun _ _ _ h => h) (Or.inl ⟨by kernel_rfl, ?_⟩) hS0 ?_
            rotate_left
            · intro w hSw; obtain ⟨c0, c1⟩ := hSw; clear c0; go_simp; (try with_reducible rfl)
            (try simp only [Act.put, List.getElem_toArray, List.getElem_cons_succ, List.getElem_cons_zero, List.setIfInBounds_toArray, List.set_cons_zero, List.set_cons_succ, Array.toArray_toList])
            refine wpAnyH_ready (rs := [11, 15]) (by kernel_rfl) (by simp) ?_
            refine AllReadyH.cons rfl (fun K hK => ?_) (AllReadyH.cons rfl (fun K hK => ?_) AllReadyH.nil)
            · go_simp
              refine (HRA.out _ _ HWR.out.drew (List.mem_cons_of_mem _ (List.mem_cons_of_mem _ (List.mem_cons_of_mem _ (List.mem_cons_self))))).mono ?_
              rintro e w5 ⟨rfl, hw5⟩
              (try go_wp2_with fail)
              refine hK.out _ _ (HS.out _ _ hw5 (List.mem_cons_of_mem _ (List.mem_cons_of_mem _ (List.mem_cons_of_mem _ (List.mem_cons_of_mem _ hH1))))) (fun hS1 => ?_)
              clear hK K
              (try simp only [Act.put, List.getElem_toArray, List.getElem_cons_succ, List.getElem_cons_zero, List.setIfInBounds_toArray, List.set_cons_zero, List.set_cons_succ, Array.toArray_toList])
              refine wpAnyH_take (i := 12) (v := ?_) rfl (by kernel_rfl) (by kernel_rfl) (by kernel_rfl) (fun _ _ _ h => h) (Or.inl ⟨by kernel_rfl, ?_⟩) hS1 ?_
              rotate_left
              · intro w hSw; clear hSw; go_simp; (try with_reducible rfl)
              (try simp only [Act.put, List.getElem_toArray, List.getElem_cons_succ, List.getElem_cons_zero, List.setIfInBounds_toArray, List.set_cons_zero, List.set_cons_succ, Array.toArray_toList])
              refine wpAnyH_take (i := 13) (v := ?_) rfl (by kernel_rfl) (by kernel_rfl) (by kernel_rfl) (fun _ _ _ h => h) (Or.inl ⟨by kernel_rfl, ?_⟩) hS1 ?_
              rotate_left
              · intro w hSw; clear hSw; go_simp; (try with_reducible rfl)
              (try simp only [Act.put, List.getElem_toArray, List.getElem_cons_succ, List.getElem_cons_zero, List.setIfInBounds_toArray, List.set_cons_zero, List.set_cons_succ, Array.toArray_toList])
              refine wpAnyH_take (i := 14) (v := ?_) rfl (by kernel_rfl) (by kernel_rfl) (by kernel_rfl) (fun _ _ _ h => h) (Or.inl ⟨by kernel_rfl, ?_⟩) hS1 ?_
              rotate_left
              · intro w hSw; clear hSw; go_simp; (try with_reducible rfl)
              (try simp only [Act.put, List.getElem_toArray, List.getElem_cons_succ, List.getElem_cons_zero, List.setIfInBounds_toArray, List.set_cons_zero, List.set_cons_succ, Array.toArray_toList])
              have hw6 := hw5.alloc (.cells #[.int .i64 0, .string ⟨#[]⟩, .int .u8 0, .int .u8 0, .int .u8 0, .int .u8 0, .int .u8 0, .int .u8 0, .int .u8 0, .int .u8 0, .int .u8 0, .int .u8 0, .int .u8 0, .int .u8 0, .int .u8 0, .int .u8 0, .int .u8 0, .int .u8 0, .int .u8 0, .int .u8 0, .int .u8 0, .int .u8 0, .int .u8 0, .int .u8 0, .int .u8 0, .int .u8 0, .int .u8 0, .int .u8 0, .int .u8 0, .int .u8 0, .int .u8 0, .int .u8 0, .int .u8 0, .int .u8 0] 32)
              refine wpAnyH_ready (rs := [15]) (by kernel_rfl) (by simp) ?_
              refine AllReadyH.cons rfl (fun K hK => ?_) AllReadyH.nil
              go_simp
              refine hK.out _ _ (HS.out _ _ hw6 (List.mem_cons_of_mem _ (List.mem_cons_of_mem _ (List.mem_cons_of_mem _ (List.mem_cons_of_mem _ (List.mem_cons_of_mem _ hH1)))))) (fun hS2 => ?_)
              clear hK K
              (try simp only [Act.put, List.getElem_toArray, List.getElem_cons_succ, List.getElem_cons_zero, List.setIfInBounds_toArray, List.set_cons_zero, List.set_cons_succ, Array.toArray_toList])
              refine wpAnyH_ready (rs := [16]) (by kernel_rfl) (by simp) ?_
              refine AllReadyH.cons rfl (fun K hK => ?_) AllReadyH.nil
              refine step_store_row rfl 32 (.tmp 9) (.tmp 68) rfl w5.heap.size (EA y) rfl rfl 32 _ hw6.heap (by rw [hys]; kernel_rfl) (hys0.trans hys.symm) (EA_one _) ?_
              have hw8 := hw6.setRow (EA y)
              refine hK.out _ _ (HS.out _ _ hw8 (List.mem_cons_of_mem _ (List.mem_cons_of_mem _ (List.mem_cons_of_mem _ (List.mem_cons_of_mem _ (List.mem_cons_of_mem _ hH1)))))) (fun hS3 => ?_)
              clear hK K
              (try simp only [Act.put, List.getElem_toArray, List.getElem_cons_succ, List.getElem_cons_zero, List.setIfInBounds_toArray, List.set_cons_zero, List.set_cons_succ, Array.toArray_toList])
              refine wpAnyH_take (i := 17) (v := ?_) rfl (by kernel_rfl) (by kernel_rfl) (by kernel_rfl) (fun _ _ _ h => h) (Or.inl ⟨by kernel_rfl, ?_⟩) hS3 ?_
              rotate_left
              · intro w hSw; clear hSw; go_simp; (try with_reducible rfl)
              (try simp only [Act.put, List.getElem_toArray, List.getElem_cons_succ, List.getElem_cons_zero, List.setIfInBounds_toArray, List.set_cons_zero, List.set_cons_succ, Array.toArray_toList])
              refine wpAnyH_done (by kernel_rfl) ?_ _
              clear hS0 hS1 hS2 hS3
              generalize World.setRow _ _ _ = w8 at *
              go_wp2_with fail
              go_meet
              exact ⟨_, rfl, rfl, hw8⟩
            · have hw4 := HWR.out.drew.alloc (.cells #[.int .i64 0, .string ⟨#[]⟩, .int .u8 0, .int .u8 0, .int .u8 0, .int .u8 0, .int .u8 0, .int .u8 0, .int .u8 0, .int .u8 0, .int .u8 0, .int .u8 0, .int .u8 0, .int .u8 0, .int .u8 0, .int .u8 0, .int .u8 0, .int .u8 0, .int .u8 0, .int .u8 0, .int .u8 0, .int .u8 0, .int .u8 0, .int .u8 0, .int .u8 0, .int .u8 0, .int .u8 0, .int .u8 0, .int .u8 0, .int .u8 0, .int .u8 0, .int .u8 0, .int .u8 0, .int .u8 0] 32)
              rw [show wc.drew.heap.size = wc.heap.size from rfl] at hw4
              go_simp
              refine hK.out _ _ (HS.out _ _ hw4 (List.mem_cons_of_mem _ (List.mem_cons_of_mem _ (List.mem_cons_of_mem _ (List.mem_cons_of_mem _ (List.mem_cons_of_mem _ hH1)))))) (fun hS1 => ?_)
              clear hK K
              (try simp only [Act.put, List.getElem_toArray, List.getElem_cons_succ, List.getElem_cons_zero, List.setIfInBounds_toArray, List.set_cons_zero, List.set_cons_succ, Array.toArray_toList])
              refine wpAnyH_ready (rs := [11]) (by kernel_rfl) (by simp) ?_
              refine AllReadyH.cons rfl (fun K hK => ?_) AllReadyH.nil
              go_simp
              refine (HRA.out _ _ hw4 (List.mem_cons_of_mem _ (List.mem_cons_of_mem _ (List.mem_cons_of_mem _ (List.mem_cons_of_mem _ (List.mem_cons_self)))))).mono ?_
              rintro e w5 ⟨rfl, hw5⟩
              (try go_wp2_with fail)
              refine hK.out _ _ (HS.out _ _ hw5 (List.mem_cons_of_mem _ (List.mem_cons_of_mem _ (List.mem_cons_of_mem _ (List.mem_cons_of_mem _ (List.mem_cons_of_mem _ hH1)))))) (fun hS2 => ?_)
              clear hK K
              (try simp only [Act.put, List.getElem_toArray, List.getElem_cons_succ, List.getElem_cons_zero, List.setIfInBounds_toArray, List.set_cons_zero, List.set_cons_succ, Array.toArray_toList])
              refine wpAnyH_take (i := 12) (v := ?_) rfl (by kernel_rfl) (by kernel_rfl) (by kernel_rfl) (fun _ _ _ h => h) (Or.inl ⟨by kernel_rfl, ?_⟩) hS2 ?_
              rotate_left
              · intro w hSw; clear hSw; go_simp; (try with_reducible rfl)
              (try simp only [Act.put, List.getElem_toArray, List.getElem_cons_succ, List.getElem_cons_zero, List.setIfInBounds_toArray, List.set_cons_zero, List.set_cons_succ, Array.toArray_toList])
              refine wpAnyH_take (i := 13) (v := ?_) rfl (by kernel_rfl) (by kernel_rfl) (by kernel_rfl) (fun _ _ _ h => h) (Or.inl ⟨by kernel_rfl, ?_⟩) hS2 ?_
              rotate_left
              · intro w hSw; clear hSw; go_simp; (try with_reducible rfl)
              (try simp only [Act.put, List.getElem_toArray, List.getElem_cons_succ, List.getElem_cons_zero, List.setIfInBounds_toArray, List.set_cons_zero, List.set_cons_succ, Array.toArray_toList])
              refine wpAnyH_take (i := 14) (v := ?_) rfl (by kernel_rfl) (by kernel_rfl) (by kernel_rfl) (fun _ _ _ h => h) (Or.inl ⟨by kernel_rfl, ?_⟩) hS2 ?_
              rotate_left
              · intro w hSw; clear hSw; go_simp; (try with_reducible rfl)
              (try simp only [Act.put, List.getElem_toArray, List.getElem_cons_succ, List.getElem_cons_zero, List.setIfInBounds_toArray, List.set_cons_zero, List.set_cons_succ, Array.toArray_toList])
              refine wpAnyH_ready (rs := [16]) (by kernel_rfl) (by simp) ?_
              refine AllReadyH.cons rfl (fun K hK => ?_) AllReadyH.nil
              refine step_store_row rfl 32 (.tmp 9) (.tmp 68) rfl wc.heap.size (EA y) rfl rfl 32 _ hw5.heap (by rw [hys]; kernel_rfl) (hys0.trans hys.symm) (EA_one _) ?_
              have hw8 := hw5.setRow (EA y)
              refine hK.out _ _ (HS.out _ _ hw8 (List.mem_cons_of_mem _ (List.mem_cons_of_mem _ (List.mem_cons_of_mem _ (List.mem_cons_of_mem _ (List.mem_cons_of_mem _ hH1)))))) (fun hS3 => ?_)
              clear hK K
              (try simp only [Act.put, List.getElem_toArray, List.getElem_cons_succ, List.getElem_cons_zero, List.setIfInBounds_toArray, List.set_cons_zero, List.set_cons_succ, Array.toArray_toList])
              refine wpAnyH_take (i := 17) (v := ?_) rfl (by kernel_rfl) (by kernel_rfl) (by kernel_rfl) (fun _ _ _ h => h) (Or.inl ⟨by kernel_rfl, ?_⟩) hS3 ?_
              rotate_left
              · intro w hSw; clear hSw; go_simp; (try with_reducible rfl)
              (try simp only [Act.put, List.getElem_toArray, List.getElem_cons_succ, List.getElem_cons_zero, List.setIfInBounds_toArray, List.set_cons_zero, List.set_cons_succ, Array.toArray_toList])
              refine wpAnyH_done (by kernel_rfl) ?_ _
              clear hS0 hS1 hS2 hS3
              generalize World.setRow _ _ _ = w8 at *
              go_wp2_with fail
              go_meet
              exact ⟨_, rfl, rfl, hw8⟩
            -- done>
          case rest =>
            clear hwr HWR HRA
            obtain ⟨ny, rfl, rfl, hwr⟩ := hcut
            have HWX := Lib.hid (Sat.bring (l₁ := [_, G, N]) hwr)
            have HWY := Lib.hid hwr
            have heq : ∀ W, (Op.equal 32 (.agg (EA y)) (.agg (EA y))).run Tryd.prog W = .ok true W := fun W => by
              have := ent_eq y y HYO.out.1 HYO.out.1 W
              rw [decide_eq_true rfl] at this
              exact this
            have heq2 : ∀ W, (Op.equalIn 10000 32 (.agg (EA y)) (.agg (EA y))).run Tryd.prog W = .ok true W := heq
            clear hwr
            go_upto_if 79 with (first
              | (with_reducible show wpList _ _ _ [_, _, _, _, _, _, _, _] _ _; (refine wpList_load_row rfl 32 (.tmp 7) rfl nx rfl 32 (EA y) (0, 0) _ HWX.out.heap Tryd.underlying32 rfl (by rw [hys]; kernel_rfl) ?_))
              | (with_reducible show wpList _ _ _ [_, _, _, _, _, _, _] _ _; (refine wpList_load_row rfl 32 (.tmp 9) rfl ny rfl 32 (EA y) (0, 0) _ HWY.out.heap Tryd.underlying32 rfl (by rw [hys]; kernel_rfl) ?_)))
            go_cut [4] (fun wv wc => ∃ (A3 : Option Addr) (c3 : Nat) (Y3 : Hp), wv = .slice A3 xs2.length c3 ∧ Sat σ wc (Y3 :: G :: N :: Hs) ∧ Eager (Own Y3 32 34 (.slice A3 xs2.length c3) xs2.length (entC xs2)))
            case first =>
              -- done<
              by_cases hey : ey = 0
              · subst hey
                have hxs2 : xs2 = xs ++ [y] := by rw [HLA.out, if_pos rfl]
                subst hxs2
                have hfold := fold_row y HYO.out.1
                have hwb := (HWY.out.sub (List.sublist_cons_self _ _)).alloc (.cells (EA y) 32)
                have hwb2 := Sat.bring (l₁ := [_, G, N, _]) hwb
                obtain ⟨cells, hcs, hsrc⟩ := (one_ent (b := wc.heap.size) (t := 32) y HYO.out.1).src (P := Tryd.prog) (t := 26) Tryd.underlying26
                obtain ⟨c8, r8, rfl, ⟨_, rfl⟩, rfl⟩ := hcs
                rw [List.append_nil] at hsrc
                have HSRC := Lib.hid (hsrc _ (hwb2.has _ (List.mem_cons_of_mem _ List.mem_cons_self)))
                have HWB := Lib.hid hwb2
                clear hwb hwb2 hsrc HLA
                go_wp2_with (first
                  | (with_reducible show wpList _ _ _ [_, _, _, _] _ _; (refine wpList_load_row rfl 32 (.tmp 9) rfl ny rfl 32 (EA y) (0, 0) _ HWY.out.heap Tryd.underlying32 rfl (by rw [hys]; kernel_rfl) ?_))
                  | (at_builtin; go_must (refine wpList_app HWB.out rfl (.tmp 80) (.tmp 82) 26 26 32 (.agg #[.int .i64 0, .string ⟨#[]⟩, .int .u8 0, .int .u8 0, .int .u8 0, .int .u8 0, .int .u8 0, .int .u8 0, .int .u8 0, .int .u8 0, .int .u8 0, .int .u8 0, .int .u8 0, .int .u8 0, .int .u8 0, .int .u8 0, .int .u8 0, .int .u8 0, .int .u8 0, .int .u8 0, .int .u8 0, .int .u8 0, .int .u8 0, .int .u8 0, .int .u8 0, .int .u8 0, .int .u8 0, .int .u8 0, .int .u8 0, .int .u8 0, .int .u8 0, .int .u8 0, .int .u8 0, .int .u8 0]) 34 56 rfl Tryd.underlying26 (by kernel_rfl) rfl (by decide) _ _ xs.length 1 (entC xs) (EA y).toList rfl rfl HOY.out HSRC.out (by omega) ?_); intro A7 c7 w7 N7 hw7 ho7 _ _))
                have hE : entC xs ++ (EA y).toList = entC (xs ++ [y]) := by unfold entC; simp
                have hL : xs.length + 1 = (xs ++ [y]).length := by simp
                rw [hE, hL] at ho7
                go_meet
                exact ⟨A7, c7, N7, by rw [← hL], hw7.sub (List.Sublist.cons_cons _ ((List.Sublist.cons_cons _ (List.Sublist.cons_cons _ (List.sublist_cons_self _ _))).trans (List.sublist_cons_self _ _))), ⟨ho7⟩⟩
              · have heb : (ey == 0) = false := by simpa using hey
                have hxs2 : xs2 = xs := by rw [HLA.out, if_neg hey]
                subst hxs2
                go_wp2_with fail
                go_meet
                exact ⟨A2, c2, Y, rfl, (Sat.bring (l₁ := [_, G, N, _]) HWY.out).sub (List.Sublist.cons_cons _ ((List.Sublist.cons_cons _ (List.Sublist.cons_cons _ (List.sublist_cons_self _ _))).trans (List.sublist_cons_self _ _))), ⟨HOY.out⟩⟩
              -- done>
            case rest =>
              clear HWX HWY heq heq2 hys hys0 HYO HLA HOK HOY hx4
              obtain ⟨A3, c3, Y3, rfl, hwr, hoy⟩ := hcut
              have hok2 := HLR.out.out.2.1
              have hx4 : xs2.length ≤ 4096 := HLR.out.out.2.2
              have HOY := Lib.hid hoy.out
              have HSL := Lib.hid (hoy.out.isSl (d := kE) (reps_ent xs2 hok2) rfl (Hp.le_refl _))
              have hlk := ok_last hok2
              obtain ⟨sm, hsm⟩ : ∃ sm, (xs2.getLastD ent0).sum = sm := ⟨_, rfl⟩
              have hls : sm.length = 32 := by rw [← hsm]; exact hlk.1
              have HROW : Hid (xs2.length ≠ 0 → ∃ k b off, xs2.length = k + 1 ∧ A3 = some ⟨b, off, none⟩ ∧ ∀ W Hs', Sat σ W Hs' → Y3 ∈ Hs' → W.rangeAt b (off + k * 34 + 2) (outV sm).toList) := Lib.hid (fun h0 => by
                obtain ⟨k, hk⟩ : ∃ k, xs2.length = k + 1 := ⟨xs2.length - 1, by omega⟩
                obtain ⟨x, hx⟩ : ∃ x, xs2[k]? = some x := ⟨_, List.getElem?_eq_getElem (by omega)⟩
                obtain ⟨b, off, cs, rfl, ⟨hl, rfl⟩, hcell⟩ := HSL.out.get k x hx
                have HX : xs2.getLastD ent0 = x := by
                  rw [List.getLastD_eq_getLast?, List.getLast?_eq_getElem?, hk, Nat.add_sub_cancel, hx]; rfl
                exact ⟨k, b, off, hk, rfl, fun W Hs' h hm j v hv => by
                  rw [← hsm, HX] at hv
                  rw [Nat.add_assoc]; exact h.cellAt hm (hcell (2 + j) v (by rw [Array.getElem?_toList]; exact EA_sum x j v hv))⟩)
              have H0 : Hid (xs2.length = 0 → z32 = sm) := Lib.hid (fun h => by rw [← hsm, List.eq_nil_of_length_eq_zero h]; rfl)
              have HHD : Hid (∀ w' Hs', Sat σ w' Hs' → G ∈ Hs' → N ∈ Hs' → Calls Tryd.prog 12 #[.pointer (some ⟨g, 0, none⟩)] w' fun e w2 => e = .returned (.agg (outV sm)) ∧ Sat σ w2 Hs') := Lib.hid (fun w' Hs' h h1 h2 => by rw [← hsm]; exact head_any w' h h1 h2 HLR.out)
              have HSM0 : Hid (∀ v u w' Hs' H1 H2, Sat σ w' Hs' → H1 ∈ Hs' → H2 ∈ Hs' → kE.IsSl H1 v xs2 → kE.IsSl H2 u xs2 → Calls Tryd.prog 11 #[v, u] w' fun e w2 => e = .returned (.bool true) ∧ Sat σ w2 Hs') := Lib.hid (fun v u w' Hs' H1 H2 h m1 m2 h1 h2 => by
                have h3 := asame_any v u xs2 xs2 w' h m1 m2 h1 h2
                rw [decide_eq_true rfl] at h3
                exact h3)
              have HEN : Hid (∀ w' Hs', Sat σ w' Hs' → G ∈ Hs' → N ∈ Hs' → Calls Tryd.prog 10 #[.pointer (some ⟨g, 0, none⟩)] w' (EntP σ Hs' xs2)) := Lib.hid (fun w' Hs' h h1 h2 => entries_any w' h h1 h2 HLR.out)
              have HRE := Lib.hid (fun H => reps_ent (H := H) xs2 hok2)
              obtain ⟨L2, hL2⟩ : ∃ L2, xs2.length = L2 := ⟨_, rfl⟩
              have HL2 := Lib.hid hL2
              rw [hL2] at hx4 HROW H0
              simp only [hL2]
              clear hsm hok2 hoy hlk hL2
              have hw1 := hwr.alloc (.cells #[.int .u8 0, .int .u8 0, .int .u8 0, .int .u8 0, .int .u8 0, .int .u8 0, .int .u8 0, .int .u8 0, .int .u8 0, .int .u8 0, .int .u8 0, .int .u8 0, .int .u8 0, .int .u8 0, .int .u8 0, .int .u8 0, .int .u8 0, .int .u8 0, .int .u8 0, .int .u8 0, .int .u8 0, .int .u8 0, .int .u8 0, .int .u8 0, .int .u8 0, .int .u8 0, .int .u8 0, .int .u8 0, .int .u8 0, .int .u8 0, .int .u8 0, .int .u8 0] 29)
              have HW1 := Lib.hid hw1
              clear hwr hw1
              go_upto_if 87 with (with_reducible show wpList _ _ _ [{ dst := none, op := _, type := _, pos := _, after := _, guard := _ }] _ _; go_must (refine wpList_store_row rfl 29 (.tmp 11) (.tmp 84) rfl wc.heap.size (outV z32) rfl rfl 29 _ HW1.out.heap (by kernel_rfl) rfl (outV_one _) ?_))
              have hw3 := HW1.out.setRow (outV z32)
              clear HW1
              generalize World.setRow _ _ _ = w3 at *
              generalize wc.heap.size = nh at *
              have HW3 := Lib.hid hw3
              clear hw3
              go_cut [11] (fun hv wc => hv = .pointer (some ⟨nh, 0, none⟩) ∧ Sat σ wc (Hp.one nh (.cells (outV sm) 29 (0, 0)) :: Y3 :: G :: N :: Hs))
              case first =>
                -- done<
                by_cases h0 : L2 = 0
                · have h0i : ¬ (0 : Int) < L2 := by omega
                  have e0 := H0.out h0
                  rw [e0] at HW3
                  clear h0 e0 H0 HROW
                  go_wp2_with fail
                  go_meet
                  exact ⟨rfl, HW3.out⟩
                · obtain ⟨q, b9, off9, hq, rfl, hrow⟩ := HROW.out h0
                  have HRG := Lib.hid (hrow _ _ HW3.out (List.mem_cons_of_mem _ List.mem_cons_self))
                  have h0i : (0 : Int) < L2 := by omega
                  have mk : IntKind.i64.wrap ((L2 : Int) - 1) = (q : Int) := by rw [IntWalk.i64_in _ (by omega)]; omega
                  have hqi : (q : Int) < L2 := by omega
                  have hq0 : (0 : Int) ≤ q := by omega
                  have hos : (outV sm).size = 32 := by rw [outV_size, hls]
                  clear h0 hrow H0 HROW hq
                  go_wp2_with (first
                    | (with_reducible show wpList _ _ _ [_, _] _ _; refine wpList_load_mid rfl 29 (.tmp 93) rfl b9 (off9 + q * 34 + 2) rfl (outV sm).toList _ HRG.out Tryd.underlying29 rfl (by rw [Array.length_toList, hos]; kernel_rfl) ?_)
                    | (with_reducible show wpList _ _ _ [{ dst := none, op := _, type := _, pos := _, after := _, guard := _ }] _ _; go_must (refine wpList_store_row rfl 29 (.tmp 11) (.tmp 94) rfl nh (outV sm) rfl rfl 29 _ HW3.out.heap (by rw [hos]; kernel_rfl) (by rw [hos]; kernel_rfl) (outV_one _) ?_)))
                  have hw4 := HW3.out.setRow (outV sm)
                  go_meet
                  exact ⟨rfl, hw4⟩
                -- done>
              case rest =>
                obtain ⟨rfl, hwr⟩ := hcut
                clear HW3 HROW H0
                go_wp2_with fail
                refine (HEN.out _ _ hwr (List.mem_cons_of_mem _ (List.mem_cons_of_mem _ List.mem_cons_self)) (List.mem_cons_of_mem _ (List.mem_cons_of_mem _ (List.mem_cons_of_mem _ List.mem_cons_self)))).mono ?_
                rintro e w6 ⟨v6, E6, rfl, hw6, ho6⟩
                obtain ⟨A6, c6, e6, _⟩ := ho6.slice
                rw [HL2.out] at e6
                subst e6
                have hs6 := ho6.isSl (d := kE) (HRE.out _) rfl (Hp.le_refl _)
                have HOWN : Hid (0 < L2 → ∃ ge cur, A6 = some ⟨ge, 0, none⟩ ∧ E6 ge = some (.cells cur 32 (0, 0)) ∧ L2 * 34 ≤ cur.size) := Lib.hid (fun h0 => by
                  rcases ho6.out.2 with ⟨e, h⟩ | ⟨ge, cap, cur, e, h1, h2, _, h3, _⟩
                  · have := HL2.out; omega
                  · injection e with e _ _
                    exact ⟨ge, cur, e, h1, by rw [h3]; have := HL2.out; omega⟩)
                have HSM : Hid (∀ w', Sat σ w' (E6 :: Hp.one nh (.cells (outV sm) 29 (0, 0)) :: Y3 :: G :: N :: Hs) → Calls Tryd.prog 11 #[.slice A6 L2 c6, .slice A3 L2 c3] w' fun e w2 => e = .returned (.bool true) ∧ Sat σ w2 (E6 :: Hp.one nh (.cells (outV sm) 29 (0, 0)) :: Y3 :: G :: N :: Hs)) := Lib.hid (by
                  have h5 := HSL.out
                  rw [HL2.out] at h5
                  exact fun w' h => HSM0.out _ _ w' _ E6 Y3 h List.mem_cons_self (List.mem_cons_of_mem _ (List.mem_cons_of_mem _ List.mem_cons_self)) hs6 h5)
                have HHD2 : Hid (∀ w', Sat σ w' (E6 :: Hp.one nh (.cells (outV sm) 29 (0, 0)) :: Y3 :: G :: N :: Hs) → Calls Tryd.prog 12 #[.pointer (some ⟨g, 0, none⟩)] w' fun e w2 => e = .returned (.agg (outV sm)) ∧ Sat σ w2 (E6 :: Hp.one nh (.cells (outV sm) 29 (0, 0)) :: Y3 :: G :: N :: Hs)) := Lib.hid (fun w' h => HHD.out w' _ h (List.mem_cons_of_mem _ (List.mem_cons_of_mem _ (List.mem_cons_of_mem _ List.mem_cons_self))) (List.mem_cons_of_mem _ (List.mem_cons_of_mem _ (List.mem_cons_of_mem _ (List.mem_cons_of_mem _ List.mem_cons_self)))))
                have HSH : Hid (∀ W Hs', Sat σ W Hs' → Hp.one nh (.cells (outV sm) 29 (0, 0)) ∈ Hs' → W.rangeAt nh 0 (outV sm).toList) := Lib.hid (fun W Hs' h hm j v hv => h.cellAt hm ((Hp.one_cell _ _ _ _).trans (by rw [Nat.zero_add]; simpa using hv)))
                have hi29 : (Tryd.prog.info? 29).map (·.size) = some (outV sm).toList.length := by rw [Array.length_toList, outV_size, hls]; kernel_rfl
                have heq : ∀ W, (Op.equalIn 10000 29 (.agg (outV sm)) (.agg (outV sm))).run Tryd.prog W = .ok true W := fun W => by
                  have := arr_eqd 9998 sm sm hls hls W
                  rw [decide_eq_true rfl] at this
                  exact this
                have HW6 := Lib.hid hw6
                clear hwr hw6 hs6 ho6 HEN HSM0 HHD HRE
                go_upto_region 24 with fail
                refine wp_region_held_drew (S := fun W => W.rangeAt nh 0 (outV sm).toList) (by kernel_rfl) (HSH.out _ _ HW6.out.drew (List.mem_cons_of_mem _ List.mem_cons_self)) (fun hS0 => ?_)
                (try simp only [Act.put, List.getElem_toArray, List.getElem_cons_succ, List.getElem_cons_zero, List.setIfInBounds_toArray, List.set_cons_zero, List.set_cons_succ, Array.toArray_toList])
                refine wpAnyH_take (i := 0) (v := ?_) rfl (by kernel_rfl) (by kernel_rfl) (by kernel_rfl) (fun _ _ _ h => h) (Or.inl ⟨by kernel_rfl, ?_⟩) hS0 ?_
                rotate_left
                · intro w hSw; clear hSw; go_simp; (try with_reducible rfl)
                (try simp only [Act.put, List.getElem_toArray, List.getElem_cons_succ, List.getElem_cons_zero, List.setIfInBounds_toArray, List.set_cons_zero, List.set_cons_succ, Array.toArray_toList])
                refine wpAnyH_take (i := 1) (v := ?_) rfl (by kernel_rfl) (by kernel_rfl) (by kernel_rfl) (fun _ _ _ h => h) (Or.inl ⟨by kernel_rfl, ?_⟩) hS0 ?_
                rotate_left
                · intro w hSw; clear hSw; go_simp; (try with_reducible rfl)
                (try simp only [Act.put, List.getElem_toArray, List.getElem_cons_succ, List.getElem_cons_zero, List.setIfInBounds_toArray, List.set_cons_zero, List.set_cons_succ, Array.toArray_toList])
                refine wpAnyH_ready (rs := [2]) (by kernel_rfl) (by simp) ?_
                refine AllReadyH.cons rfl (fun K hK => ?_) AllReadyH.nil
                go_simp
                refine (HSM.out _ HW6.out.drew).mono ?_
                rintro e w7 ⟨rfl, hw7⟩
                (try go_wp2_with fail)
                refine hK.out _ _ (HSH.out _ _ hw7 (List.mem_cons_of_mem _ List.mem_cons_self)) (fun hS1 => ?_)
                clear hK K
                (try simp only [Act.put, List.getElem_toArray, List.getElem_cons_succ, List.getElem_cons_zero, List.setIfInBounds_toArray, List.set_cons_zero, List.set_cons_succ, Array.toArray_toList])
                refine wpAnyH_take (i := 3) (v := ?_) rfl (by kernel_rfl) (by kernel_rfl) (by kernel_rfl) (fun _ _ _ h => h) (Or.inl ⟨by kernel_rfl, ?_⟩) hS1 ?_
                rotate_left
                · intro w hSw; clear hSw; go_simp; (try with_reducible rfl)
                (try simp only [Act.put, List.getElem_toArray, List.getElem_cons_succ, List.getElem_cons_zero, List.setIfInBounds_toArray, List.set_cons_zero, List.set_cons_succ, Array.toArray_toList])
                refine wpAnyH_take (i := 4) (v := ?_) rfl (by kernel_rfl) (by kernel_rfl) (by kernel_rfl) (fun _ _ _ h => h) (Or.inl ⟨by kernel_rfl, ?_⟩) hS1 ?_
                rotate_left
                · intro w hSw; clear hSw; go_simp; (try with_reducible rfl)
                (try simp only [Act.put, List.getElem_toArray, List.getElem_cons_succ, List.getElem_cons_zero, List.setIfInBounds_toArray, List.set_cons_zero, List.set_cons_succ, Array.toArray_toList])
                refine wpAnyH_take (i := 5) (v := ?_) rfl (by kernel_rfl) (by kernel_rfl) (by kernel_rfl) (fun _ _ _ h => h) (Or.inl ⟨by kernel_rfl, ?_⟩) hS1 ?_
                rotate_left
                · intro w hSw; clear hSw; go_simp; (try with_reducible rfl)
                (try simp only [Act.put, List.getElem_toArray, List.getElem_cons_succ, List.getElem_cons_zero, List.setIfInBounds_toArray, List.set_cons_zero, List.set_cons_succ, Array.toArray_toList])
                refine wpAnyH_take (i := 7) rfl (by kernel_rfl) (by kernel_rfl) (by kernel_rfl) (fun _ _ _ h => h) (yieldsIf_load_mid (by kernel_rfl) _ _ rfl _ _ rfl ((outV sm).toList) _ (fun w h => h) Tryd.underlying29 rfl hi29) hS1 ?_
                (try simp only [Act.put, List.getElem_toArray, List.getElem_cons_succ, List.getElem_cons_zero, List.setIfInBounds_toArray, List.set_cons_zero, List.set_cons_succ, Array.toArray_toList])
                refine wpAnyH_ready (rs := [6]) (by kernel_rfl) (by simp) ?_
                refine AllReadyH.cons rfl (fun K hK => ?_) AllReadyH.nil
                go_simp
                refine (HHD2.out _ hw7).mono ?_
                rintro e w8 ⟨rfl, hw8⟩
                (try go_wp2_with fail)
                refine hK.out _ _ (HSH.out _ _ hw8 (List.mem_cons_of_mem _ List.mem_cons_self)) (fun hS2 => ?_)
                clear hK K
                (try simp only [Act.put, List.getElem_toArray, List.getElem_cons_succ, List.getElem_cons_zero, List.setIfInBounds_toArray, List.set_cons_zero, List.set_cons_succ, Array.toArray_toList])
                refine wpAnyH_take (i := 8) (v := ?_) rfl (by kernel_rfl) (by kernel_rfl) (by kernel_rfl) (fun _ _ _ h => h) (Or.inl ⟨by kernel_rfl, ?_⟩) hS2 ?_
                rotate_left
                · intro w hSw; clear hSw; go_simp; (try with_reducible rfl)
                (try simp only [Act.put, List.getElem_toArray, List.getElem_cons_succ, List.getElem_cons_zero, List.setIfInBounds_toArray, List.set_cons_zero, List.set_cons_succ, Array.toArray_toList])
                refine wpAnyH_take (i := 9) (v := ?_) rfl (by kernel_rfl) (by kernel_rfl) (by kernel_rfl) (fun _ _ _ h => h) (Or.inl ⟨by kernel_rfl, ?_⟩) hS2 ?_
                rotate_left
                · intro w hSw; clear hSw; go_simp; (try with_reducible rfl)
                (try simp only [Act.put, List.getElem_toArray, List.getElem_cons_succ, List.getElem_cons_zero, List.setIfInBounds_toArray, List.set_cons_zero, List.set_cons_succ, Array.toArray_toList])
                refine wpAnyH_done (by kernel_rfl) ?_ _
                clear hS0 hS1 hS2 HSM HHD2 HSH hi29 heq hw7 HW6
                go_wp2_with fail
                go_loopw [13] (fun i wr => ∃ (q : Nat) (E : Hp), q ≤ L2 ∧ i = .int .i64 q ∧ Sat σ wr (E :: Hp.one nh (.cells (outV sm) 29 (0, 0)) :: Y3 :: G :: N :: Hs) ∧ Eager (0 < L2 → ∃ ge cur, A6 = some ⟨ge, 0, none⟩ ∧ E ge = some (.cells cur 32 (0, 0)) ∧ L2 * 34 ≤ cur.size)) (fun i _ => L2 - (intOf i).toNat)
                case atStart => exact ⟨0, E6, by omega, rfl, hw8, ⟨HOWN.out⟩⟩
                case round =>
                  obtain ⟨q, E, hq, rfl, hwl, hb⟩ := hrel
                  clear hw8 HOWN
                  by_cases hql : q < L2
                  · obtain ⟨ge, cur, rfl, hE, hsz⟩ := hb.out (by omega)
                    have hqi : (q : Int) < L2 := by omega
                    have hq0 : (0 : Int) ≤ q := by omega
                    have hqc : q * 34 + 1 < cur.size := by omega
                    obtain ⟨cv, hcv⟩ : ∃ cv, cur[q * 34 + 1]? = some cv := ⟨_, Array.getElem?_eq_getElem hqc⟩
                    have hcell : wr.cell? ⟨ge, q * 34 + 1, none⟩ = some cv := hwl.m_cell hE hcv
                    have hfree := heap_free (hwl.le _ _ hE) (q * 34 + 1)
                    have hbl := hwl.lt List.mem_cons_self hE
                    have HU := Lib.hid (hwl.upd hE (o := q * 34 + 1) (.string ⟨#[115, 112, 111, 105, 108, 116]⟩))
                    have HN : Hid (∃ ge' cur', (some ⟨ge, 0, none⟩ : Option Addr) = some ⟨ge', 0, none⟩ ∧ (Hp.upd E ge (.cells (cur.setIfInBounds (q * 34 + 1) (.string ⟨#[115, 112, 111, 105, 108, 116]⟩)) 32 (0, 0))) ge' = some (.cells cur' 32 (0, 0)) ∧ L2 * 34 ≤ cur'.size) := Lib.hid ⟨ge, _, rfl, Hp.upd_self _ _ _, by rw [Array.size_setIfInBounds]; exact hsz⟩
                    clear hb hE hsz hwl hqc hcv
                    go_wp2
                    go_roundw
                    case measure => simp [intOf]; omega
                    case rel => exact ⟨q + 1, _, by omega, by go_num, HU.out, ⟨fun _ => HN.out⟩⟩
                  · obtain rfl : q = L2 := by omega
                    clear hb
                    go_wp2
                    go_roundw
                    case measure => simp [intOf]; omega
                    case rel => exact ⟨k + 1, g, xs2, G, N, Y3, A3, c3, HKL.out, rfl, by rw [HL2.out], by go_num, hwl.drop.drop.down2, ⟨HLR.out, HOY.out⟩⟩
    · obtain rfl : k = ns.length := by omega
      have hwz := hwr.alloc (.cells #[.slice none 0 0, .bool false] 42)
      have HWZ := Lib.hid hwz
      clear hwr hwz HLR HOY HOK hlt
      go_wp2_with fail
      have hwz := HWZ.out
      clear HWZ
      generalize World.alloc wr _ = w2 at *
      generalize wr.heap.size = nz at *
      refine (aadd_zero 1 ⟨#[97]⟩ w2 hwz List.mem_cons_self).mono ?_
      rintro e w3 ⟨rfl, hw3⟩
      have HW3 := Lib.hid (hw3.alloc (.cells #[.int .i64 0, .string ⟨#[]⟩, .int .u8 0, .int .u8 0, .int .u8 0, .int .u8 0, .int .u8 0, .int .u8 0, .int .u8 0, .int .u8 0, .int .u8 0, .int .u8 0, .int .u8 0, .int .u8 0, .int .u8 0, .int .u8 0, .int .u8 0, .int .u8 0, .int .u8 0, .int .u8 0, .int .u8 0, .int .u8 0, .int .u8 0, .int .u8 0, .int .u8 0, .int .u8 0, .int .u8 0, .int .u8 0, .int .u8 0, .int .u8 0, .int .u8 0, .int .u8 0, .int .u8 0, .int .u8 0] 32))
      clear hwz hw3
      go_wp2_with (with_reducible show wpList _ _ _ [_, _] _ _; (refine wpList_store_row rfl 32 (.tmp 16) (.tmp 119) rfl w3.heap.size (EA ent0) rfl rfl 32 _ HW3.out.heap (by kernel_rfl) rfl (EA_one _) ?_))
      have hw4 := (HW3.out.setRow (EA ent0)).drop
      clear HW3
      generalize World.setRow _ _ _ = w4 at *
      refine (aadd_nil 1 ⟨#[97]⟩ w4 hw4).mono ?_
      rintro e w5 ⟨rfl, hw5⟩
      have HW5 := Lib.hid (hw5.alloc (.cells #[.int .i64 0, .string ⟨#[]⟩, .int .u8 0, .int .u8 0, .int .u8 0, .int .u8 0, .int .u8 0, .int .u8 0, .int .u8 0, .int .u8 0, .int .u8 0, .int .u8 0, .int .u8 0, .int .u8 0, .int .u8 0, .int .u8 0, .int .u8 0, .int .u8 0, .int .u8 0, .int .u8 0, .int .u8 0, .int .u8 0, .int .u8 0, .int .u8 0, .int .u8 0, .int .u8 0, .int .u8 0, .int .u8 0, .int .u8 0, .int .u8 0, .int .u8 0, .int .u8 0, .int .u8 0, .int .u8 0] 32))
      clear hw4 hw5
      go_upto_region 34 with (with_reducible show wpList _ _ _ [_, _] _ _; (refine wpList_store_row rfl 32 (.tmp 18) (.tmp 124) rfl w5.heap.size (EA ent0) rfl rfl 32 _ HW5.out.heap (by kernel_rfl) rfl (EA_one _) ?_))
      have hw6 := (HW5.out.setRow (EA ent0)).drop
      clear HW5
      generalize World.setRow _ _ _ = w6 at *
      have HE1 : Hid (∀ w', Sat σ w' (Hp.one nz (.cells #[.slice none 0 0, .bool false] 42 (0, 0)) :: G :: N :: Y :: Hs) → Calls Tryd.prog 10 #[.pointer (some ⟨nz, 0, none⟩)] w' fun e w2 => e = .returned (.slice none 0 0) ∧ Sat σ w2 (Hp.one nz (.cells #[.slice none 0 0, .bool false] 42 (0, 0)) :: G :: N :: Y :: Hs)) := Lib.hid (fun w' h => entries_zero w' h List.mem_cons_self)
      have HE2 : Hid (∀ w', Sat σ w' (Hp.one nz (.cells #[.slice none 0 0, .bool false] 42 (0, 0)) :: G :: N :: Y :: Hs) → Calls Tryd.prog 10 #[.pointer none] w' fun e w2 => e = .returned (.slice none 0 0) ∧ Sat σ w2 (Hp.one nz (.cells #[.slice none 0 0, .bool false] 42 (0, 0)) :: G :: N :: Y :: Hs)) := Lib.hid (fun w' h => entries_nil w' h)
      have HD1 : Hid (∀ w', Sat σ w' (Hp.one nz (.cells #[.slice none 0 0, .bool false] 42 (0, 0)) :: G :: N :: Y :: Hs) → Calls Tryd.prog 12 #[.pointer (some ⟨nz, 0, none⟩)] w' fun e w2 => e = .returned (.agg (outV z32)) ∧ Sat σ w2 (Hp.one nz (.cells #[.slice none 0 0, .bool false] 42 (0, 0)) :: G :: N :: Y :: Hs)) := Lib.hid (fun w' h => head_zero w' h List.mem_cons_self)
      have HD2 : Hid (∀ w', Sat σ w' (Hp.one nz (.cells #[.slice none 0 0, .bool false] 42 (0, 0)) :: G :: N :: Y :: Hs) → Calls Tryd.prog 12 #[.pointer none] w' fun e w2 => e = .returned (.agg (outV z32)) ∧ Sat σ w2 (Hp.one nz (.cells #[.slice none 0 0, .bool false] 42 (0, 0)) :: G :: N :: Y :: Hs)) := Lib.hid (fun w' h => head_nil w' h)
      have HC1 : Hid (∀ w', Sat σ w' (Hp.one nz (.cells #[.slice none 0 0, .bool false] 42 (0, 0)) :: G :: N :: Y :: Hs) → Calls Tryd.prog 14 #[.pointer (some ⟨nz, 0, none⟩)] w' fun e w2 => e = .returned (.pointer none) ∧ Sat σ w2 (Hp.one nz (.cells #[.slice none 0 0, .bool false] 42 (0, 0)) :: G :: N :: Y :: Hs)) := Lib.hid (fun w' h => clone_zero w' h List.mem_cons_self)
      have HC2 : Hid (∀ w', Sat σ w' (Hp.one nz (.cells #[.slice none 0 0, .bool false] 42 (0, 0)) :: G :: N :: Y :: Hs) → Calls Tryd.prog 14 #[.pointer none] w' fun e w2 => e = .returned (.pointer none) ∧ Sat σ w2 (Hp.one nz (.cells #[.slice none 0 0, .bool false] 42 (0, 0)) :: G :: N :: Y :: Hs)) := Lib.hid (fun w' h => clone_nil w' h)
      have hmh : H ∈ (Hp.one nz (.cells #[.slice none 0 0, .bool false] 42 (0, 0)) :: G :: N :: Y :: Hs) := List.mem_cons_of_mem _ (List.mem_cons_of_mem _ (List.mem_cons_of_mem _ (List.mem_cons_of_mem _ hH)))
      have HLN : Hid (∀ w', Sat σ w' (Hp.one nz (.cells #[.slice none 0 0, .bool false] 42 (0, 0)) :: G :: N :: Y :: Hs) → Calls Tryd.prog 17 #[.int .i64 7, .string ⟨#[113]⟩] w' fun e w2 => e = .returned (.string ⟨#[55, 32, 113]⟩) ∧ Sat σ w2 (Hp.one nz (.cells #[.slice none 0 0, .bool false] 42 (0, 0)) :: G :: N :: Y :: Hs)) := Lib.hid (fun w' h => by rw [← line7]; exact HLINE.out w' _ h hmh)
      have HWK2 : Hid (∀ w', Sat σ w' (Hp.one nz (.cells #[.slice none 0 0, .bool false] 42 (0, 0)) :: G :: N :: Y :: Hs) → Calls Tryd.prog 8 #[] w' fun e w2 => e = .returned (.bool true) ∧ Sat σ w2 (Hp.one nz (.cells #[.slice none 0 0, .bool false] 42 (0, 0)) :: G :: N :: Y :: Hs)) := Lib.hid (fun w' h => HWK.out w' _ h hmh)
      have heqz : ∀ W, (Op.equalIn 10000 29 (.agg (outV z32)) (.agg #[.int .u8 0, .int .u8 0, .int .u8 0, .int .u8 0, .int .u8 0, .int .u8 0, .int .u8 0, .int .u8 0, .int .u8 0, .int .u8 0, .int .u8 0, .int .u8 0, .int .u8 0, .int .u8 0, .int .u8 0, .int .u8 0, .int .u8 0, .int .u8 0, .int .u8 0, .int .u8 0, .int .u8 0, .int .u8 0, .int .u8 0, .int .u8 0, .int .u8 0, .int .u8 0, .int .u8 0, .int .u8 0, .int .u8 0, .int .u8 0, .int .u8 0, .int .u8 0])).run Tryd.prog W = .ok true W := fun W => by
        have := arr_eqd 9998 z32 z32 rfl rfl W
        rw [decide_eq_true rfl] at this
        exact this
      go_wp2_with (first
        | (go_at_call 10; first | (with_reducible refine (HE1.out _ (by assumption)).mono ?_; rintro e wn ⟨rfl, hwn⟩) | (with_reducible refine (HE2.out _ (by assumption)).mono ?_; rintro e wn ⟨rfl, hwn⟩))
        | (go_at_call 12; first | (with_reducible refine (HD1.out _ (by assumption)).mono ?_; rintro e wn ⟨rfl, hwn⟩) | (with_reducible refine (HD2.out _ (by assumption)).mono ?_; rintro e wn ⟨rfl, hwn⟩))
        | (go_at_call 14; first | (with_reducible refine (HC1.out _ (by assumption)).mono ?_; rintro e wn ⟨rfl, hwn⟩) | (with_reducible refine (HC2.out _ (by assumption)).mono ?_; rintro e wn ⟨rfl, hwn⟩))
        | (go_at_call 17; refine (HLN.out _ (by assumption)).mono ?_; rintro e wn ⟨rfl, hwn⟩)
        | (go_at_call 8; refine (HWK2.out _ (by assumption)).mono ?_; rintro e wn ⟨rfl, hwn⟩))
      go_ret
      exact ⟨rfl, hwn.drop.drop.drop.drop⟩
end
end Go.Proofs.YteggcfcjajpcgaaDoor
