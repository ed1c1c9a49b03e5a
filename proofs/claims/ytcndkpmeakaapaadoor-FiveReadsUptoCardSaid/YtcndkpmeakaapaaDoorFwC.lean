/- Walks of the reference: Greeting, Login. -/
import Derived.Test.YtcndkpmeakaapaaDoorFwB
set_option linter.unusedVariables false
set_option linter.unusedSimpArgs false
namespace Go.Proofs.YtcndkpmeakaapaaDoor
open Go Go.RowKit
section
variable {σ w w' : World} {Hs : List Hp} {H H1 H2 M N Y R E X HB : Hp}
set_option maxHeartbeats 4000000
-- a Bad comes back of a call (its chain ER), goes into a cell of its own: slot TT, of value slot TV; RG the region behind; hw2 : Sat σ w2 (pieces)
-- the fault is told: x of it, HX1 its length
def RGrP (σ : World) (Hs : List Hp) (o : List Int × Int) (er : Option (Ch × Int)) (e : Ending) (w' : World) : Prop := ∃ v N, e = .returned (.tuple #[v, .int .i64 o.2, .agg (BE er)]) ∧ Sat σ w' (N :: Hs) ∧ (Kd.int .i64).IsSl N v o.1
theorem RGrP.mk {o : List Int × Int} {er : Option (Ch × Int)} {e : Ending} (v : Value) (N : Hp) (h1 : e = .returned (.tuple #[v, .int .i64 o.2, .agg (BE er)])) (h2 : Sat σ w' (N :: Hs)) (h3 : (Kd.int .i64).IsSl N v o.1) : RGrP σ Hs o er e w' := ⟨v, N, h1, h2, h3⟩
set_option maxRecDepth 10000 in
theorem rgreeting_any (bv : Value) (bs : List Int) (hbs : ∀ x ∈ bs, 0 ≤ x ∧ x < 256) (w : World) (hw : Sat σ w Hs) (hB : HB ∈ Hs) (hb : kB.IsSl HB bv bs) :
    Calls Tryd.prog 17 #[bv] w (RGrP σ Hs (grO bs) (gr2 bs).2.err) := by
  obtain ⟨A, c, rfl, hc1, hc2, _⟩ := id hb.form
  have HVE := Lib.hid (fun w' Hs' (h : Sat σ w' Hs') (hm : HB ∈ Hs') => rversion_any _ bs 5 w' h hm hb)
  have HTX := Lib.hid (fun w' Hs' (h : Sat σ w' Hs') (hm : HB ∈ Hs') => rtext_any _ bs hbs 1 (by decide) 255 w' h hm hb)
  have HVL := Lib.hid (fun x => @versL_len bs 5 x)
  have HTL := Lib.hid (fun x => @txR_len bs hbs 255 1 x)
  have HT1 := Lib.hid (fun x => @gr_vbad bs x)
  have HT2 := Lib.hid (fun s n x => @gr_tbad bs x s n)
  have HT3 := Lib.hid (fun s n => @gr_fine bs s n)
  have HSZT := text_size hbs 255 ⟨1, none⟩
  have htz : (txR bs 255 1).1.size ≤ 1000 := by
    unfold txR
    split
    · exact HSZT
    · exact Nat.zero_le _
  have hwa := hw.alloc (.cells #[.int .i64 0, .string ⟨#[]⟩, .string ⟨#[]⟩, .string ⟨#[]⟩, .string ⟨#[]⟩, .int .i64 0, .int .i64 0, .int .i64 0, .int .i64 0, .int .i64 0] 41)
  unfold RTextP at HTX
  rw [show ((1 : Nat) : Int) = 1 from rfl] at HTX
  clear hb HSZT
  generalize (versL bs 5 st0).err = er at *
  generalize txR bs 255 1 = tx at *
  generalize grO bs = o at *
  generalize (gr2 bs).2.err = e2 at *
  obtain ⟨s, en, et⟩ := tx
  go_enter Tryd.func17, Tryd.ntmps17
  go_wp2_with fail
  generalize w.heap.size = nb at *
  generalize hwx : World.alloc _ _ = wx at *
  clear hwx
  refine (HVE.out _ _ hwa (by simp [hB])).mono ?_
  rintro e w2 ⟨rfl, hw2⟩
  clear hwa HVE
  have hw3 := hw2.alloc (.cells #[.int .i64 0, .string ⟨#[]⟩, .string ⟨#[]⟩, .string ⟨#[]⟩, .string ⟨#[]⟩, .int .i64 0, .int .i64 0, .int .i64 0, .int .i64 0, .int .i64 0] 41)
  generalize hn9 : w2.heap.size = n9 at *
  have HW3 := Lib.hid hw3
  have HB1 := Lib.hid (BE_full er)
  have HG1 := Lib.hid (BE_get er)
  have hw5 := hw3.setRow (BE er)
  generalize hB1 : BE er = B1 at *
  have HBE := Lib.hid hB1
  clear hB1 hw2 hw3
  go_upto_region 2 with (with_reducible show wpList _ _ _ [{ dst := none, op := _, type := _, pos := _, after := _, guard := _ }] _ _; go_must (refine wpList_store_row rfl 41 (.tmp 5) (.tmp 12) rfl n9 B1 rfl rfl 41 _ HW3.out.heap HB1.out.2.1 HB1.out.2.2.1 HB1.out.2.2.2 ?_))
  generalize hw5e : World.setRow _ _ _ = w5 at *
  clear hw5e hn9 HW3
  have k0 : w5.cell? ⟨n9, 0, none⟩ = some (.int .i64 ((chE er).length : Nat)) := hw5.one_cell HG1.out
  have HSE : Hid (∀ W Ls, Sat σ W Ls → Hp.one n9 (.cells B1 41 (0, 0)) ∈ Ls → W.rangeAt n9 0 B1.toList) := Lib.hid (fun W Ls h hm j v hv => h.cellAt hm ((Hp.one_cell _ _ _ _).trans (by rw [Nat.zero_add]; simpa using hv)))
  cases er with
  | some x =>
    obtain ⟨h1, h2⟩ := HT1.out x rfl
    have HR := Lib.hid (And.intro h1 h2)
    have HX1 := Lib.hid (HVL.out x rfl)
    clear h1 h2 HT1 HT2 HT3 HTX HTL
    have k0' : w5.cell? ⟨n9, 0, none⟩ = some (.int .i64 1) := by rw [k0]; show some (Value.int .i64 ((x.1.length : Nat) : Int)) = _; rw [HX1.out]; rfl
    clear k0
    have hwn := hw5.drew.swap
    go_upto_region 3 with fail
    refine wp_region_held_drew (S := fun W => W.rangeAt n9 0 B1.toList) (by kernel_rfl) (HSE.out _ _ hw5.drew (by simp)) (fun hS0 => ?_)
    (try simp only [Act.put, List.getElem_toArray, List.getElem_cons_succ, List.getElem_cons_zero, List.setIfInBounds_toArray, List.set_cons_zero, List.set_cons_succ, Array.toArray_toList])
    refine wpAnyH_take (i := 0) rfl (by kernel_rfl) (by kernel_rfl) (by kernel_rfl) (fun _ _ _ h => h) (yieldsIf_load_mid (by kernel_rfl) _ _ rfl _ _ rfl (B1.toList) _ (fun w h => h) Tryd.underlying41 rfl HB1.out.1) hS0 ?_
    (try simp only [Act.put, List.getElem_toArray, List.getElem_cons_succ, List.getElem_cons_zero, List.setIfInBounds_toArray, List.set_cons_zero, List.set_cons_succ, Array.toArray_toList])
    refine wpAnyH_take (i := 1) (v := ?_) rfl (by kernel_rfl) (by kernel_rfl) (by kernel_rfl) (fun _ _ _ h => h) (Or.inl ⟨by kernel_rfl, ?_⟩) hS0 ?_
    rotate_left
    · intro w hSw; clear hSw; go_simp; (try with_reducible rfl)
    (try simp only [Act.put, List.getElem_toArray, List.getElem_cons_succ, List.getElem_cons_zero, List.setIfInBounds_toArray, List.set_cons_zero, List.set_cons_succ, Array.toArray_toList])
    refine wpAnyH_take (i := 2) (v := ?_) rfl (by kernel_rfl) (by kernel_rfl) (by kernel_rfl) (fun _ _ _ h => h) (Or.inl ⟨by kernel_rfl, ?_⟩) hS0 ?_
    rotate_left
    · intro w hSw; clear hSw; go_simp; (try with_reducible rfl)
    (try simp only [Act.put, List.getElem_toArray, List.getElem_cons_succ, List.getElem_cons_zero, List.setIfInBounds_toArray, List.set_cons_zero, List.set_cons_succ, Array.toArray_toList])
    refine wpAnyH_ready (rs := [3]) (by kernel_rfl) (by simp) ?_
    refine AllReadyH.cons rfl (fun K2 hK2 => ?_) AllReadyH.nil
    refine step_store_row rfl 41 (.tmp 4) (.tmp 16) rfl nb B1 rfl rfl 41 _ hwn.heap HB1.out.2.1 HB1.out.2.2.1 HB1.out.2.2.2 ?_
    have hw13 := hwn.setRow B1
    refine hK2.out _ _ (HSE.out _ _ hw13 (by simp)) (fun hS1 => ?_)
    clear hK2 K2
    (try simp only [Act.put, List.getElem_toArray, List.getElem_cons_succ, List.getElem_cons_zero, List.setIfInBounds_toArray, List.set_cons_zero, List.set_cons_succ, Array.toArray_toList])
    refine wpAnyH_done (by kernel_rfl) ?_ _
    generalize hW12 : World.setRow _ _ _ = w13 at *
    clear hW12
    (try simp only [Exit.inBlock, Exit.then])
    go_wp2
    refine bodyPost_ret (results_tmp2_cell rfl _ _ nb _ B1 _ _ rfl hw13.heap Tryd.underlying41 rfl HB1.out.2.1) rfl ?_
    rw [HR.out.1, HR.out.2]
    exact RGrP.mk _ Hp.emp (by rw [HBE.out]; rfl) hw13.drop.drop.emp Kd.IsSl.nil
  | none =>
    have k0' : w5.cell? ⟨n9, 0, none⟩ = some (.int .i64 0) := k0
    clear k0 HSE HB1 HG1 HBE HT1 HVL
    go_wp2_with fail
    refine (HTX.out _ _ hw5 (by simp [hB])).mono ?_
    rintro e w2 ⟨rfl, hw2⟩
    clear hw5 HTX k0'
    have HT2' := Lib.hid (fun x => HT2.out s en x (by trivial))
    have HT3' := Lib.hid (HT3.out s en (by trivial))
    clear HT2 HT3
    have hw3 := hw2.alloc (.cells #[.int .i64 0, .string ⟨#[]⟩, .string ⟨#[]⟩, .string ⟨#[]⟩, .string ⟨#[]⟩, .int .i64 0, .int .i64 0, .int .i64 0, .int .i64 0, .int .i64 0] 41)
    generalize hn9 : w2.heap.size = n10 at *
    have HW3 := Lib.hid hw3
    have HB1 := Lib.hid (BE_full et)
    have HG1 := Lib.hid (BE_get et)
    have hw5 := hw3.setRow (BE et)
    generalize hB1 : BE et = B1 at *
    have HBE := Lib.hid hB1
    clear hB1 hw2 hw3
    go_upto_region 5 with (with_reducible show wpList _ _ _ [{ dst := none, op := _, type := _, pos := _, after := _, guard := _ }] _ _; go_must (refine wpList_store_row rfl 41 (.tmp 8) (.tmp 22) rfl n10 B1 rfl rfl 41 _ HW3.out.heap HB1.out.2.1 HB1.out.2.2.1 HB1.out.2.2.2 ?_))
    generalize hw5e : World.setRow _ _ _ = w7 at *
    clear hw5e hn9 HW3
    have k0 : w7.cell? ⟨n10, 0, none⟩ = some (.int .i64 ((chE et).length : Nat)) := hw5.one_cell HG1.out
    have HSE : Hid (∀ W Ls, Sat σ W Ls → Hp.one n10 (.cells B1 41 (0, 0)) ∈ Ls → W.rangeAt n10 0 B1.toList) := Lib.hid (fun W Ls h hm j v hv => h.cellAt hm ((Hp.one_cell _ _ _ _).trans (by rw [Nat.zero_add]; simpa using hv)))
    cases et with
    | some x =>
      obtain ⟨h1, h2⟩ := HT2'.out x rfl
      have HR := Lib.hid (And.intro h1 h2)
      have HX1 := Lib.hid (HTL.out x rfl)
      clear h1 h2 HT2' HT3'
      have k0' : w7.cell? ⟨n10, 0, none⟩ = some (.int .i64 1) := by rw [k0]; show some (Value.int .i64 ((x.1.length : Nat) : Int)) = _; rw [HX1.out]; rfl
      clear k0
      have hwn := hw5.drew.up2
      go_upto_region 6 with fail
      refine wp_region_held_drew (S := fun W => W.rangeAt n10 0 B1.toList) (by kernel_rfl) (HSE.out _ _ hw5.drew (by simp)) (fun hS0 => ?_)
      (try simp only [Act.put, List.getElem_toArray, List.getElem_cons_succ, List.getElem_cons_zero, List.setIfInBounds_toArray, List.set_cons_zero, List.set_cons_succ, Array.toArray_toList])
      refine wpAnyH_take (i := 0) rfl (by kernel_rfl) (by kernel_rfl) (by kernel_rfl) (fun _ _ _ h => h) (yieldsIf_load_mid (by kernel_rfl) _ _ rfl _ _ rfl (B1.toList) _ (fun w h => h) Tryd.underlying41 rfl HB1.out.1) hS0 ?_
      (try simp only [Act.put, List.getElem_toArray, List.getElem_cons_succ, List.getElem_cons_zero, List.setIfInBounds_toArray, List.set_cons_zero, List.set_cons_succ, Array.toArray_toList])
      refine wpAnyH_take (i := 1) (v := ?_) rfl (by kernel_rfl) (by kernel_rfl) (by kernel_rfl) (fun _ _ _ h => h) (Or.inl ⟨by kernel_rfl, ?_⟩) hS0 ?_
      rotate_left
      · intro w hSw; clear hSw; go_simp; (try with_reducible rfl)
      (try simp only [Act.put, List.getElem_toArray, List.getElem_cons_succ, List.getElem_cons_zero, List.setIfInBounds_toArray, List.set_cons_zero, List.set_cons_succ, Array.toArray_toList])
      refine wpAnyH_take (i := 2) (v := ?_) rfl (by kernel_rfl) (by kernel_rfl) (by kernel_rfl) (fun _ _ _ h => h) (Or.inl ⟨by kernel_rfl, ?_⟩) hS0 ?_
      rotate_left
      · intro w hSw; clear hSw; go_simp; (try with_reducible rfl)
      (try simp only [Act.put, List.getElem_toArray, List.getElem_cons_succ, List.getElem_cons_zero, List.setIfInBounds_toArray, List.set_cons_zero, List.set_cons_succ, Array.toArray_toList])
      refine wpAnyH_ready (rs := [3]) (by kernel_rfl) (by simp) ?_
      refine AllReadyH.cons rfl (fun K2 hK2 => ?_) AllReadyH.nil
      refine step_store_row rfl 41 (.tmp 4) (.tmp 26) rfl nb B1 rfl rfl 41 _ hwn.heap HB1.out.2.1 HB1.out.2.2.1 HB1.out.2.2.2 ?_
      have hw13 := hwn.setRow B1
      refine hK2.out _ _ (HSE.out _ _ hw13 (by simp)) (fun hS1 => ?_)
      clear hK2 K2
      (try simp only [Act.put, List.getElem_toArray, List.getElem_cons_succ, List.getElem_cons_zero, List.setIfInBounds_toArray, List.set_cons_zero, List.set_cons_succ, Array.toArray_toList])
      refine wpAnyH_done (by kernel_rfl) ?_ _
      generalize hW12 : World.setRow _ _ _ = w13 at *
      clear hW12
      (try simp only [Exit.inBlock, Exit.then])
      go_wp2
      refine bodyPost_ret (results_tmp2_cell rfl _ _ nb _ B1 _ _ rfl hw13.heap Tryd.underlying41 rfl HB1.out.2.1) rfl ?_
      rw [HR.out.1, HR.out.2]
      exact RGrP.mk _ Hp.emp (by rw [HBE.out]; rfl) hw13.drop.drop.drop.emp Kd.IsSl.nil
    | none =>
      have k0' : w7.cell? ⟨n10, 0, none⟩ = some (.int .i64 0) := k0
      obtain ⟨h1, h2⟩ := HT3'.out rfl
      have HR := Lib.hid (And.intro h1 h2)
      have hwf := hw5.up2.drop1.drop1
      have hsz : s.size ≤ 1000 := htz
      clear k0 HSE HB1 HG1 HBE HT2' HT3' HTL h1 h2 htz hw5
      have hw8 := hwf.alloc (.cells #[] 3)
      have HO0 := Lib.hid (own_lit0 w7.heap.size 3 1)
      go_wp2
      go_loopw [10, 9] (fun i n wr => ∃ (k : Nat) (A1 : Option Addr) (c1 : Nat) (N : Hp), k ≤ s.size ∧ i = .int .i64 k ∧ n = .slice A1 k c1 ∧ Sat σ wr (N :: Hp.one nb (.cells #[.int .i64 0, .string ⟨#[]⟩, .string ⟨#[]⟩, .string ⟨#[]⟩, .string ⟨#[]⟩, .int .i64 0, .int .i64 0, .int .i64 0, .int .i64 0, .int .i64 0] 41 (0, 0)) :: Hs) ∧ Own N 3 1 (.slice A1 k c1) k (((sbL s).take k).map (Value.int .i64))) (fun i _ _ => s.size - (intOf i).toNat)
      case atStart => exact ⟨0, _, 0, _, by omega, rfl, rfl, hw8, HO0.out⟩
      case round =>
        obtain ⟨k, A1, c1', N, hk, rfl, rfl, hwr, ho⟩ := hrel
        clear hw8 hwf k0'
        by_cases hlt : k < s.size
        · have hki : (k : Int) < s.size := by omega
          have hk0 : (0 : Int) ≤ k := by omega
          have hch := index_str (P := Tryd.prog) 9 Tryd.underlying9 s k hlt k rfl
          obtain ⟨h0, h1⟩ := chS_range s k
          have HPS := Lib.hid (sbL_take_succ s hlt)
          obtain ⟨ch, hce⟩ : ∃ ch, chS s k = ch := ⟨_, rfl⟩
          rw [hce] at hch h0 h1 HPS
          have m1 : IntKind.i64.wrap ch = ch := IntWalk.i64_in _ (by omega)
          clear hce
          go_wp2_with (at_builtin; go_must (refine wpList_app (hwr.alloc' _) rfl (.tmp 34) (.tmp 39) 48 48 3 (.int .i64 0) 1 8 rfl Tryd.underlying48 (by kernel_rfl) rfl (by decide) _ _ k 1 _ [.int .i64 ch] rfl rfl ho (src_new Tryd.underlying48 _ [.int .i64 ch] _ 1 1 1 (by simp) rfl rfl) (by omega) ?_); intro A2 c2 w2 N2 hw2 ho2 _ _)
          go_roundw
          case measure => simp [intOf]; omega
          case rel => exact ⟨k + 1, A2, c2, N2, by omega, by go_num, rfl, hw2, by rw [HPS.out, List.map_append]; exact ho2⟩
        · obtain rfl : k = s.size := by omega
          have HW2 := Lib.hid hwr.swap
          have HSL := Lib.hid (ho.isSl (d := Kd.int .i64) (xs := byL s) (by rw [List.take_of_length_le (by rw [sbL_length]; exact Nat.le_refl _), sbL_byL]; exact ints_reps _) (byL_length s).symm (Hp.le_refl _))
          clear hwr ho
          go_wp2_with (with_reducible show wpList _ _ _ [{ dst := none, op := _, type := _, pos := _, after := _, guard := _ }] _ _; go_must (refine wpList_store_row rfl 41 (.tmp 4) (.tmp 43) rfl nb (BE none) rfl rfl 41 _ HW2.out.heap (BE_row none).1 (BE_row none).2.1 (BE_row none).2.2 ?_))
          have hfin := HW2.out.setRow (BE none)
          (try simp only [Exit.inBlock, Exit.then])
          refine bodyPost_ret (results_tmp2_cell rfl _ _ nb _ (BE none) _ _ rfl hfin.heap Tryd.underlying41 rfl (BE_row none).1) rfl ?_
          rw [HR.out.1, HR.out.2]
          exact RGrP.mk _ N rfl hfin.drop HSL.out
def RLoP (σ : World) (Hs : List Hp) (o : ByteArray × ByteArray × Int) (er : Option (Ch × Int)) (e : Ending) (w' : World) : Prop := e = .returned (.tuple #[.string o.1, .string o.2.1, .int .i64 o.2.2, .agg (BE er)]) ∧ Sat σ w' Hs
theorem RLoP.mk {o : ByteArray × ByteArray × Int} {er : Option (Ch × Int)} {e : Ending} (h1 : e = .returned (.tuple #[.string o.1, .string o.2.1, .int .i64 o.2.2, .agg (BE er)])) (h2 : Sat σ w' Hs) : RLoP σ Hs o er e w' := ⟨h1, h2⟩
set_option maxRecDepth 10000 in
theorem rlogin_any (bv : Value) (bs : List Int) (hbs : ∀ x ∈ bs, 0 ≤ x ∧ x < 256) (w : World) (hw : Sat σ w Hs) (hB : HB ∈ Hs) (hb : kB.IsSl HB bv bs) :
    Calls Tryd.prog 20 #[bv] w (RLoP σ Hs (loO bs) (lo3 bs).2.err) := by
  obtain ⟨A, c, rfl, hc1, hc2, _⟩ := id hb.form
  have HVE := Lib.hid (fun w' Hs' (h : Sat σ w' Hs') (hm : HB ∈ Hs') => rversion_any _ bs 1 w' h hm hb)
  have HTX := Lib.hid (fun k (hk : k ≤ 1000000) w' Hs' (h : Sat σ w' Hs') (hm : HB ∈ Hs') => rtext_any _ bs hbs k hk 255 w' h hm hb)
  have HVL := Lib.hid (fun x => @versL_len bs 1 x)
  have HTL := Lib.hid (fun k x => @txR_len bs hbs 255 k x)
  have HT1 := Lib.hid (fun x => @lo_vbad bs x)
  have HT2 := Lib.hid (fun s n x => @lo_tbad bs x s n)
  have HT3 := Lib.hid (fun s t n a x h ht => @lo_sbad bs x s t n a h ht)
  have HT4 := Lib.hid (fun s t n a h ht => @lo_fine bs s t n a h ht)
  have HFN := Lib.hid (fun s n => @txR_fine bs 255 1 s n)
  have HAT : Hid ((textL bs 255 ⟨1, none⟩).2.at_ ≤ 1 + (1 + 255)) := Lib.hid ((Ex.text ⟨1, none⟩ 255).most bs)
  have hwa := hw.alloc (.cells #[.int .i64 0, .string ⟨#[]⟩, .string ⟨#[]⟩, .string ⟨#[]⟩, .string ⟨#[]⟩, .int .i64 0, .int .i64 0, .int .i64 0, .int .i64 0, .int .i64 0] 41)
  unfold RTextP at HTX
  clear hb
  generalize (versL bs 1 st0).err = er at *
  generalize htx1 : txR bs 255 1 = tx at *
  generalize loO bs = o at *
  generalize (lo3 bs).2.err = e2 at *
  have HTX1 := Lib.hid (HTX.out 1 (by decide))
  have HTL1 := Lib.hid (HTL.out 1)
  rw [htx1, show ((1 : Nat) : Int) = 1 from rfl] at HTX1
  rw [htx1] at HTL1
  clear htx1
  obtain ⟨s, en, et⟩ := tx
  go_enter Tryd.func20, Tryd.ntmps20
  go_wp2_with fail
  generalize w.heap.size = nb at *
  generalize hwx : World.alloc _ _ = wx at *
  clear hwx
  refine (HVE.out _ _ hwa (by simp [hB])).mono ?_
  rintro e w2 ⟨rfl, hw2⟩
  clear hwa HVE
  have hw3 := hw2.alloc (.cells #[.int .i64 0, .string ⟨#[]⟩, .string ⟨#[]⟩, .string ⟨#[]⟩, .string ⟨#[]⟩, .int .i64 0, .int .i64 0, .int .i64 0, .int .i64 0, .int .i64 0] 41)
  generalize hn9 : w2.heap.size = n9 at *
  have HW3 := Lib.hid hw3
  have HB1 := Lib.hid (BE_full er)
  have HG1 := Lib.hid (BE_get er)
  have hw5 := hw3.setRow (BE er)
  generalize hB1 : BE er = B1 at *
  have HBE := Lib.hid hB1
  clear hB1 hw2 hw3
  go_upto_region 2 with (with_reducible show wpList _ _ _ [{ dst := none, op := _, type := _, pos := _, after := _, guard := _ }] _ _; go_must (refine wpList_store_row rfl 41 (.tmp 6) (.tmp 13) rfl n9 B1 rfl rfl 41 _ HW3.out.heap HB1.out.2.1 HB1.out.2.2.1 HB1.out.2.2.2 ?_))
  generalize hw5e : World.setRow _ _ _ = w5 at *
  clear hw5e hn9 HW3
  have k0 : w5.cell? ⟨n9, 0, none⟩ = some (.int .i64 ((chE er).length : Nat)) := hw5.one_cell HG1.out
  have HSE : Hid (∀ W Ls, Sat σ W Ls → Hp.one n9 (.cells B1 41 (0, 0)) ∈ Ls → W.rangeAt n9 0 B1.toList) := Lib.hid (fun W Ls h hm j v hv => h.cellAt hm ((Hp.one_cell _ _ _ _).trans (by rw [Nat.zero_add]; simpa using hv)))
  cases er with
  | some x =>
    obtain ⟨h1, h2⟩ := HT1.out x rfl
    have HR := Lib.hid (And.intro h1 h2)
    have HX1 := Lib.hid (HVL.out x rfl)
    clear h1 h2 HT1 HT2 HT3 HT4 HTX HTX1 HTL HTL1 HFN
    have k0' : w5.cell? ⟨n9, 0, none⟩ = some (.int .i64 1) := by rw [k0]; show some (Value.int .i64 ((x.1.length : Nat) : Int)) = _; rw [HX1.out]; rfl
    clear k0
    have hwn := hw5.drew.swap
    go_upto_region 3 with fail
    refine wp_region_held_drew (S := fun W => W.rangeAt n9 0 B1.toList) (by kernel_rfl) (HSE.out _ _ hw5.drew (by simp)) (fun hS0 => ?_)
    (try simp only [Act.put, List.getElem_toArray, List.getElem_cons_succ, List.getElem_cons_zero, List.setIfInBounds_toArray, List.set_cons_zero, List.set_cons_succ, Array.toArray_toList])
    refine wpAnyH_take (i := 0) rfl (by kernel_rfl) (by kernel_rfl) (by kernel_rfl) (fun _ _ _ h => h) (yieldsIf_load_mid (by kernel_rfl) _ _ rfl _ _ rfl (B1.toList) _ (fun w h => h) Tryd.underlying41 rfl HB1.out.1) hS0 ?_
    (try simp only [Act.put, List.getElem_toArray, List.getElem_cons_succ, List.getElem_cons_zero, List.setIfInBounds_toArray, List.set_cons_zero, List.set_cons_succ, Array.toArray_toList])
    refine wpAnyH_take (i := 1) (v := ?_) rfl (by kernel_rfl) (by kernel_rfl) (by kernel_rfl) (fun _ _ _ h => h) (Or.inl ⟨by kernel_rfl, ?_⟩) hS0 ?_
    rotate_left
    · intro w hSw; clear hSw; go_simp; (try with_reducible rfl)
    (try simp only [Act.put, List.getElem_toArray, List.getElem_cons_succ, List.getElem_cons_zero, List.setIfInBounds_toArray, List.set_cons_zero, List.set_cons_succ, Array.toArray_toList])
    refine wpAnyH_take (i := 2) (v := ?_) rfl (by kernel_rfl) (by kernel_rfl) (by kernel_rfl) (fun _ _ _ h => h) (Or.inl ⟨by kernel_rfl, ?_⟩) hS0 ?_
    rotate_left
    · intro w hSw; clear hSw; go_simp; (try with_reducible rfl)
    (try simp only [Act.put, List.getElem_toArray, List.getElem_cons_succ, List.getElem_cons_zero, List.setIfInBounds_toArray, List.set_cons_zero, List.set_cons_succ, Array.toArray_toList])
    refine wpAnyH_take (i := 3) (v := ?_) rfl (by kernel_rfl) (by kernel_rfl) (by kernel_rfl) (fun _ _ _ h => h) (Or.inl ⟨by kernel_rfl, ?_⟩) hS0 ?_
    rotate_left
    · intro w hSw; clear hSw; go_simp; (try with_reducible rfl)
    (try simp only [Act.put, List.getElem_toArray, List.getElem_cons_succ, List.getElem_cons_zero, List.setIfInBounds_toArray, List.set_cons_zero, List.set_cons_succ, Array.toArray_toList])
    refine wpAnyH_ready (rs := [4]) (by kernel_rfl) (by simp) ?_
    refine AllReadyH.cons rfl (fun K2 hK2 => ?_) AllReadyH.nil
    refine step_store_row rfl 41 (.tmp 5) (.tmp 17) rfl nb B1 rfl rfl 41 _ hwn.heap HB1.out.2.1 HB1.out.2.2.1 HB1.out.2.2.2 ?_
    have hw13 := hwn.setRow B1
    refine hK2.out _ _ (HSE.out _ _ hw13 (by simp)) (fun hS1 => ?_)
    clear hK2 K2
    (try simp only [Act.put, List.getElem_toArray, List.getElem_cons_succ, List.getElem_cons_zero, List.setIfInBounds_toArray, List.set_cons_zero, List.set_cons_succ, Array.toArray_toList])
    refine wpAnyH_done (by kernel_rfl) ?_ _
    generalize hW12 : World.setRow _ _ _ = w13 at *
    clear hW12
    (try simp only [Exit.inBlock, Exit.then])
    go_wp2
    refine bodyPost_ret (results_tmp3_cell rfl _ _ nb _ B1 _ _ rfl hw13.heap Tryd.underlying41 rfl HB1.out.2.1) rfl ?_
    rw [HR.out.1, HR.out.2]
    exact RLoP.mk (by rw [HBE.out]; rfl) hw13.drop.drop
  | none =>
    have k0' : w5.cell? ⟨n9, 0, none⟩ = some (.int .i64 0) := k0
    clear k0 HSE HB1 HG1 HBE HT1 HVL
    go_wp2_with fail
    refine (HTX1.out _ _ hw5 (by simp [hB])).mono ?_
    rintro e w2 ⟨rfl, hw2⟩
    clear hw5 HTX1 k0'
    have HT2' := Lib.hid (fun x => HT2.out s en x (by trivial))
    have HT3' := Lib.hid (fun t n a x ht => HT3.out s t n a x (by trivial) ht)
    have HT4' := Lib.hid (fun t n a ht => HT4.out s t n a (by trivial) ht)
    have HFN' := Lib.hid (HFN.out s en)
    clear HT2 HT3 HT4 HFN
    have hw3 := hw2.alloc (.cells #[.int .i64 0, .string ⟨#[]⟩, .string ⟨#[]⟩, .string ⟨#[]⟩, .string ⟨#[]⟩, .int .i64 0, .int .i64 0, .int .i64 0, .int .i64 0, .int .i64 0] 41)
    generalize hn9 : w2.heap.size = n10 at *
    have HW3 := Lib.hid hw3
    have HB1 := Lib.hid (BE_full et)
    have HG1 := Lib.hid (BE_get et)
    have hw5 := hw3.setRow (BE et)
    generalize hB1 : BE et = B1 at *
    have HBE := Lib.hid hB1
    clear hB1 hw2 hw3
    go_upto_region 5 with (with_reducible show wpList _ _ _ [{ dst := none, op := _, type := _, pos := _, after := _, guard := _ }] _ _; go_must (refine wpList_store_row rfl 41 (.tmp 9) (.tmp 23) rfl n10 B1 rfl rfl 41 _ HW3.out.heap HB1.out.2.1 HB1.out.2.2.1 HB1.out.2.2.2 ?_))
    generalize hw5e : World.setRow _ _ _ = w7 at *
    clear hw5e hn9 HW3
    have k0 : w7.cell? ⟨n10, 0, none⟩ = some (.int .i64 ((chE et).length : Nat)) := hw5.one_cell HG1.out
    have HSE : Hid (∀ W Ls, Sat σ W Ls → Hp.one n10 (.cells B1 41 (0, 0)) ∈ Ls → W.rangeAt n10 0 B1.toList) := Lib.hid (fun W Ls h hm j v hv => h.cellAt hm ((Hp.one_cell _ _ _ _).trans (by rw [Nat.zero_add]; simpa using hv)))
    cases et with
    | some x =>
      obtain ⟨h1, h2⟩ := HT2'.out x rfl
      have HR := Lib.hid (And.intro h1 h2)
      have HX1 := Lib.hid (HTL1.out x rfl)
      clear h1 h2 HT2' HT3' HT4' HFN' HTX HTL HTL1
      have k0' : w7.cell? ⟨n10, 0, none⟩ = some (.int .i64 1) := by rw [k0]; show some (Value.int .i64 ((x.1.length : Nat) : Int)) = _; rw [HX1.out]; rfl
      clear k0
      have hwn := hw5.drew.up2
      go_upto_region 6 with fail
      refine wp_region_held_drew (S := fun W => W.rangeAt n10 0 B1.toList) (by kernel_rfl) (HSE.out _ _ hw5.drew (by simp)) (fun hS0 => ?_)
      (try simp only [Act.put, List.getElem_toArray, List.getElem_cons_succ, List.getElem_cons_zero, List.setIfInBounds_toArray, List.set_cons_zero, List.set_cons_succ, Array.toArray_toList])
      refine wpAnyH_take (i := 0) rfl (by kernel_rfl) (by kernel_rfl) (by kernel_rfl) (fun _ _ _ h => h) (yieldsIf_load_mid (by kernel_rfl) _ _ rfl _ _ rfl (B1.toList) _ (fun w h => h) Tryd.underlying41 rfl HB1.out.1) hS0 ?_
      (try simp only [Act.put, List.getElem_toArray, List.getElem_cons_succ, List.getElem_cons_zero, List.setIfInBounds_toArray, List.set_cons_zero, List.set_cons_succ, Array.toArray_toList])
      refine wpAnyH_take (i := 1) (v := ?_) rfl (by kernel_rfl) (by kernel_rfl) (by kernel_rfl) (fun _ _ _ h => h) (Or.inl ⟨by kernel_rfl, ?_⟩) hS0 ?_
      rotate_left
      · intro w hSw; clear hSw; go_simp; (try with_reducible rfl)
      (try simp only [Act.put, List.getElem_toArray, List.getElem_cons_succ, List.getElem_cons_zero, List.setIfInBounds_toArray, List.set_cons_zero, List.set_cons_succ, Array.toArray_toList])
      refine wpAnyH_take (i := 2) (v := ?_) rfl (by kernel_rfl) (by kernel_rfl) (by kernel_rfl) (fun _ _ _ h => h) (Or.inl ⟨by kernel_rfl, ?_⟩) hS0 ?_
      rotate_left
      · intro w hSw; clear hSw; go_simp; (try with_reducible rfl)
      (try simp only [Act.put, List.getElem_toArray, List.getElem_cons_succ, List.getElem_cons_zero, List.setIfInBounds_toArray, List.set_cons_zero, List.set_cons_succ, Array.toArray_toList])
      refine wpAnyH_take (i := 3) (v := ?_) rfl (by kernel_rfl) (by kernel_rfl) (by kernel_rfl) (fun _ _ _ h => h) (Or.inl ⟨by kernel_rfl, ?_⟩) hS0 ?_
      rotate_left
      · intro w hSw; clear hSw; go_simp; (try with_reducible rfl)
      (try simp only [Act.put, List.getElem_toArray, List.getElem_cons_succ, List.getElem_cons_zero, List.setIfInBounds_toArray, List.set_cons_zero, List.set_cons_succ, Array.toArray_toList])
      refine wpAnyH_ready (rs := [4]) (by kernel_rfl) (by simp) ?_
      refine AllReadyH.cons rfl (fun K2 hK2 => ?_) AllReadyH.nil
      refine step_store_row rfl 41 (.tmp 5) (.tmp 27) rfl nb B1 rfl rfl 41 _ hwn.heap HB1.out.2.1 HB1.out.2.2.1 HB1.out.2.2.2 ?_
      have hw13 := hwn.setRow B1
      refine hK2.out _ _ (HSE.out _ _ hw13 (by simp)) (fun hS1 => ?_)
      clear hK2 K2
      (try simp only [Act.put, List.getElem_toArray, List.getElem_cons_succ, List.getElem_cons_zero, List.setIfInBounds_toArray, List.set_cons_zero, List.set_cons_succ, Array.toArray_toList])
      refine wpAnyH_done (by kernel_rfl) ?_ _
      generalize hW12 : World.setRow _ _ _ = w13 at *
      clear hW12
      (try simp only [Exit.inBlock, Exit.then])
      go_wp2
      refine bodyPost_ret (results_tmp3_cell rfl _ _ nb _ B1 _ _ rfl hw13.heap Tryd.underlying41 rfl HB1.out.2.1) rfl ?_
      rw [HR.out.1, HR.out.2]
      exact RLoP.mk (by rw [HBE.out]; rfl) hw13.drop.drop.drop
    | none =>
      have k0' : w7.cell? ⟨n10, 0, none⟩ = some (.int .i64 0) := k0
      obtain ⟨a, hta, rfl⟩ := HFN'.out rfl
      have ha : a ≤ 1000000 := by
        have h := HAT.out
        rw [hta] at h
        have h' : a ≤ 1 + (1 + 255) := h
        omega
      have HTA := Lib.hid hta
      have HTX2 := Lib.hid (HTX.out a ha)
      have HTL2 := Lib.hid (HTL.out a)
      have HT3a := Lib.hid (fun t n x => HT3'.out t n a x HTA.out)
      have HT4a := Lib.hid (fun t n => HT4'.out t n a HTA.out)
      have hbs1 : B1.size = 10 := by rw [← HBE.out]; rfl
      have HBS1 := Lib.hid hbs1
      clear k0 HSE HB1 HG1 HBE HT2' HT3' HT4' HTL HTL1 HFN' HTX hta ha HAT hbs1
      generalize txR bs 255 a = tx at *
      obtain ⟨t, en, et⟩ := tx
      go_wp2_with fail
      refine (HTX2.out _ _ hw5 (by simp [hB])).mono ?_
      rintro e w8 ⟨rfl, hw8⟩
      clear hw5 HTX2 k0'
      have HW8 := Lib.hid hw8
      have HB2 : Hid ((Tryd.prog.info? 41).map (·.size) = some (BE et).size ∧ B1.size = (BE et).size ∧ (BE et).all (·.oneCell') = true) := Lib.hid ⟨BE_info, by rw [HBS1.out]; rfl, BE_one et⟩
      have HB1 := Lib.hid (BE_full et)
      have HG2 := Lib.hid (BE_get et)
      have hw5 := hw8.setRow (BE et)
      generalize hB2 : BE et = B2 at *
      have HBE := Lib.hid hB2
      clear hw8 hB2
      go_upto_region 8 with (with_reducible show wpList _ _ _ [{ dst := none, op := _, type := _, pos := _, after := _, guard := _ }] _ _; go_must (refine wpList_store_row rfl 41 (.tmp 9) (.tmp 34) rfl n10 B2 rfl rfl 41 _ HW8.out.heap HB2.out.1 HB2.out.2.1 HB2.out.2.2 ?_))
      generalize hw9e : World.setRow _ _ _ = w9 at *
      clear hw9e HW8
      have k0 : w9.cell? ⟨n10, 0, none⟩ = some (.int .i64 ((chE et).length : Nat)) := hw5.one_cell HG2.out
      have HSE : Hid (∀ W Ls, Sat σ W Ls → Hp.one n10 (.cells B2 41 (0, 0)) ∈ Ls → W.rangeAt n10 0 B2.toList) := Lib.hid (fun W Ls h hm j v hv => h.cellAt hm ((Hp.one_cell _ _ _ _).trans (by rw [Nat.zero_add]; simpa using hv)))
      cases et with
      | some x =>
        obtain ⟨h1, h2⟩ := HT3a.out t en x rfl
        have HR := Lib.hid (And.intro h1 h2)
        have hx1 := HTL2.out x rfl
        have k0' : w9.cell? ⟨n10, 0, none⟩ = some (.int .i64 1) := by rw [k0]; show some (Value.int .i64 ((x.1.length : Nat) : Int)) = _; rw [hx1]; rfl
        clear k0 h1 h2 hx1 HT3a HT4a HTL2 HB2 HG2
        have hwn := hw5.drew.up2
        go_upto_region 9 with fail
        refine wp_region_held_drew (S := fun W => W.rangeAt n10 0 B2.toList) (by kernel_rfl) (HSE.out _ _ hw5.drew (by simp)) (fun hS0 => ?_)
        (try simp only [Act.put, List.getElem_toArray, List.getElem_cons_succ, List.getElem_cons_zero, List.setIfInBounds_toArray, List.set_cons_zero, List.set_cons_succ, Array.toArray_toList])
        refine wpAnyH_take (i := 0) rfl (by kernel_rfl) (by kernel_rfl) (by kernel_rfl) (fun _ _ _ h => h) (yieldsIf_load_mid (by kernel_rfl) _ _ rfl _ _ rfl (B2.toList) _ (fun w h => h) Tryd.underlying41 rfl HB1.out.1) hS0 ?_
        (try simp only [Act.put, List.getElem_toArray, List.getElem_cons_succ, List.getElem_cons_zero, List.setIfInBounds_toArray, List.set_cons_zero, List.set_cons_succ, Array.toArray_toList])
        refine wpAnyH_take (i := 1) (v := ?_) rfl (by kernel_rfl) (by kernel_rfl) (by kernel_rfl) (fun _ _ _ h => h) (Or.inl ⟨by kernel_rfl, ?_⟩) hS0 ?_
        rotate_left
        · intro w hSw; clear hSw; go_simp; (try with_reducible rfl)
        (try simp only [Act.put, List.getElem_toArray, List.getElem_cons_succ, List.getElem_cons_zero, List.setIfInBounds_toArray, List.set_cons_zero, List.set_cons_succ, Array.toArray_toList])
        refine wpAnyH_take (i := 2) (v := ?_) rfl (by kernel_rfl) (by kernel_rfl) (by kernel_rfl) (fun _ _ _ h => h) (Or.inl ⟨by kernel_rfl, ?_⟩) hS0 ?_
        rotate_left
        · intro w hSw; clear hSw; go_simp; (try with_reducible rfl)
        (try simp only [Act.put, List.getElem_toArray, List.getElem_cons_succ, List.getElem_cons_zero, List.setIfInBounds_toArray, List.set_cons_zero, List.set_cons_succ, Array.toArray_toList])
        refine wpAnyH_take (i := 3) (v := ?_) rfl (by kernel_rfl) (by kernel_rfl) (by kernel_rfl) (fun _ _ _ h => h) (Or.inl ⟨by kernel_rfl, ?_⟩) hS0 ?_
        rotate_left
        · intro w hSw; clear hSw; go_simp; (try with_reducible rfl)
        (try simp only [Act.put, List.getElem_toArray, List.getElem_cons_succ, List.getElem_cons_zero, List.setIfInBounds_toArray, List.set_cons_zero, List.set_cons_succ, Array.toArray_toList])
        refine wpAnyH_ready (rs := [4]) (by kernel_rfl) (by simp) ?_
        refine AllReadyH.cons rfl (fun K2 hK2 => ?_) AllReadyH.nil
        refine step_store_row rfl 41 (.tmp 5) (.tmp 38) rfl nb B2 rfl rfl 41 _ hwn.heap HB1.out.2.1 HB1.out.2.2.1 HB1.out.2.2.2 ?_
        have hw13 := hwn.setRow B2
        refine hK2.out _ _ (HSE.out _ _ hw13 (by simp)) (fun hS1 => ?_)
        clear hK2 K2
        (try simp only [Act.put, List.getElem_toArray, List.getElem_cons_succ, List.getElem_cons_zero, List.setIfInBounds_toArray, List.set_cons_zero, List.set_cons_succ, Array.toArray_toList])
        refine wpAnyH_done (by kernel_rfl) ?_ _
        generalize hW12 : World.setRow _ _ _ = w13 at *
        clear hW12
        (try simp only [Exit.inBlock, Exit.then])
        go_wp2
        refine bodyPost_ret (results_tmp3_cell rfl _ _ nb _ B2 _ _ rfl hw13.heap Tryd.underlying41 rfl HB1.out.2.1) rfl ?_
        rw [HR.out.1, HR.out.2]
        exact RLoP.mk (by rw [HBE.out]; rfl) hw13.drop.drop.drop
      | none =>
        have k0' : w9.cell? ⟨n10, 0, none⟩ = some (.int .i64 0) := k0
        obtain ⟨h1, h2⟩ := HT4a.out t en rfl
        have HR := Lib.hid (And.intro h1 h2)
        have HW2 := Lib.hid hw5.up2
        clear k0 h1 h2 HT3a HT4a HTL2 HB2 HG2 HSE HB1 HBE hw5
        go_wp2_with (with_reducible show wpList _ _ _ [{ dst := none, op := _, type := _, pos := _, after := _, guard := _ }] _ _; go_must (refine wpList_store_row rfl 41 (.tmp 5) (.tmp 42) rfl nb (BE none) rfl rfl 41 _ HW2.out.heap (BE_row none).1 (BE_row none).2.1 (BE_row none).2.2 ?_))
        have hfin := HW2.out.setRow (BE none)
        (try simp only [Exit.inBlock, Exit.then])
        refine bodyPost_ret (results_tmp3_cell rfl _ _ nb _ (BE none) _ _ rfl hfin.heap Tryd.underlying41 rfl (BE_row none).1) rfl ?_
        rw [HR.out.1, HR.out.2]
        exact RLoP.mk rfl hfin.drop.drop.drop
end
end Go.Proofs.YtcndkpmeakaapaaDoor
