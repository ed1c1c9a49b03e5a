/- Walks of the reference: two, Choice, Verdict, Greeting, Login. -/
import Derived.Test.YtcndkpmeakaapaaDoorFwA
set_option linter.unusedVariables false
set_option linter.unusedSimpArgs false
namespace Go.Proofs.YtcndkpmeakaapaaDoor
open Go Go.RowKit
theorem results_tmp3_cell {P : Program} {fn : Func} {p u1 u2 u3 : Tmp} {ty : TypeId} (h : fn.results = #[.tmp u1, .tmp u2, .tmp u3, .cell p ty]) (tmps : Array Value) (w : World) (g : Nat) (t : TypeId) (cs : Array Value) (fr : Nat × Nat) (d : TypeDesc)
    (hp : tmps.getD p undef = .pointer (some ⟨g, 0, none⟩)) (hg : w.heap[g]? = some (.cells cs t fr))
    (hu : P.underlying ty = some d) (hd : (match d with | .struct _ | .array _ _ => true | _ => false) = true) (hi : (P.info? ty).map (·.size) = some cs.size) :
    (results fn tmps).run P w = .ok (.tuple #[tmps.getD u1 undef, tmps.getD u2 undef, tmps.getD u3 undef, .agg cs]) w := by
  have hp' : tmps[p]?.getD undef = .pointer (some ⟨g, 0, none⟩) := by simpa using hp
  simp [results, h, hp', asAddr, run_loadVar_row w g t ty cs fr d hg hu hd hi]
theorem versL_none {bs : List Int} {v : Int} (h : (versL bs v st0).err = none) : versL bs v st0 = ⟨1, none⟩ ∧ bs[0]? = some v := by
  by_cases h0 : bs.length = 0
  · rw [versL_short h0] at h; cases h
  · obtain ⟨x, hx⟩ : ∃ x, bs[0]? = some x := ⟨_, List.getElem?_eq_getElem (by omega)⟩
    by_cases hxv : x = v
    · subst hxv; exact ⟨versL_ok hx, hx⟩
    · rw [versL_bad hx hxv] at h; cases h
theorem versL_len {bs : List Int} {v : Int} {x : Ch × Int} (h : (versL bs v st0).err = some x) : x.1.length = 1 := by
  by_cases h0 : bs.length = 0
  · rw [versL_short h0] at h; injection h with h; subst h; rfl
  · obtain ⟨y, hy⟩ : ∃ y, bs[0]? = some y := ⟨_, List.getElem?_eq_getElem (by omega)⟩
    by_cases hxv : y = v
    · subst hxv; rw [versL_ok hy] at h; cases h
    · rw [versL_bad hy hxv] at h; injection h with h; subst h; rfl
theorem txR_some {bs : List Int} {m : Int} {k : Nat} {s : ByteArray} {n : Int} {x : Ch × Int} (h : txR bs m k = (s, n, some x)) : (textL bs m ⟨k, none⟩).2.err = some x := by
  unfold txR at h
  split at h
  · injection h with _ h; injection h with _ h; cases h
  · injection h with _ h; injection h with _ h
theorem txR_fine {bs : List Int} {m : Int} {k : Nat} {s : ByteArray} {n : Int} (h : txR bs m k = (s, n, none)) : ∃ a : Nat, textL bs m ⟨k, none⟩ = (s, ⟨a, none⟩) ∧ n = a := by
  unfold txR at h
  split at h
  · rename_i he
    injection h with h1 h2
    injection h2 with h2 _
    generalize textL bs m ⟨k, none⟩ = t at he h1 h2 ⊢
    obtain ⟨u, a, er⟩ := t
    have e1 : er = none := he
    have e2 : u = s := h1
    subst e1
    subst e2
    exact ⟨a, rfl, h2.symm⟩
  · rename_i he
    injection h with _ h2
    injection h2 with _ h2
    exact absurd h2 he
theorem two_vbad {bs : List Int} {v : Int} {x : Ch × Int} (h : (versL bs v st0).err = some x) : (sh2 bs v).2.err = some x ∧ shO bs v = (0, 0) := by
  have h1 : (sh2 bs v).2.err = some x := (Ex.one (versL bs v st0)).sticky bs x h
  exact ⟨h1, by unfold shO; rw [if_neg (by rw [h1]; exact fun h => by cases h)]⟩
theorem two_short {bs : List Int} {v : Int} (h : (versL bs v st0).err = none) (hl : bs.length < 2) : (sh2 bs v).2.err = some ([(fiveB, (bs.length : Int))], 6) ∧ shO bs v = (0, 0) := by
  have h1 : (sh2 bs v).2.err = some ([(fiveB, (bs.length : Int))], 6) := by
    unfold sh2
    rw [(versL_none h).1, oneL_short (by omega)]
  exact ⟨h1, by unfold shO; rw [if_neg (by rw [h1]; exact fun h => by cases h)]⟩
theorem two_ok {bs : List Int} {v x : Int} (h : (versL bs v st0).err = none) (hx : bs[1]? = some x) : (sh2 bs v).2.err = none ∧ shO bs v = (x, 2) := by
  have h1 : sh2 bs v = (x, ⟨2, none⟩) := by
    unfold sh2
    rw [(versL_none h).1, oneL_ok hx]
  exact ⟨by rw [h1], by unfold shO; rw [h1]; rfl⟩
theorem gr_vbad {bs : List Int} {x : Ch × Int} (h : (versL bs 5 st0).err = some x) : (gr2 bs).2.err = some x ∧ grO bs = ([], 0) := by
  have h1 : (gr2 bs).2.err = some x := (Ex.text (versL bs 5 st0) 255).sticky bs x h
  exact ⟨h1, by unfold grO; rw [if_neg (by rw [h1]; exact fun h => by cases h)]⟩
theorem gr_tbad {bs : List Int} {x : Ch × Int} {s : ByteArray} {n : Int} (h : (versL bs 5 st0).err = none) (ht : txR bs 255 1 = (s, n, some x)) : (gr2 bs).2.err = some x ∧ grO bs = ([], 0) := by
  have h1 : (gr2 bs).2.err = some x := by
    unfold gr2
    rw [(versL_none h).1]; exact txR_some ht
  exact ⟨h1, by unfold grO; rw [if_neg (by rw [h1]; exact fun h => by cases h)]⟩
theorem gr_fine {bs : List Int} {s : ByteArray} {n : Int} (h : (versL bs 5 st0).err = none) (ht : txR bs 255 1 = (s, n, none)) : (gr2 bs).2.err = none ∧ grO bs = (byL s, n) := by
  obtain ⟨a, h2, rfl⟩ := txR_fine ht
  have h1 : gr2 bs = (s, ⟨a, none⟩) := by
    unfold gr2
    rw [(versL_none h).1]; exact h2
  refine ⟨by rw [h1], ?_⟩
  unfold grO
  rw [h1]
  show (if (none : Option (Ch × Int)) = none then (sbL s, (a : Int)) else _) = _
  rw [if_pos rfl, sbL_byL]
theorem lo_bad {bs : List Int} {x : Ch × Int} (h : (lo3 bs).2.err = some x) : loO bs = (⟨#[]⟩, ⟨#[]⟩, 0) := by
  unfold loO; rw [if_neg (by rw [h]; exact fun h => by cases h)]
theorem lo_vbad {bs : List Int} {x : Ch × Int} (h : (versL bs 1 st0).err = some x) : (lo3 bs).2.err = some x ∧ loO bs = (⟨#[]⟩, ⟨#[]⟩, 0) := by
  have h1 : (lo3 bs).2.err = some x := (Ex.text (lo2 bs).2 255).sticky bs x ((Ex.text (versL bs 1 st0) 255).sticky bs x h)
  exact ⟨h1, lo_bad h1⟩
theorem lo_tbad {bs : List Int} {x : Ch × Int} {s : ByteArray} {n : Int} (h : (versL bs 1 st0).err = none) (ht : txR bs 255 1 = (s, n, some x)) : (lo3 bs).2.err = some x ∧ loO bs = (⟨#[]⟩, ⟨#[]⟩, 0) := by
  have h2 : (lo2 bs).2.err = some x := by
    unfold lo2
    rw [(versL_none h).1]; exact txR_some ht
  have h1 : (lo3 bs).2.err = some x := (Ex.text (lo2 bs).2 255).sticky bs x h2
  exact ⟨h1, lo_bad h1⟩
theorem lo_sbad {bs : List Int} {x : Ch × Int} {s t : ByteArray} {n : Int} {a : Nat} (h : (versL bs 1 st0).err = none) (ht : textL bs 255 ⟨1, none⟩ = (s, ⟨a, none⟩)) (ht2 : txR bs 255 a = (t, n, some x)) : (lo3 bs).2.err = some x ∧ loO bs = (⟨#[]⟩, ⟨#[]⟩, 0) := by
  have h2 : lo2 bs = (s, ⟨a, none⟩) := by
    unfold lo2
    rw [(versL_none h).1]; exact ht
  have h1 : (lo3 bs).2.err = some x := by
    unfold lo3
    rw [h2]; exact txR_some ht2
  exact ⟨h1, lo_bad h1⟩
theorem lo_fine {bs : List Int} {s t : ByteArray} {n : Int} {a : Nat} (h : (versL bs 1 st0).err = none) (ht : textL bs 255 ⟨1, none⟩ = (s, ⟨a, none⟩)) (ht2 : txR bs 255 a = (t, n, none)) : (lo3 bs).2.err = none ∧ loO bs = (s, t, n) := by
  have h2 : lo2 bs = (s, ⟨a, none⟩) := by
    unfold lo2
    rw [(versL_none h).1]; exact ht
  obtain ⟨a2, h3, rfl⟩ := txR_fine ht2
  have h1 : lo3 bs = (t, ⟨a2, none⟩) := by
    unfold lo3
    rw [h2]; exact h3
  exact ⟨by rw [h1], by unfold loO; rw [h1, h2]; rfl⟩
theorem BE_full (e : Option (Ch × Int)) : (Tryd.prog.info? 41).map (·.size) = some (BE e).toList.length ∧ (Tryd.prog.info? 41).map (·.size) = some (BE e).size ∧ (#[.int .i64 0, .string ⟨#[]⟩, .string ⟨#[]⟩, .string ⟨#[]⟩, .string ⟨#[]⟩, .int .i64 0, .int .i64 0, .int .i64 0, .int .i64 0, .int .i64 0] : Array Value).size = (BE e).size ∧ (BE e).all (·.oneCell') = true := ⟨BE_info, BE_row e⟩
section
variable {σ w w' : World} {Hs : List Hp} {H H1 H2 M N Y R E X HB : Hp}
set_option maxHeartbeats 4000000
-- a Bad comes back of a call (its chain ER), goes into a cell of its own: slot TT, of value slot TV; RG the region behind; hw2 : Sat σ w2 (pieces)
-- the fault is told: x of it, HX1 its length
def RTwoP (σ : World) (Hs : List Hp) (o : Int × Int) (er : Option (Ch × Int)) (e : Ending) (w' : World) : Prop := e = .returned (.tuple #[.int .i64 o.1, .int .i64 o.2, .agg (BE er)]) ∧ Sat σ w' Hs
theorem RTwoP.mk {o : Int × Int} {er : Option (Ch × Int)} {e : Ending} (h1 : e = .returned (.tuple #[.int .i64 o.1, .int .i64 o.2, .agg (BE er)])) (h2 : Sat σ w' Hs) : RTwoP σ Hs o er e w' := ⟨h1, h2⟩
set_option maxRecDepth 10000 in
theorem rtwo_any (bv : Value) (bs : List Int) (hbs : ∀ x ∈ bs, 0 ≤ x ∧ x < 256) (v : Int) (w : World) (hw : Sat σ w Hs) (hB : HB ∈ Hs) (hb : kB.IsSl HB bv bs) :
    Calls Tryd.prog 53 #[bv, .int .u8 v] w (RTwoP σ Hs (shO bs v) (sh2 bs v).2.err) := by
  obtain ⟨A, c, rfl, hc1, hc2, _⟩ := id hb.form
  have HSH := Lib.hid (fun w' Hs' (h : Sat σ w' Hs') => rshort_any _ bs w' h hb)
  have HVE := Lib.hid (fun w' Hs' (h : Sat σ w' Hs') (hm : HB ∈ Hs') => rversion_any _ bs v w' h hm hb)
  have HVL := Lib.hid (fun x => @versL_len bs v x)
  have HT1 := Lib.hid (fun x => @two_vbad bs v x)
  have HT2 := Lib.hid (@two_short bs v)
  have HT3 := Lib.hid (fun x => @two_ok bs v x)
  have HBB := Lib.hid hb
  have hwa := hw.alloc (.cells #[.int .i64 0, .string ⟨#[]⟩, .string ⟨#[]⟩, .string ⟨#[]⟩, .string ⟨#[]⟩, .int .i64 0, .int .i64 0, .int .i64 0, .int .i64 0, .int .i64 0] 41)
  clear hb
  generalize (versL bs v st0).err = er at *
  generalize shO bs v = o at *
  generalize (sh2 bs v).2.err = e2 at *
  go_enter Tryd.func53, Tryd.ntmps53
  go_wp2_with fail
  generalize w.heap.size = nb at *
  generalize hwx : World.alloc _ _ = wx at *
  clear hwx
  refine (HVE.out _ _ hwa (by simp [hB])).mono ?_
  rintro e w2 ⟨rfl, hw2⟩
  clear hwa HVE
  have hw3 := hw2.alloc (.cells #[.int .i64 0, .string ⟨#[]⟩, .string ⟨#[]⟩, .string ⟨#[]⟩, .string ⟨#[]⟩, .int .i64 0, .int .i64 0, .int .i64 0, .int .i64 0, .int .i64 0] 41)
  generalize hn9 : w2.heap.size = n9 at *
  have HW3 := Lib.hid hw3
  have HB1 := Lib.hid (BE_full er)
  have HG1 := Lib.hid (BE_get er)
  have hw5 := hw3.setRow (BE er)
  generalize hB1 : BE er = B1 at *
  have HBE := Lib.hid hB1
  clear hB1 hw2 hw3
  go_upto_region 2 with (with_reducible show wpList _ _ _ [{ dst := none, op := _, type := _, pos := _, after := _, guard := _ }] _ _; go_must (refine wpList_store_row rfl 41 (.tmp 7) (.tmp 10) rfl n9 B1 rfl rfl 41 _ HW3.out.heap HB1.out.2.1 HB1.out.2.2.1 HB1.out.2.2.2 ?_))
  generalize hw5e : World.setRow _ _ _ = w5 at *
  clear hw5e hn9 HW3
  have k0 : w5.cell? ⟨n9, 0, none⟩ = some (.int .i64 ((chE er).length : Nat)) := hw5.one_cell HG1.out
  have HSE : Hid (∀ W Ls, Sat σ W Ls → Hp.one n9 (.cells B1 41 (0, 0)) ∈ Ls → W.rangeAt n9 0 B1.toList) := Lib.hid (fun W Ls h hm j v hv => h.cellAt hm ((Hp.one_cell _ _ _ _).trans (by rw [Nat.zero_add]; simpa using hv)))
  cases er with
  | some x =>
    obtain ⟨h1, h2⟩ := HT1.out x rfl
    have HR := Lib.hid (And.intro h1 h2)
    have HX1 := Lib.hid (HVL.out x rfl)
    clear h1 h2 HT1 HT2 HT3
    have k0' : w5.cell? ⟨n9, 0, none⟩ = some (.int .i64 1) := by rw [k0]; show some (Value.int .i64 ((x.1.length : Nat) : Int)) = _; rw [HX1.out]; rfl
    clear k0
    have hwn := hw5.drew.swap
    go_upto_region 3 with fail
    refine wp_region_held_drew (S := fun W => W.rangeAt n9 0 B1.toList) (by kernel_rfl) (HSE.out _ _ hw5.drew (by simp)) (fun hS0 => ?_)
    (try simp only [Act.put, List.getElem_toArray, List.getElem_cons_succ, List.getElem_cons_zero, List.setIfInBounds_toArray, List.set_cons_zero, List.set_cons_succ, Array.toArray_toList])
    refine wpAnyH_take (i := 0) rfl (by kernel_rfl) (by kernel_rfl) (by kernel_rfl) (fun _ _ _ h => h) (yieldsIf_load_mid (by kernel_rfl) _ _ rfl _ _ rfl (B1.toList) _ (fun w h => h) Tryd.underlying41 rfl HB1.out.1) hS0 ?_
    (try simp only [Act.put, List.getElem_toArray, List.getElem_cons_succ, List.getElem_cons_zero, List.setIfInBounds_toArray, List.set_cons_zero, List.set_cons_succ, Array.toArray_toList])
    refine wpAnyH_take (i := 1) (v := ?_) rfl (by kernel_rfl) (by kernel_rfl) (by kernel_rfl) (fun _ _ _ h => h) (Or.inl ⟨by kernel_rfl, ?_⟩) hS0 ?_
    rotate_left
    · intro w hSw; clear hSw; go_simp; (try with_reducible rfl)
    (try simp only [Act.put, List.getElem_toArray, List.getElem_cons_succ, List.getElem_cons_zero, List.setIfInBounds_toArray, List.set_cons_zero, List.set_cons_succ, Array.toArray_toList])
    refine wpAnyH_take (i := 2) (v := ?_) rfl (by kernel_rfl) (by kernel_rfl) (by kernel_rfl) (fun _ _ _ h => h) (Or.inl ⟨by kernel_rfl, ?_⟩) hS0 ?_
    rotate_left
    · intro w hSw; clear hSw; go_simp; (try with_reducible rfl)
    (try simp only [Act.put, List.getElem_toArray, List.getElem_cons_succ, List.getElem_cons_zero, List.setIfInBounds_toArray, List.set_cons_zero, List.set_cons_succ, Array.toArray_toList])
    refine wpAnyH_ready (rs := [3]) (by kernel_rfl) (by simp) ?_
    refine AllReadyH.cons rfl (fun K2 hK2 => ?_) AllReadyH.nil
    refine step_store_row rfl 41 (.tmp 6) (.tmp 14) rfl nb B1 rfl rfl 41 _ hwn.heap HB1.out.2.1 HB1.out.2.2.1 HB1.out.2.2.2 ?_
    have hw13 := hwn.setRow B1
    refine hK2.out _ _ (HSE.out _ _ hw13 (by simp)) (fun hS1 => ?_)
    clear hK2 K2
    (try simp only [Act.put, List.getElem_toArray, List.getElem_cons_succ, List.getElem_cons_zero, List.setIfInBounds_toArray, List.set_cons_zero, List.set_cons_succ, Array.toArray_toList])
    refine wpAnyH_done (by kernel_rfl) ?_ _
    generalize hW12 : World.setRow _ _ _ = w13 at *
    clear hW12
    (try simp only [Exit.inBlock, Exit.then])
    go_wp2
    refine bodyPost_ret (results_tmp2_cell rfl _ _ nb _ B1 _ _ rfl hw13.heap Tryd.underlying41 rfl HB1.out.2.1) rfl ?_
    rw [HR.out.1, HR.out.2]
    exact RTwoP.mk (by rw [HBE.out]; rfl) hw13.drop.drop
  | none =>
    have k0' : w5.cell? ⟨n9, 0, none⟩ = some (.int .i64 0) := k0
    clear k0 HSE HB1 HG1 HBE HT1
    by_cases hl : bs.length < 2
    · obtain ⟨h1, h2⟩ := HT2.out rfl hl
      have HR := Lib.hid (And.intro h1 h2)
      have hli : (bs.length : Int) < 2 := by omega
      clear h1 h2 hl HT2 HT3 HVL
      go_wp2_with fail
      refine (HSH.out _ _ hw5.swap).mono ?_
      rintro e w6 ⟨rfl, hw6⟩
      have HW2 := Lib.hid hw6
      clear hw5 hw6
      have HBO := Lib.hid (BE_row (some ([(fiveB, (bs.length : Int))], 6)))
      generalize hBE : BE (some ([(fiveB, (bs.length : Int))], 6)) = B at *
      have HBF := Lib.hid hBE
      clear hBE
      go_wp2_with (with_reducible show wpList _ _ _ [{ dst := none, op := _, type := _, pos := _, after := _, guard := _ }] _ _; go_must (refine wpList_store_row rfl 41 (.tmp 6) (.tmp 19) rfl nb B rfl rfl 41 _ HW2.out.heap HBO.out.1 HBO.out.2.1 HBO.out.2.2 ?_))
      have hfin := HW2.out.setRow B
      (try simp only [Exit.inBlock, Exit.then])
      refine bodyPost_ret (results_tmp2_cell rfl _ _ nb _ B _ _ rfl hfin.heap Tryd.underlying41 rfl HBO.out.1) rfl ?_
      rw [HR.out.1, HR.out.2]
      exact RTwoP.mk (by rw [HBF.out]; rfl) hfin.drop.drop
    · have hli : ¬ (bs.length : Int) < 2 := by omega
      obtain ⟨x, hx⟩ : ∃ x, bs[1]? = some x := ⟨_, List.getElem?_eq_getElem (by omega)⟩
      have hxr := hbs x (List.mem_of_getElem? hx)
      obtain ⟨b, off, cs, rfl, hcs, hcell⟩ := HBB.out.get 1 x hx
      obtain rfl : cs = [.int .u8 x] := hcs
      have hc0 := hw5.cellAt (H := HB) (by simp [hB]) (hcell 0 _ rfl)
      simp only [show kB.sz = 1 from rfl, Nat.mul_one, Nat.add_zero] at hc0
      have hli1 : (1 : Int) < bs.length := by omega
      have mx : IntKind.i64.wrap x = x := IntWalk.i64_in _ (by omega)
      obtain ⟨h1, h2⟩ := HT3.out x rfl hx
      have HR := Lib.hid (And.intro h1 h2)
      have HW2 := Lib.hid hw5.swap
      clear h1 h2 hl HT2 HT3 HVL hx hcell hxr hw5
      go_wp2_with (with_reducible show wpList _ _ _ [{ dst := none, op := _, type := _, pos := _, after := _, guard := _ }] _ _; go_must (refine wpList_store_row rfl 41 (.tmp 6) (.tmp 24) rfl nb (BE none) rfl rfl 41 _ HW2.out.heap (BE_row none).1 (BE_row none).2.1 (BE_row none).2.2 ?_))
      have hfin := HW2.out.setRow (BE none)
      (try simp only [Exit.inBlock, Exit.then])
      refine bodyPost_ret (results_tmp2_cell rfl _ _ nb _ (BE none) _ _ rfl hfin.heap Tryd.underlying41 rfl (BE_row none).1) rfl ?_
      rw [HR.out.1, HR.out.2]
      exact RTwoP.mk rfl hfin.drop.drop
theorem rchoice_any (bv : Value) (bs : List Int) (hbs : ∀ x ∈ bs, 0 ≤ x ∧ x < 256) (w : World) (hw : Sat σ w Hs) (hB : HB ∈ Hs) (hb : kB.IsSl HB bv bs) :
    Calls Tryd.prog 24 #[bv] w (RTwoP σ Hs (shO bs 5) (sh2 bs 5).2.err) := by
  obtain ⟨A, c, rfl, _⟩ := id hb.form
  have HT := Lib.hid (fun w' Hs' (h : Sat σ w' Hs') (hm : HB ∈ Hs') => rtwo_any _ bs hbs 5 w' h hm hb)
  have hwa := hw.alloc (.cells #[.int .i64 0, .string ⟨#[]⟩, .string ⟨#[]⟩, .string ⟨#[]⟩, .string ⟨#[]⟩, .int .i64 0, .int .i64 0, .int .i64 0, .int .i64 0, .int .i64 0] 41)
  unfold RTwoP at HT
  clear hb
  generalize shO bs 5 = o at *
  generalize (sh2 bs 5).2.err = er at *
  obtain ⟨o1, o2⟩ := o
  go_enter Tryd.func24, Tryd.ntmps24
  go_wp2_with fail
  refine (HT.out _ _ hwa (by simp [hB])).mono ?_
  rintro e w2 ⟨rfl, hw2⟩
  generalize w.heap.size = nb at *
  have HW2 := Lib.hid hw2
  clear hwa HT hw2
  have HBO := Lib.hid (BE_row er)
  generalize hBE : BE er = B at *
  have HBF := Lib.hid hBE
  clear hBE
  go_wp2_with (with_reducible show wpList _ _ _ [{ dst := none, op := _, type := _, pos := _, after := _, guard := _ }] _ _; go_must (refine wpList_store_row rfl 41 (.tmp 4) (.tmp 9) rfl nb B rfl rfl 41 _ HW2.out.heap HBO.out.1 HBO.out.2.1 HBO.out.2.2 ?_))
  have hfin := HW2.out.setRow B
  (try simp only [Exit.inBlock, Exit.then])
  refine bodyPost_ret (results_tmp2_cell rfl _ _ nb _ B _ _ rfl hfin.heap Tryd.underlying41 rfl HBO.out.1) rfl ?_
  exact RTwoP.mk (by rw [HBF.out]; rfl) hfin.drop
theorem rverdict_any (bv : Value) (bs : List Int) (hbs : ∀ x ∈ bs, 0 ≤ x ∧ x < 256) (w : World) (hw : Sat σ w Hs) (hB : HB ∈ Hs) (hb : kB.IsSl HB bv bs) :
    Calls Tryd.prog 26 #[bv] w (RTwoP σ Hs (shO bs 1) (sh2 bs 1).2.err) := by
  obtain ⟨A, c, rfl, _⟩ := id hb.form
  have HT := Lib.hid (fun w' Hs' (h : Sat σ w' Hs') (hm : HB ∈ Hs') => rtwo_any _ bs hbs 1 w' h hm hb)
  have hwa := hw.alloc (.cells #[.int .i64 0, .string ⟨#[]⟩, .string ⟨#[]⟩, .string ⟨#[]⟩, .string ⟨#[]⟩, .int .i64 0, .int .i64 0, .int .i64 0, .int .i64 0, .int .i64 0] 41)
  unfold RTwoP at HT
  clear hb
  generalize shO bs 1 = o at *
  generalize (sh2 bs 1).2.err = er at *
  obtain ⟨o1, o2⟩ := o
  go_enter Tryd.func26, Tryd.ntmps26
  go_wp2_with fail
  refine (HT.out _ _ hwa (by simp [hB])).mono ?_
  rintro e w2 ⟨rfl, hw2⟩
  generalize w.heap.size = nb at *
  have HW2 := Lib.hid hw2
  clear hwa HT hw2
  have HBO := Lib.hid (BE_row er)
  generalize hBE : BE er = B at *
  have HBF := Lib.hid hBE
  clear hBE
  go_wp2_with (with_reducible show wpList _ _ _ [{ dst := none, op := _, type := _, pos := _, after := _, guard := _ }] _ _; go_must (refine wpList_store_row rfl 41 (.tmp 4) (.tmp 9) rfl nb B rfl rfl 41 _ HW2.out.heap HBO.out.1 HBO.out.2.1 HBO.out.2.2 ?_))
  have hfin := HW2.out.setRow B
  (try simp only [Exit.inBlock, Exit.then])
  refine bodyPost_ret (results_tmp2_cell rfl _ _ nb _ B _ _ rfl hfin.heap Tryd.underlying41 rfl HBO.out.1) rfl ?_
  exact RTwoP.mk (by rw [HBF.out]; rfl) hfin.drop
end
end Go.Proofs.YtcndkpmeakaapaaDoor
