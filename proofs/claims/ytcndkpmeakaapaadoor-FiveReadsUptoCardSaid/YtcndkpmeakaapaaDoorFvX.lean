/- Walks of the reference: fault, short, version, text. -/
import Derived.Test.YtcndkpmeakaapaaDoorFvR
import Derived.Test.YtcndkpmeakaapaaDoorHrE
set_option linter.unusedVariables false
set_option linter.unusedSimpArgs false
namespace Go.Proofs.YtcndkpmeakaapaaDoor
open Go Go.RowKit
theorem results_tmp2_cell {P : Program} {fn : Func} {p u1 u2 : Tmp} {ty : TypeId} (h : fn.results = #[.tmp u1, .tmp u2, .cell p ty]) (tmps : Array Value) (w : World) (g : Nat) (t : TypeId) (cs : Array Value) (fr : Nat × Nat) (d : TypeDesc)
    (hp : tmps.getD p undef = .pointer (some ⟨g, 0, none⟩)) (hg : w.heap[g]? = some (.cells cs t fr))
    (hu : P.underlying ty = some d) (hd : (match d with | .struct _ | .array _ _ => true | _ => false) = true) (hi : (P.info? ty).map (·.size) = some cs.size) :
    (results fn tmps).run P w = .ok (.tuple #[tmps.getD u1 undef, tmps.getD u2 undef, .agg cs]) w := by
  have hp' : tmps[p]?.getD undef = .pointer (some ⟨g, 0, none⟩) := by simpa using hp
  simp [results, h, hp', asAddr, run_loadVar_row w g t ty cs fr d hg hu hd hi]
theorem versL_short {bs : List Int} {v : Int} (h : bs.length = 0) : (versL bs v st0).err = some ([(fiveB, (bs.length : Int))], 6) := by
  have e : (oneL bs st0).2.err = some ([(fiveB, (bs.length : Int))], 6) := by
    unfold oneL takeL
    rw [if_pos (.inr (by show bs.length < 0 + 1; omega))]; rfl
  unfold versL
  rw [if_neg (fun h => by rw [e] at h; cases h.1), e]
theorem versL_bad {bs : List Int} {v x : Int} (h : bs[0]? = some x) (hx : x ≠ v) : (versL bs v st0).err = some ([(fiveB, 0)], 70) := by
  have e : oneL bs st0 = (x, ⟨1, none⟩) := oneL_ok h
  unfold versL
  rw [e, if_pos ⟨rfl, hx⟩]; rfl
def txR (bs : List Int) (most : Int) (at_ : Nat) : ByteArray × Int × Option (Ch × Int) := if (textL bs most ⟨at_, none⟩).2.err = none then ((textL bs most ⟨at_, none⟩).1, ((textL bs most ⟨at_, none⟩).2.at_ : Int), none) else (⟨#[]⟩, 0, (textL bs most ⟨at_, none⟩).2.err)
theorem oneL_short {bs : List Int} {k : Nat} (h : bs.length ≤ k) : (oneL bs ⟨k, none⟩).2 = ⟨k, some ([(fiveB, (bs.length : Int))], 6)⟩ := by
  unfold oneL takeL
  rw [if_pos (.inr (by show bs.length < k + 1; omega))]; rfl
theorem txR_none {bs : List Int} {most : Int} {k : Nat} (h : bs.length ≤ k) : txR bs most k = (⟨#[]⟩, 0, some ([(fiveB, (bs.length : Int))], 6)) := by
  have e : (textL bs most ⟨k, none⟩).2.err = some ([(fiveB, (bs.length : Int))], 6) := by
    have e1 : (text1 bs most ⟨k, none⟩).2 = ⟨k, some ([(fiveB, (bs.length : Int))], 6)⟩ := by
      unfold text1
      rw [oneL_short h, if_neg (fun h => by cases h.1)]
    unfold textL
    rw [e1]
    show (if (some _ : Option (Ch × Int)) = none then _ else (⟨#[]⟩, (⟨k, some ([(fiveB, (bs.length : Int))], 6)⟩ : St)) : ByteArray × St).2.err = _
    rw [if_neg (fun h => by cases h)]
  unfold txR
  rw [if_neg (by rw [e]; exact fun h => by cases h), e]
theorem txR_word {bs : List Int} {most x : Int} {k : Nat} (h : bs[k]? = some x) (hx : x < 1 ∨ most < x) : txR bs most k = (⟨#[]⟩, 0, some ([(fiveB, (k : Int))], 72)) := by
  have e : (textL bs most ⟨k, none⟩).2.err = some ([(fiveB, (k : Int))], 72) := by
    have e1 : (text1 bs most ⟨k, none⟩).2 = ⟨k + 1, some ([(fiveB, (k : Int))], 72)⟩ := by
      unfold text1
      rw [oneL_ok h, if_pos ⟨rfl, hx⟩]; rfl
    unfold textL
    rw [e1]
    show (if (some _ : Option (Ch × Int)) = none then _ else (⟨#[]⟩, (⟨k + 1, some ([(fiveB, (k : Int))], 72)⟩ : St)) : ByteArray × St).2.err = _
    rw [if_neg (fun h => by cases h)]
  unfold txR
  rw [if_neg (by rw [e]; exact fun h => by cases h), e]
theorem txR_short {bs : List Int} {most : Int} {k n : Nat} (h : bs[k]? = some (n : Int)) (h1 : 1 ≤ n) (h2 : (n : Int) ≤ most) (h3 : bs.length < k + 1 + n) : txR bs most k = (⟨#[]⟩, 0, some ([(fiveB, (bs.length : Int))], 6)) := by
  have e : (textL bs most ⟨k, none⟩).2.err = some ([(fiveB, (bs.length : Int))], 6) := by
    have e1 : text1 bs most ⟨k, none⟩ = ((n : Int), ⟨k + 1, none⟩) := by
      unfold text1
      rw [oneL_ok h, if_neg (fun h => by have := h.2; omega)]
    unfold textL
    rw [e1]
    show (if (none : Option (Ch × Int)) = none then (strOfNums (takeL bs (n : Int).toNat ⟨k + 1, none⟩).1, (takeL bs (n : Int).toNat ⟨k + 1, none⟩).2) else _ : ByteArray × St).2.err = _
    rw [if_pos rfl, Int.toNat_natCast]
    show (takeL bs n ⟨k + 1, none⟩).2.err = _
    unfold takeL
    rw [if_pos (.inr (by show bs.length < k + 1 + n; omega))]; rfl
  unfold txR
  rw [if_neg (by rw [e]; exact fun h => by cases h), e]
theorem txR_ok {bs : List Int} {most : Int} {k n : Nat} (h : bs[k]? = some (n : Int)) (h1 : 1 ≤ n) (h2 : (n : Int) ≤ most) (h3 : k + 1 + n ≤ bs.length) : txR bs most k = (strOfNums ((bs.drop (k + 1)).take n), ((k + 1 + n : Nat) : Int), none) := by
  unfold txR
  rw [textL_ok h h1 h2 h3]
  exact if_pos rfl
section
variable {σ w w' : World} {Hs : List Hp} {H H1 H2 M N Y R E X HB : Hp}
set_option maxHeartbeats 4000000
-- the last store of a Bad's row, BV its chain, TP and TV its slots; HW2 the world's pieces
theorem rfault7_any (a c : Int) (w : World) (hw : Sat σ w Hs) :
    Calls Tryd.prog 50 #[.int .i64 a, .int .i64 c] w fun e w' => e = .returned (.agg (BE (some ([(fiveB, a)], c)))) ∧ Sat σ w' Hs := by
  go_enter Tryd.func50, Tryd.ntmps50
  go_wp2_with fail
  refine (fail_any fiveB a c _ (hw.alloc (.cells #[.int .i64 0, .string ⟨#[]⟩, .string ⟨#[]⟩, .string ⟨#[]⟩, .string ⟨#[]⟩, .int .i64 0, .int .i64 0, .int .i64 0, .int .i64 0, .int .i64 0] 41))).mono ?_
  rintro e w2 ⟨rfl, hw2⟩
  generalize w.heap.size = nb at *
  have HW2 := Lib.hid hw2
  have HQ : Hid ((badC [(fiveB, a)] c) = BE (some ([(fiveB, a)], c))) := Lib.hid rfl
  rw [HQ.out]
  clear hw2 HQ
  have HBO := Lib.hid (BE_row (some ([(fiveB, a)], c)))
  generalize hBE : BE (some ([(fiveB, a)], c)) = B at *
  have HBE := Lib.hid hBE
  clear hBE
  go_wp2_with (with_reducible show wpList _ _ _ [{ dst := none, op := _, type := _, pos := _, after := _, guard := _ }] _ _; go_must (refine wpList_store_row rfl 41 (.tmp 4) (.tmp 7) rfl nb B rfl rfl 41 _ HW2.out.heap HBO.out.1 HBO.out.2.1 HBO.out.2.2 ?_))
  have hfin := HW2.out.setRow B
  (try simp only [Exit.inBlock, Exit.then])
  refine bodyPost_ret (results_cell_row rfl _ _ nb _ _ _ _ rfl hfin.heap Tryd.underlying41 rfl HBO.out.1) rfl ?_
  exact ⟨by rw [HBE.out], hfin.drop⟩
theorem rshort_any (bv : Value) (bs : List Int) (w : World) (hw : Sat σ w Hs) (hb : kB.IsSl HB bv bs) :
    Calls Tryd.prog 49 #[bv] w fun e w' => e = .returned (.agg (BE (some ([(fiveB, (bs.length : Int))], 6)))) ∧ Sat σ w' Hs := by
  obtain ⟨A, c, rfl, _⟩ := hb.form
  clear hb
  go_enter Tryd.func49, Tryd.ntmps49
  go_wp2_with fail
  refine (rfault7_any (bs.length : Int) 6 _ (hw.alloc (.cells #[.int .i64 0, .string ⟨#[]⟩, .string ⟨#[]⟩, .string ⟨#[]⟩, .string ⟨#[]⟩, .int .i64 0, .int .i64 0, .int .i64 0, .int .i64 0, .int .i64 0] 41))).mono ?_
  rintro e w2 ⟨rfl, hw2⟩
  generalize w.heap.size = nb at *
  have HW2 := Lib.hid hw2
  clear hw2
  have HBO := Lib.hid (BE_row (some ([(fiveB, (bs.length : Int))], 6)))
  generalize hBE : BE (some ([(fiveB, (bs.length : Int))], 6)) = B at *
  have HBE := Lib.hid hBE
  clear hBE
  go_wp2_with (with_reducible show wpList _ _ _ [{ dst := none, op := _, type := _, pos := _, after := _, guard := _ }] _ _; go_must (refine wpList_store_row rfl 41 (.tmp 2) (.tmp 5) rfl nb B rfl rfl 41 _ HW2.out.heap HBO.out.1 HBO.out.2.1 HBO.out.2.2 ?_))
  have hfin := HW2.out.setRow B
  (try simp only [Exit.inBlock, Exit.then])
  refine bodyPost_ret (results_cell_row rfl _ _ nb _ _ _ _ rfl hfin.heap Tryd.underlying41 rfl HBO.out.1) rfl ?_
  exact ⟨by rw [HBE.out], hfin.drop⟩
theorem rversion_any (bv : Value) (bs : List Int) (v : Int) (w : World) (hw : Sat σ w Hs) (hB : HB ∈ Hs) (hb : kB.IsSl HB bv bs) :
    Calls Tryd.prog 47 #[bv, .int .u8 v] w fun e w' => e = .returned (.agg (BE (versL bs v st0).err)) ∧ Sat σ w' Hs := by
  obtain ⟨A, c, rfl, _⟩ := id hb.form
  have HSH := Lib.hid (fun w' Hs' (h : Sat σ w' Hs') => rshort_any _ bs w' h hb)
  have hwa := hw.alloc (.cells #[.int .i64 0, .string ⟨#[]⟩, .string ⟨#[]⟩, .string ⟨#[]⟩, .string ⟨#[]⟩, .int .i64 0, .int .i64 0, .int .i64 0, .int .i64 0, .int .i64 0] 41)
  by_cases h0 : bs.length = 0
  · have HR := Lib.hid (versL_short (v := v) h0)
    have hi : ((bs.length : Int) == 0) = true := by rw [h0]; rfl
    clear h0 hb
    generalize (versL bs v st0).err = er at *
    go_enter Tryd.func47, Tryd.ntmps47
    go_wp2_with fail
    refine (HSH.out _ _ hwa).mono ?_
    rintro e w2 ⟨rfl, hw2⟩
    generalize w.heap.size = nb at *
    have HW2 := Lib.hid hw2
    clear hw2
    have HBO := Lib.hid (BE_row (some ([(fiveB, (bs.length : Int))], 6)))
    generalize hBE : BE (some ([(fiveB, (bs.length : Int))], 6)) = B at *
    have HBE := Lib.hid hBE
    clear hBE
    go_wp2_with (with_reducible show wpList _ _ _ [{ dst := none, op := _, type := _, pos := _, after := _, guard := _ }] _ _; go_must (refine wpList_store_row rfl 41 (.tmp 4) (.tmp 9) rfl nb B rfl rfl 41 _ HW2.out.heap HBO.out.1 HBO.out.2.1 HBO.out.2.2 ?_))
    have hfin := HW2.out.setRow B
    (try simp only [Exit.inBlock, Exit.then])
    refine bodyPost_ret (results_cell_row rfl _ _ nb _ _ _ _ rfl hfin.heap Tryd.underlying41 rfl HBO.out.1) rfl ?_
    exact ⟨by rw [HR.out, HBE.out], hfin.drop⟩
  · have hi : ((bs.length : Int) == 0) = false := beq_eq_false_iff_ne.2 (by omega)
    obtain ⟨x, hx⟩ : ∃ x, bs[0]? = some x := ⟨_, List.getElem?_eq_getElem (by omega)⟩
    obtain ⟨b, off, cs, rfl, hcs, hcell⟩ := hb.get 0 x hx
    obtain rfl : cs = [.int .u8 x] := hcs
    have hc0 := hwa.cellAt (List.mem_cons_of_mem _ hB) (hcell 0 _ rfl)
    simp only [show kB.sz = 1 from rfl, Nat.mul_one, Nat.add_zero, Nat.zero_mul] at hc0
    have hlen : (0 : Int) < bs.length := by omega
    have hlt : off = off := rfl
    by_cases hxv : x = v
    · have hne : (x != v) = false := by simp [hxv]
      have HR : Hid ((versL bs v st0).err = none) := Lib.hid (by rw [versL_ok (by rw [hx, hxv])])
      clear h0 hb hx hxv hcell HSH
      generalize (versL bs v st0).err = er at *
      go_enter Tryd.func47, Tryd.ntmps47
      go_upto_region 5 with fail
      have HW2 := Lib.hid hwa
      generalize w.heap.size = nb at *
      generalize hwx : World.alloc _ _ = wx at *
      clear hwx hwa
      have HBO := Lib.hid (BE_row none)
      go_wp2_with (with_reducible show wpList _ _ _ [{ dst := none, op := _, type := _, pos := _, after := _, guard := _ }] _ _; go_must (refine wpList_store_row rfl 41 (.tmp 4) (.tmp 16) rfl nb (BE none) rfl rfl 41 _ HW2.out.heap HBO.out.1 HBO.out.2.1 HBO.out.2.2 ?_))
      have hfin := HW2.out.setRow (BE none)
      (try simp only [Exit.inBlock, Exit.then])
      refine bodyPost_ret (results_cell_row rfl _ _ nb _ _ _ _ rfl hfin.heap Tryd.underlying41 rfl HBO.out.1) rfl ?_
      exact ⟨by rw [HR.out], hfin.drop⟩
    · have hne : (x != v) = true := by simpa using hxv
      have HR := Lib.hid (versL_bad hx hxv)
      clear h0 hb hx hxv hcell HSH
      generalize (versL bs v st0).err = er at *
      go_enter Tryd.func47, Tryd.ntmps47
      go_wp2_with fail
      refine (rfault7_any 0 70 _ hwa).mono ?_
      rintro e w2 ⟨rfl, hw2⟩
      generalize w.heap.size = nb at *
      have HW2 := Lib.hid hw2
      clear hw2
      have HBO := Lib.hid (BE_row (some ([(fiveB, 0)], 70)))
      generalize hBE : BE (some ([(fiveB, 0)], 70)) = B at *
      have HBE := Lib.hid hBE
      clear hBE
      go_wp2_with (with_reducible show wpList _ _ _ [{ dst := none, op := _, type := _, pos := _, after := _, guard := _ }] _ _; go_must (refine wpList_store_row rfl 41 (.tmp 4) (.tmp 15) rfl nb B rfl rfl 41 _ HW2.out.heap HBO.out.1 HBO.out.2.1 HBO.out.2.2 ?_))
      have hfin := HW2.out.setRow B
      (try simp only [Exit.inBlock, Exit.then])
      refine bodyPost_ret (results_cell_row rfl _ _ nb _ _ _ _ rfl hfin.heap Tryd.underlying41 rfl HBO.out.1) rfl ?_
      exact ⟨by rw [HR.out, HBE.out], hfin.drop⟩
def RTextP (σ : World) (Hs : List Hp) (r : ByteArray × Int × Option (Ch × Int)) (e : Ending) (w' : World) : Prop := e = .returned (.tuple #[.string r.1, .int .i64 r.2.1, .agg (BE r.2.2)]) ∧ Sat σ w' Hs
theorem RTextP.mk {r : ByteArray × Int × Option (Ch × Int)} {e : Ending} (h1 : e = .returned (.tuple #[.string r.1, .int .i64 r.2.1, .agg (BE r.2.2)])) (h2 : Sat σ w' Hs) : RTextP σ Hs r e w' := ⟨h1, h2⟩
set_option maxRecDepth 10000 in
theorem rtext_any (bv : Value) (bs : List Int) (hbs : ∀ x ∈ bs, 0 ≤ x ∧ x < 256) (k : Nat) (hk : k ≤ 1000000) (most : Int) (w : World) (hw : Sat σ w Hs) (hB : HB ∈ Hs) (hb : kB.IsSl HB bv bs) :
    Calls Tryd.prog 48 #[bv, .int .i64 k, .int .i64 most] w (RTextP σ Hs (txR bs most k)) := by
  obtain ⟨A, c, rfl, hc1, hc2, _⟩ := id hb.form
  have HSH := Lib.hid (fun w' Hs' (h : Sat σ w' Hs') => rshort_any _ bs w' h hb)
  have hwa := hw.alloc (.cells #[.int .i64 0, .string ⟨#[]⟩, .string ⟨#[]⟩, .string ⟨#[]⟩, .string ⟨#[]⟩, .int .i64 0, .int .i64 0, .int .i64 0, .int .i64 0, .int .i64 0] 41)
  by_cases h0 : bs.length ≤ k
  · have HR := Lib.hid (txR_none (most := most) h0)
    have hi : (bs.length : Int) ≤ k := by omega
    clear h0 hb
    go_enter Tryd.func48, Tryd.ntmps48
    go_wp2_with fail
    refine (HSH.out _ _ hwa).mono ?_
    rintro e w2 ⟨rfl, hw2⟩
    generalize w.heap.size = nb at *
    have HW2 := Lib.hid hw2
    clear hw2
    have HBO := Lib.hid (BE_row (some ([(fiveB, (bs.length : Int))], 6)))
    generalize hBE : BE (some ([(fiveB, (bs.length : Int))], 6)) = B at *
    have HBE := Lib.hid hBE
    clear hBE
    go_wp2_with (with_reducible show wpList _ _ _ [{ dst := none, op := _, type := _, pos := _, after := _, guard := _ }] _ _; go_must (refine wpList_store_row rfl 41 (.tmp 8) (.tmp 15) rfl nb B rfl rfl 41 _ HW2.out.heap HBO.out.1 HBO.out.2.1 HBO.out.2.2 ?_))
    have hfin := HW2.out.setRow B
    (try simp only [Exit.inBlock, Exit.then])
    refine bodyPost_ret (results_tmp2_cell rfl _ _ nb _ B _ _ rfl hfin.heap Tryd.underlying41 rfl HBO.out.1) rfl ?_
    rw [HR.out]
    exact RTextP.mk (by show _ = Ending.returned (.tuple #[.string ⟨#[]⟩, .int .i64 0, .agg (BE (some ([(fiveB, (bs.length : Int))], 6)))]); rw [HBE.out]; rfl) hfin.drop
  · have hi : ¬ (bs.length : Int) ≤ k := by omega
    have hki : (k : Int) < bs.length := by omega
    have hk0 : (0 : Int) ≤ k := by omega
    obtain ⟨x, hx⟩ : ∃ x, bs[k]? = some x := ⟨_, List.getElem?_eq_getElem (by omega)⟩
    obtain ⟨b, off, cs, rfl, hcs, hcell⟩ := hb.get k x hx
    obtain rfl : cs = [.int .u8 x] := hcs
    have hc0 := hwa.cellAt (List.mem_cons_of_mem _ hB) (hcell 0 _ rfl)
    simp only [show kB.sz = 1 from rfl, Nat.mul_one, Nat.add_zero] at hc0
    have hxr := hbs x (List.mem_of_getElem? hx)
    have mx : IntKind.i64.wrap x = x := IntWalk.i64_in _ (by omega)
    by_cases hx1 : x < 1
    · have HR := Lib.hid (txR_word (most := most) hx (.inl hx1))
      clear h0 hb hx hcell HSH
      go_enter Tryd.func48, Tryd.ntmps48
      go_wp2_with fail
      refine (rfault7_any (k : Int) 72 _ hwa).mono ?_
      rintro e w2 ⟨rfl, hw2⟩
      generalize w.heap.size = nb at *
      have HW2 := Lib.hid hw2
      clear hw2
      have HBO := Lib.hid (BE_row (some ([(fiveB, (k : Int))], 72)))
      generalize hBE : BE (some ([(fiveB, (k : Int))], 72)) = B at *
      have HBE := Lib.hid hBE
      clear hBE
      go_wp2_with (with_reducible show wpList _ _ _ [{ dst := none, op := _, type := _, pos := _, after := _, guard := _ }] _ _; go_must (refine wpList_store_row rfl 41 (.tmp 8) (.tmp 29) rfl nb B rfl rfl 41 _ HW2.out.heap HBO.out.1 HBO.out.2.1 HBO.out.2.2 ?_))
      have hfin := HW2.out.setRow B
      (try simp only [Exit.inBlock, Exit.then])
      refine bodyPost_ret (results_tmp2_cell rfl _ _ nb _ B _ _ rfl hfin.heap Tryd.underlying41 rfl HBO.out.1) rfl ?_
      rw [HR.out]
      exact RTextP.mk (by show _ = Ending.returned (.tuple #[.string ⟨#[]⟩, .int .i64 0, .agg (BE (some ([(fiveB, (k : Int))], 72)))]); rw [HBE.out]; rfl) hfin.drop
    by_cases hx2 : most < x
    · have HR := Lib.hid (txR_word (most := most) hx (.inr hx2))
      clear h0 hb hx hcell HSH
      go_enter Tryd.func48, Tryd.ntmps48
      go_wp2_with fail
      refine (rfault7_any (k : Int) 72 _ hwa).mono ?_
      rintro e w2 ⟨rfl, hw2⟩
      generalize w.heap.size = nb at *
      have HW2 := Lib.hid hw2
      clear hw2
      have HBO := Lib.hid (BE_row (some ([(fiveB, (k : Int))], 72)))
      generalize hBE : BE (some ([(fiveB, (k : Int))], 72)) = B at *
      have HBE := Lib.hid hBE
      clear hBE
      go_wp2_with (with_reducible show wpList _ _ _ [{ dst := none, op := _, type := _, pos := _, after := _, guard := _ }] _ _; go_must (refine wpList_store_row rfl 41 (.tmp 8) (.tmp 29) rfl nb B rfl rfl 41 _ HW2.out.heap HBO.out.1 HBO.out.2.1 HBO.out.2.2 ?_))
      have hfin := HW2.out.setRow B
      (try simp only [Exit.inBlock, Exit.then])
      refine bodyPost_ret (results_tmp2_cell rfl _ _ nb _ B _ _ rfl hfin.heap Tryd.underlying41 rfl HBO.out.1) rfl ?_
      rw [HR.out]
      exact RTextP.mk (by show _ = Ending.returned (.tuple #[.string ⟨#[]⟩, .int .i64 0, .agg (BE (some ([(fiveB, (k : Int))], 72)))]); rw [HBE.out]; rfl) hfin.drop
    obtain ⟨n, rfl⟩ : ∃ n : Nat, x = n := ⟨x.toNat, by omega⟩
    have ma : IntKind.i64.wrap ((k : Int) + 1) = (k : Int) + 1 := IntWalk.i64_in _ (by omega)
    have mb : IntKind.i64.wrap ((k : Int) + 1 + n) = (k : Int) + 1 + n := IntWalk.i64_in _ (by omega)
    by_cases hsh : bs.length < k + 1 + n
    · have HR := Lib.hid (txR_short (most := most) hx (by omega) (by omega) hsh)
      have hshi : (bs.length : Int) < (k : Int) + 1 + n := by omega
      clear h0 hb hx hcell hsh
      go_enter Tryd.func48, Tryd.ntmps48
      go_wp2_with fail
      refine (HSH.out _ _ hwa).mono ?_
      rintro e w2 ⟨rfl, hw2⟩
      generalize w.heap.size = nb at *
      have HW2 := Lib.hid hw2
      clear hw2
      have HBO := Lib.hid (BE_row (some ([(fiveB, (bs.length : Int))], 6)))
      generalize hBE : BE (some ([(fiveB, (bs.length : Int))], 6)) = B at *
      have HBE := Lib.hid hBE
      clear hBE
      go_wp2_with (with_reducible show wpList _ _ _ [{ dst := none, op := _, type := _, pos := _, after := _, guard := _ }] _ _; go_must (refine wpList_store_row rfl 41 (.tmp 8) (.tmp 38) rfl nb B rfl rfl 41 _ HW2.out.heap HBO.out.1 HBO.out.2.1 HBO.out.2.2 ?_))
      have hfin := HW2.out.setRow B
      (try simp only [Exit.inBlock, Exit.then])
      refine bodyPost_ret (results_tmp2_cell rfl _ _ nb _ B _ _ rfl hfin.heap Tryd.underlying41 rfl HBO.out.1) rfl ?_
      rw [HR.out]
      exact RTextP.mk (by show _ = Ending.returned (.tuple #[.string ⟨#[]⟩, .int .i64 0, .agg (BE (some ([(fiveB, (bs.length : Int))], 6)))]); rw [HBE.out]; rfl) hfin.drop
    · have HR := Lib.hid (txR_ok (most := most) hx (by omega) (by omega) (by omega))
      have hshi : ¬ (bs.length : Int) < (k : Int) + 1 + n := by omega
      have hsl := sub_sl hb (at_ := k + 1) (n := n) (by omega)
      have hs1 : (k : Int) + 1 ≤ (k : Int) + 1 + n := by omega
      have hs2 : (k : Int) + 1 + n ≤ c := by omega
      have hs3 : (0 : Int) ≤ (k : Int) + 1 := by omega
      have kc := (bytes_rd hsl hwa (List.mem_cons_of_mem _ hB)).conv (P := Tryd.prog) (src := 22) (dst := 9) Tryd.underlying22 Tryd.underlying5 Tryd.underlying9
      have HW2 := Lib.hid hwa
      clear h0 hb hx hcell hsh HSH hsl
      go_enter Tryd.func48, Tryd.ntmps48
      go_upto_region 8 with fail
      generalize w.heap.size = nb at *
      generalize hwx : World.alloc _ _ = wx at *
      clear hwx hwa
      have HBO := Lib.hid (BE_row none)
      go_wp2_with (with_reducible show wpList _ _ _ [{ dst := none, op := _, type := _, pos := _, after := _, guard := _ }] _ _; go_must (refine wpList_store_row rfl 41 (.tmp 8) (.tmp 52) rfl nb (BE none) rfl rfl 41 _ HW2.out.heap HBO.out.1 HBO.out.2.1 HBO.out.2.2 ?_))
      have hfin := HW2.out.setRow (BE none)
      (try simp only [Exit.inBlock, Exit.then])
      refine bodyPost_ret (results_tmp2_cell rfl _ _ nb _ (BE none) _ _ rfl hfin.heap Tryd.underlying41 rfl HBO.out.1) rfl ?_
      rw [HR.out]
      exact RTextP.mk rfl hfin.drop
end
end Go.Proofs.YtcndkpmeakaapaaDoor
