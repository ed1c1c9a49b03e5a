/- Walk of the reference: Request. -/
import Derived.Test.YtcndkpmeakaapaaDoorFwC
import Derived.Deep.MidRow
set_option linter.unusedVariables false
set_option linter.unusedSimpArgs false
namespace Go.Proofs.YtcndkpmeakaapaaDoor
open Go Go.RowKit
theorem results_req {P : Program} {fn : Func} {p q u1 u2 : Tmp} {ty ty2 : TypeId} (h : fn.results = #[.tmp u1, .cell p ty, .tmp u2, .cell q ty2]) (tmps : Array Value) (w : World) (g g2 : Nat) (cs cs2 : Array Value) (d d2 : TypeDesc)
    (hp : tmps.getD p undef = .pointer (some ⟨g, 0, none⟩)) (hg : w.heap[g]? = some (.cells cs ty (0, 0)))
    (hu : P.underlying ty = some d) (hd : (match d with | .struct _ | .array _ _ => true | _ => false) = true) (hi : (P.info? ty).map (·.size) = some cs.size)
    (hp2 : tmps.getD q undef = .pointer (some ⟨g2, 0, none⟩)) (hg2 : w.heap[g2]? = some (.cells cs2 ty2 (0, 0)))
    (hu2 : P.underlying ty2 = some d2) (hd2 : (match d2 with | .struct _ | .array _ _ => true | _ => false) = true) (hi2 : (P.info? ty2).map (·.size) = some cs2.size) :
    (results fn tmps).run P w = .ok (.tuple #[tmps.getD u1 undef, .agg cs, tmps.getD u2 undef, .agg cs2]) w := by
  have hp' : tmps[p]?.getD undef = .pointer (some ⟨g, 0, none⟩) := by simpa using hp
  have hp2' : tmps[q]?.getD undef = .pointer (some ⟨g2, 0, none⟩) := by simpa using hp2
  simp [results, h, hp', hp2', asAddr, run_loadVar_row w g ty ty cs (0, 0) d hg hu hd hi, run_loadVar_row w g2 ty2 ty2 cs2 (0, 0) d2 hg2 hu2 hd2 hi2]
def z6 : Array Value := #[.int .u8 0, .int .u8 0, .int .u8 0, .int .u8 0, .string ⟨#[]⟩, .int .i64 0]
theorem dest_info : (Tryd.prog.info? 29).map (·.size) = some 6 := by kernel_rfl
theorem dest_row (a0 a1 a2 a3 p : Int) (s : ByteArray) : (Tryd.prog.info? 29).map (·.size) = some (#[.int .u8 a0, .int .u8 a1, .int .u8 a2, .int .u8 a3, .string s, .int .i64 p] : Array Value).size ∧ (#[.int .u8 0, .int .u8 0, .int .u8 0, .int .u8 0, .string ⟨#[]⟩, .int .i64 0] : Array Value).size = (#[.int .u8 a0, .int .u8 a1, .int .u8 a2, .int .u8 a3, .string s, .int .i64 p] : Array Value).size ∧ (#[.int .u8 a0, .int .u8 a1, .int .u8 a2, .int .u8 a3, .string s, .int .i64 p] : Array Value).all (·.oneCell') = true := ⟨dest_info, rfl, by simp [Value.oneCell']⟩
theorem plR_some {bs : List Int} {k : Nat} {r : Array Value} {n : Int} {x : Ch × Int} (h : plR bs k = (r, n, some x)) : (hostL bs ⟨k, none⟩).2.err = some x := by
  unfold plR at h
  split at h
  · injection h with _ h; injection h with _ h; cases h
  · injection h with _ h; injection h with _ h
theorem plR_fine {bs : List Int} {k : Nat} {r : Array Value} {n : Int} (h : plR bs k = (r, n, none)) : ∃ (hv : HostV) (a : Nat), hostL bs ⟨k, none⟩ = (hv, ⟨a, none⟩) ∧ r = hostA hv ∧ n = a := by
  unfold plR at h
  split at h
  · rename_i he
    injection h with h1 h2
    injection h2 with h2 _
    generalize hostL bs ⟨k, none⟩ = t at he h1 h2 ⊢
    obtain ⟨u, a, er⟩ := t
    have e1 : er = none := he
    subst e1
    exact ⟨u, a, rfl, h1.symm, h2.symm⟩
  · rename_i he
    injection h with _ h2
    injection h2 with _ h2
    exact absurd h2 he
theorem plR_form (bs : List Int) (k : Nat) : ∃ a0 a1 a2 a3 s, (plR bs k).1 = #[.int .u8 a0, .int .u8 a1, .int .u8 a2, .int .u8 a3, .string s] := by
  unfold plR
  split
  · exact ⟨_, _, _, _, _, rfl⟩
  · exact ⟨_, _, _, _, _, rfl⟩
theorem hrow (a0 a1 a2 a3 : Int) (s : ByteArray) : (Tryd.prog.info? 27).map (·.size) = some (#[.int .u8 a0, .int .u8 a1, .int .u8 a2, .int .u8 a3, .string s] : Array Value).size ∧ (#[.int .u8 0, .int .u8 0, .int .u8 0, .int .u8 0, .string ⟨#[]⟩] : Array Value).size = (#[.int .u8 a0, .int .u8 a1, .int .u8 a2, .int .u8 a3, .string s] : Array Value).size ∧ (#[.int .u8 a0, .int .u8 a1, .int .u8 a2, .int .u8 a3, .string s] : Array Value).all (·.oneCell') = true := host_row a0 a1 a2 a3 s
theorem plR_pos {bs : List Int} (hbs : ∀ x ∈ bs, 0 ≤ x ∧ x < 256) {k : Nat} {r : Array Value} {n : Int} {x : Ch × Int} (h : plR bs k = (r, n, some x)) : 0 < x.1.length := by
  by_cases h0 : bs.length ≤ k
  · rw [plR_none h0] at h; injection h with _ h; injection h with _ h; injection h with h; subst h; exact Nat.succ_pos _
  · obtain ⟨y, hy⟩ : ∃ y, bs[k]? = some y := ⟨_, List.getElem?_eq_getElem (by omega)⟩
    by_cases h1 : y = 1
    · subst h1
      by_cases hl : bs.length < k + 5
      · rw [plR_ashort hy hl] at h; injection h with _ h; injection h with _ h; injection h with h; subst h; exact Nat.succ_pos _
      · rw [plR_addr hy (List.getElem?_eq_getElem (by omega)) (List.getElem?_eq_getElem (by omega)) (List.getElem?_eq_getElem (by omega)) (List.getElem?_eq_getElem (by omega))] at h
        injection h with _ h; injection h with _ h; cases h
    · by_cases h3 : y = 3
      · subst h3
        obtain ⟨s, en, et⟩ : ∃ t, txR bs 253 (k + 1) = t := ⟨_, rfl⟩
        cases hx : txR bs 253 (k + 1) with
        | mk s r2 =>
          obtain ⟨en, et⟩ := r2
          cases et with
          | some z =>
            rw [plR_terr hy hx] at h; injection h with _ h; injection h with _ h; injection h with h; subst h
            have := txR_len hbs (most := 253) (k := k + 1) (x := z) (by rw [hx])
            omega
          | none =>
            cases hn : nameR s with
            | mk nm e2 =>
              cases e2 with
              | some z =>
                rw [plR_nerr hy hx hn] at h; injection h with _ h; injection h with _ h; injection h with h; subst h
                exact Nat.succ_pos _
              | none => rw [plR_name hy hx hn] at h; injection h with _ h; injection h with _ h; cases h
      · rw [plR_type hy h1 h3] at h; injection h with _ h; injection h with _ h; injection h with h; subst h; exact Nat.succ_pos _
theorem rq_zero {bs : List Int} {x : Ch × Int} (h : (req6 bs).2.err = some x) : reqO bs = (0, z6, 0) := by
  unfold reqO; rw [if_neg (by rw [h]; exact fun h => by cases h)]; rfl
theorem rq_stick5 {bs : List Int} {x : Ch × Int} (h : (req5 bs).2.err = some x) : (req6 bs).2.err = some x := (Ex.take (req5 bs).2 2).sticky bs x h
theorem rq_stick4 {bs : List Int} {x : Ch × Int} (h : (req4 bs).err = some x) : (req6 bs).2.err = some x := rq_stick5 ((Ex.host (req4 bs)).sticky bs x h)
theorem rq_stick3 {bs : List Int} {x : Ch × Int} (h : (req3 bs).2.err = some x) : (req6 bs).2.err = some x := by
  apply rq_stick4
  unfold req4
  rw [if_neg (fun h2 => by rw [h] at h2; cases h2.1), h]
theorem rq_vbad {bs : List Int} {x : Ch × Int} (h : (versL bs 5 st0).err = some x) : (req6 bs).2.err = some x ∧ reqO bs = (0, z6, 0) := by
  have h2 : (req2 bs).2.err = some x := (Ex.one (req1 bs)).sticky bs x h
  have h3 : (req3 bs).2.err = some x := (Ex.one (req2 bs).2).sticky bs x h2
  exact ⟨rq_stick3 h3, rq_zero (rq_stick3 h3)⟩
theorem rq_short {bs : List Int} (h : (versL bs 5 st0).err = none) (hl : bs.length < 3) : (req6 bs).2.err = some ([(fiveB, (bs.length : Int))], 6) ∧ reqO bs = (0, z6, 0) := by
  have e1 : req1 bs = ⟨1, none⟩ := (versL_none h).1
  have h3 : (req3 bs).2.err = some ([(fiveB, (bs.length : Int))], 6) := by
    by_cases h2 : bs.length ≤ 1
    · have h2 : (req2 bs).2.err = some ([(fiveB, (bs.length : Int))], 6) := by
        unfold req2; rw [e1, oneL_short h2]
      exact (Ex.one (req2 bs).2).sticky bs _ h2
    · obtain ⟨y, hy⟩ : ∃ y, bs[1]? = some y := ⟨_, List.getElem?_eq_getElem (by omega)⟩
      have h2 : req2 bs = (y, ⟨2, none⟩) := by unfold req2; rw [e1, oneL_ok hy]
      unfold req3
      rw [h2]
      show (oneL bs ⟨2, none⟩).2.err = _
      rw [oneL_short (by omega)]
  exact ⟨rq_stick3 h3, rq_zero (rq_stick3 h3)⟩
theorem rq_word {bs : List Int} {c y : Int} (h : (versL bs 5 st0).err = none) (h1 : bs[1]? = some c) (h2 : bs[2]? = some y) (hy : y ≠ 0) : (req6 bs).2.err = some ([(fiveB, 2)], 72) ∧ reqO bs = (0, z6, 0) := by
  have e1 : req1 bs = ⟨1, none⟩ := (versL_none h).1
  have e2 : req2 bs = (c, ⟨2, none⟩) := by unfold req2; rw [e1, oneL_ok h1]
  have e3 : req3 bs = (y, ⟨3, none⟩) := by unfold req3; rw [e2, oneL_ok h2]
  have h4 : (req4 bs).err = some ([(fiveB, 2)], 72) := by
    unfold req4
    rw [e3, if_pos ⟨rfl, hy⟩]; rfl
  exact ⟨rq_stick4 h4, rq_zero (rq_stick4 h4)⟩
theorem rq_place {bs : List Int} {c : Int} (h : (versL bs 5 st0).err = none) (h1 : bs[1]? = some c) (h2 : bs[2]? = some 0) : req2 bs = (c, ⟨2, none⟩) ∧ req5 bs = hostL bs ⟨3, none⟩ := by
  obtain ⟨e2, e4⟩ := req_head (versL_none h).2 h1 h2
  exact ⟨e2, by unfold req5; rw [e4]⟩
theorem rq_pbad {bs : List Int} {c : Int} (h : (versL bs 5 st0).err = none) (h1 : bs[1]? = some c) (h2 : bs[2]? = some 0) {r : Array Value} {n : Int} {x : Ch × Int} (hp : plR bs 3 = (r, n, some x)) : (req6 bs).2.err = some x ∧ reqO bs = (0, z6, 0) := by
  have h5 : (req5 bs).2.err = some x := by rw [(rq_place h h1 h2).2]; exact plR_some hp
  exact ⟨rq_stick5 h5, rq_zero (rq_stick5 h5)⟩
theorem rq_pshort {bs : List Int} {c : Int} (h : (versL bs 5 st0).err = none) (h1 : bs[1]? = some c) (h2 : bs[2]? = some 0) {hv : HostV} {a : Nat} (hp : hostL bs ⟨3, none⟩ = (hv, ⟨a, none⟩)) (hl : bs.length < a + 2) : (req6 bs).2.err = some ([(fiveB, (bs.length : Int))], 6) ∧ reqO bs = (0, z6, 0) := by
  have h6 : (req6 bs).2.err = some ([(fiveB, (bs.length : Int))], 6) := by
    unfold req6
    rw [(rq_place h h1 h2).2, hp]
    show (takeL bs 2 ⟨a, none⟩).2.err = _
    unfold takeL
    rw [if_pos (.inr (by show bs.length < a + 2; omega))]; rfl
  exact ⟨h6, rq_zero h6⟩
theorem rq_fine {bs : List Int} {c p0 p1 : Int} (h : (versL bs 5 st0).err = none) (h1 : bs[1]? = some c) (h2 : bs[2]? = some 0) {hv : HostV} {a : Nat} (hp : hostL bs ⟨3, none⟩ = (hv, ⟨a, none⟩)) (g0 : bs[a]? = some p0) (g1 : bs[a + 1]? = some p1) :
    (req6 bs).2.err = none ∧ reqO bs = (c, destA hv (p0 * 256 + p1), ((a + 2 : Nat) : Int)) := by
  have hl := (List.getElem?_eq_some_iff.1 g1).1
  have e6 : req6 bs = ([p0, p1], ⟨a + 2, none⟩) := by
    unfold req6
    rw [(rq_place h h1 h2).2, hp]
    show takeL bs 2 ⟨a, none⟩ = _
    rw [takeL_ok (by omega)]
    congr 1
    apply List.ext_getElem?
    intro i
    rw [List.getElem?_take]
    by_cases hi : i < 2
    · rw [if_pos hi, List.getElem?_drop]
      match i, hi with
      | 0, _ => exact g0
      | 1, _ => exact g1
    · rw [if_neg hi, List.getElem?_eq_none]
      simp; omega
  refine ⟨by rw [e6], ?_⟩
  unfold reqO
  rw [e6, (rq_place h h1 h2).1, (rq_place h h1 h2).2, hp]
  exact if_pos rfl
section
variable {σ w w' : World} {Hs : List Hp} {H H1 H2 M N Y R E X HB : Hp}
set_option maxHeartbeats 4000000
-- a Bad comes back of a call (its chain ER), goes into a cell of its own: slot TT, of value slot TV; RG the region behind; hw2 : Sat σ w2 (pieces)
-- the fault is told: x of it, HX1 its length
def RReqP (σ : World) (Hs : List Hp) (o : Int × Array Value × Int) (er : Option (Ch × Int)) (e : Ending) (w' : World) : Prop := e = .returned (.tuple #[.int .i64 o.1, .agg o.2.1, .int .i64 o.2.2, .agg (BE er)]) ∧ Sat σ w' Hs
theorem RReqP.mk {o : Int × Array Value × Int} {er : Option (Ch × Int)} {e : Ending} (h1 : e = .returned (.tuple #[.int .i64 o.1, .agg o.2.1, .int .i64 o.2.2, .agg (BE er)])) (h2 : Sat σ w' Hs) : RReqP σ Hs o er e w' := ⟨h1, h2⟩
-- a fault is told with no destination: slots TD, TW; HW2 : Sat σ w2 (dest :: bad :: ..)
set_option maxRecDepth 10000 in
theorem rrequest_any (bv : Value) (bs : List Int) (hbs : ∀ x ∈ bs, 0 ≤ x ∧ x < 256) (w : World) (hw : Sat σ w Hs) (hB : HB ∈ Hs) (hb : kB.IsSl HB bv bs) :
    Calls Tryd.prog 21 #[bv] w (RReqP σ Hs (reqO bs) (req6 bs).2.err) := by
  obtain ⟨A, c, rfl, hc1, hc2, _⟩ := id hb.form
  have HSH := Lib.hid (fun w' Hs' (h : Sat σ w' Hs') => rshort_any _ bs w' h hb)
  have HVE := Lib.hid (fun w' Hs' (h : Sat σ w' Hs') (hm : HB ∈ Hs') => rversion_any _ bs 5 w' h hm hb)
  have HPL := Lib.hid (fun w' Hs' (h : Sat σ w' Hs') (hm : HB ∈ Hs') => rplace_any _ bs hbs 3 (by decide) w' h hm hb)
  have HVL := Lib.hid (fun x => @versL_len bs 5 x)
  have HPP := Lib.hid (fun r n x => @plR_pos bs hbs 3 r n x)
  have HPF := Lib.hid (fun r n => @plR_fine bs 3 r n)
  have HT1 := Lib.hid (fun x => @rq_vbad bs x)
  have HT2 := Lib.hid (@rq_short bs)
  have HT3 := Lib.hid (fun c y => @rq_word bs c y)
  have HT4 := Lib.hid (fun c h h1 h2 r n x => @rq_pbad bs c h h1 h2 r n x)
  have HT5 := Lib.hid (fun c h h1 h2 hv a => @rq_pshort bs c h h1 h2 hv a)
  have HT6 := Lib.hid (fun c p0 p1 h h1 h2 hv a => @rq_fine bs c p0 p1 h h1 h2 hv a)
  have HBB := Lib.hid hb
  have hwa := (hw.alloc (.cells #[.int .u8 0, .int .u8 0, .int .u8 0, .int .u8 0, .string ⟨#[]⟩, .int .i64 0] 29)).alloc (.cells #[.int .i64 0, .string ⟨#[]⟩, .string ⟨#[]⟩, .string ⟨#[]⟩, .string ⟨#[]⟩, .int .i64 0, .int .i64 0, .int .i64 0, .int .i64 0, .int .i64 0] 41)
  rw [World.size_alloc] at hwa
  unfold RPlaceP at HPL
  rw [show ((3 : Nat) : Int) = 3 from rfl] at HPL
  clear hb
  generalize (versL bs 5 st0).err = er at *
  generalize reqO bs = o at *
  generalize (req6 bs).2.err = e6 at *
  go_enter Tryd.func21, Tryd.ntmps21
  go_wp2_with fail
  generalize w.heap.size = n3 at *
  generalize hwx : World.alloc _ _ = wx at *
  clear hwx
  generalize n3 + 1 = n5 at *
  refine (HVE.out _ _ hwa (by simp [hB])).mono ?_
  rintro e w2 ⟨rfl, hw2⟩
  clear hwa HVE
  have hw3 := hw2.alloc (.cells #[.int .i64 0, .string ⟨#[]⟩, .string ⟨#[]⟩, .string ⟨#[]⟩, .string ⟨#[]⟩, .int .i64 0, .int .i64 0, .int .i64 0, .int .i64 0, .int .i64 0] 41)
  generalize hn9 : w2.heap.size = n6 at *
  have HW3 := Lib.hid hw3
  have HB1 := Lib.hid (BE_full er)
  have HG1 := Lib.hid (BE_get er)
  have hw5 := hw3.setRow (BE er)
  generalize hB1 : BE er = B1 at *
  have HBE := Lib.hid hB1
  clear hB1 hw2 hw3
  go_upto_region 2 with (with_reducible show wpList _ _ _ [{ dst := none, op := _, type := _, pos := _, after := _, guard := _ }] _ _; go_must (refine wpList_store_row rfl 41 (.tmp 6) (.tmp 11) rfl n6 B1 rfl rfl 41 _ HW3.out.heap HB1.out.2.1 HB1.out.2.2.1 HB1.out.2.2.2 ?_))
  generalize hw5e : World.setRow _ _ _ = w5 at *
  clear hw5e hn9 HW3
  have k0 : w5.cell? ⟨n6, 0, none⟩ = some (.int .i64 ((chE er).length : Nat)) := hw5.one_cell HG1.out
  have HSE : Hid (∀ W Ls, Sat σ W Ls → Hp.one n6 (.cells B1 41 (0, 0)) ∈ Ls → W.rangeAt n6 0 B1.toList) := Lib.hid (fun W Ls h hm j v hv => h.cellAt hm ((Hp.one_cell _ _ _ _).trans (by rw [Nat.zero_add]; simpa using hv)))
  cases er with
  | some x =>
    obtain ⟨h1, h2⟩ := HT1.out x rfl
    have HR := Lib.hid (And.intro h1 h2)
    have hx1 := HVL.out x rfl
    have k0' : w5.cell? ⟨n6, 0, none⟩ = some (.int .i64 1) := by rw [k0]; show some (Value.int .i64 ((x.1.length : Nat) : Int)) = _; rw [hx1]; rfl
    have hwn := hw5.drew.up2.swap1
    clear k0 h1 h2 hx1 HT1 HT2 HT3 HT4 HT5 HT6 HPL HPP HPF HVL
    go_upto_region 3 with fail
    refine wp_region_held_drew (S := fun W => W.rangeAt n6 0 B1.toList) (by kernel_rfl) (HSE.out _ _ hw5.drew (by simp)) (fun hS0 => ?_)
    (try simp only [Act.put, List.getElem_toArray, List.getElem_cons_succ, List.getElem_cons_zero, List.setIfInBounds_toArray, List.set_cons_zero, List.set_cons_succ, Array.toArray_toList])
    refine wpAnyH_take (i := 0) (v := ?_) rfl (by kernel_rfl) (by kernel_rfl) (by kernel_rfl) (fun _ _ _ h => h) (Or.inl ⟨by kernel_rfl, ?_⟩) hS0 ?_
    rotate_left
    · intro w hSw; clear hSw; go_simp; (try with_reducible rfl)
    (try simp only [Act.put, List.getElem_toArray, List.getElem_cons_succ, List.getElem_cons_zero, List.setIfInBounds_toArray, List.set_cons_zero, List.set_cons_succ, Array.toArray_toList])
    refine wpAnyH_take (i := 1) rfl (by kernel_rfl) (by kernel_rfl) (by kernel_rfl) (fun _ _ _ h => h) (yieldsIf_load_mid (by kernel_rfl) _ _ rfl _ _ rfl (B1.toList) _ (fun w h => h) Tryd.underlying41 rfl HB1.out.1) hS0 ?_
    (try simp only [Act.put, List.getElem_toArray, List.getElem_cons_succ, List.getElem_cons_zero, List.setIfInBounds_toArray, List.set_cons_zero, List.set_cons_succ, Array.toArray_toList])
    refine wpAnyH_take (i := 2) (v := ?_) rfl (by kernel_rfl) (by kernel_rfl) (by kernel_rfl) (fun _ _ _ h => h) (Or.inl ⟨by kernel_rfl, ?_⟩) hS0 ?_
    rotate_left
    · intro w hSw; clear hSw; go_simp; (try with_reducible rfl)
    (try simp only [Act.put, List.getElem_toArray, List.getElem_cons_succ, List.getElem_cons_zero, List.setIfInBounds_toArray, List.set_cons_zero, List.set_cons_succ, Array.toArray_toList])
    refine wpAnyH_ready (rs := [3]) (by kernel_rfl) (by simp) ?_
    refine AllReadyH.cons rfl (fun K2 hK2 => ?_) AllReadyH.nil
    refine step_store_row rfl 29 (.tmp 3) (.tmp 15) rfl n3 #[.int .u8 0, .int .u8 0, .int .u8 0, .int .u8 0, .string ⟨#[]⟩, .int .i64 0] rfl rfl 29 _ hwn.heap (dest_row 0 0 0 0 0 ⟨#[]⟩).1 (dest_row 0 0 0 0 0 ⟨#[]⟩).2.1 (dest_row 0 0 0 0 0 ⟨#[]⟩).2.2 ?_
    have hw12 := hwn.setRow #[.int .u8 0, .int .u8 0, .int .u8 0, .int .u8 0, .string ⟨#[]⟩, .int .i64 0]
    refine hK2.out _ _ (HSE.out _ _ hw12 (by simp)) (fun hS1 => ?_)
    clear hK2 K2
    (try simp only [Act.put, List.getElem_toArray, List.getElem_cons_succ, List.getElem_cons_zero, List.setIfInBounds_toArray, List.set_cons_zero, List.set_cons_succ, Array.toArray_toList])
    refine wpAnyH_take (i := 4) (v := ?_) rfl (by kernel_rfl) (by kernel_rfl) (by kernel_rfl) (fun _ _ _ h => h) (Or.inl ⟨by kernel_rfl, ?_⟩) hS1 ?_
    rotate_left
    · intro w hSw; clear hSw; go_simp; (try with_reducible rfl)
    (try simp only [Act.put, List.getElem_toArray, List.getElem_cons_succ, List.getElem_cons_zero, List.setIfInBounds_toArray, List.set_cons_zero, List.set_cons_succ, Array.toArray_toList])
    refine wpAnyH_ready (rs := [5]) (by kernel_rfl) (by simp) ?_
    refine AllReadyH.cons rfl (fun K2 hK2 => ?_) AllReadyH.nil
    refine step_store_row rfl 41 (.tmp 5) (.tmp 16) rfl n5 B1 rfl rfl 41 _ hw12.swap.heap HB1.out.2.1 HB1.out.2.2.1 HB1.out.2.2.2 ?_
    have hw13 := hw12.swap.setRow B1
    refine hK2.out _ _ (HSE.out _ _ hw13 (by simp)) (fun hS2 => ?_)
    clear hK2 K2
    (try simp only [Act.put, List.getElem_toArray, List.getElem_cons_succ, List.getElem_cons_zero, List.setIfInBounds_toArray, List.set_cons_zero, List.set_cons_succ, Array.toArray_toList])
    refine wpAnyH_done (by kernel_rfl) ?_ _
    generalize hW12 : World.setRow (World.setRow _ _ _) _ _ = w13 at *
    clear hW12
    (try simp only [Exit.inBlock, Exit.then])
    go_wp2
    refine bodyPost_ret (results_req rfl _ _ n3 n5 #[.int .u8 0, .int .u8 0, .int .u8 0, .int .u8 0, .string ⟨#[]⟩, .int .i64 0] B1 _ _ rfl hw13.swap.heap Tryd.underlying29 rfl (dest_row 0 0 0 0 0 ⟨#[]⟩).1 rfl hw13.heap Tryd.underlying41 rfl HB1.out.2.1) rfl ?_
    rw [HR.out.1, HR.out.2]
    exact RReqP.mk (by rw [HBE.out]; rfl) hw13.drop.drop.drop
  | none =>
    have k0' : w5.cell? ⟨n6, 0, none⟩ = some (.int .i64 0) := k0
    have hwq := hw5.drop
    clear k0 HSE HB1 HG1 HBE HT1 HVL
    by_cases hl : bs.length < 3
    · obtain ⟨h1, h2⟩ := HT2.out rfl hl
      have HR := Lib.hid (And.intro h1 h2)
      have hli : (bs.length : Int) < 3 := by omega
      clear h1 h2 hl HT2 HT3 HT4 HT5 HT6 HPL HPP HPF
      go_wp2_with fail
      refine (HSH.out _ _ hwq).mono ?_
      rintro e w7 ⟨rfl, hw7⟩
      have HW2 := Lib.hid hw7.swap
      clear hw5 hwq hw7 k0'
      have HBO := Lib.hid (BE_row (some ([(fiveB, (bs.length : Int))], 6)))
      generalize hBE : BE (some ([(fiveB, (bs.length : Int))], 6)) = B at *
      have HBF := Lib.hid hBE
      clear hBE
      have HW3 := Lib.hid (HW2.out.setRow #[.int .u8 0, .int .u8 0, .int .u8 0, .int .u8 0, .string ⟨#[]⟩, .int .i64 0]).swap
      go_wp2_with (first
        | (with_reducible show wpList _ _ _ [{ dst := none, op := _, type := _, pos := _, after := _, guard := _ }, _, _] _ _; go_must (refine wpList_store_row rfl 29 (.tmp 3) (.tmp 20) rfl n3 #[.int .u8 0, .int .u8 0, .int .u8 0, .int .u8 0, .string ⟨#[]⟩, .int .i64 0] rfl rfl 29 _ HW2.out.heap (dest_row 0 0 0 0 0 ⟨#[]⟩).1 (dest_row 0 0 0 0 0 ⟨#[]⟩).2.1 (dest_row 0 0 0 0 0 ⟨#[]⟩).2.2 ?_))
        | (with_reducible show wpList _ _ _ [{ dst := none, op := _, type := _, pos := _, after := _, guard := _ }] _ _; go_must (refine wpList_store_row rfl 41 (.tmp 5) (.tmp 22) rfl n5 B rfl rfl 41 _ HW3.out.heap HBO.out.1 HBO.out.2.1 HBO.out.2.2 ?_)))
      have hfin := HW3.out.setRow B
      (try simp only [Exit.inBlock, Exit.then])
      refine bodyPost_ret (results_req rfl _ _ n3 n5 #[.int .u8 0, .int .u8 0, .int .u8 0, .int .u8 0, .string ⟨#[]⟩, .int .i64 0] B _ _ rfl hfin.swap.heap Tryd.underlying29 rfl (dest_row 0 0 0 0 0 ⟨#[]⟩).1 rfl hfin.heap Tryd.underlying41 rfl HBO.out.1) rfl ?_
      rw [HR.out.1, HR.out.2]
      exact RReqP.mk (by rw [HBF.out]; rfl) (hfin.drop.drop)
    · have hli : ¬ (bs.length : Int) < 3 := by omega
      have g : ∀ i, i < bs.length → ∃ b off y, A = some ⟨b, off, none⟩ ∧ bs[i]? = some y ∧ Hp.cell HB b (off + i) = some (.int .u8 y) := fun i hi => by
        obtain ⟨y, hy⟩ : ∃ y, bs[i]? = some y := ⟨_, List.getElem?_eq_getElem hi⟩
        obtain ⟨b', off', cs, rfl, hcs, hcl⟩ := HBB.out.get i y hy
        obtain rfl : cs = [.int .u8 y] := hcs
        have := hcl 0 _ rfl
        simp only [show kB.sz = 1 from rfl, Nat.mul_one, Nat.add_zero] at this
        exact ⟨b', off', y, rfl, hy, this⟩
      obtain ⟨b, off, y1, rfl, g1, c1⟩ := g 1 (by omega)
      have g' : ∀ i, i < bs.length → ∃ y, bs[i]? = some y ∧ Hp.cell HB b (off + i) = some (.int .u8 y) := fun i hi => by
        obtain ⟨b', off', y, ev, h1, h2⟩ := g i hi
        injection ev with ev
        injection ev with z1 z2 _
        subst z1; subst z2
        exact ⟨y, h1, h2⟩
      obtain ⟨y2, g2, c2⟩ := g' 2 (by omega)
      have hd2 := hw5.cellAt (H := HB) (by simp [hB]) c2
      have hi2 : (2 : Int) < bs.length := by omega
      have hi1 : (1 : Int) < bs.length := by omega
      have HG := Lib.hid g'
      have HC1 := Lib.hid c1
      have hyr := hbs y1 (List.mem_of_getElem? g1)
      clear g g' c1 c2 HT2
      by_cases hy : y2 = 0
      · have hyb : (y2 != 0) = false := by simp [hy]
        rw [hy] at g2
        have HT4' := Lib.hid (HT4.out y1 rfl g1 g2)
        have HT5' := Lib.hid (HT5.out y1 rfl g1 g2)
        have HT6' := Lib.hid (fun p0 p1 => HT6.out y1 p0 p1 rfl g1 g2)
        clear g1 g2 HT3 HT4 HT5 HT6 hy hl
        obtain ⟨a0, a1, a2, a3, nm, hform⟩ := plR_form bs 3
        generalize plR bs 3 = pr at *
        obtain ⟨hr, en, ep⟩ := pr
        obtain rfl : hr = _ := hform
        go_wp2_with fail
        refine (HPL.out _ _ hwq (by simp [hB])).mono ?_
        rintro e w7 ⟨rfl, hw7⟩
        clear hw5 hwq hd2 k0' HPL
        have hw8 := ((hw7.alloc (.cells #[.int .u8 0, .int .u8 0, .int .u8 0, .int .u8 0, .string ⟨#[]⟩] 27)).alloc (.cells #[.int .i64 0, .string ⟨#[]⟩, .string ⟨#[]⟩, .string ⟨#[]⟩, .string ⟨#[]⟩, .int .i64 0, .int .i64 0, .int .i64 0, .int .i64 0, .int .i64 0] 41))
        rw [World.size_alloc] at hw8
        generalize hn7 : w7.heap.size = n7 at *
        generalize hn8 : n7 + 1 = n8 at *
        have HW8 := Lib.hid hw8.swap
        have HW9 := Lib.hid (hw8.swap.setRow #[.int .u8 a0, .int .u8 a1, .int .u8 a2, .int .u8 a3, .string nm]).swap
        have HB1 := Lib.hid (BE_full ep)
        have HG1 := Lib.hid (BE_get ep)
        have hw5 := (hw8.swap.setRow #[.int .u8 a0, .int .u8 a1, .int .u8 a2, .int .u8 a3, .string nm]).swap.setRow (BE ep)
        generalize hB1 : BE ep = B1 at *
        have HBE := Lib.hid hB1
        clear hB1 hw7 hw8
        go_upto_region 9 with (first
          | (with_reducible show wpList _ _ _ [{ dst := none, op := _, type := _, pos := _, after := _, guard := _ }, _, _] _ _; go_must (refine wpList_store_row rfl 27 (.tmp 7) (.tmp 32) rfl n7 #[.int .u8 a0, .int .u8 a1, .int .u8 a2, .int .u8 a3, .string nm] rfl rfl 27 _ HW8.out.heap (host_row a0 a1 a2 a3 nm).1 (host_row a0 a1 a2 a3 nm).2.1 (host_row a0 a1 a2 a3 nm).2.2 ?_))
          | (with_reducible show wpList _ _ _ [{ dst := none, op := _, type := _, pos := _, after := _, guard := _ }] _ _; go_must (refine wpList_store_row rfl 41 (.tmp 9) (.tmp 34) rfl n8 B1 rfl rfl 41 _ HW9.out.heap HB1.out.2.1 HB1.out.2.2.1 HB1.out.2.2.2 ?_)))
        generalize hw9e : World.setRow (World.setRow _ _ _) _ _ = w9 at *
        clear hw9e hn7 hn8 HW8 HW9
        have k0 : w9.cell? ⟨n8, 0, none⟩ = some (.int .i64 ((chE ep).length : Nat)) := hw5.one_cell HG1.out
        cases ep with
        | some x =>
          obtain ⟨h1, h2⟩ := HT4'.out _ en x (by trivial)
          have HR := Lib.hid (And.intro h1 h2)
          have hpos := HPP.out _ en x (by trivial)
          have hposi : (0 : Int) < (x.1.length : Nat) := by omega
          have k0' : w9.cell? ⟨n8, 0, none⟩ = some (.int .i64 (x.1.length : Nat)) := k0
          have HSE : Hid (∀ W Ls, Sat σ W Ls → Hp.one n8 (.cells B1 41 (0, 0)) ∈ Ls → W.rangeAt n8 0 B1.toList) := Lib.hid (fun W Ls h hm j v hv => h.cellAt hm ((Hp.one_cell _ _ _ _).trans (by rw [Nat.zero_add]; simpa using hv)))
          have hwn := hw5.drew.up3.up3.swap
          clear k0 h1 h2 hpos HT4' HT5' HT6' HPP HPF HG HC1
          go_upto_region 10 with fail
          refine wp_region_held_drew (S := fun W => W.rangeAt n8 0 B1.toList) (by kernel_rfl) (HSE.out _ _ hw5.drew (by simp)) (fun hS0 => ?_)
          (try simp only [Act.put, List.getElem_toArray, List.getElem_cons_succ, List.getElem_cons_zero, List.setIfInBounds_toArray, List.set_cons_zero, List.set_cons_succ, Array.toArray_toList])
          refine wpAnyH_take (i := 0) (v := ?_) rfl (by kernel_rfl) (by kernel_rfl) (by kernel_rfl) (fun _ _ _ h => h) (Or.inl ⟨by kernel_rfl, ?_⟩) hS0 ?_
          rotate_left
          · intro w hSw; clear hSw; go_simp; (try with_reducible rfl)
          (try simp only [Act.put, List.getElem_toArray, List.getElem_cons_succ, List.getElem_cons_zero, List.setIfInBounds_toArray, List.set_cons_zero, List.set_cons_succ, Array.toArray_toList])
          refine wpAnyH_take (i := 1) rfl (by kernel_rfl) (by kernel_rfl) (by kernel_rfl) (fun _ _ _ h => h) (yieldsIf_load_mid (by kernel_rfl) _ _ rfl _ _ rfl (B1.toList) _ (fun w h => h) Tryd.underlying41 rfl HB1.out.1) hS0 ?_
          (try simp only [Act.put, List.getElem_toArray, List.getElem_cons_succ, List.getElem_cons_zero, List.setIfInBounds_toArray, List.set_cons_zero, List.set_cons_succ, Array.toArray_toList])
          refine wpAnyH_take (i := 2) (v := ?_) rfl (by kernel_rfl) (by kernel_rfl) (by kernel_rfl) (fun _ _ _ h => h) (Or.inl ⟨by kernel_rfl, ?_⟩) hS0 ?_
          rotate_left
          · intro w hSw; clear hSw; go_simp; (try with_reducible rfl)
          (try simp only [Act.put, List.getElem_toArray, List.getElem_cons_succ, List.getElem_cons_zero, List.setIfInBounds_toArray, List.set_cons_zero, List.set_cons_succ, Array.toArray_toList])
          refine wpAnyH_ready (rs := [3]) (by kernel_rfl) (by simp) ?_
          refine AllReadyH.cons rfl (fun K2 hK2 => ?_) AllReadyH.nil
          refine step_store_row rfl 29 (.tmp 3) (.tmp 38) rfl n3 #[.int .u8 0, .int .u8 0, .int .u8 0, .int .u8 0, .string ⟨#[]⟩, .int .i64 0] rfl rfl 29 _ hwn.heap (dest_row 0 0 0 0 0 ⟨#[]⟩).1 (dest_row 0 0 0 0 0 ⟨#[]⟩).2.1 (dest_row 0 0 0 0 0 ⟨#[]⟩).2.2 ?_
          have hw12 := hwn.setRow #[.int .u8 0, .int .u8 0, .int .u8 0, .int .u8 0, .string ⟨#[]⟩, .int .i64 0]
          refine hK2.out _ _ (HSE.out _ _ hw12 (by simp)) (fun hS1 => ?_)
          clear hK2 K2
          (try simp only [Act.put, List.getElem_toArray, List.getElem_cons_succ, List.getElem_cons_zero, List.setIfInBounds_toArray, List.set_cons_zero, List.set_cons_succ, Array.toArray_toList])
          refine wpAnyH_take (i := 4) (v := ?_) rfl (by kernel_rfl) (by kernel_rfl) (by kernel_rfl) (fun _ _ _ h => h) (Or.inl ⟨by kernel_rfl, ?_⟩) hS1 ?_
          rotate_left
          · intro w hSw; clear hSw; go_simp; (try with_reducible rfl)
          (try simp only [Act.put, List.getElem_toArray, List.getElem_cons_succ, List.getElem_cons_zero, List.setIfInBounds_toArray, List.set_cons_zero, List.set_cons_succ, Array.toArray_toList])
          refine wpAnyH_ready (rs := [5]) (by kernel_rfl) (by simp) ?_
          refine AllReadyH.cons rfl (fun K2 hK2 => ?_) AllReadyH.nil
          refine step_store_row rfl 41 (.tmp 5) (.tmp 39) rfl n5 B1 rfl rfl 41 _ hw12.swap.heap HB1.out.2.1 HB1.out.2.2.1 HB1.out.2.2.2 ?_
          have hw13 := hw12.swap.setRow B1
          refine hK2.out _ _ (HSE.out _ _ hw13 (by simp)) (fun hS2 => ?_)
          clear hK2 K2
          (try simp only [Act.put, List.getElem_toArray, List.getElem_cons_succ, List.getElem_cons_zero, List.setIfInBounds_toArray, List.set_cons_zero, List.set_cons_succ, Array.toArray_toList])
          refine wpAnyH_done (by kernel_rfl) ?_ _
          generalize hW12 : World.setRow (World.setRow _ _ _) _ _ = w13 at *
          clear hW12
          (try simp only [Exit.inBlock, Exit.then])
          go_wp2
          refine bodyPost_ret (results_req rfl _ _ n3 n5 #[.int .u8 0, .int .u8 0, .int .u8 0, .int .u8 0, .string ⟨#[]⟩, .int .i64 0] B1 _ _ rfl hw13.swap.heap Tryd.underlying29 rfl (dest_row 0 0 0 0 0 ⟨#[]⟩).1 rfl hw13.heap Tryd.underlying41 rfl HB1.out.2.1) rfl ?_
          rw [HR.out.1, HR.out.2]
          exact RReqP.mk (by rw [HBE.out]; rfl) hw13.drop.drop.drop.drop
        | none =>
          have k0' : w9.cell? ⟨n8, 0, none⟩ = some (.int .i64 0) := k0
          obtain ⟨hv, a, hha, hhr, rfl⟩ := HPF.out _ en (by trivial)
          have ha : a ≤ 300 := by
            have h := (Ex.host ⟨3, none⟩).most bs
            rw [hha] at h
            have h' : a ≤ 3 + 255 := h
            omega
          have ma2 : IntKind.i64.wrap ((a : Int) + 2) = (a : Int) + 2 := IntWalk.i64_in _ (by omega)
          have HHR := Lib.hid hhr
          have HT5a := Lib.hid (HT5'.out hv a hha)
          have HT6a := Lib.hid (fun p0 p1 => HT6'.out p0 p1 hv a hha)
          clear k0 HT4' HT5' HT6' HPP HPF hha hhr HG1 HBE HB1
          by_cases hsh : bs.length < a + 2
          · obtain ⟨h1, h2⟩ := HT5a.out hsh
            have HR := Lib.hid (And.intro h1 h2)
            have hshi : (bs.length : Int) < (a : Int) + 2 := by omega
            have hwq := hw5.drop.drop
            clear h1 h2 hsh HT5a HT6a hw5
            go_wp2_with fail
            refine (HSH.out _ _ hwq).mono ?_
            rintro e w10 ⟨rfl, hw10⟩
            have HW2 := Lib.hid hw10.swap
            clear hwq hw10 k0'
            have HBO := Lib.hid (BE_row (some ([(fiveB, (bs.length : Int))], 6)))
            generalize hBE : BE (some ([(fiveB, (bs.length : Int))], 6)) = B at *
            have HBF := Lib.hid hBE
            clear hBE
            have HW3 := Lib.hid (HW2.out.setRow #[.int .u8 0, .int .u8 0, .int .u8 0, .int .u8 0, .string ⟨#[]⟩, .int .i64 0]).swap
            go_wp2_with (first
              | (with_reducible show wpList _ _ _ [{ dst := none, op := _, type := _, pos := _, after := _, guard := _ }, _, _] _ _; go_must (refine wpList_store_row rfl 29 (.tmp 3) (.tmp 45) rfl n3 #[.int .u8 0, .int .u8 0, .int .u8 0, .int .u8 0, .string ⟨#[]⟩, .int .i64 0] rfl rfl 29 _ HW2.out.heap (dest_row 0 0 0 0 0 ⟨#[]⟩).1 (dest_row 0 0 0 0 0 ⟨#[]⟩).2.1 (dest_row 0 0 0 0 0 ⟨#[]⟩).2.2 ?_))
              | (with_reducible show wpList _ _ _ [{ dst := none, op := _, type := _, pos := _, after := _, guard := _ }] _ _; go_must (refine wpList_store_row rfl 41 (.tmp 5) (.tmp 47) rfl n5 B rfl rfl 41 _ HW3.out.heap HBO.out.1 HBO.out.2.1 HBO.out.2.2 ?_)))
            have hfin := HW3.out.setRow B
            (try simp only [Exit.inBlock, Exit.then])
            refine bodyPost_ret (results_req rfl _ _ n3 n5 #[.int .u8 0, .int .u8 0, .int .u8 0, .int .u8 0, .string ⟨#[]⟩, .int .i64 0] B _ _ rfl hfin.swap.heap Tryd.underlying29 rfl (dest_row 0 0 0 0 0 ⟨#[]⟩).1 rfl hfin.heap Tryd.underlying41 rfl HBO.out.1) rfl ?_
            rw [HR.out.1, HR.out.2]
            exact RReqP.mk (by rw [HBF.out]; rfl) (hfin.drop.drop)
          · obtain ⟨p0, g0, c0⟩ := HG.out a (by omega)
            obtain ⟨p1, g1, c1⟩ := HG.out (a + 1) (by omega)
            obtain ⟨h1, h2⟩ := HT6a.out p0 p1 g0 g1
            have h0r := hbs p0 (List.mem_of_getElem? g0)
            have h1r := hbs p1 (List.mem_of_getElem? g1)
            have HR := Lib.hid (And.intro h1 h2)
            have hshi : ¬ (bs.length : Int) < (a : Int) + 2 := by omega
            have la : (a : Int) < bs.length := by omega
            have la1 : (a : Int) + 1 < bs.length := by omega
            have la0 : (0 : Int) ≤ a := by omega
            have la2 : (0 : Int) ≤ (a : Int) + 1 := by omega
            have ta1 : ((a : Int) + 1).toNat = a + 1 := by omega
            have ma1 : IntKind.i64.wrap ((a : Int) + 1) = (a : Int) + 1 := IntWalk.i64_in _ (by omega)
            have mp0 : IntKind.i64.wrap p0 = p0 := IntWalk.i64_in _ (by omega)
            have mp1 : IntKind.i64.wrap p1 = p1 := IntWalk.i64_in _ (by omega)
            have my1 : IntKind.i64.wrap y1 = y1 := IntWalk.i64_in _ (by omega)
            have mm : IntKind.i64.wrap (p0 * 256) = p0 * 256 := IntWalk.i64_in _ (by omega)
            have ms : IntKind.i64.wrap (p0 * 256 + p1) = p0 * 256 + p1 := IntWalk.i64_in _ (by omega)
            have HSE : Hid (∀ W Ls, Sat σ W Ls → HB ∈ Ls → Hp.one n7 (.cells #[.int .u8 a0, .int .u8 a1, .int .u8 a2, .int .u8 a3, .string nm] 27 (0, 0)) ∈ Ls → ((W.cell? ⟨b, off + 1, none⟩ = some (.int .u8 y1) ∧ W.cell? ⟨b, off + a, none⟩ = some (.int .u8 p0)) ∧ W.cell? ⟨b, off + (a + 1), none⟩ = some (.int .u8 p1) ∧ W.rangeAt n7 0 #[Value.int .u8 a0, .int .u8 a1, .int .u8 a2, .int .u8 a3, .string nm].toList)) := Lib.hid (fun W Ls h hk hn => ⟨⟨h.cellAt hk HC1.out, h.cellAt hk c0⟩, h.cellAt hk c1, fun j v hv => h.cellAt hn ((Hp.one_cell _ _ _ _).trans (by rw [Nat.zero_add]; simpa using hv))⟩)
            have hwn := hw5.drew.up3.up3.swap
            clear h1 h2 hsh HT5a HT6a HG g0 g1 c0 c1 h0r h1r hyr
            go_upto_region 13 with fail
            clear k0'
            refine wp_region_held_drew (S := fun W => (W.cell? ⟨b, off + 1, none⟩ = some (.int .u8 y1) ∧ W.cell? ⟨b, off + a, none⟩ = some (.int .u8 p0)) ∧ W.cell? ⟨b, off + (a + 1), none⟩ = some (.int .u8 p1) ∧ W.rangeAt n7 0 #[Value.int .u8 a0, .int .u8 a1, .int .u8 a2, .int .u8 a3, .string nm].toList) (by kernel_rfl) (HSE.out _ _ hw5.drew (by simp [hB]) (by simp)) (fun hS0 => ?_)
            (try simp only [Act.put, List.getElem_toArray, List.getElem_cons_succ, List.getElem_cons_zero, List.setIfInBounds_toArray, List.set_cons_zero, List.set_cons_succ, Array.toArray_toList])
            refine wpAnyH_take (i := 0) (v := ?_) rfl (by kernel_rfl) (by kernel_rfl) (by kernel_rfl) (fun _ _ _ h => h) (Or.inl ⟨by kernel_rfl, ?_⟩) hS0 ?_
            rotate_left
            · intro w hSw; clear hSw; go_simp; (try with_reducible rfl)
            (try simp only [Act.put, List.getElem_toArray, List.getElem_cons_succ, List.getElem_cons_zero, List.setIfInBounds_toArray, List.set_cons_zero, List.set_cons_succ, Array.toArray_toList])
            refine wpAnyH_take (i := 1) (v := ?_) rfl (by kernel_rfl) (by kernel_rfl) (by kernel_rfl) (fun _ _ _ h => h) (Or.inl ⟨by kernel_rfl, ?_⟩) hS0 ?_
            rotate_left
            · intro w hSw; clear hSw; go_simp; (try with_reducible rfl)
            (try simp only [Act.put, List.getElem_toArray, List.getElem_cons_succ, List.getElem_cons_zero, List.setIfInBounds_toArray, List.set_cons_zero, List.set_cons_succ, Array.toArray_toList])
            refine wpAnyH_take (i := 2) (v := ?_) rfl (by kernel_rfl) (by kernel_rfl) (by kernel_rfl) (fun _ _ _ h => h) (Or.inl ⟨by kernel_rfl, ?_⟩) hS0 ?_
            rotate_left
            · intro w hSw; obtain ⟨⟨e0, e1⟩, e2, e3⟩ := hSw; clear e1 e2 e3; go_simp; (try with_reducible rfl)
            (try simp only [Act.put, List.getElem_toArray, List.getElem_cons_succ, List.getElem_cons_zero, List.setIfInBounds_toArray, List.set_cons_zero, List.set_cons_succ, Array.toArray_toList])
            refine wpAnyH_take (i := 3) (v := ?_) rfl (by kernel_rfl) (by kernel_rfl) (by kernel_rfl) (fun _ _ _ h => h) (Or.inl ⟨by kernel_rfl, ?_⟩) hS0 ?_
            rotate_left
            · intro w hSw; clear hSw; go_simp; (try with_reducible rfl)
            (try simp only [Act.put, List.getElem_toArray, List.getElem_cons_succ, List.getElem_cons_zero, List.setIfInBounds_toArray, List.set_cons_zero, List.set_cons_succ, Array.toArray_toList])
            refine wpAnyH_take (i := 4) rfl (by kernel_rfl) (by kernel_rfl) (by kernel_rfl) (fun _ _ _ h => h) (yieldsIf_load_mid (by kernel_rfl) _ _ rfl _ _ rfl (#[Value.int .u8 a0, .int .u8 a1, .int .u8 a2, .int .u8 a3, .string nm].toList) _ (fun w h => h.2.2) Tryd.underlying27 rfl (by kernel_rfl)) hS0 ?_
            (try simp only [Act.put, List.getElem_toArray, List.getElem_cons_succ, List.getElem_cons_zero, List.setIfInBounds_toArray, List.set_cons_zero, List.set_cons_succ, Array.toArray_toList])
            refine wpAnyH_take (i := 5) (v := ?_) rfl (by kernel_rfl) (by kernel_rfl) (by kernel_rfl) (fun _ _ _ h => h) (Or.inl ⟨by kernel_rfl, ?_⟩) hS0 ?_
            rotate_left
            · intro w hSw; clear hSw; go_simp; (try with_reducible rfl)
            (try simp only [Act.put, List.getElem_toArray, List.getElem_cons_succ, List.getElem_cons_zero, List.setIfInBounds_toArray, List.set_cons_zero, List.set_cons_succ, Array.toArray_toList])
            refine wpAnyH_take (i := 6) (v := ?_) rfl (by kernel_rfl) (by kernel_rfl) (by kernel_rfl) (fun _ _ _ h => h) (Or.inl ⟨by kernel_rfl, ?_⟩) hS0 ?_
            rotate_left
            · intro w hSw; clear hSw; go_simp; (try with_reducible rfl)
            (try simp only [Act.put, List.getElem_toArray, List.getElem_cons_succ, List.getElem_cons_zero, List.setIfInBounds_toArray, List.set_cons_zero, List.set_cons_succ, Array.toArray_toList])
            refine wpAnyH_take (i := 7) (v := ?_) rfl (by kernel_rfl) (by kernel_rfl) (by kernel_rfl) (fun _ _ _ h => h) (Or.inl ⟨by kernel_rfl, ?_⟩) hS0 ?_
            rotate_left
            · intro w hSw; clear hSw; go_simp; (try with_reducible rfl)
            (try simp only [Act.put, List.getElem_toArray, List.getElem_cons_succ, List.getElem_cons_zero, List.setIfInBounds_toArray, List.set_cons_zero, List.set_cons_succ, Array.toArray_toList])
            refine wpAnyH_take (i := 8) (v := ?_) rfl (by kernel_rfl) (by kernel_rfl) (by kernel_rfl) (fun _ _ _ h => h) (Or.inl ⟨by kernel_rfl, ?_⟩) hS0 ?_
            rotate_left
            · intro w hSw; obtain ⟨⟨e0, e1⟩, e2, e3⟩ := hSw; clear e0 e2 e3; go_simp; (try with_reducible rfl)
            (try simp only [Act.put, List.getElem_toArray, List.getElem_cons_succ, List.getElem_cons_zero, List.setIfInBounds_toArray, List.set_cons_zero, List.set_cons_succ, Array.toArray_toList])
            refine wpAnyH_take (i := 9) (v := ?_) rfl (by kernel_rfl) (by kernel_rfl) (by kernel_rfl) (fun _ _ _ h => h) (Or.inl ⟨by kernel_rfl, ?_⟩) hS0 ?_
            rotate_left
            · intro w hSw; clear hSw; go_simp; (try with_reducible rfl)
            (try simp only [Act.put, List.getElem_toArray, List.getElem_cons_succ, List.getElem_cons_zero, List.setIfInBounds_toArray, List.set_cons_zero, List.set_cons_succ, Array.toArray_toList])
            refine wpAnyH_take (i := 10) (v := ?_) rfl (by kernel_rfl) (by kernel_rfl) (by kernel_rfl) (fun _ _ _ h => h) (Or.inl ⟨by kernel_rfl, ?_⟩) hS0 ?_
            rotate_left
            · intro w hSw; clear hSw; go_simp; (try with_reducible rfl)
            (try simp only [Act.put, List.getElem_toArray, List.getElem_cons_succ, List.getElem_cons_zero, List.setIfInBounds_toArray, List.set_cons_zero, List.set_cons_succ, Array.toArray_toList])
            refine wpAnyH_take (i := 11) (v := ?_) rfl (by kernel_rfl) (by kernel_rfl) (by kernel_rfl) (fun _ _ _ h => h) (Or.inl ⟨by kernel_rfl, ?_⟩) hS0 ?_
            rotate_left
            · intro w hSw; clear hSw; go_simp; (try with_reducible rfl)
            (try simp only [Act.put, List.getElem_toArray, List.getElem_cons_succ, List.getElem_cons_zero, List.setIfInBounds_toArray, List.set_cons_zero, List.set_cons_succ, Array.toArray_toList])
            refine wpAnyH_take (i := 12) (v := ?_) rfl (by kernel_rfl) (by kernel_rfl) (by kernel_rfl) (fun _ _ _ h => h) (Or.inl ⟨by kernel_rfl, ?_⟩) hS0 ?_
            rotate_left
            · intro w hSw; clear hSw; go_simp; (try with_reducible rfl)
            (try simp only [Act.put, List.getElem_toArray, List.getElem_cons_succ, List.getElem_cons_zero, List.setIfInBounds_toArray, List.set_cons_zero, List.set_cons_succ, Array.toArray_toList])
            refine wpAnyH_take (i := 13) (v := ?_) rfl (by kernel_rfl) (by kernel_rfl) (by kernel_rfl) (fun _ _ _ h => h) (Or.inl ⟨by kernel_rfl, ?_⟩) hS0 ?_
            rotate_left
            · intro w hSw; clear hSw; go_simp; (try with_reducible rfl)
            (try simp only [Act.put, List.getElem_toArray, List.getElem_cons_succ, List.getElem_cons_zero, List.setIfInBounds_toArray, List.set_cons_zero, List.set_cons_succ, Array.toArray_toList])
            refine wpAnyH_take (i := 14) (v := ?_) rfl (by kernel_rfl) (by kernel_rfl) (by kernel_rfl) (fun _ _ _ h => h) (Or.inl ⟨by kernel_rfl, ?_⟩) hS0 ?_
            rotate_left
            · intro w hSw; clear hSw; go_simp; (try with_reducible rfl)
            (try simp only [Act.put, List.getElem_toArray, List.getElem_cons_succ, List.getElem_cons_zero, List.setIfInBounds_toArray, List.set_cons_zero, List.set_cons_succ, Array.toArray_toList])
            refine wpAnyH_take (i := 15) (v := ?_) rfl (by kernel_rfl) (by kernel_rfl) (by kernel_rfl) (fun _ _ _ h => h) (Or.inl ⟨by kernel_rfl, ?_⟩) hS0 ?_
            rotate_left
            · intro w hSw; obtain ⟨⟨e0, e1⟩, e2, e3⟩ := hSw; clear e0 e1 e3; go_simp; (try with_reducible rfl)
            (try simp only [Act.put, List.getElem_toArray, List.getElem_cons_succ, List.getElem_cons_zero, List.setIfInBounds_toArray, List.set_cons_zero, List.set_cons_succ, Array.toArray_toList])
            refine wpAnyH_take (i := 16) (v := ?_) rfl (by kernel_rfl) (by kernel_rfl) (by kernel_rfl) (fun _ _ _ h => h) (Or.inl ⟨by kernel_rfl, ?_⟩) hS0 ?_
            rotate_left
            · intro w hSw; clear hSw; go_simp; (try with_reducible rfl)
            (try simp only [Act.put, List.getElem_toArray, List.getElem_cons_succ, List.getElem_cons_zero, List.setIfInBounds_toArray, List.set_cons_zero, List.set_cons_succ, Array.toArray_toList])
            refine wpAnyH_take (i := 17) (v := ?_) rfl (by kernel_rfl) (by kernel_rfl) (by kernel_rfl) (fun _ _ _ h => h) (Or.inl ⟨by kernel_rfl, ?_⟩) hS0 ?_
            rotate_left
            · intro w hSw; clear hSw; go_simp; (try with_reducible rfl)
            (try simp only [Act.put, List.getElem_toArray, List.getElem_cons_succ, List.getElem_cons_zero, List.setIfInBounds_toArray, List.set_cons_zero, List.set_cons_succ, Array.toArray_toList])
            refine wpAnyH_take (i := 18) (v := ?_) rfl (by kernel_rfl) (by kernel_rfl) (by kernel_rfl) (fun _ _ _ h => h) (Or.inl ⟨by kernel_rfl, ?_⟩) hS0 ?_
            rotate_left
            · intro w hSw; clear hSw; go_simp; (try with_reducible rfl)
            (try simp only [Act.put, List.getElem_toArray, List.getElem_cons_succ, List.getElem_cons_zero, List.setIfInBounds_toArray, List.set_cons_zero, List.set_cons_succ, Array.toArray_toList])
            refine wpAnyH_take (i := 19) (v := ?_) rfl (by kernel_rfl) (by kernel_rfl) (by kernel_rfl) (fun _ _ _ h => h) (Or.inl ⟨by kernel_rfl, ?_⟩) hS0 ?_
            rotate_left
            · intro w hSw; clear hSw; go_simp; (try with_reducible rfl)
            (try simp only [Act.put, List.getElem_toArray, List.getElem_cons_succ, List.getElem_cons_zero, List.setIfInBounds_toArray, List.set_cons_zero, List.set_cons_succ, Array.toArray_toList])
            refine wpAnyH_take (i := 20) (v := ?_) rfl (by kernel_rfl) (by kernel_rfl) (by kernel_rfl) (fun _ _ _ h => h) (Or.inl ⟨by kernel_rfl, ?_⟩) hS0 ?_
            rotate_left
            · intro w hSw; clear hSw; go_simp; (try with_reducible rfl)
            (try simp only [Act.put, List.getElem_toArray, List.getElem_cons_succ, List.getElem_cons_zero, List.setIfInBounds_toArray, List.set_cons_zero, List.set_cons_succ, Array.toArray_toList])
            refine wpAnyH_take (i := 21) (v := ?_) rfl (by kernel_rfl) (by kernel_rfl) (by kernel_rfl) (fun _ _ _ h => h) (Or.inl ⟨by kernel_rfl, ?_⟩) hS0 ?_
            rotate_left
            · intro w hSw; clear hSw; go_simp; (try with_reducible rfl)
            (try simp only [Act.put, List.getElem_toArray, List.getElem_cons_succ, List.getElem_cons_zero, List.setIfInBounds_toArray, List.set_cons_zero, List.set_cons_succ, Array.toArray_toList])
            refine wpAnyH_take (i := 22) (v := ?_) rfl (by kernel_rfl) (by kernel_rfl) (by kernel_rfl) (fun _ _ _ h => h) (Or.inl ⟨by kernel_rfl, ?_⟩) hS0 ?_
            rotate_left
            · intro w hSw; clear hSw; go_simp; (try with_reducible rfl)
            (try simp only [Act.put, List.getElem_toArray, List.getElem_cons_succ, List.getElem_cons_zero, List.setIfInBounds_toArray, List.set_cons_zero, List.set_cons_succ, Array.toArray_toList])
            refine wpAnyH_ready (rs := [23]) (by kernel_rfl) (by simp) ?_
            refine AllReadyH.cons rfl (fun K2 hK2 => ?_) AllReadyH.nil
            refine step_store_row rfl 29 (.tmp 3) (.tmp 66) rfl n3 #[.int .u8 a0, .int .u8 a1, .int .u8 a2, .int .u8 a3, .string nm, .int .i64 (p0 * 256 + p1)] rfl rfl 29 _ hwn.heap (dest_row a0 a1 a2 a3 (p0 * 256 + p1) nm).1 (dest_row a0 a1 a2 a3 (p0 * 256 + p1) nm).2.1 (dest_row a0 a1 a2 a3 (p0 * 256 + p1) nm).2.2 ?_
            have hw12 := hwn.setRow #[.int .u8 a0, .int .u8 a1, .int .u8 a2, .int .u8 a3, .string nm, .int .i64 (p0 * 256 + p1)]
            refine hK2.out _ _ (HSE.out _ _ hw12 (by simp [hB]) (by simp)) (fun hS1 => ?_)
            clear hK2 K2
            (try simp only [Act.put, List.getElem_toArray, List.getElem_cons_succ, List.getElem_cons_zero, List.setIfInBounds_toArray, List.set_cons_zero, List.set_cons_succ, Array.toArray_toList])
            refine wpAnyH_take (i := 24) (v := ?_) rfl (by kernel_rfl) (by kernel_rfl) (by kernel_rfl) (fun _ _ _ h => h) (Or.inl ⟨by kernel_rfl, ?_⟩) hS1 ?_
            rotate_left
            · intro w hSw; clear hSw; go_simp; (try with_reducible rfl)
            (try simp only [Act.put, List.getElem_toArray, List.getElem_cons_succ, List.getElem_cons_zero, List.setIfInBounds_toArray, List.set_cons_zero, List.set_cons_succ, Array.toArray_toList])
            refine wpAnyH_ready (rs := [25]) (by kernel_rfl) (by simp) ?_
            refine AllReadyH.cons rfl (fun K2 hK2 => ?_) AllReadyH.nil
            refine step_store_row rfl 41 (.tmp 5) (.tmp 69) rfl n5 (BE none) rfl rfl 41 _ hw12.swap.heap (BE_row none).1 (BE_row none).2.1 (BE_row none).2.2 ?_
            have hw13 := hw12.swap.setRow (BE none)
            refine hK2.out _ _ (HSE.out _ _ hw13 (by simp [hB]) (by simp)) (fun hS2 => ?_)
            clear hK2 K2
            (try simp only [Act.put, List.getElem_toArray, List.getElem_cons_succ, List.getElem_cons_zero, List.setIfInBounds_toArray, List.set_cons_zero, List.set_cons_succ, Array.toArray_toList])
            refine wpAnyH_done (by kernel_rfl) ?_ _
            generalize hW12 : World.setRow (World.setRow _ _ _) _ _ = w13 at *
            clear hW12
            (try simp only [Exit.inBlock, Exit.then])
            go_wp2
            refine bodyPost_ret (results_req rfl _ _ n3 n5 #[.int .u8 a0, .int .u8 a1, .int .u8 a2, .int .u8 a3, .string nm, .int .i64 (p0 * 256 + p1)] (BE none) _ _ rfl hw13.swap.heap Tryd.underlying29 rfl (dest_row a0 a1 a2 a3 (p0 * 256 + p1) nm).1 rfl hw13.heap Tryd.underlying41 rfl (BE_row none).1) rfl ?_
            rw [HR.out.1, HR.out.2]
            have hdd : destA hv (p0 * 256 + p1) = #[.int .u8 a0, .int .u8 a1, .int .u8 a2, .int .u8 a3, .string nm, .int .i64 (p0 * 256 + p1)] := by
              have h := HHR.out
              unfold hostA at h
              simp at h
              obtain ⟨z1, z2, z3, z4, z5⟩ := h
              unfold destA
              simp [← z1, ← z2, ← z3, ← z4, ← z5]
            exact RReqP.mk (by rw [hdd]; rfl) hw13.drop.drop.drop.drop
      · have hyb : (y2 != 0) = true := by simpa using hy
        obtain ⟨h1, h2⟩ := HT3.out y1 y2 rfl g1 g2 hy
        have HR := Lib.hid (And.intro h1 h2)
        clear h1 h2 g1 g2 HT3 HT4 HT5 HT6 hy hl HPL HPP HPF
        go_wp2_with fail
        refine (rfault7_any 2 72 _ hwq).mono ?_
        rintro e w7 ⟨rfl, hw7⟩
        have HW2 := Lib.hid hw7.swap
        clear hw5 hwq hw7 k0' hd2
        have HBO := Lib.hid (BE_row (some ([(fiveB, 2)], 72)))
        generalize hBE : BE (some ([(fiveB, 2)], 72)) = B at *
        have HBF := Lib.hid hBE
        clear hBE
        have HW3 := Lib.hid (HW2.out.setRow #[.int .u8 0, .int .u8 0, .int .u8 0, .int .u8 0, .string ⟨#[]⟩, .int .i64 0]).swap
        go_wp2_with (first
          | (with_reducible show wpList _ _ _ [{ dst := none, op := _, type := _, pos := _, after := _, guard := _ }, _, _] _ _; go_must (refine wpList_store_row rfl 29 (.tmp 3) (.tmp 27) rfl n3 #[.int .u8 0, .int .u8 0, .int .u8 0, .int .u8 0, .string ⟨#[]⟩, .int .i64 0] rfl rfl 29 _ HW2.out.heap (dest_row 0 0 0 0 0 ⟨#[]⟩).1 (dest_row 0 0 0 0 0 ⟨#[]⟩).2.1 (dest_row 0 0 0 0 0 ⟨#[]⟩).2.2 ?_))
          | (with_reducible show wpList _ _ _ [{ dst := none, op := _, type := _, pos := _, after := _, guard := _ }] _ _; go_must (refine wpList_store_row rfl 41 (.tmp 5) (.tmp 28) rfl n5 B rfl rfl 41 _ HW3.out.heap HBO.out.1 HBO.out.2.1 HBO.out.2.2 ?_)))
        have hfin := HW3.out.setRow B
        (try simp only [Exit.inBlock, Exit.then])
        refine bodyPost_ret (results_req rfl _ _ n3 n5 #[.int .u8 0, .int .u8 0, .int .u8 0, .int .u8 0, .string ⟨#[]⟩, .int .i64 0] B _ _ rfl hfin.swap.heap Tryd.underlying29 rfl (dest_row 0 0 0 0 0 ⟨#[]⟩).1 rfl hfin.heap Tryd.underlying41 rfl HBO.out.1) rfl ?_
        rw [HR.out.1, HR.out.2]
        exact RReqP.mk (by rw [HBF.out]; rfl) (hfin.drop.drop)
end
end Go.Proofs.YtcndkpmeakaapaaDoor
