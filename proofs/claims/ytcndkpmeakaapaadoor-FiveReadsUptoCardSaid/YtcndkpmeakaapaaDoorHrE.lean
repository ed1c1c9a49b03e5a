/- Walk: the reference's ParseName. -/
import Derived.Test.YtcndkpmeakaapaaDoorHrD
set_option linter.unusedVariables false
set_option linter.unusedSimpArgs false
namespace Go.Proofs.YtcndkpmeakaapaaDoor
open Go Go.RowKit
def RNameP (σ : World) (Hs : List Hp) (r : ByteArray × Option (Ch × Int)) (e : Ending) (w' : World) : Prop := e = .returned (.tuple #[.string r.1, .agg (BE r.2)]) ∧ Sat σ w' Hs
theorem RNameP.mk {σ : World} {Hs : List Hp} {r : ByteArray × Option (Ch × Int)} {e : Ending} {w' : World} (h1 : e = .returned (.tuple #[.string r.1, .agg (BE r.2)])) (h2 : Sat σ w' Hs) : RNameP σ Hs r e w' := ⟨h1, h2⟩
section
variable {σ w w' : World} {Hs : List Hp} {H H1 H2 M N Y R E X HB : Hp}
set_option maxHeartbeats 4000000
set_option maxRecDepth 10000 in
theorem rparse_any (s : ByteArray) (hs : s.size ≤ 9223372036854775807) (w : World) (hw : Sat σ w Hs) : Calls Tryd.prog 59 #[.string s] w (RNameP σ Hs (nameR s)) := by
  have hwa := hw.alloc (.cells #[.int .i64 0, .string ⟨#[]⟩, .string ⟨#[]⟩, .string ⟨#[]⟩, .string ⟨#[]⟩, .int .i64 0, .int .i64 0, .int .i64 0, .int .i64 0, .int .i64 0] 41)
  -- a fault at the end: the row's store, and the results
  by_cases hl : 253 < s.size
  · have hli : (253 : Int) < s.size := by omega
    have HWHY := Lib.hid (nameR_long hl)
    go_enter Tryd.func59, Tryd.ntmps59
    go_wp2_with fail
    generalize hnb : w.heap.size = nb at *
    generalize hwx : World.alloc _ _ = wx at *
    clear hwx hnb hw hl
    refine (rfault6_any 253 3 _ hwa).mono ?_
    rintro e w9 ⟨rfl, hw9⟩
    have HW9 := Lib.hid hw9
    have HEQ : Hid (nameR s = (⟨#[]⟩, some ([(hostB, 253)], 3))) := Lib.hid HWHY.out
    have HBO := Lib.hid (BE_row (some ([(hostB, 253)], 3)))
    clear hw9
    generalize hBE : BE (some ([(hostB, 253)], 3)) = B at *
    have HBE := Lib.hid hBE
    clear hBE
    go_wp2_with (with_reducible show wpList _ _ _ [{ dst := none, op := _, type := _, pos := _, after := _, guard := _ }] _ _; go_must (refine wpList_store_row rfl 41 (.tmp 3) (.tmp 14) rfl nb B rfl rfl 41 _ HW9.out.heap HBO.out.1 HBO.out.2.1 HBO.out.2.2 ?_))
    have hfin := HW9.out.setRow B
    (try simp only [Exit.inBlock, Exit.then])
    refine bodyPost_ret (results_tmp_cell rfl _ _ nb _ B _ _ rfl hfin.heap Tryd.underlying41 rfl HBO.out.1) rfl ?_
    rw [HEQ.out]
    exact RNameP.mk (by show _ = Ending.returned (.tuple #[.string ⟨#[]⟩, .agg (BE (some ([(hostB, 253)], 3)))]); rw [HBE.out]; rfl) (hfin.drop)
  · have hli : ¬ (253 : Int) < s.size := by omega
    obtain ⟨ps, hps⟩ : ∃ ps, splL ((byL s).map lowI) = ps := ⟨_, rfl⟩
    have HBADN := Lib.hid (fun k p hk hb hn => nameR_bad hps hl (k := k) (p := p) hk hb hn)
    have HGOOD := Lib.hid (fun hn n pl h1 h2 => nameR_good hps hl hn (n := n) (pl := pl) h1 h2)
    have hlsz : (lowB s).size = s.size := by rw [← byL_length, byL_low, List.length_map, byL_length]
    have HLOW := Lib.hid (fun w' Hs' (h : Sat σ w' Hs') => lower_any s hs w' h)
    have HPAR := Lib.hid (fun w' Hs' (h : Sat σ w' Hs') => parts_any (lowB s) (by omega) w' h)
    have hpl0 : 1 ≤ ps.length := by
      have := splL_ne ((byL s).map lowI)
      rw [hps] at this
      exact List.length_pos_iff.2 this
    have hpl1 : ps.length ≤ 1000 := by
      have := spl_len ((byL s).map lowI)
      rw [hps, List.length_map, byL_length] at this
      omega
    have hlowp : ∀ p ∈ ps, lowP p := fun p hp x hx => low_mem byL_range x (splL_mem _ p (by rw [hps]; exact hp) x hx)
    have hpsz : ∀ p ∈ ps, p.length ≤ 1000 := fun p hp => by
      obtain ⟨k, hk⟩ := List.mem_iff_getElem?.1 hp
      have h1 := startL_all ((byL s).map lowI)
      rw [hps, List.length_map, byL_length] at h1
      have hkl := (List.getElem?_eq_some_iff.1 hk).1
      have h2 : p.length + 1 ≤ startL ps ps.length := by
        unfold startL
        rw [List.take_of_length_le (Nat.le_refl _)]
        exact mem_le_sum (fun q : List Int => q.length + 1) hp
      omega
    unfold PartsP at HPAR
    rw [byL_low, hps] at HPAR
    have HLP := Lib.hid hlowp
    have HPZ := Lib.hid hpsz
    clear hps hl hlsz hlowp hpsz
    generalize lowB s = low at *
    go_enter Tryd.func59, Tryd.ntmps59
    go_wp2_with fail
    generalize hnb : w.heap.size = nb at *
    generalize hwx : World.alloc _ _ = wx at *
    clear hwx hnb hw
    refine (HLOW.out _ _ hwa).mono ?_
    rintro e w2 ⟨rfl, hw2⟩
    clear hwa HLOW
    go_wp2_with fail
    refine (HPAR.out _ _ hw2).mono ?_
    rintro e w3 ⟨v1, v2, M1, M2, rfl, hw3, ho1, ho2⟩
    obtain ⟨g1, cap1, cur1, rfl, _, hc11, hc12, _, _⟩ := ho1.blk (by omega)
    obtain ⟨g2, cap2, cur2, rfl, _, hc21, hc22, _, _⟩ := ho2.blk (by omega)
    have HO1 := Lib.hid ho1
    have HO2 := Lib.hid ho2
    clear hw2 HPAR ho1 ho2
    go_wp2
    go_loopw [7] (fun i wr => ∃ k : Nat, k ≤ ps.length ∧ i = .int .i64 k ∧ Sat σ wr (M1 :: M2 :: Hp.one nb (.cells #[.int .i64 0, .string ⟨#[]⟩, .string ⟨#[]⟩, .string ⟨#[]⟩, .string ⟨#[]⟩, .int .i64 0, .int .i64 0, .int .i64 0, .int .i64 0, .int .i64 0] 41 (0, 0)) :: Hs) ∧ Eager (∀ (j : Nat) (q : List Int), j < k → ps[j]? = some q → labL q = false)) (fun i _ => ps.length - (intOf i).toNat)
    case atStart => exact ⟨0, by omega, rfl, hw3, ⟨fun j q hj => absurd hj (Nat.not_lt_zero _)⟩⟩
    case round =>
      obtain ⟨k, hk, rfl, hwr, hst⟩ := hrel
      have HST := Lib.hid hst.out
      clear hst hw3
      by_cases hlt : k < ps.length
      · obtain ⟨p, hp⟩ : ∃ p, ps[k]? = some p := ⟨_, List.getElem?_eq_getElem hlt⟩
        have hmem := List.mem_of_getElem? hp
        have hlq := lab_low_eq (HLP.out p hmem)
        have hsz := HPZ.out p hmem
        have hki : (k : Int) < ps.length := by omega
        have hk0 : (0 : Int) ≤ k := by omega
        have hc1 := own_get hwr List.mem_cons_self HO1.out (k := k) (v := .string (strOfNums p)) (by unfold txtC; rw [List.getElem?_map, hp]; rfl)
        have hc2 := own_get hwr (List.mem_cons_of_mem _ List.mem_cons_self) HO2.out (k := k) (v := .int .i64 (startL ps k : Int)) (by unfold numC startsL; rw [List.getElem?_map, List.getElem?_map, List.getElem?_range hlt]; rfl)
        have HLAB := Lib.hid (fun w => rlabel_any (strOfNums p) (by rw [strOfNums_size]; omega) w)
        rw [hlq] at HLAB
        have HPK := Lib.hid hp
        clear hmem hlq hp
        cases hlb : labL p with
        | true =>
          rw [hlb] at HLAB
          have HWHY := Lib.hid (HBADN.out k p HPK.out hlb HST.out)
          clear hlb
          go_wp2_with fail
          refine (HLAB.out _).mono ?_
          rintro e w4 ⟨rfl, rfl⟩
          have hwn := hwr.up2
          go_wp2_with fail
          refine (rfault6_any (startL ps k : Int) 61 _ hwn).mono ?_
          rintro e w9 ⟨rfl, hw9⟩
          have HW9 := Lib.hid hw9
          have HEQ : Hid (nameR s = (⟨#[]⟩, some ([(hostB, (startL ps k : Int))], 61))) := Lib.hid HWHY.out
          have HBO := Lib.hid (BE_row (some ([(hostB, (startL ps k : Int))], 61)))
          clear hw9
          generalize hBE : BE (some ([(hostB, (startL ps k : Int))], 61)) = B at *
          have HBE := Lib.hid hBE
          clear hBE
          go_wp2_with (with_reducible show wpList _ _ _ [{ dst := none, op := _, type := _, pos := _, after := _, guard := _ }] _ _; go_must (refine wpList_store_row rfl 41 (.tmp 3) (.tmp 38) rfl nb B rfl rfl 41 _ HW9.out.heap HBO.out.1 HBO.out.2.1 HBO.out.2.2 ?_))
          have hfin := HW9.out.setRow B
          (try simp only [Exit.inBlock, Exit.then])
          refine bodyPost_ret (results_tmp_cell rfl _ _ nb _ B _ _ rfl hfin.heap Tryd.underlying41 rfl HBO.out.1) rfl ?_
          rw [HEQ.out]
          exact RNameP.mk (by show _ = Ending.returned (.tuple #[.string ⟨#[]⟩, .agg (BE (some ([(hostB, (startL ps k : Int))], 61)))]); rw [HBE.out]; rfl) (hfin.drop.drop.drop)
        | false =>
          rw [hlb] at HLAB
          have HLB := Lib.hid hlb
          clear hlb
          go_wp2_with (go_at_call 69; refine (HLAB.out _).mono ?_; rintro e w4 ⟨rfl, rfl⟩)
          go_roundw
          case measure => simp [intOf]; omega
          case rel =>
            refine ⟨k + 1, by omega, by go_num, hwr, ⟨fun j q hj hq => ?_⟩⟩
            rcases Nat.lt_or_ge j k with h | h
            · exact HST.out j q h hq
            · obtain rfl : j = k := by omega
              rw [HPK.out] at hq
              injection hq with hq
              rw [← hq]; exact HLB.out
      · obtain rfl : k = ps.length := by omega
        obtain ⟨n, hn⟩ : ∃ n, ps.length = n + 1 := ⟨ps.length - 1, by omega⟩
        obtain ⟨pl, hpl⟩ : ∃ pl, ps[n]? = some pl := ⟨_, List.getElem?_eq_getElem (by omega)⟩
        have hmem := List.mem_of_getElem? hpl
        have hby : ∀ x ∈ pl, 0 ≤ x ∧ x < 256 := fun x hx => (HLP.out pl hmem x hx).1
        have hsz := HPZ.out pl hmem
        have hmn : IntKind.i64.wrap ((ps.length : Int) - 1) = (n : Int) := by rw [show (ps.length : Int) - 1 = (n : Int) from by omega]; exact IntWalk.i64_in _ (by omega)
        have hni : (n : Int) < ps.length := by omega
        have hn0 : (0 : Int) ≤ n := by omega
        have hc1 := own_get hwr List.mem_cons_self HO1.out (k := n) (v := .string (strOfNums pl)) (by unfold txtC; rw [List.getElem?_map, hpl]; rfl)
        have HC2 := Lib.hid (fun wx (hx : Sat σ wx (M1 :: M2 :: Hp.one nb (.cells #[.int .i64 0, .string ⟨#[]⟩, .string ⟨#[]⟩, .string ⟨#[]⟩, .string ⟨#[]⟩, .int .i64 0, .int .i64 0, .int .i64 0, .int .i64 0, .int .i64 0] 41 (0, 0)) :: Hs)) => own_get hx (List.mem_cons_of_mem _ List.mem_cons_self) HO2.out (k := n) (v := .int .i64 (startL ps n : Int)) (by unfold numC startsL; rw [List.getElem?_map, List.getElem?_map, List.getElem?_range (by omega)]; rfl))
        have HR := Lib.hid (HGOOD.out (fun j q hq => HST.out j q (List.getElem?_eq_some_iff.1 hq).1 hq) n pl hn hpl)
        have hlsz : (strOfNums pl).size = pl.length := strOfNums_size pl
        have HCH := Lib.hid (fun q (hq : q < pl.length) => chS_str hby q hq)
        obtain ⟨ls, hls⟩ : ∃ ls, strOfNums pl = ls := ⟨_, rfl⟩
        rw [hls] at hc1 hlsz HCH
        have HN := Lib.hid hn
        clear hmem hby hpl hn hls HGOOD HBADN HST
        go_wp2
        go_loopw [10, 9] (fun i al wr => ∃ q : Nat, q ≤ pl.length ∧ i = .int .i64 q ∧ Sat σ wr (M1 :: M2 :: Hp.one nb (.cells #[.int .i64 0, .string ⟨#[]⟩, .string ⟨#[]⟩, .string ⟨#[]⟩, .string ⟨#[]⟩, .int .i64 0, .int .i64 0, .int .i64 0, .int .i64 0, .int .i64 0] 41 (0, 0)) :: Hs) ∧ Eager (al = .bool ((pl.take q).all digB))) (fun i _ _ => pl.length - (intOf i).toNat)
        case atStart => exact ⟨0, by omega, rfl, hwr, ⟨rfl⟩⟩
        case round =>
          obtain ⟨q, hq, rfl, hwl, hal⟩ := hrel
          have hal' := hal.out
          obtain ⟨ab, hab⟩ : ∃ ab, (pl.take q).all digB = ab := ⟨_, rfl⟩
          rw [hab] at hal'
          subst hal'
          have HAB := Lib.hid hab
          clear hal hab hwr hc1
          have hc2 := HC2.out _ hwl
          by_cases hlq : q < pl.length
          · obtain ⟨x, hx⟩ : ∃ x, pl[q]? = some x := ⟨_, List.getElem?_eq_getElem hlq⟩
            have hqi : (q : Int) < ls.size := by rw [hlsz]; omega
            have hq0 : (0 : Int) ≤ q := by omega
            have hch := index_str (P := Tryd.prog) 9 Tryd.underlying9 ls q (by omega) q rfl
            have hcx : chS ls q = x := by rw [HCH.out q hlq, List.getD_eq_getElem?_getD, hx]; rfl
            rw [hcx] at hch
            have HNX : Hid ((pl.take (q + 1)).all digB = (ab && digB x)) := Lib.hid (by rw [List.take_add_one, hx, List.all_append, HAB.out]; simp)
            clear hx hcx
            cases ab with
            | false =>
              go_wp2
              go_roundw
              case measure => simp [intOf]; omega
              case rel => exact ⟨q + 1, by omega, by go_num, hwl, ⟨by rw [HNX.out]; rfl⟩⟩
            | true =>
              go_wp2_with (go_at_call 70; refine (rdig_any x _).mono ?_; rintro e w5 ⟨rfl, rfl⟩)
              go_roundw
              case measure => simp [intOf]; omega
              case rel => exact ⟨q + 1, by omega, by go_num, hwl, ⟨by rw [HNX.out]; rfl⟩⟩
          · obtain rfl : q = pl.length := by omega
            have hqi : ¬ (pl.length : Int) < ls.size := by rw [hlsz]; omega
            have hr2 := HR.out
            have hab2 := HAB.out
            rw [List.take_of_length_le (Nat.le_refl _)] at hab2
            rw [hab2] at hr2
            cases ab with
            | true =>
              have HWHY := Lib.hid (hr2.trans (if_pos rfl))
              have hwn := hwl.up2
              clear hr2 hab2 HR HAB
              go_wp2_with fail
              refine (rfault6_any (startL ps n : Int) 63 _ hwn).mono ?_
              rintro e w9 ⟨rfl, hw9⟩
              have HW9 := Lib.hid hw9
              have HEQ : Hid (nameR s = (⟨#[]⟩, some ([(hostB, (startL ps n : Int))], 63))) := Lib.hid HWHY.out
              have HBO := Lib.hid (BE_row (some ([(hostB, (startL ps n : Int))], 63)))
              clear hw9
              generalize hBE : BE (some ([(hostB, (startL ps n : Int))], 63)) = B at *
              have HBE := Lib.hid hBE
              clear hBE
              go_wp2_with (with_reducible show wpList _ _ _ [{ dst := none, op := _, type := _, pos := _, after := _, guard := _ }] _ _; go_must (refine wpList_store_row rfl 41 (.tmp 3) (.tmp 65) rfl nb B rfl rfl 41 _ HW9.out.heap HBO.out.1 HBO.out.2.1 HBO.out.2.2 ?_))
              have hfin := HW9.out.setRow B
              (try simp only [Exit.inBlock, Exit.then])
              refine bodyPost_ret (results_tmp_cell rfl _ _ nb _ B _ _ rfl hfin.heap Tryd.underlying41 rfl HBO.out.1) rfl ?_
              rw [HEQ.out]
              exact RNameP.mk (by show _ = Ending.returned (.tuple #[.string ⟨#[]⟩, .agg (BE (some ([(hostB, (startL ps n : Int))], 63)))]); rw [HBE.out]; rfl) (hfin.drop.drop.drop)
            | false =>
              have HWHY := Lib.hid (hr2.trans (if_neg (by decide)))
              have HWN := Lib.hid hwl.up2
              have HBO := Lib.hid (BE_row none)
              clear hr2 hab2 HR HAB
              go_wp2_with (with_reducible show wpList _ _ _ [{ dst := none, op := _, type := _, pos := _, after := _, guard := _ }] _ _; go_must (refine wpList_store_row rfl 41 (.tmp 3) (.tmp 67) rfl nb (BE none) rfl rfl 41 _ HWN.out.heap HBO.out.1 HBO.out.2.1 HBO.out.2.2 ?_))
              have hfin := HWN.out.setRow (BE none)
              (try simp only [Exit.inBlock, Exit.then])
              refine bodyPost_ret (results_tmp_cell rfl _ _ nb _ (BE none) _ _ rfl hfin.heap Tryd.underlying41 rfl HBO.out.1) rfl ?_
              rw [HWHY.out]
              exact RNameP.mk rfl hfin.drop.drop.drop
end
end Go.Proofs.YtcndkpmeakaapaaDoor
