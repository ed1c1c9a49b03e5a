/- Walk: the reference's digest. -/
import Derived.Test.YteggcfcjajpcgaaDoorDgE
set_option linter.unusedVariables false
namespace Go.Proofs.YteggcfcjajpcgaaDoor
open Go.RowKit
/-- A row of bytes of the call's own; nothing that was before has changed. -/
structure MSt (w wr : World) (v : Value) (l : List Int) : Prop where
  own : OwnI wr w.heap.size 5 .u8 v l
  low : Below w.heap.size w wr
set_option maxRecDepth 100000 in
set_option maxHeartbeats 4000000 in
theorem rsum_any (v : Value) (ls : List (List Int)) (F : Nat → Prop) (w : World) (h : RdRows w v ls F) (hl : ls.flatten.length ≤ 1000000000) :
    Calls Tryd.prog 36 #[v] w fun e w' => e = .returned (.agg (outV (sha ls.flatten))) ∧ Below w.heap.size w w' := by
  obtain ⟨A, c, rfl, hc0, hm, hr⟩ := h
  have HR := Lib.hid hr; clear hr
  go_enter Tryd.func36, Tryd.ntmps36
  go_upto_region 1 with (fail)
  refine wp_gen (fun w0 => w0.rowIs w.heap.size 29 32 (fun _ => .int .u8 0) ∧ Below w.heap.size w w0 ∧ w0.heap.size = w.heap.size + 1) ⟨alloc_rep w 32 29 (.int .u8 0) _ _ rfl (by rfl), (Below.refl _ _).alloc (Nat.le_refl _) _, by simp⟩ ?_
  intro w0 ⟨hres, hlow0, hsz⟩
  have HRES := Lib.hid hres; have HL0 := Lib.hid hlow0; have HSZ := Lib.hid hsz
  clear hres hlow0 hsz
  go_wp2
  go_loopw [4, 3] (fun i m wr => ∃ (k : Nat) (A1 : Option Addr) (n1 c1 : Nat), k ≤ ls.length ∧ i = .int .i64 k ∧ m = .slice A1 n1 c1 ∧ MSt w0 wr (.slice A1 n1 c1) (ls.take k).flatten) (fun i _ _ => ls.length - (intOf i).toNat)
  case atStart => exact ⟨0, _, _, _, by omega, rfl, rfl, own_empty _ _ _ _ (Nat.le_refl _), (Below.refl _ _).alloc (Nat.le_refl _) _⟩
  case round =>
    obtain ⟨k, A1, n1, c1, hk, rfl, rfl, hst⟩ := hrel
    by_cases hlt : k < ls.length
    · -- done<
      obtain ⟨b, off, rfl, hFb, hcs⟩ := HR.out (by omega)
      obtain ⟨rv, hc, hrd⟩ := hcs k hlt
      have hlw : Below w.heap.size w wr := HL0.out.trans (hst.low.mono (by have := HSZ.out; omega))
      have hc' : wr.cell? ⟨b, off + k, none⟩ = some rv := (hlw.cell (World.block_lt_of_cell? w _ hc)).trans hc
      have hs1 : ((ls.take (k + 1)).flatten).length ≤ ls.flatten.length := by
        have := congrArg List.length (congrArg List.flatten (List.take_append_drop (k + 1) ls))
        rw [List.flatten_append, List.length_append] at this
        omega
      have e : (ls.take (k + 1)).flatten = (ls.take k).flatten ++ ls.getD k [] := by
        rw [List.take_succ_eq_append_getElem hlt, List.flatten_append, List.getD_eq_getElem?_getD, List.getElem?_eq_getElem hlt]
        simp
      rw [e, List.length_append] at hs1
      have hrd' := hrd.touch (.of_below (S := fun _ => False) hlw) (fun _ _ h => h)
      obtain ⟨Ar, cr, rfl, _⟩ := hrd
      generalize ls.getD k [] = ys at *
      have HE := Lib.hid e
      have HST := Lib.hid hst
      clear hcs e hlw hc hst
      go_wp2_with (at_builtin; refine app_row w0.heap.size rfl (.tmp 18) (.tmp 22) 64 5 .u8 1 rfl Tryd.underlying64 (by kernel_rfl) (by decide) _ _ _ _ F rfl rfl HST.out.own hrd' HST.out.low.size ?c4 ?_)
      case c4 => omega
      intro A2 n2 c2 w2 ho2 T2 hat2 hn2 _
      clear hn2
      have HM : Hid (MSt w0 w2 (.slice A2 n2 c2) (ls.take (k + 1)).flatten) := Lib.hid ⟨by rw [HE.out]; exact ho2, HST.out.low.trans (T2.below HST.out.low.size (fun b hb => (HST.out.own.lt hb).1))⟩
      clear ho2 T2 hat2 hrd'
      go_wp2
      go_roundw
      case measure => simp [intOf]; omega
      case rel => exact ⟨k + 1, A2, n2, c2, by omega, by go_num, rfl, HM.out⟩
      -- done>
    · obtain rfl : k = ls.length := by omega
      rw [List.take_length] at hst
      generalize hfl : ls.flatten = fl at *
      have HFL := Lib.hid hfl
      clear hfl
      have hn1 : n1 = fl.length := by obtain ⟨_, _, e⟩ := hst.own.slice; injection e
      have HN1 := Lib.hid hn1
      have hnb : n1 ≤ 1000000000 := by omega
      clear hn1
      have HST := Lib.hid hst; clear hst
      obtain ⟨wo, rfl⟩ : ∃ wo : World, wo = wr := ⟨_, rfl⟩
      go_wp2_with (at_builtin; refine app_one w0.heap.size rfl (.tmp 28) (.tmp 29) 64 5 .u8 1 rfl Tryd.underlying64 (by kernel_rfl) (by decide) _ _ 128 rfl rfl HST.out.own HST.out.low.size ?c4 ?_)
      case c4 => omega
      intro A2 n2 c2 w2 ho2 T2 hat2 hn2
      clear hn2
      have HM : Hid (MSt w0 w2 (.slice A2 n2 c2) (fl ++ [128])) := Lib.hid ⟨ho2, HST.out.low.trans (T2.below HST.out.low.size (fun b hb => (HST.out.own.lt hb).1))⟩
      clear ho2 T2 hat2
      go_wp2
      go_loopg [3] (padZ (fl.length + 1)) (fun gk m wr => ∃ (A1 : Option Addr) (n3 c1 j : Nat), m = .slice A1 n3 c1 ∧ MSt w0 wr (.slice A1 n3 c1) (fl ++ [128] ++ List.replicate j 0) ∧ Eager (j ≤ padZ (fl.length + 1) ∧ gk + j = padZ (fl.length + 1) ∧ n3 = fl.length + 1 + j))
      case atStart => exact ⟨_, _, _, 0, rfl, by simpa using HM.out, ⟨by omega, by omega, by obtain ⟨_, _, e⟩ := HM.out.own.slice; injection e with _ e; simpa using e⟩⟩
      case round =>
        clear HM
        obtain ⟨A1, n3, c1, j, rfl, hst, hj⟩ := hrel
        by_cases hjp : j = padZ (fl.length + 1)
        · have hb : ((n3 : Int) % 64 != 56) = false := by
            have h1 := hj.out.2.2
            have := (padZ_stop (fl.length + 1) j (by omega)).2 hjp
            rw [bne_eq_false_iff_eq]; omega
          have HST2 := Lib.hid hst; clear hst
          have HJ := Lib.hid hjp; clear hjp
          go_wp2
          clear hb
          go_loopw [6, 3] (fun i m wr => ∃ (k : Nat) (A1 : Option Addr) (n3 c1 : Nat), k ≤ 8 ∧ i = .int .i64 k ∧ m = .slice A1 n3 c1 ∧ MSt w0 wr (.slice A1 n3 c1) (fl ++ [128] ++ List.replicate (padZ (fl.length + 1)) 0 ++ bitsL fl.length k)) (fun i _ _ => 8 - (intOf i).toNat)
          case atStart => exact ⟨0, _, _, _, by omega, rfl, rfl, by simpa [bitsL, HJ.out] using HST2.out⟩
          case round =>
            clear HST2 hj
            obtain ⟨k, A1, n3, c1, hk, rfl, rfl, hst⟩ := hrel
            by_cases hlt : k < 8
            · have HST3 := Lib.hid hst; clear hst
              go_wp2_with (at_builtin; refine app_one w0.heap.size rfl (.tmp 42) (.tmp 50) 64 5 .u8 1 rfl Tryd.underlying64 (by kernel_rfl) (by decide) _ _ _ rfl rfl HST3.out.own HST3.out.low.size ?c4 ?_)
              case c4 => have := padZ_lt (fl.length + 1); simp [bitsL_length]; omega
              intro A2 n2 c2 w2 ho2 T2 hat2 hn2
              clear hn2
              have e8 : fl ++ [128] ++ List.replicate (padZ (fl.length + 1)) 0 ++ bitsL fl.length (k + 1) = fl ++ [128] ++ List.replicate (padZ (fl.length + 1)) 0 ++ bitsL fl.length k ++ [bitB fl.length (7 - k)] := by rw [bitsL_succ]; simp
              have HM : Hid (MSt w0 w2 (.slice A2 n2 c2) (fl ++ [128] ++ List.replicate (padZ (fl.length + 1)) 0 ++ bitsL fl.length (k + 1))) := Lib.hid ⟨by
                have e9 : (n1 : Int) * 8 / 2 ^ (56 - 8 * k) % 256 = (fl.length : Int) * 8 / 2 ^ (56 - 8 * k) % 256 := by rw [HN1.out]
                rw [e8, bitB_small _ (by omega) (by omega) k hlt, ← e9]
                simpa using ho2, HST3.out.low.trans (T2.below HST3.out.low.size (fun b hb => (HST3.out.own.lt hb).1))⟩
              clear ho2 T2 hat2 e8
              go_wp2
              go_roundw
              case measure => simp [intOf]; omega
              case rel => exact ⟨k + 1, A2, n2, c2, by omega, by go_num, rfl, HM.out⟩
            · obtain rfl : k = 8 := by omega
              have HST3 := Lib.hid hst; clear hst
              have e8 : ((8 : Nat) : Int) = 8 := rfl
              simp only [e8]
              clear e8
              obtain ⟨wp, rfl⟩ : ∃ wp : World, wp = wr := ⟨_, rfl⟩
              have hpm : fl ++ [128] ++ List.replicate (padZ (fl.length + 1)) 0 ++ bitsL fl.length 8 = padded fl fl.length := rfl
              rw [hpm] at HST3
              have hmod := padded_mod fl fl.length
              have hple := padded_len fl fl.length
              have hsha : sha fl = outL (feed iv0 (padded fl fl.length)).1 := rfl
              have HSHA := Lib.hid hsha
              clear hpm hsha
              generalize padded fl fl.length = pm at *
              have hn3 : n3 = pm.length := by obtain ⟨_, _, e⟩ := HST3.out.own.slice; injection e
              have HN3 := Lib.hid hn3
              have hn3m : n3 % 64 = 0 := by omega
              have hn3l : n3 ≤ 1000000073 := by omega
              clear hn3 hmod hple
              go_wp2
              go_loopw [8, 7] (fun i hh wr => ∃ (i0 g c : Nat) (st : W8), i0 ≤ n3 ∧ i0 % 64 = 0 ∧ i = .int .i64 i0 ∧ hh = .slice (some ⟨g, 0, none⟩) 8 c ∧ RdI wr .u32 (.slice (some ⟨g, 0, none⟩) 8 c) [st.a, st.b, st.c, st.d, st.e, st.f, st.g, st.h] (fun b => w0.heap.size ≤ b) ∧ MSt w0 wr (.slice A1 n3 c1) pm ∧ Eager (feed iv0 pm = feed st (pm.drop i0))) (fun i _ _ => n3 - (intOf i).toNat)
              case atStart =>
                refine ⟨0, wp.heap.size, 8, iv0, by omega, by omega, rfl, rfl, ?_, ⟨HST3.out.own.touch ((Touch.refl (fun _ => False) wp).alloc _) (fun _ _ h => h), HST3.out.low.trans (((Touch.refl (fun _ => False) wp).alloc _).below HST3.out.low.size (fun _ h => h.elim))⟩, ⟨by simp⟩⟩
                refine ⟨_, 8, rfl, by simp, by omega, fun _ => ⟨wp.heap.size, 0, rfl, HST3.out.low.size, fun j hj => ?_⟩⟩
                rw [Nat.zero_add]
                refine (cell_new _ _ _ _ _ rfl).trans ?_
                have hj2 : j < 8 := hj
                match j, hj2 with | 0, _ | 1, _ | 2, _ | 3, _ | 4, _ | 5, _ | 6, _ | 7, _ => rfl
              case round =>
                obtain ⟨i0, g, c, st, hi0, hi64, rfl, rfl, hrd, hst, hfe⟩ := hrel
                by_cases hlt : i0 < n3
                · have hi1 : i0 + 64 ≤ n3 := by omega
                  have hr1 : RdI wr .u8 (.slice A1 n3 c1) pm _ := hst.own.rd
                  have hcap : n3 ≤ c1 := by obtain ⟨_, c', e, h1, _⟩ := hr1; injection e with _ e2 e3; omega
                  have hsl : ∀ w, (Instr.slice 64 (.slice A1 n3 c1) (some (.int .i64 (i0 : Int))) (some (.int .i64 ((i0 : Int) + 64))) none).run Tryd.prog w = .ok (.slice (slAt A1 i0 c1 1) 64 (c1 - i0)) w := fun w => by
                    have := run_slice_both (P := Tryd.prog) Tryd.underlying64 1 (by kernel_rfl) A1 n3 c1 i0 (i0 + 64) (by omega) (by omega) w
                    rwa [Nat.add_sub_cancel_left] at this
                  have hr2 := hr1.both i0 (i0 + 64) (by omega) hi1
                  rw [Nat.add_sub_cancel_left] at hr2
                  have hbl := block_any _ _ st _ _ _ wr hrd hr2 (by rw [List.length_take, List.length_drop, ← HN3.out]; omega)
                  have HBL := Lib.hid hbl
                  have HST4 := Lib.hid hst
                  clear hbl hr1 hr2 hst hrd hcap
                  go_wp2_with (go_at_call 43; refine HBL.out.mono ?_; rintro e w4 ⟨g4, c4, rfl, hg4, hr4, hb4⟩)
                  go_roundw
                  case measure => simp [intOf]; omega
                  case rel =>
                    have hsz := HST4.out.low.size
                    refine ⟨i0 + 64, g4, c4, comp st (fun i => ((pm.drop i0).take 64).getD i 0), hi1, by omega, by go_num, rfl, hr4.mono (fun b hb _ => by omega), ⟨HST4.out.own.touch (.of_below (S := fun _ => False) hb4) (fun _ _ h => h), HST4.out.low.trans (hb4.mono hsz)⟩, ⟨?_⟩⟩
                    have ec : comp st (fun i => ((pm.drop i0).take 64).getD i 0) = comp st (fun i => (pm.drop i0).getD i 0) := comp_congr st (fun i hi => by simp [List.getD_eq_getElem?_getD, hi])
                    rw [ec, hfe.out, feed_big st _ (by rw [List.length_drop, ← HN3.out]; omega), List.drop_drop]
                · obtain rfl : i0 = n3 := by omega
                  have hst' : (feed iv0 pm).1 = st := by rw [hfe.out, HN3.out, List.drop_length, feed_small st [] (by simp)]
                  have HSTF := Lib.hid hst'
                  have hcl := hrd.cells
                  have hgl : g < wr.heap.size := World.block_lt_of_cell? wr _ (hcl 0 (by simp))
                  have HCL := Lib.hid hcl
                  have HLOW := Lib.hid hst.low
                  have HR0 := Lib.hid (hst.low.block w.heap.size (by have := HSZ.out; omega) |>.trans (row_heap HRES.out (Array.replicate 32 (.int .u8 0)) (by simp) (fun i hi => by simp [hi])))
                  have hwl := hst.low.size
                  clear hst' hcl hrd hst hfe
                  obtain ⟨wz, rfl⟩ : ∃ wz : World, wz = wr := ⟨_, rfl⟩
                  go_wp2_with (refine wpList_store_row rfl 29 (.tmp 9) (.tmp 66) rfl wz.heap.size (outV (List.replicate 32 0)) rfl (by rfl) 29 _ (heap_alloc_new wz _) (by kernel_rfl) (by rfl) (outV_one _) ?_)
                  have hx0 : ((wz.alloc (.cells (outV (List.replicate 32 0)) 29)).setRow wz.heap.size (outV (List.replicate 32 0))).heap[wz.heap.size]? = some (.cells (outV (List.replicate 32 0)) 29 (0, 0)) := heap_setRow (heap_alloc_new wz _) _
                  refine wp_gen (fun wx => wx.rowIs wz.heap.size 29 32 (fun _ => .int .u8 0) ∧ Touch (fun _ => False) wz wx) ⟨?_, ?_⟩ ?_
                  · exact ⟨_, heap_setRow (heap_alloc_new wz _) _, rfl, fun i hi => by
                      show (Array.replicate 32 (Value.int .u8 0))[i]? = _
                      rw [Array.getElem?_replicate, if_pos hi]⟩
                  · exact (((Touch.refl (fun _ => False) wz).alloc _).setRow (.inr (Nat.le_refl _)) _)
                  intro wx ⟨hxr, hxt⟩
                  have HXR := Lib.hid hxr
                  have HXT := Lib.hid hxt
                  clear hxr hxt hx0
                  go_loopw [10] (fun i wr => ∃ k : Nat, k ≤ 32 ∧ i = .int .i64 k ∧ wr.rowIs wz.heap.size 29 32 (fun j => .int .u8 (if j < k then outB st j else 0)) ∧ Touch (fun b => wz.heap.size ≤ b) wz wr) (fun i _ => 32 - (intOf i).toNat)
                  case atStart => exact ⟨0, by omega, rfl, HXR.out.congr (fun i hi => by simp), HXT.out.mono (fun _ h _ => h.elim)⟩
                  case round =>
                    obtain ⟨k, hk, rfl, hrow, htch⟩ := hrel
                    by_cases hlt : k < 32
                    · have o1 := hrow.cell (i := k) (by omega)
                      have p1 := hrow.frozen k
                      have hq0 : 0 ≤ (k : Int) / 4 := by omega
                      have hq1 : (k : Int) / 4 < 8 := by omega
                      have hq2 : ((k : Int) / 4).toNat = k / 4 := by omega
                      have hh : wr.cell? ⟨g, k / 4, none⟩ = some (.int .u32 (st.get (k / 4))) := (htch.cell hgl (by show ¬ _ ≤ g; omega)).trans ((HCL.out (k / 4) (by simp; omega)).trans (by
                        have h4 : k / 4 < 8 := by omega
                        generalize k / 4 = j at h4
                        match j, h4 with | 0, _ | 1, _ | 2, _ | 3, _ | 4, _ | 5, _ | 6, _ | 7, _ => rfl))
                      have hm0 : 0 ≤ 24 - 8 * ((k : Int) % 4) := by omega
                      have HROW := Lib.hid hrow; clear hrow
                      go_wp2
                      refine ⟨⟨k + 1, by omega, by go_num, (HROW.out.set k _).congr (fun i hi => ?_), htch.setCell (.inl (Nat.le_refl _)) _⟩, by simp [intOf]; omega⟩
                      by_cases e : i = k
                      · subst e; rw [if_pos rfl, if_pos (by omega)]; rfl
                      · rw [if_neg e]
                        by_cases e2 : i < k
                        · rw [if_pos e2, if_pos (by omega)]
                        · rw [if_neg e2, if_neg (by omega)]
                    · obtain rfl : k = 32 := by omega
                      have HO := Lib.hid (row_heap hrow (outV (outL st)) (by rw [outV_size, outL_length]) (fun i hi => by rw [outV_at st i hi, if_pos (by omega)]))
                      have HRF := Lib.hid ((htch.block w.heap.size (by have := HSZ.out; omega) (by show ¬ _ ≤ w.heap.size; have := HSZ.out; omega)).trans HR0.out)
                      clear hrow
                      go_wp2_with (first | (refine wpList_load_row rfl 29 (.tmp 9) rfl wz.heap.size rfl 29 _ (0, 0) _ HO.out Tryd.underlying29 rfl (by kernel_rfl) ?_) | (refine wpList_store_row rfl 29 (.tmp 2) (.tmp 85) rfl w.heap.size (outV (outL st)) rfl rfl 29 _ HRF.out (by kernel_rfl) (by rw [outV_size, outL_length]; simp) (outV_one _) ?_))
                      refine bodyPost_ret (v := .agg (outV (outL st))) (results_cell_row (p := 2) (ty := 29) (by kernel_rfl) _ _ w.heap.size 29 (outV (outL st)) (0, 0) _ (by rfl) (heap_setRow HRF.out _) Tryd.underlying29 rfl (by kernel_rfl)) rfl ⟨?_, ?_⟩
                      · rw [HFL.out, HSHA.out, HSTF.out]
                      · have hw0 : Below w.heap.size w wz := HL0.out.trans (HLOW.out.mono (by have := HSZ.out; omega))
                        have hsz := HSZ.out
                        exact ((Touch.of_below (S := fun b => w.heap.size ≤ b) (hw0.trans (htch.below hw0.size (fun k hk => by omega)))).setRow (.inl (Nat.le_refl _)) _).below (Nat.le_refl _) (fun k hk => hk)
        · have hb : ((n3 : Int) % 64 != 56) = true := by
            have h1 := hj.out.2.2
            have := mt (padZ_stop (fl.length + 1) j hj.out.1).1 hjp
            rw [bne_iff_ne]; omega
          have HST2 := Lib.hid hst; clear hst
          go_wp2_with (at_builtin; refine app_one w0.heap.size rfl (.tmp 35) (.tmp 36) 64 5 .u8 1 rfl Tryd.underlying64 (by kernel_rfl) (by decide) _ _ 0 rfl rfl HST2.out.own HST2.out.low.size ?c4 ?_)
          case c4 => have := padZ_lt (fl.length + 1); have := hj.out.1; simp; omega
          intro A2 n2 c2 w4 ho2 T2 hat2 hn2
          have hn2' : n2 = fl.length + 1 + (j + 1) := by obtain ⟨_, _, e⟩ := ho2.slice; injection e with _ e; rw [e]; simp; omega
          have HN2 := Lib.hid hn2'
          clear hn2 hn2'
          have e8 : fl ++ [128] ++ List.replicate (j + 1) 0 = fl ++ 128 :: (List.replicate j 0 ++ [0]) := by rw [List.replicate_succ']; simp
          have HM : Hid (MSt w0 w4 (.slice A2 n2 c2) (fl ++ [128] ++ List.replicate (j + 1) 0)) := Lib.hid ⟨by rw [e8]; exact ho2, HST2.out.low.trans (T2.below HST2.out.low.size (fun b hb => (HST2.out.own.lt hb).1))⟩
          clear ho2 T2 hat2 e8
          go_wp2
          go_roundg (gk - 1)
          case measure => have := hj.out; omega
          case rel => exact ⟨A2, n2, c2, j + 1, rfl, HM.out, ⟨by have := hj.out; omega, by have := hj.out; omega, HN2.out⟩⟩
end Go.Proofs.YteggcfcjajpcgaaDoor
