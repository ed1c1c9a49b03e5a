/- Walk: SlabPlays. -/
import Derived.Test.YtebdgohkhadgpaaDoorRg
set_option linter.unusedVariables false
set_option linter.unusedSimpArgs false
namespace Go.Proofs.YtebdgohkhadgpaaDoor
open Go Go.RowKit
set_option maxHeartbeats 20000000
section
variable {σ w w' : World} {Hs : List Hp} {H M N : Hp}
theorem get_some {g size : Nat} {held : List Bool} {mem : List Int} {A : Option Addr} {c : Nat} (w : World) (hw : Sat σ w (M :: Hs)) (h : Slb M g size held mem A c) (hT : TabZ w) :
    Calls Tryd.prog 11 #[.pointer (some ⟨g, 0, none⟩)] w fun e w' => ∃ n c', e = .returned (.tuple #[.int .i64 n, .int .i64 c']) ∧ ∃ M' held' mem', Sat σ w' (M' :: Hs) ∧ Slb M' g size held' mem' A c := by
  by_cases hf : least held = held.length
  · refine (get_full w hw List.mem_cons_self h hf).mono ?_
    rintro e w' ⟨rfl, rfl⟩
    exact ⟨_, _, rfl, M, held, mem, hw, h⟩
  · refine (get_any w hw h (Nat.lt_of_le_of_ne (least_le held) hf) hT).mono ?_
    rintro e w' ⟨rfl, M', h1, h2⟩
    exact ⟨_, _, rfl, M', _, _, h1, h2⟩
set_option maxRecDepth 100000 in
theorem plays_any (n s : Int) (v : Value) (acts : List ActT) (w : World) (hw : Sat σ w Hs) (hH : H ∈ Hs) (hs : kAct.IsSl H v acts) (hok : ∀ x ∈ acts, (-9223372036854775808 ≤ x.at_ ∧ x.at_ ≤ 9223372036854775807) ∧ (-9223372036854775808 ≤ x.n ∧ x.n ≤ 9223372036854775807) ∧ x.bytes.length ≤ 140737488355328) (hTZ : ∀ w' Hs', Sat σ w' (Hs' ++ Hs) → TabZ w') :
    Calls Tryd.prog 6 #[.int .i64 n, .int .i64 s, v] w fun e w' => e = .returned (.bool true) ∧ Sat σ w' Hs := by
  obtain ⟨A, c, rfl, hc1, hc2, _⟩ := hs.form
  have HOK := Lib.hid hok; clear hok
  by_cases hbad : newE n s = 2
  · go_enter Tryd.func6, Tryd.ntmps6
    go_wp2_with fail
    refine (new_bad n s w hbad).mono ?_
    rintro e w1 ⟨rfl, rfl⟩
    go_wp2_with fail
    refine (rnew_bad n s w1 hbad).mono ?_
    rintro e w2 ⟨rfl, rfl⟩
    go_wp2
    go_ret
    exact ⟨rfl, hw⟩
  obtain ⟨hn, hsz, htot⟩ : (0 ≤ n ∧ n ≤ 4096) ∧ (0 ≤ s ∧ s ≤ 65536) ∧ n * s ≤ 4194304 := by
    unfold newE at hbad
    split at hbad
    · exact absurd rfl hbad
    · refine ⟨⟨?_, ?_⟩, ⟨?_, ?_⟩, ?_⟩ <;> omega
  obtain ⟨n0, rfl⟩ : ∃ n0 : Nat, n = n0 := ⟨n.toNat, by omega⟩
  obtain ⟨size, rfl⟩ : ∃ n0 : Nat, s = n0 := ⟨s.toNat, by omega⟩
  have htot' : n0 * size ≤ 4194304 := by rw [← Int.natCast_mul] at htot; omega
  go_enter Tryd.func6, Tryd.ntmps6
  go_wp2_with fail
  refine (new_any n0 size w hw (by omega) (by omega) htot').mono ?_
  rintro e w1 ⟨b, M, A0, c0, rfl, hw1, hT⟩
  go_wp2_with fail
  refine (rnew_any n0 size w1 hw1 (by omega) (by omega) htot').mono ?_
  rintro e w2 ⟨y0, Y, rfl, hw2, hY⟩
  have hR : Rel (List.replicate n0 false) size (List.replicate (n0 * size) 0) (List.replicate n0 none) := fun q hq => by
    rw [List.getElem?_replicate] at hq
    split at hq <;> cases hq
  clear hw hw1 w1 htot htot' hbad hn
  generalize List.replicate n0 false = held0 at *
  generalize List.replicate (n0 * size) (0 : Int) = mem0 at *
  generalize List.replicate n0 none = bl0 at *
  go_wp2
  go_loopw [11, 7, 12, 13, 14, 15, 16, 17, 18, 19, 20, 21, 22, 23, 24, 25, 26, 27] (fun i t _ _ _ _ _ _ _ _ _ _ _ _ _ _ _ _ wr => ∃ (k b : Nat) (M Y : Hp) (held : List Bool) (mem : List Int) (bl : List (Option (Nat × List Int))) (A2 : Option Addr) (c2 : Nat), k ≤ acts.length ∧ i = .int .i64 k ∧ t = .pointer (some ⟨b, 0, none⟩) ∧ Sat σ wr (M :: Y :: Hs) ∧ Slb M b size held mem A2 c2 ∧ RS Y y0 size held bl ∧ Rel held size mem bl) (fun i _ _ _ _ _ _ _ _ _ _ _ _ _ _ _ _ _ _ => acts.length - (intOf i).toNat)
  case atStart => exact ⟨0, b, M, Y, held0, mem0, bl0, A0, c0, by omega, rfl, rfl, hw2.swap, hT, hY, hR⟩
  case round =>
    obtain ⟨k, b1, M1, Y1, held, mem, bl, A2, c2', hk, rfl, rfl, hwr, hT1, hY1, hR1⟩ := hrel
    clear hw2 hT hY hR
    have hT := hT1; have hY := hY1; have hR := hR1
    clear hT1 hY1 hR1
    by_cases hlt : k < acts.length
    · obtain ⟨gb, off, c', Au, cu, x, hx, hv, e0, e1, e2, e3, e4, hu⟩ := act_get hs hlt
      injection hv with hv1 hv2 hv3
      subst hv1; subst hv3; clear hv2
      have hHM : H ∈ M1 :: Y1 :: Hs := by simp [hH]
      have c0 := hwr.cellAt hHM e0; have c1 := hwr.cellAt hHM e1; have c2 := hwr.cellAt hHM e2; have c3 := hwr.cellAt hHM e3; have c4 := hwr.cellAt hHM e4
      have hgl : gb < wr.heap.size := World.block_lt_of_cell? wr _ c0
      obtain ⟨hxa, hxn, hxl⟩ := HOK.out x (List.mem_of_getElem? hx)
      have HU := Lib.hid hu
      have hki : (k : Int) < acts.length := by omega
      have hr := amongI_range x.kind 5 (by omega)
      clear e0 e1 e2 e3 e4 hx hs hu
      have hwx := hwr.alloc (.cells #[.int .i64 x.kind, .int .i64 x.block, .int .i64 x.at_, .int .i64 x.n, .slice Au x.bytes.length cu] 38)
      go_wp2_with fail
      generalize hW : World.alloc wr _ = wx at *
      clear hW hwr c0 c1 c2 c3 c4 hgl hHM
      generalize wr.heap.size = nb at *
      refine (among_any x.kind 5 wx (by omega) (by omega)).mono ?_
      rintro e w5 ⟨rfl, rfl⟩
      go_upto_block 2 with fail
      go_cut [7, 13, 64] (fun t ok _ wc => ∃ (b : Nat) (M Y : Hp) (held : List Bool) (mem : List Int) (bl : List (Option (Nat × List Int))) (A2 : Option Addr) (c2 : Nat), t = .pointer (some ⟨b, 0, none⟩) ∧ ok = .bool true ∧ Sat σ wc (M :: Y :: Hp.one nb (.cells #[.int .i64 x.kind, .int .i64 x.block, .int .i64 x.at_, .int .i64 x.n, .slice Au x.bytes.length cu] 38 (0, 0)) :: Hs) ∧ Slb M b size held mem A2 c2 ∧ RS Y y0 size held bl ∧ Rel held size mem bl)
      case first =>
        by_cases q0 : amongI x.kind 5 = 0
        · as_aux_lemma =>
            rw [q0]
            have hlb := hY.len; have hlm := hT.len
            by_cases hfull : least held = held.length
            · have HG := Lib.hid (get_full wx hwx (by simp) hT hfull)
              have HRG := Lib.hid (rget_full wx hwx (by simp) hY hfull)
              clear hfull
              go_wp2_with fail
              refine HG.out.mono ?_
              rintro e w3 ⟨rfl, rfl⟩
              go_wp2_with fail
              refine HRG.out.mono ?_
              rintro e w3 ⟨rfl, rfl⟩
              have hL := hwx.down2
              clear HG HRG hwx hlb hlm
              have HFT := Lib.hid hT; have HFY := Lib.hid hY; have HFR := Lib.hid hR
              clear hT hY hR
              go_wp2_with fail
              go_meet
              exact ⟨_, _, _, _, _, _, _, _, rfl, rfl, hL, HFT.out, HFY.out, HFR.out⟩
            · have hlt' : least held < held.length := Nat.lt_of_le_of_ne (least_le held) hfull
              have HG := Lib.hid (get_any wx hwx.swap hT hlt' (hTZ _ [M1, Hp.one nb (.cells #[.int .i64 x.kind, .int .i64 x.block, .int .i64 x.at_, .int .i64 x.n, .slice Au x.bytes.length cu] 38 (0, 0)), Y1] hwx.swap))
              have HRG := Lib.hid (fun w' Hs' (h : Sat σ w' (Y1 :: Hs')) => rget_any w' h hY hlt')
              have HREL := Lib.hid (fun nb => hR.get (nb := nb) hlt' hlb hlm)
              clear hfull hlt' hT hY hR hlb hlm
              generalize held.set (least held) true = held at *
              generalize spliceL mem _ _ = mem at *
              generalize least held = ls at *
              go_wp2_with fail
              refine HG.out.mono ?_
              rintro e w3 ⟨rfl, M1, hw3, hT⟩
              go_wp2_with fail
              refine (HRG.out _ _ hw3.up2).mono ?_
              rintro e w4 ⟨rfl, Y1, nbb, hw4, hY⟩
              have hR := HREL.out nbb
              have hL := hw4.swap
              clear HG HRG hwx hw3 HREL
              have HFT := Lib.hid hT; have HFY := Lib.hid hY; have HFR := Lib.hid hR
              clear hT hY hR
              go_wp2_with fail
              go_meet
              exact ⟨_, _, _, _, _, _, _, _, rfl, rfl, hL, HFT.out, HFY.out, HFR.out⟩
        by_cases q1 : amongI x.kind 5 = 1
        · as_aux_lemma =>
            rw [q1]
            have HS18 : Hid (∀ w' Hs', Sat σ w' Hs' → Hp.one nb (.cells #[.int .i64 x.kind, .int .i64 x.block, .int .i64 x.at_, .int .i64 x.n, .slice Au x.bytes.length cu] 38 (0, 0)) ∈ Hs' → (w'.cell? ⟨nb, 1, none⟩ = some (.int .i64 x.block))) := Lib.hid (fun w' Hs' h hm => h.cellAt hm ((Hp.one_cell _ _ _ _).trans rfl))
            have HPUT := Lib.hid (fun w' Hs' (h : Sat σ w' (M1 :: Hs')) => put_any x.block w' h hT)
            have HRPUT := Lib.hid (fun w' Hs' (h : Sat σ w' (Y1 :: Hs')) => rput_any x.block w' h hY)
            have HREL : Hid (Rel (if heldB held x.block = true then held.set x.block.toNat false else held) size mem bl) := Lib.hid (by split; exact hR.put; exact hR)
            clear hT hY hR
            generalize (if heldB held x.block = true then held.set x.block.toNat false else held) = held at *
            generalize (if heldB _ x.block = true then (0 : Int) else 5) = code at *
            go_wp2
            go_region_held3 (fun w' => w'.cell? ⟨nb, 1, none⟩ = some (.int .i64 x.block))
              (first | exact HS18.out _ _ hw5 (by simp) | exact HS18.out _ _ hw4 (by simp) | exact HS18.out _ _ hwx.drew (by simp))
              (first
                | (go_at_call 15; refine (HPUT.out _ _ hwx.drew.swap).mono ?_; rintro e w4 ⟨rfl, M1, hw4, hT⟩)
                | (go_at_call 19; refine (HRPUT.out _ _ hw4.up2).mono ?_; rintro e w5 ⟨rfl, Y1, hw5, hY⟩))
            have hL := hw5.swap
            have hR := HREL.out
            clear hw4 hw5 hwx HPUT HRPUT HS18 HREL
            have HFT := Lib.hid hT; have HFY := Lib.hid hY; have HFR := Lib.hid hR
            clear hT hY hR
            go_wp2_with fail
            go_meet
            exact ⟨_, _, _, _, _, _, _, _, rfl, rfl, hL, HFT.out, HFY.out, HFR.out⟩
        by_cases q2 : amongI x.kind 5 = 2
        · as_aux_lemma =>
            rw [q2]
            have d4 : wx.cell? ⟨nb, 4, none⟩ = some (.slice Au x.bytes.length cu) := hwx.one_cell rfl
            go_wp2_with fail
            refine (bytesO_any _ x.bytes wx hwx (by simp [hH]) HU.out (by omega)).mono ?_
            rintro e w3 ⟨A3, c3, N3, cells, rfl, hw3, ho3, hcs⟩
            obtain rfl := reps_is hcs
            clear d4 hwx hcs
            have hsl3 : kB.IsSl N3 (.slice A3 x.bytes.length c3) x.bytes := ho3.isSl (d := kB) (reps_ints _) rfl (Hp.le_refl _)
            have HSL3 := Lib.hid hsl3; have HO3 := Lib.hid ho3
            have HW := Lib.hid (fun w' Hs' (h : Sat σ w' (M1 :: Hs')) (hm : N3 ∈ Hs') => write_any x.block x.at_ (.slice A3 x.bytes.length c3) x.bytes w' h hm hT HSL3.out hxa)
            have HRW := Lib.hid (fun w' Hs' (h : Sat σ w' (Y1 :: Hs')) (hm : H ∈ Hs') => rwrite_any x.block x.at_ (.slice Au x.bytes.length cu) x.bytes w' h hm hY hR.has HU.out)
            have HREL := Lib.hid (hR.write (ys := x.bytes) hY.len hT.len x.block x.at_)
            clear hT hY hR hsl3 ho3
            generalize spanE size held x.block x.at_ x.bytes.length = code at *
            generalize wroteL size held mem x.block x.at_ x.bytes = mem at *
            generalize wrB size held bl x.block x.at_ x.bytes = bl at *
            have HS21 : Hid (∀ w' Hs', Sat σ w' Hs' → Hp.one nb (.cells #[.int .i64 x.kind, .int .i64 x.block, .int .i64 x.at_, .int .i64 x.n, .slice Au x.bytes.length cu] 38 (0, 0)) ∈ Hs' → (w'.cell? ⟨nb, 1, none⟩ = some (.int .i64 x.block) ∧ w'.cell? ⟨nb, 2, none⟩ = some (.int .i64 x.at_) ∧ w'.cell? ⟨nb, 4, none⟩ = some (.slice Au x.bytes.length cu))) := Lib.hid (fun w' Hs' h hm => ⟨h.cellAt hm ((Hp.one_cell _ _ _ _).trans rfl), h.cellAt hm ((Hp.one_cell _ _ _ _).trans rfl), h.cellAt hm ((Hp.one_cell _ _ _ _).trans rfl)⟩)
            go_wp2
            go_region_held3 (fun w' => w'.cell? ⟨nb, 1, none⟩ = some (.int .i64 x.block) ∧ w'.cell? ⟨nb, 2, none⟩ = some (.int .i64 x.at_) ∧ w'.cell? ⟨nb, 4, none⟩ = some (.slice Au x.bytes.length cu))
              (first | exact HS21.out _ _ hw6 (by simp) | exact HS21.out _ _ hw5 (by simp) | exact HS21.out _ _ hw4 (by simp) | exact HS21.out _ _ hw3.drew (by simp))
              (first
                | (go_at_call 12; refine (HW.out _ _ hw3.drew.up2 (by simp)).mono ?_; rintro e w4 ⟨rfl, M1, hw4, hT⟩)
                | (go_at_call 21; refine (HRW.out _ _ hw4.up3 (by simp [hH])).mono ?_; rintro e w5 ⟨rfl, Y1, hw5, hY⟩)
                | (go_at_call 16; refine (sameB_any (H1 := N3) (H2 := H) _ _ x.bytes _ hw5 (by simp) (by simp [hH]) HSL3.out HU.out).mono ?_; rintro e w6 ⟨rfl, hw6⟩))
            have hwm := hw6.up2
            have hR := HREL.out
            clear hw6 hw5 hw4 hw3 HW HRW HS21 HREL
            have HFT := Lib.hid hT; have HFY := Lib.hid hY; have HFR := Lib.hid hR
            clear hT hY hR
            go_wp2_with fail
            go_loopw [19] (fun j wr => ∃ (q : Nat) (G' : Hp), q ≤ x.bytes.length ∧ j = .int .i64 q ∧ Sat σ wr (G' :: Y1 :: M1 :: Hp.one nb (.cells #[.int .i64 x.kind, .int .i64 x.block, .int .i64 x.at_, .int .i64 x.n, .slice Au x.bytes.length cu] 38 (0, 0)) :: Hs) ∧ Eager (0 < x.bytes.length → ∃ g, A3 = some ⟨g, 0, none⟩ ∧ Bytes1 G' g 5 x.bytes.length)) (fun j _ => x.bytes.length - (intOf j).toNat)
            case atStart => exact ⟨0, N3, by omega, rfl, hwm, ⟨fun h0 => by obtain ⟨g, c, e, hB⟩ := own_bytes1 HO3.out h0; injection e with e; exact ⟨g, e, hB⟩⟩⟩
            case round =>
              obtain ⟨j, G1, hj, rfl, hwl, hb⟩ := hrel
              clear hwm
              by_cases hjl : j < x.bytes.length
              · obtain ⟨g, rfl, hB⟩ := hb.out (by omega)
                obtain ⟨z, hc, hset⟩ := bytes1_set hB hwl j (by omega)
                obtain ⟨cs, hg, _⟩ := hB.out
                have f0 := heap_free (hwl.le g _ hg) j
                have HSET := Lib.hid hset
                have hji : (j : Int) < x.bytes.length := by omega
                clear hset hg hB hb
                go_wp2
                obtain ⟨G2, h1, h2⟩ := HSET.out 77
                exact ⟨⟨j + 1, G2, by omega, by go_num, h1, ⟨fun _ => ⟨g, rfl, h2⟩⟩⟩, by simp [intOf]; omega⟩
              · obtain rfl : j = x.bytes.length := by omega
                have hL := hwl.drop.swap
                clear hb
                go_wp2_with fail
                go_meet
                exact ⟨_, _, _, _, _, _, _, _, rfl, rfl, hL, HFT.out, HFY.out, HFR.out⟩
        by_cases q3 : amongI x.kind 5 = 3
        · as_aux_lemma =>
            rw [q3]
            have d1 : wx.cell? ⟨nb, 1, none⟩ = some (.int .i64 x.block) := hwx.one_cell rfl
            have d2 : wx.cell? ⟨nb, 2, none⟩ = some (.int .i64 x.at_) := hwx.one_cell rfl
            have d3 : wx.cell? ⟨nb, 3, none⟩ = some (.int .i64 x.n) := hwx.one_cell rfl
            have HRD := Lib.hid (read_any x.block x.at_ x.n wx hwx (by simp) hT hxn hxa)
            have HRR := Lib.hid (fun w' Hs' (h : Sat σ w' Hs') (hm : Y1 ∈ Hs') => rread_any x.block x.at_ x.n w' h hm hY hR.has)
            have hee : (if spanE size held x.block x.at_ x.n = 0 then rangeL size mem x.block x.at_ x.n else []) = (if spanE size held x.block x.at_ x.n = 0 then rdL bl x.block x.at_ x.n else []) := by
              split
              · rename_i h; exact hR.read h
              · rfl
            rw [hee] at HRD
            clear hee
            generalize (if spanE size held x.block x.at_ x.n = 0 then rdL bl x.block x.at_ x.n else []) = rl at *
            generalize spanE size held x.block x.at_ x.n = code at *
            go_wp2_with fail
            refine HRD.out.mono ?_
            rintro e w3 ⟨v3, N3, xs3, rfl, hw3, ho3, rfl⟩
            obtain ⟨A3, c3, rfl, _⟩ := ho3.slice
            have hsl3 : kB.IsSl N3 (.slice A3 xs3.length c3) xs3 := ho3.isSl (d := kB) (reps_ints _) rfl (Hp.le_refl _)
            have HSL3 := Lib.hid hsl3; have HO3 := Lib.hid ho3
            clear ho3 hsl3 d1 d2 d3 hwx HRD
            have d1 : w3.cell? ⟨nb, 1, none⟩ = some (.int .i64 x.block) := hw3.drop.one_cell rfl
            have d2 : w3.cell? ⟨nb, 2, none⟩ = some (.int .i64 x.at_) := hw3.drop.one_cell rfl
            have d3 : w3.cell? ⟨nb, 3, none⟩ = some (.int .i64 x.n) := hw3.drop.one_cell rfl
            go_wp2_with fail
            refine (HRR.out _ _ hw3 (by simp)).mono ?_
            rintro e w4 ⟨v4, N4, xs4, rfl, hw4, hv4, rfl⟩
            obtain ⟨A4, c4, rfl, _⟩ := hv4.form
            clear d1 d2 d3 hw3 HRR
            go_wp2_with fail
            refine (sameB_any (H1 := N3) (H2 := N4) _ _ xs4 _ hw4 (by simp) (by simp) HSL3.out hv4).mono ?_
            rintro e w6 ⟨rfl, hw6⟩
            have hwm := hw6.drop
            clear hw6 hw4 hv4
            have HFT := Lib.hid hT; have HFY := Lib.hid hY; have HFR := Lib.hid hR
            clear hT hY hR
            go_wp2_with fail
            go_loopw [24] (fun j wr => ∃ (q : Nat) (G' : Hp), q ≤ xs4.length ∧ j = .int .i64 q ∧ Sat σ wr (G' :: Hp.one nb (.cells #[.int .i64 x.kind, .int .i64 x.block, .int .i64 x.at_, .int .i64 x.n, .slice Au x.bytes.length cu] 38 (0, 0)) :: M1 :: Y1 :: Hs) ∧ Eager (0 < xs4.length → ∃ g, A3 = some ⟨g, 0, none⟩ ∧ Bytes1 G' g 5 xs4.length)) (fun j _ => xs4.length - (intOf j).toNat)
            case atStart => exact ⟨0, N3, by omega, rfl, hwm, ⟨fun h0 => by obtain ⟨g, c, e, hB⟩ := own_bytes1 HO3.out h0; injection e with e; exact ⟨g, e, hB⟩⟩⟩
            case round =>
              obtain ⟨j, G1, hj, rfl, hwl, hb⟩ := hrel
              clear hwm
              by_cases hjl : j < xs4.length
              · obtain ⟨g, rfl, hB⟩ := hb.out (by omega)
                obtain ⟨z, hc, hset⟩ := bytes1_set hB hwl j (by omega)
                obtain ⟨cs, hg, _⟩ := hB.out
                have f0 := heap_free (hwl.le g _ hg) j
                have HSET := Lib.hid hset
                have hji : (j : Int) < xs4.length := by omega
                clear hset hg hB hb
                go_wp2
                obtain ⟨G2, h1, h2⟩ := HSET.out 78
                exact ⟨⟨j + 1, G2, by omega, by go_num, h1, ⟨fun _ => ⟨g, rfl, h2⟩⟩⟩, by simp [intOf]; omega⟩
              · obtain rfl : j = xs4.length := by omega
                have hL := hwl.drop.down2
                clear hb
                go_wp2_with fail
                go_meet
                exact ⟨_, _, _, _, _, _, _, _, rfl, rfl, hL, HFT.out, HFY.out, HFR.out⟩
        have q4 : amongI x.kind 5 = 4 := by omega
        as_aux_lemma =>
          rw [q4]
          go_wp2_with fail
          refine (clone_any wx hwx (by simp) hT).mono ?_
          rintro e w3 ⟨b2, M2, A5, c5, rfl, hw3, hT2⟩
          have HT2 := Lib.hid hT2
          have HGS := Lib.hid (get_some w3 hw3.up2 hT (hTZ _ [M1, M2, Hp.one nb (.cells #[.int .i64 x.kind, .int .i64 x.block, .int .i64 x.at_, .int .i64 x.n, .slice Au x.bytes.length cu] 38 (0, 0)), Y1] hw3.up2))
          clear hT hT2 hwx hw3
          go_wp2_with fail
          refine HGS.out.mono ?_
          rintro e w4 ⟨gn, gc, rfl, M4, held4, mem4, hw4, hT4⟩
          have d1 : w4.cell? ⟨nb, 1, none⟩ = some (.int .i64 x.block) := hw4.up2.one_cell rfl
          have hwa := (hw4.alloc (.cells #[.int .u8 9] 5)).swap
          have hnl : nb < w4.heap.size := World.block_lt_of_cell? w4 _ d1
          have hl1 := lit_sl w4.heap.size [9] 5 (0, 0) (by simp)
          have HW := Lib.hid (write_any x.block 0 _ [9] _ hwa (List.mem_cons_self) hT4 hl1 (by omega))
          clear hT4 hl1 HGS
          generalize spanE size held4 x.block 0 _ = code at *
          generalize wroteL size held4 mem4 x.block 0 [9] = mem5 at *
          go_wp2_with fail
          refine HW.out.mono ?_
          rintro e w5 ⟨rfl, M5, hw5, hT5⟩
          have hw5 := hw5.drop1
          have HP := Lib.hid (put_any x.block w5 hw5 hT5)
          clear d1 hnl hwa hT5 HW hw4
          have d1 : w5.cell? ⟨nb, 1, none⟩ = some (.int .i64 x.block) := hw5.up2.one_cell rfl
          generalize (if heldB held4 x.block = true then (0 : Int) else 5) = code2 at *
          go_wp2_with fail
          refine HP.out.mono ?_
          rintro e w6 ⟨rfl, M6, hw6, _⟩
          have hL := hw6.drop.swap1
          clear d1 hw5 HP hw6
          have hT := HT2.out
          have HFT := Lib.hid hT; have HFY := Lib.hid hY; have HFR := Lib.hid hR
          clear hT hY hR
          go_wp2_with fail
          go_meet
          exact ⟨_, _, _, _, _, _, _, _, rfl, rfl, hL, HFT.out, HFY.out, HFR.out⟩
      case rest =>
        clear hwx hT hY hR
        obtain ⟨b1, M1, Y1, held, mem, bl, A2, c2', rfl, rfl, hL, hT, hY, hR⟩ := hcut
        as_aux_lemma =>
          have HY := Lib.hid hY; have HT := Lib.hid hT; have HR := Lib.hid hR
          have HUS := Lib.hid (fun w' Hs' (h : Sat σ w' Hs') (hm : M1 ∈ Hs') => used_any w' h hm hT)
          have HRUS := Lib.hid (fun w' Hs' (h : Sat σ w' Hs') (hm : Y1 ∈ Hs') => rused_any w' h hm hY)
          have HHL := Lib.hid (fun w' Hs' (h : Sat σ w' Hs') (hm : M1 ∈ Hs') => heldlist_any w' h hm hT)
          have hcn : held.count true ≤ 4096 := Nat.le_trans List.count_le_length hT.n
          have hla := heldL_all held
          have HLM : Hid (∀ q, q < held.count true → ∃ b : Nat, (heldL held held.length)[q]? = some (b : Int) ∧ b < held.length ∧ held[b]? = some true) := Lib.hid (fun q hq => by
            have h1 := List.getElem?_eq_getElem (show q < (heldL held held.length).length by omega)
            obtain ⟨b, h2, h3, h4⟩ := heldL_mem h1
            exact ⟨b, by rw [h1, h2], h3, h4⟩)
          clear hT hY hR
          go_wp2_with fail
          refine (HHL.out _ _ hL (by simp)).mono ?_
          rintro e w5 ⟨lv, N5, rfl, hw5, ho5⟩
          have HOWN := Lib.hid (fun h0 => own_hlist ho5 h0)
          rw [hla] at ho5 HOWN
          have HLL := Lib.hid hla
          clear HHL hL hla
          generalize heldL held held.length = L at *
          generalize List.count true held = u at *
          obtain ⟨A5, c5, rfl, hc51, hc52⟩ := ho5.slice
          clear ho5
          go_wp2_with (first | (go_at_call 14; refine (HUS.out _ _ hw5 (by simp)).mono ?_; rintro e w6 ⟨rfl, rfl⟩) | (go_at_call 25; refine (HRUS.out _ _ hw5 (by simp)).mono ?_; rintro e w6 ⟨rfl, rfl⟩))
          clear HUS HRUS
          go_loopw [27] (fun i wr => ∃ (q : Nat) (G : Hp), q ≤ u ∧ i = .int .i64 q ∧ Sat σ wr (G :: M1 :: Y1 :: Hp.one nb (.cells #[.int .i64 x.kind, .int .i64 x.block, .int .i64 x.at_, .int .i64 x.n, .slice Au x.bytes.length cu] 38 (0, 0)) :: Hs) ∧ Eager (0 < u → ∃ g, A5 = some ⟨g, 0, none⟩ ∧ HList G g L q)) (fun i _ => u - (intOf i).toNat)
          case atStart => exact ⟨0, N5, by omega, rfl, hw5, ⟨fun h0 => by obtain ⟨g, c, e, hB⟩ := HOWN.out h0; injection e with e; exact ⟨g, e, hB⟩⟩⟩
          case round =>
            obtain ⟨q, G, hq, rfl, hwl, hb⟩ := hrel
            clear hw5
            by_cases hqu : q < u
            · obtain ⟨gh, rfl, hB⟩ := hb.out (by omega)
              obtain ⟨b, hLb, hbl, hbt⟩ := HLM.out q hqu
              obtain ⟨cs, hg, hB1, hB2⟩ := hB.out
              have cq := hwl.m_cell hg (hB1 q _ (Nat.le_refl _) hLb)
              have fq := heap_free (hwl.le _ _ hg) q
              obtain ⟨Ab', cb', hbb, ch', cur, k1, k2, k3, _⟩ := HY.out.heldRow (by omega)
              have c2 := hwl.cellAt (by simp) (Hp.cell_of k1 (o := 2) rfl)
              have cb := hwl.cellAt (by simp) (Hp.cell_of k2 (k3 b _ hbt))
              have hql := Lib.hid (HLL.out)
              have HSET := Lib.hid (fun nq => hlist_set hB (hwl.drewN nq) (by rw [HLL.out]; exact hqu))
              have hqi : (q : Int) < u := by omega
              have hbi : (b : Int) < held.length := by omega
              have hd1 : decide ((b : Int) < 0) = false := decide_eq_false (by omega)
              have hd2 : decide ((held.length : Int) ≤ b) = false := decide_eq_false (by omega)
              have hd2n : decide (held.length ≤ b) = false := decide_eq_false (by omega)
              have hd3 : decide ((b : Int) ≤ -7) = false := decide_eq_false (by omega)
              by_cases hq0 : q = 0
              · subst hq0
                clear hB hb hLb hbl hbt hB1 hB2 k1 k2 k3
                go_wp2
                go_quiet (fail)
                go_wp2
                obtain ⟨G2, h1, h2⟩ := HSET.out nq
                exact ⟨⟨0 + 1, G2, by omega, by first | rfl | go_num, h1, ⟨fun _ => ⟨gh, rfl, h2⟩⟩⟩, by simp [intOf]; omega⟩
              · have cp := hwl.m_cell hg (hB2 (q - 1) (by omega))
                obtain ⟨p, hp⟩ : ∃ p, q - 1 = p := ⟨_, rfl⟩
                rw [hp] at cp
                have hpi : (q : Int) - 1 = p := by omega
                have hq0' : (0 : Int) < q := by omega
                have hq0n : 0 < q := by omega
                have hpu : (p : Int) < u := by omega
                clear hB hb hLb hbl hbt hB1 hB2 k1 k2 k3 hp
                go_wp2
                go_quiet (fail)
                go_wp2
                obtain ⟨G2, h1, h2⟩ := HSET.out nq
                exact ⟨⟨q + 1, G2, by omega, by first | rfl | go_num, h1, ⟨fun _ => ⟨gh, rfl, h2⟩⟩⟩, by simp [intOf]; omega⟩
            · obtain rfl : q = u := by omega
              clear hb
              go_wp2
              go_roundw
              case measure => simp [intOf]; omega
              case rel => exact ⟨k + 1, b1, M1, Y1, held, mem, bl, A2, c2', by omega, by go_num, rfl, hwl.drop.up2.drop, HT.out, HY.out, HR.out⟩
    · obtain rfl : k = acts.length := by omega
      go_wp2_with fail
      refine (works_any wr hwr (fun w' Hs' h => hTZ w' (Hs' ++ [M1, Y1]) (by rw [List.append_assoc]; exact h))).mono ?_
      rintro e w3 ⟨rfl, hw3⟩
      go_wp2
      go_ret
      exact ⟨rfl, hw3.drop.drop⟩
end
end Go.Proofs.YtebdgohkhadgpaaDoor
