/- Walk: NamesPlays. -/
import Derived.Test.YthofnhmehpdnbaaR6
set_option linter.unusedVariables false
namespace Go.Proofs.Ythofnhmehpdnbaa
open Go.RowKit
set_option maxHeartbeats 20000000
section
variable {σ : World} {Hs : List Hp} {H M N : Hp}
set_option maxRecDepth 100000 in
theorem plays_any (n : Int) (v : Value) (acts : List ActT) (w : World) (hw : Sat σ w Hs) (hH : H ∈ Hs) (hs : kAct.IsSl H v acts) (hok : ∀ a ∈ acts, a.name.size ≤ 9223372036854775807 ∧ a.addrs.length * 4 ≤ 140737488355328) :
    Calls Try.prog 6 #[.int .i64 n, v] w fun e w' => e = .returned (.bool true) ∧ Sat σ w' Hs := by
  obtain ⟨A, c, rfl, hc1, hc2, _⟩ := hs.form
  have HOK := Lib.hid hok; clear hok
  by_cases hn : n < 0 ∨ 4096 < n
  · go_enter Try.func6, Try.ntmps6
    go_wp2_with fail
    refine (new_bad n w hw hn).mono ?_
    rintro e w1 ⟨rfl, hw1⟩
    go_wp2_with fail
    refine (rnew_bad n w1 hw1 hn).mono ?_
    rintro e w2 ⟨rfl, hw2⟩
    go_wp2
    go_ret
    exact ⟨rfl, hw2⟩
  go_enter Try.func6, Try.ntmps6
  go_wp2_with fail
  refine (new_any n w hw (by omega) (by omega)).mono ?_
  rintro e w1 ⟨b, M, rfl, hw1, hT⟩
  go_wp2_with fail
  refine (rnew_any n w1 hw1 (by omega) (by omega)).mono ?_
  rintro e w2 ⟨by0, Y, rfl, hw2, hY⟩
  clear hw hw1 w1
  have hU := uniq_new n.toNat
  generalize List.replicate n.toNat (⟨⟨#[]⟩, [], 0⟩ : Ent) = xs0 at *
  go_wp2
  go_loopw [9, 5, 10, 11, 12, 13, 14, 15, 16, 17, 18, 19, 20] (fun i t _ _ _ _ _ _ _ _ _ _ _ wr => ∃ (k b : Nat) (M Y : Hp) (xs : List Ent), k ≤ acts.length ∧ i = .int .i64 k ∧ t = .pointer (some ⟨b, 0, none⟩) ∧ Sat σ wr (M :: Y :: Hs) ∧ TabRep M b xs ∧ RTab Y by0 xs ∧ Uniq xs) (fun i _ _ _ _ _ _ _ _ _ _ _ _ _ => acts.length - (intOf i).toNat)
  case atStart => exact ⟨0, b, M, Y, xs0, by omega, rfl, rfl, hw2.swap, hT, hY, hU⟩
  case round =>
    obtain ⟨k, b1, M1, Y1, xs, hk, rfl, rfl, hwr, hT1, hY1, hUq⟩ := hrel
    clear hw2 hT hY hU
    have hT := hT1; have hY := hY1
    clear hT1 hY1
    by_cases hlt : k < acts.length
    · obtain ⟨gb, off, c', Au, cu, x, hx, hv, e0, e1, e2, e3, e4, hu⟩ := act_get hs hlt
      injection hv with hv1 hv2 hv3
      subst hv1; subst hv3; clear hv2
      have hHM : H ∈ M1 :: Y1 :: Hs := by simp [hH]
      have c0 := hwr.cellAt hHM e0; have c1 := hwr.cellAt hHM e1; have c2 := hwr.cellAt hHM e2; have c3 := hwr.cellAt hHM e3; have c4 := hwr.cellAt hHM e4
      have hgl : gb < wr.heap.size := World.block_lt_of_cell? wr _ c0
      obtain ⟨hxs, hxl⟩ := HOK.out x (List.mem_of_getElem? hx)
      have HU := Lib.hid hu
      have hki : (k : Int) < acts.length := by omega
      have hr := amongI_range x.kind 4 (by omega)
      clear e0 e1 e2 e3 e4 hx hs hu
      have hwx := hwr.alloc (.cells #[.int .i64 x.kind, .int .i64 x.now, .int .i64 x.ttl, .string x.name, .slice Au x.addrs.length cu] 31)
      go_wp2_with fail
      generalize hW : World.alloc wr _ = wx at *
      clear hW hwr c0 c1 c2 c3 c4 hgl hHM
      generalize wr.heap.size = nb at *
      refine (among_any x.kind 4 wx (by omega) (by omega)).mono ?_
      rintro e w5 ⟨rfl, rfl⟩
      by_cases q0 : amongI x.kind 4 = 0
      · rw [q0]
        obtain ⟨cells, hcs, hsrc⟩ := src_any (P := Try.prog) (σ := σ) (w := wx) (Hs := Hs) HU.out (t := 29) Try.underlying29
        have HSRC := Lib.hid hsrc; have HCS := Lib.hid hcs
        have d4 : wx.cell? ⟨nb, 4, none⟩ = some (.slice Au x.addrs.length cu) := hwx.one_cell rfl
        have hnb : nb < wx.heap.size := hwx.one_lt
        clear hsrc hcs
        go_wp2_with (at_builtin; refine wpList_app (hwx.alloc _) rfl (.tmp 59) (.tmp 61) 29 29 39 (.agg #[.int .u8 0, .int .u8 0, .int .u8 0, .int .u8 0]) 4 4 rfl Try.underlying29 (by kernel_rfl) rfl (by decide) _ _ 0 x.addrs.length [] cells rfl rfl (own_lit0 _ _ _) (HSRC.out _ _ (hwx.alloc _) (by simp [hH])) (by omega) ?_; intro A3 c3 w3 N3 hw3 ho3 _ _)
        generalize hz3 : 0 + x.addrs.length = n3 at *
        obtain rfl : n3 = x.addrs.length := by omega
        clear d4 hz3 hwx hnb
        rw [List.nil_append] at ho3
        obtain ⟨A3', c3', e3, hc3, hc3'⟩ := ho3.slice
        injection e3 with ea _ e3
        subst ea
        subst e3
        have hsl3 : kAd.IsSl N3 (.slice A3 x.addrs.length c3) x.addrs := ho3.isSl (d := kAd) (kAd_reps HCS.out) rfl (Hp.le_refl _)
        have HSL3 := Lib.hid hsl3; have HO3 := Lib.hid ho3
        have HPUT : Hid (∀ w' Hs', Sat σ w' (M1 :: Hs') → N3 ∈ Hs' → Calls Try.prog 11 #[.pointer (some ⟨b1, 0, none⟩), .int .i64 x.now, .string x.name, .slice A3 x.addrs.length c3, .int .i64 x.ttl] w' (PutP σ Hs' b1 (putE xs x.now x.name x.addrs.length x.ttl) (putR xs x.now x.name x.addrs x.ttl))) :=
          Lib.hid (fun w' Hs' h hm => put_any b1 xs x.now x.ttl x.name _ x.addrs w' h hT hm HSL3.out (by omega))
        have HRPUT : Hid (∀ w' Hs', Sat σ w' (Y1 :: Hs') → H ∈ Hs' → Calls Try.prog 17 #[.pointer (some ⟨by0, 0, none⟩), .int .i64 x.now, .string x.name, .slice Au x.addrs.length cu, .int .i64 x.ttl] w' (RPutP σ Hs' by0 (putE xs x.now x.name x.addrs.length x.ttl) (putR xs x.now x.name x.addrs x.ttl))) :=
          Lib.hid (fun w' Hs' h hm => by
            have := rput_any by0 xs x.now x.ttl x.name _ x.addrs w' h hY hm HU.out (by omega)
            rw [rput_eq hUq] at this
            exact this)
        have hUq1 := uniq_put hUq x.now x.name x.addrs x.ttl
        clear hT hY hUq hsl3 ho3 HSRC
        generalize putE xs x.now x.name x.addrs.length x.ttl = code at *
        generalize putR xs x.now x.name x.addrs x.ttl = xs at *
        have HS15 : Hid (∀ w' Hs', Sat σ w' Hs' → Hp.one nb (.cells #[.int .i64 x.kind, .int .i64 x.now, .int .i64 x.ttl, .string x.name, .slice Au x.addrs.length cu] 31 (0, 0)) ∈ Hs' → (w'.cell? ⟨nb, 1, none⟩ = some (.int .i64 x.now) ∧ w'.cell? ⟨nb, 2, none⟩ = some (.int .i64 x.ttl) ∧ w'.cell? ⟨nb, 3, none⟩ = some (.string x.name) ∧ w'.cell? ⟨nb, 4, none⟩ = some (.slice Au x.addrs.length cu))) := Lib.hid (fun w' Hs' h hm => ⟨h.cellAt hm ((Hp.one_cell _ _ _ _).trans rfl), h.cellAt hm ((Hp.one_cell _ _ _ _).trans rfl), h.cellAt hm ((Hp.one_cell _ _ _ _).trans rfl), h.cellAt hm ((Hp.one_cell _ _ _ _).trans rfl)⟩)
        go_region_held3 (fun w' => w'.cell? ⟨nb, 1, none⟩ = some (.int .i64 x.now) ∧ w'.cell? ⟨nb, 2, none⟩ = some (.int .i64 x.ttl) ∧ w'.cell? ⟨nb, 3, none⟩ = some (.string x.name) ∧ w'.cell? ⟨nb, 4, none⟩ = some (.slice Au x.addrs.length cu))
          (first | exact HS15.out _ _ hw6 (by simp) | exact HS15.out _ _ hw5 (by simp) | exact HS15.out _ _ hw4 (by simp) | exact HS15.out _ _ hw3.drew (by simp))
          (first
            | (go_at_call 11; refine (HPUT.out _ _ hw3.drew.up2 (by simp)).mono ?_; rintro e w4 ⟨rfl, M1, hw4, hT⟩)
            | (go_at_call 17; refine (HRPUT.out _ _ hw4.up3 (by simp [hH])).mono ?_; rintro e w5 ⟨rfl, Y1, hw5, hY⟩)
            | (go_at_call 13; refine (sameA_any (H1 := N3) (H2 := H) _ _ x.addrs x.addrs _ hw5 (by simp) (by simp [hH]) HSL3.out HU.out).mono ?_; rintro e w6 ⟨rfl, hw6⟩; rw [show decide (x.addrs = x.addrs) = true by simp]))
        go_wp2
        have HT1 := Lib.hid hT; have HY1 := Lib.hid hY; have HUQ1 := Lib.hid hUq1
        clear hT hY hUq1
        go_loopw [12] (fun j wr => ∃ (q : Nat) (G' : Hp), q ≤ x.addrs.length ∧ j = .int .i64 q ∧ Sat σ wr (G' :: Y1 :: M1 :: Hp.one nb (.cells #[.int .i64 x.kind, .int .i64 x.now, .int .i64 x.ttl, .string x.name, .slice Au x.addrs.length cu] 31 (0, 0)) :: Hs) ∧ Eager (0 < x.addrs.length → ∃ g, A3 = some ⟨g, 0, none⟩ ∧ Bytes4 G' g 39 (x.addrs.length * 4))) (fun j _ => x.addrs.length - (intOf j).toNat)
        case atStart => exact ⟨0, N3, by omega, rfl, hw6.up2, ⟨fun h0 => by obtain ⟨g, c, e, hB⟩ := own_bytes HO3.out HCS.out h0; injection e with e; exact ⟨g, e, hB⟩⟩⟩
        case round =>
          obtain ⟨j, G1, hj, rfl, hwl, hb⟩ := hrel
          clear hw6 hw5 hw4 hw3
          by_cases hjl : j < x.addrs.length
          · obtain ⟨g, rfl, hB⟩ := hb.out (by omega)
            obtain ⟨z, hc, hset⟩ := bytes4_set hB hwl (j * 4) (by omega)
            obtain ⟨cs, hg, _⟩ := hB.out
            have f0 := heap_free (hwl.le g _ hg) (j * 4)
            have HSET := Lib.hid hset
            have hji : (j : Int) < x.addrs.length := by omega
            clear hset hg hB hb
            go_wp2
            obtain ⟨G2, h1, h2⟩ := HSET.out (IntKind.u8.wrap (z + 1))
            exact ⟨⟨j + 1, G2, by omega, by go_num, h1, ⟨fun _ => ⟨g, rfl, h2⟩⟩⟩, by simp [intOf]; omega⟩
          · obtain rfl : j = x.addrs.length := by omega
            have hL := hwl.drop.swap
            have hT := HT1.out; have hY := HY1.out; have hUq := HUQ1.out
            clear hwl hb
            generalize hw7 : wr = w7 at *
            clear hw7
            have HT := Lib.hid hT; have HY := Lib.hid hY; have HUQ := Lib.hid hUq
            have HGET := Lib.hid (get_at (σ := σ) b1 xs x.now x.name hT)
            have HRGET := Lib.hid (rget_at (σ := σ) by0 xs x.now x.name hY)
            have HUS := Lib.hid (used_at (σ := σ) b1 xs x.now hT)
            have HRUS := Lib.hid (rused_at (σ := σ) by0 xs x.now hY)
            have HLI := Lib.hid (list_at (σ := σ) b1 xs hT)
            have HRLI := Lib.hid (rlist_at (σ := σ) by0 xs hY)
            have HGL : Hid ((getT xs x.now x.name).1.length ≤ 16) := Lib.hid (get_len x.now x.name hT.facts.2.2)
            clear hT hY hUq
            generalize getT xs x.now x.name = gt at *
            generalize (if momB x.now then (usedL xs x.now : Int) else 0) = us at *
            generalize xs.map Ent.name = nms at *
            obtain ⟨gl, gn, gc⟩ := gt
            have d1 : w7.cell? ⟨nb, 1, none⟩ = some (.int .i64 x.now) := hL.up2.one_cell rfl
            have d3 : w7.cell? ⟨nb, 3, none⟩ = some (.string x.name) := hL.up2.one_cell rfl
            go_wp2_with fail
            refine (HGET.out _ _ hL (by simp)).mono ?_
            rintro e w8 ⟨gv, G, gcl, rfl, hw8, hgo, hgr⟩
            clear d1 d3 hL
            obtain ⟨Ag, cg, rfl, _⟩ := hgo.slice
            have d1 : w8.cell? ⟨nb, 1, none⟩ = some (.int .i64 x.now) := hw8.up3.one_cell rfl
            have d3 : w8.cell? ⟨nb, 3, none⟩ = some (.string x.name) := hw8.up3.one_cell rfl
            go_wp2_with fail
            refine (HRGET.out _ _ hw8 (by simp)).mono ?_
            rintro e w9 ⟨rv, R, rfl, hw9, hrv⟩
            clear d1 d3 hw8
            have HGO := Lib.hid hgo; have HGR := Lib.hid hgr; have HRV := Lib.hid hrv
            have HGV := Lib.hid (hgo.isSl (d := kAd) hgr rfl (Hp.le_refl _))
            clear hgo hgr hrv
            have HS30 : Hid (∀ w' Hs', Sat σ w' Hs' → Hp.one nb (.cells #[.int .i64 x.kind, .int .i64 x.now, .int .i64 x.ttl, .string x.name, .slice Au x.addrs.length cu] 31 (0, 0)) ∈ Hs' → (w'.cell? ⟨nb, 1, none⟩ = some (.int .i64 x.now))) := Lib.hid (fun w' Hs' h hm => h.cellAt hm ((Hp.one_cell _ _ _ _).trans rfl))
            go_wp2
            go_region_held3 (fun w' => w'.cell? ⟨nb, 1, none⟩ = some (.int .i64 x.now))
              (first | exact HS30.out _ _ hwt (by simp) | exact HS30.out _ _ hwl2 (by simp) | exact HS30.out _ _ hwl1 (by simp) | exact HS30.out _ _ hwu2 (by simp) | exact HS30.out _ _ hwu1 (by simp) | exact HS30.out _ _ hwa (by simp) | exact HS30.out _ _ hw9.drew (by simp))
              (first
                | (go_at_call 13; refine (sameA_any (H1 := G) (H2 := R) _ _ gl gl _ hw9.drew (by simp) (by simp) HGV.out HRV.out).mono ?_; rintro e wa ⟨rfl, hwa⟩; rw [show decide (gl = gl) = true by simp])
                | (go_at_call 15; refine (HUS.out _ _ hwa (by simp)).mono ?_; rintro e wu1 ⟨rfl, hwu1⟩)
                | (go_at_call 21; refine (HRUS.out _ _ hwu1 (by simp)).mono ?_; rintro e wu2 ⟨rfl, hwu2⟩)
                | (go_at_call 14; refine (HLI.out _ _ hwu2 (by simp)).mono ?_; rintro e wl1 ⟨lv1, L1, rfl, hwl1, hl1⟩)
                | (go_at_call 23; refine (HRLI.out _ _ hwl1 (by simp)).mono ?_; rintro e wl2 ⟨lv2, L2, rfl, hwl2, hl2⟩)
                | (go_at_call 22; refine (sameT_any (H1 := L1) (H2 := L2) _ _ nms nms _ hwl2 (by simp) (by simp) hl1 hl2).mono ?_; rintro e wt ⟨rfl, hwt⟩; rw [show decide (nms = nms) = true by simp]))
            go_wp2
            go_loopw [20] (fun j wr => ∃ (q : Nat) (G' : Hp), q ≤ gl.length ∧ j = .int .i64 q ∧ Sat σ wr (G' :: M1 :: Y1 :: Hp.one nb (.cells #[.int .i64 x.kind, .int .i64 x.now, .int .i64 x.ttl, .string x.name, .slice Au x.addrs.length cu] 31 (0, 0)) :: Hs) ∧ Eager (0 < gl.length → ∃ g, Ag = some ⟨g, 0, none⟩ ∧ Bytes4 G' g 39 (gl.length * 4))) (fun j _ => gl.length - (intOf j).toNat)
            case atStart => exact ⟨0, G, by omega, rfl, hwt.drop.drop.drop, ⟨fun h0 => by obtain ⟨g, c, e, hB⟩ := own_bytes HGO.out HGR.out h0; injection e with e; exact ⟨g, e, hB⟩⟩⟩
            case round =>
              obtain ⟨j, G1, hj, rfl, hwl, hb⟩ := hrel
              clear hwt hwl2 hwl1 hwu2 hwu1 hwa hw9 hl1 hl2
              have hgl16 := HGL.out
              by_cases hjl : j < gl.length
              · obtain ⟨g, rfl, hB⟩ := hb.out (by omega)
                obtain ⟨z, hc, hset⟩ := bytes4_set hB hwl (j * 4 + 1) (by omega)
                obtain ⟨cs, hg, _⟩ := hB.out
                have f0 := heap_free (hwl.le g _ hg) (j * 4 + 1)
                have HSET := Lib.hid hset
                have hji : (j : Int) < gl.length := by omega
                clear hset hg hB hb
                go_wp2
                obtain ⟨G2, h1, h2⟩ := HSET.out (IntKind.u8.wrap (z + 1))
                exact ⟨⟨j + 1, G2, by omega, by go_num, h1, ⟨fun _ => ⟨g, rfl, h2⟩⟩⟩, by simp [intOf]; omega⟩
              · obtain rfl : j = gl.length := by omega
                go_wp2
                go_roundw
                case measure => simp [intOf]; omega
                case rel => exact ⟨k + 1, b1, M1, Y1, xs, by omega, by go_num, rfl, hwl.drop.up2.drop, HT.out, HY.out, HUQ.out⟩
      by_cases q1 : amongI x.kind 4 = 1
      · rw [q1]
        obtain ⟨cells, hcs, hsrc⟩ := src_any (P := Try.prog) (σ := σ) (w := wx) (Hs := Hs) HU.out (t := 29) Try.underlying29
        have HSRC := Lib.hid hsrc; have HCS := Lib.hid hcs
        have d4 : wx.cell? ⟨nb, 4, none⟩ = some (.slice Au x.addrs.length cu) := hwx.one_cell rfl
        have hnb : nb < wx.heap.size := hwx.one_lt
        clear hsrc hcs
        go_wp2_with (at_builtin; refine wpList_app (hwx.alloc _) rfl (.tmp 59) (.tmp 61) 29 29 39 (.agg #[.int .u8 0, .int .u8 0, .int .u8 0, .int .u8 0]) 4 4 rfl Try.underlying29 (by kernel_rfl) rfl (by decide) _ _ 0 x.addrs.length [] cells rfl rfl (own_lit0 _ _ _) (HSRC.out _ _ (hwx.alloc _) (by simp [hH])) (by omega) ?_; intro A3 c3 w3 N3 hw3 ho3 _ _)
        generalize hz3 : 0 + x.addrs.length = n3 at *
        obtain rfl : n3 = x.addrs.length := by omega
        clear d4 hz3 hwx hnb
        rw [List.nil_append] at ho3
        obtain ⟨A3', c3', e3, hc3, hc3'⟩ := ho3.slice
        injection e3 with ea _ e3
        subst ea
        subst e3
        have hsl3 : kAd.IsSl N3 (.slice A3 x.addrs.length c3) x.addrs := ho3.isSl (d := kAd) (kAd_reps HCS.out) rfl (Hp.le_refl _)
        have HSL3 := Lib.hid hsl3; have HO3 := Lib.hid ho3
        have HPUT : Hid (∀ w' Hs', Sat σ w' (M1 :: Hs') → N3 ∈ Hs' → Calls Try.prog 11 #[.pointer (some ⟨b1, 0, none⟩), .int .i64 x.now, .string x.name, .slice A3 x.addrs.length c3, .int .i64 x.ttl] w' (PutP σ Hs' b1 (putE xs x.now x.name x.addrs.length x.ttl) (putR xs x.now x.name x.addrs x.ttl))) :=
          Lib.hid (fun w' Hs' h hm => put_any b1 xs x.now x.ttl x.name _ x.addrs w' h hT hm HSL3.out (by omega))
        have HRPUT : Hid (∀ w' Hs', Sat σ w' (Y1 :: Hs') → H ∈ Hs' → Calls Try.prog 17 #[.pointer (some ⟨by0, 0, none⟩), .int .i64 x.now, .string x.name, .slice Au x.addrs.length cu, .int .i64 x.ttl] w' (RPutP σ Hs' by0 (putE xs x.now x.name x.addrs.length x.ttl) (putR xs x.now x.name x.addrs x.ttl))) :=
          Lib.hid (fun w' Hs' h hm => by
            have := rput_any by0 xs x.now x.ttl x.name _ x.addrs w' h hY hm HU.out (by omega)
            rw [rput_eq hUq] at this
            exact this)
        have hUq1 := uniq_put hUq x.now x.name x.addrs x.ttl
        clear hT hY hUq hsl3 ho3 HSRC
        generalize putE xs x.now x.name x.addrs.length x.ttl = code at *
        generalize putR xs x.now x.name x.addrs x.ttl = xs at *
        have HS15 : Hid (∀ w' Hs', Sat σ w' Hs' → Hp.one nb (.cells #[.int .i64 x.kind, .int .i64 x.now, .int .i64 x.ttl, .string x.name, .slice Au x.addrs.length cu] 31 (0, 0)) ∈ Hs' → (w'.cell? ⟨nb, 1, none⟩ = some (.int .i64 x.now) ∧ w'.cell? ⟨nb, 2, none⟩ = some (.int .i64 x.ttl) ∧ w'.cell? ⟨nb, 3, none⟩ = some (.string x.name) ∧ w'.cell? ⟨nb, 4, none⟩ = some (.slice Au x.addrs.length cu))) := Lib.hid (fun w' Hs' h hm => ⟨h.cellAt hm ((Hp.one_cell _ _ _ _).trans rfl), h.cellAt hm ((Hp.one_cell _ _ _ _).trans rfl), h.cellAt hm ((Hp.one_cell _ _ _ _).trans rfl), h.cellAt hm ((Hp.one_cell _ _ _ _).trans rfl)⟩)
        go_region_held3 (fun w' => w'.cell? ⟨nb, 1, none⟩ = some (.int .i64 x.now) ∧ w'.cell? ⟨nb, 2, none⟩ = some (.int .i64 x.ttl) ∧ w'.cell? ⟨nb, 3, none⟩ = some (.string x.name) ∧ w'.cell? ⟨nb, 4, none⟩ = some (.slice Au x.addrs.length cu))
          (first | exact HS15.out _ _ hw6 (by simp) | exact HS15.out _ _ hw5 (by simp) | exact HS15.out _ _ hw4 (by simp) | exact HS15.out _ _ hw3.drew (by simp))
          (first
            | (go_at_call 11; refine (HPUT.out _ _ hw3.drew.up2 (by simp)).mono ?_; rintro e w4 ⟨rfl, M1, hw4, hT⟩)
            | (go_at_call 17; refine (HRPUT.out _ _ hw4.up3 (by simp [hH])).mono ?_; rintro e w5 ⟨rfl, Y1, hw5, hY⟩)
            | (go_at_call 13; refine (sameA_any (H1 := N3) (H2 := H) _ _ x.addrs x.addrs _ hw5 (by simp) (by simp [hH]) HSL3.out HU.out).mono ?_; rintro e w6 ⟨rfl, hw6⟩; rw [show decide (x.addrs = x.addrs) = true by simp]))
        go_wp2
        have HT1 := Lib.hid hT; have HY1 := Lib.hid hY; have HUQ1 := Lib.hid hUq1
        clear hT hY hUq1
        go_loopw [12] (fun j wr => ∃ (q : Nat) (G' : Hp), q ≤ x.addrs.length ∧ j = .int .i64 q ∧ Sat σ wr (G' :: Y1 :: M1 :: Hp.one nb (.cells #[.int .i64 x.kind, .int .i64 x.now, .int .i64 x.ttl, .string x.name, .slice Au x.addrs.length cu] 31 (0, 0)) :: Hs) ∧ Eager (0 < x.addrs.length → ∃ g, A3 = some ⟨g, 0, none⟩ ∧ Bytes4 G' g 39 (x.addrs.length * 4))) (fun j _ => x.addrs.length - (intOf j).toNat)
        case atStart => exact ⟨0, N3, by omega, rfl, hw6.up2, ⟨fun h0 => by obtain ⟨g, c, e, hB⟩ := own_bytes HO3.out HCS.out h0; injection e with e; exact ⟨g, e, hB⟩⟩⟩
        case round =>
          obtain ⟨j, G1, hj, rfl, hwl, hb⟩ := hrel
          clear hw6 hw5 hw4 hw3
          by_cases hjl : j < x.addrs.length
          · obtain ⟨g, rfl, hB⟩ := hb.out (by omega)
            obtain ⟨z, hc, hset⟩ := bytes4_set hB hwl (j * 4) (by omega)
            obtain ⟨cs, hg, _⟩ := hB.out
            have f0 := heap_free (hwl.le g _ hg) (j * 4)
            have HSET := Lib.hid hset
            have hji : (j : Int) < x.addrs.length := by omega
            clear hset hg hB hb
            go_wp2
            obtain ⟨G2, h1, h2⟩ := HSET.out (IntKind.u8.wrap (z + 1))
            exact ⟨⟨j + 1, G2, by omega, by go_num, h1, ⟨fun _ => ⟨g, rfl, h2⟩⟩⟩, by simp [intOf]; omega⟩
          · obtain rfl : j = x.addrs.length := by omega
            have hL := hwl.drop.swap
            have hT := HT1.out; have hY := HY1.out; have hUq := HUQ1.out
            clear hwl hb
            generalize hw7 : wr = w7 at *
            clear hw7
            have HT := Lib.hid hT; have HY := Lib.hid hY; have HUQ := Lib.hid hUq
            have HGET := Lib.hid (get_at (σ := σ) b1 xs x.now x.name hT)
            have HRGET := Lib.hid (rget_at (σ := σ) by0 xs x.now x.name hY)
            have HUS := Lib.hid (used_at (σ := σ) b1 xs x.now hT)
            have HRUS := Lib.hid (rused_at (σ := σ) by0 xs x.now hY)
            have HLI := Lib.hid (list_at (σ := σ) b1 xs hT)
            have HRLI := Lib.hid (rlist_at (σ := σ) by0 xs hY)
            have HGL : Hid ((getT xs x.now x.name).1.length ≤ 16) := Lib.hid (get_len x.now x.name hT.facts.2.2)
            clear hT hY hUq
            generalize getT xs x.now x.name = gt at *
            generalize (if momB x.now then (usedL xs x.now : Int) else 0) = us at *
            generalize xs.map Ent.name = nms at *
            obtain ⟨gl, gn, gc⟩ := gt
            have d1 : w7.cell? ⟨nb, 1, none⟩ = some (.int .i64 x.now) := hL.up2.one_cell rfl
            have d3 : w7.cell? ⟨nb, 3, none⟩ = some (.string x.name) := hL.up2.one_cell rfl
            go_wp2_with fail
            refine (HGET.out _ _ hL (by simp)).mono ?_
            rintro e w8 ⟨gv, G, gcl, rfl, hw8, hgo, hgr⟩
            clear d1 d3 hL
            obtain ⟨Ag, cg, rfl, _⟩ := hgo.slice
            have d1 : w8.cell? ⟨nb, 1, none⟩ = some (.int .i64 x.now) := hw8.up3.one_cell rfl
            have d3 : w8.cell? ⟨nb, 3, none⟩ = some (.string x.name) := hw8.up3.one_cell rfl
            go_wp2_with fail
            refine (HRGET.out _ _ hw8 (by simp)).mono ?_
            rintro e w9 ⟨rv, R, rfl, hw9, hrv⟩
            clear d1 d3 hw8
            have HGO := Lib.hid hgo; have HGR := Lib.hid hgr; have HRV := Lib.hid hrv
            have HGV := Lib.hid (hgo.isSl (d := kAd) hgr rfl (Hp.le_refl _))
            clear hgo hgr hrv
            have HS30 : Hid (∀ w' Hs', Sat σ w' Hs' → Hp.one nb (.cells #[.int .i64 x.kind, .int .i64 x.now, .int .i64 x.ttl, .string x.name, .slice Au x.addrs.length cu] 31 (0, 0)) ∈ Hs' → (w'.cell? ⟨nb, 1, none⟩ = some (.int .i64 x.now))) := Lib.hid (fun w' Hs' h hm => h.cellAt hm ((Hp.one_cell _ _ _ _).trans rfl))
            go_wp2
            go_region_held3 (fun w' => w'.cell? ⟨nb, 1, none⟩ = some (.int .i64 x.now))
              (first | exact HS30.out _ _ hwt (by simp) | exact HS30.out _ _ hwl2 (by simp) | exact HS30.out _ _ hwl1 (by simp) | exact HS30.out _ _ hwu2 (by simp) | exact HS30.out _ _ hwu1 (by simp) | exact HS30.out _ _ hwa (by simp) | exact HS30.out _ _ hw9.drew (by simp))
              (first
                | (go_at_call 13; refine (sameA_any (H1 := G) (H2 := R) _ _ gl gl _ hw9.drew (by simp) (by simp) HGV.out HRV.out).mono ?_; rintro e wa ⟨rfl, hwa⟩; rw [show decide (gl = gl) = true by simp])
                | (go_at_call 15; refine (HUS.out _ _ hwa (by simp)).mono ?_; rintro e wu1 ⟨rfl, hwu1⟩)
                | (go_at_call 21; refine (HRUS.out _ _ hwu1 (by simp)).mono ?_; rintro e wu2 ⟨rfl, hwu2⟩)
                | (go_at_call 14; refine (HLI.out _ _ hwu2 (by simp)).mono ?_; rintro e wl1 ⟨lv1, L1, rfl, hwl1, hl1⟩)
                | (go_at_call 23; refine (HRLI.out _ _ hwl1 (by simp)).mono ?_; rintro e wl2 ⟨lv2, L2, rfl, hwl2, hl2⟩)
                | (go_at_call 22; refine (sameT_any (H1 := L1) (H2 := L2) _ _ nms nms _ hwl2 (by simp) (by simp) hl1 hl2).mono ?_; rintro e wt ⟨rfl, hwt⟩; rw [show decide (nms = nms) = true by simp]))
            go_wp2
            go_loopw [20] (fun j wr => ∃ (q : Nat) (G' : Hp), q ≤ gl.length ∧ j = .int .i64 q ∧ Sat σ wr (G' :: M1 :: Y1 :: Hp.one nb (.cells #[.int .i64 x.kind, .int .i64 x.now, .int .i64 x.ttl, .string x.name, .slice Au x.addrs.length cu] 31 (0, 0)) :: Hs) ∧ Eager (0 < gl.length → ∃ g, Ag = some ⟨g, 0, none⟩ ∧ Bytes4 G' g 39 (gl.length * 4))) (fun j _ => gl.length - (intOf j).toNat)
            case atStart => exact ⟨0, G, by omega, rfl, hwt.drop.drop.drop, ⟨fun h0 => by obtain ⟨g, c, e, hB⟩ := own_bytes HGO.out HGR.out h0; injection e with e; exact ⟨g, e, hB⟩⟩⟩
            case round =>
              obtain ⟨j, G1, hj, rfl, hwl, hb⟩ := hrel
              clear hwt hwl2 hwl1 hwu2 hwu1 hwa hw9 hl1 hl2
              have hgl16 := HGL.out
              by_cases hjl : j < gl.length
              · obtain ⟨g, rfl, hB⟩ := hb.out (by omega)
                obtain ⟨z, hc, hset⟩ := bytes4_set hB hwl (j * 4 + 1) (by omega)
                obtain ⟨cs, hg, _⟩ := hB.out
                have f0 := heap_free (hwl.le g _ hg) (j * 4 + 1)
                have HSET := Lib.hid hset
                have hji : (j : Int) < gl.length := by omega
                clear hset hg hB hb
                go_wp2
                obtain ⟨G2, h1, h2⟩ := HSET.out (IntKind.u8.wrap (z + 1))
                exact ⟨⟨j + 1, G2, by omega, by go_num, h1, ⟨fun _ => ⟨g, rfl, h2⟩⟩⟩, by simp [intOf]; omega⟩
              · obtain rfl : j = gl.length := by omega
                go_wp2
                go_roundw
                case measure => simp [intOf]; omega
                case rel => exact ⟨k + 1, b1, M1, Y1, xs, by omega, by go_num, rfl, hwl.drop.up2.drop, HT.out, HY.out, HUQ.out⟩
      by_cases q3 : amongI x.kind 4 = 3
      · rw [q3]
        go_wp2_with fail
        refine (clone_any b1 xs _ hwx.swap hT).mono ?_
        rintro e w3 ⟨b2, M2, rfl, hw3, hcl⟩
        have HCL := Lib.hid hcl
        clear hcl hwx
        go_wp2_with fail
        refine (one_any w3 hw3).mono ?_
        rintro e w4 ⟨v4, N4, rfl, hw4, hv4⟩
        obtain ⟨cd5, xs5, HP1⟩ : ∃ cd xs5, Hid (Calls Try.prog 11 #[.pointer (some ⟨b1, 0, none⟩), .int .i64 1, .string ⟨#[115, 112, 111, 105, 108, 116]⟩, v4, .int .i64 99] w4 (PutK σ (N4 :: M2 :: Hp.one nb (.cells #[.int .i64 x.kind, .int .i64 x.now, .int .i64 x.ttl, .string x.name, .slice Au x.addrs.length cu] 31 (0, 0)) :: Y1 :: Hs) M1 b1 cd xs5)) := ⟨_, _, Lib.hid (put_keep b1 xs 1 99 ⟨#[115, 112, 111, 105, 108, 116]⟩ v4 _ w4 hw4.up2 hT (by simp) hv4 (by decide))⟩
        clear hv4 hT hw3
        go_wp2_with fail
        refine HP1.out.mono ?_
        rintro e w5 ⟨rfl, M5, hw5, hT5, hk5⟩
        have HP2 : Hid (∀ w' v N Hs', Sat σ w' (M5 :: Hs') → N ∈ Hs' → kAd.IsSl N v [⟨10, 0, 0, 1⟩] → ∃ cd xs6, Calls Try.prog 11 #[.pointer (some ⟨b1, 0, none⟩), .int .i64 1, .string x.name, v, .int .i64 0] w' (PutK σ Hs' M5 b1 cd xs6)) := Lib.hid (fun w' v N Hs' h hm hs => ⟨_, _, put_keep b1 xs5 1 0 x.name v _ w' h hT5 hm hs (by omega)⟩)
        have HK5 := Lib.hid hk5
        clear HP1 hw4 hT5 hk5
        have HS26 : Hid (∀ w' Hs', Sat σ w' Hs' → Hp.one nb (.cells #[.int .i64 x.kind, .int .i64 x.now, .int .i64 x.ttl, .string x.name, .slice Au x.addrs.length cu] 31 (0, 0)) ∈ Hs' → (w'.cell? ⟨nb, 3, none⟩ = some (.string x.name))) := Lib.hid (fun w' Hs' h hm => h.cellAt hm ((Hp.one_cell _ _ _ _).trans rfl))
        go_wp2
        go_region_held3 (fun w' => w'.cell? ⟨nb, 3, none⟩ = some (.string x.name))
          (first | exact HS26.out _ _ hw7 (by simp) | exact HS26.out _ _ hw6 (by simp) | exact HS26.out _ _ hw5.drew (by simp))
          (first
            | (go_at_call 19; refine (one_any _ hw5.drew).mono ?_; rintro e w6 ⟨v6, N6, rfl, hw6, hv6⟩)
            | (go_at_call 11; obtain ⟨cd6, xs6, hp2⟩ := HP2.out _ _ _ _ hw6.swap (by simp) hv6; refine hp2.mono ?_; rintro e w7 ⟨rfl, M7, hw7, hT7, hk7⟩))
        have hL := hw7.drop1.drop1.swap.join.swap1
        have hT := HCL.out M7 ⟨fun Hi h => hk7.out Hi (HK5.out.out Hi h)⟩ hw7.drop1.drop1.swap.dj2
        clear hw7 hw6 hw5 hT7 hk7 hv6 HCL HK5 HP2 HS26 hp2
        generalize Hp.or M2 M7 = M1 at *
        generalize b2 = b1 at *
        have HT := Lib.hid hT; have HY := Lib.hid hY; have HUQ := Lib.hid hUq
        have HGET := Lib.hid (get_at (σ := σ) b1 xs x.now x.name hT)
        have HRGET := Lib.hid (rget_at (σ := σ) by0 xs x.now x.name hY)
        have HUS := Lib.hid (used_at (σ := σ) b1 xs x.now hT)
        have HRUS := Lib.hid (rused_at (σ := σ) by0 xs x.now hY)
        have HLI := Lib.hid (list_at (σ := σ) b1 xs hT)
        have HRLI := Lib.hid (rlist_at (σ := σ) by0 xs hY)
        have HGL : Hid ((getT xs x.now x.name).1.length ≤ 16) := Lib.hid (get_len x.now x.name hT.facts.2.2)
        clear hT hY hUq
        generalize getT xs x.now x.name = gt at *
        generalize (if momB x.now then (usedL xs x.now : Int) else 0) = us at *
        generalize xs.map Ent.name = nms at *
        obtain ⟨gl, gn, gc⟩ := gt
        have d1 : w7.cell? ⟨nb, 1, none⟩ = some (.int .i64 x.now) := hL.up2.one_cell rfl
        have d3 : w7.cell? ⟨nb, 3, none⟩ = some (.string x.name) := hL.up2.one_cell rfl
        go_wp2_with fail
        refine (HGET.out _ _ hL (by simp)).mono ?_
        rintro e w8 ⟨gv, G, gcl, rfl, hw8, hgo, hgr⟩
        clear d1 d3 hL
        obtain ⟨Ag, cg, rfl, _⟩ := hgo.slice
        have d1 : w8.cell? ⟨nb, 1, none⟩ = some (.int .i64 x.now) := hw8.up3.one_cell rfl
        have d3 : w8.cell? ⟨nb, 3, none⟩ = some (.string x.name) := hw8.up3.one_cell rfl
        go_wp2_with fail
        refine (HRGET.out _ _ hw8 (by simp)).mono ?_
        rintro e w9 ⟨rv, R, rfl, hw9, hrv⟩
        clear d1 d3 hw8
        have HGO := Lib.hid hgo; have HGR := Lib.hid hgr; have HRV := Lib.hid hrv
        have HGV := Lib.hid (hgo.isSl (d := kAd) hgr rfl (Hp.le_refl _))
        clear hgo hgr hrv
        have HS30 : Hid (∀ w' Hs', Sat σ w' Hs' → Hp.one nb (.cells #[.int .i64 x.kind, .int .i64 x.now, .int .i64 x.ttl, .string x.name, .slice Au x.addrs.length cu] 31 (0, 0)) ∈ Hs' → (w'.cell? ⟨nb, 1, none⟩ = some (.int .i64 x.now))) := Lib.hid (fun w' Hs' h hm => h.cellAt hm ((Hp.one_cell _ _ _ _).trans rfl))
        go_wp2
        go_region_held3 (fun w' => w'.cell? ⟨nb, 1, none⟩ = some (.int .i64 x.now))
          (first | exact HS30.out _ _ hwt (by simp) | exact HS30.out _ _ hwl2 (by simp) | exact HS30.out _ _ hwl1 (by simp) | exact HS30.out _ _ hwu2 (by simp) | exact HS30.out _ _ hwu1 (by simp) | exact HS30.out _ _ hwa (by simp) | exact HS30.out _ _ hw9.drew (by simp))
          (first
            | (go_at_call 13; refine (sameA_any (H1 := G) (H2 := R) _ _ gl gl _ hw9.drew (by simp) (by simp) HGV.out HRV.out).mono ?_; rintro e wa ⟨rfl, hwa⟩; rw [show decide (gl = gl) = true by simp])
            | (go_at_call 15; refine (HUS.out _ _ hwa (by simp)).mono ?_; rintro e wu1 ⟨rfl, hwu1⟩)
            | (go_at_call 21; refine (HRUS.out _ _ hwu1 (by simp)).mono ?_; rintro e wu2 ⟨rfl, hwu2⟩)
            | (go_at_call 14; refine (HLI.out _ _ hwu2 (by simp)).mono ?_; rintro e wl1 ⟨lv1, L1, rfl, hwl1, hl1⟩)
            | (go_at_call 23; refine (HRLI.out _ _ hwl1 (by simp)).mono ?_; rintro e wl2 ⟨lv2, L2, rfl, hwl2, hl2⟩)
            | (go_at_call 22; refine (sameT_any (H1 := L1) (H2 := L2) _ _ nms nms _ hwl2 (by simp) (by simp) hl1 hl2).mono ?_; rintro e wt ⟨rfl, hwt⟩; rw [show decide (nms = nms) = true by simp]))
        go_wp2
        go_loopw [20] (fun j wr => ∃ (q : Nat) (G' : Hp), q ≤ gl.length ∧ j = .int .i64 q ∧ Sat σ wr (G' :: M1 :: Y1 :: Hp.one nb (.cells #[.int .i64 x.kind, .int .i64 x.now, .int .i64 x.ttl, .string x.name, .slice Au x.addrs.length cu] 31 (0, 0)) :: Hs) ∧ Eager (0 < gl.length → ∃ g, Ag = some ⟨g, 0, none⟩ ∧ Bytes4 G' g 39 (gl.length * 4))) (fun j _ => gl.length - (intOf j).toNat)
        case atStart => exact ⟨0, G, by omega, rfl, hwt.drop.drop.drop, ⟨fun h0 => by obtain ⟨g, c, e, hB⟩ := own_bytes HGO.out HGR.out h0; injection e with e; exact ⟨g, e, hB⟩⟩⟩
        case round =>
          obtain ⟨j, G1, hj, rfl, hwl, hb⟩ := hrel
          clear hwt hwl2 hwl1 hwu2 hwu1 hwa hw9 hl1 hl2
          have hgl16 := HGL.out
          by_cases hjl : j < gl.length
          · obtain ⟨g, rfl, hB⟩ := hb.out (by omega)
            obtain ⟨z, hc, hset⟩ := bytes4_set hB hwl (j * 4 + 1) (by omega)
            obtain ⟨cs, hg, _⟩ := hB.out
            have f0 := heap_free (hwl.le g _ hg) (j * 4 + 1)
            have HSET := Lib.hid hset
            have hji : (j : Int) < gl.length := by omega
            clear hset hg hB hb
            go_wp2
            obtain ⟨G2, h1, h2⟩ := HSET.out (IntKind.u8.wrap (z + 1))
            exact ⟨⟨j + 1, G2, by omega, by go_num, h1, ⟨fun _ => ⟨g, rfl, h2⟩⟩⟩, by simp [intOf]; omega⟩
          · obtain rfl : j = gl.length := by omega
            go_wp2
            go_roundw
            case measure => simp [intOf]; omega
            case rel => exact ⟨k + 1, b1, M1, Y1, xs, by omega, by go_num, rfl, hwl.drop.up2.drop, HT.out, HY.out, HUQ.out⟩
      · have hq0 : (amongI x.kind 4 == 0) = false := beq_eq_false_iff_ne.2 q0
        have hq1 : (amongI x.kind 4 == 1) = false := beq_eq_false_iff_ne.2 q1
        have hq3 : (amongI x.kind 4 == 3) = false := beq_eq_false_iff_ne.2 q3
        have hL := hwx.down2
        clear hwx
        generalize hw7 : wx = w7 at *
        clear hw7
        have HT := Lib.hid hT; have HY := Lib.hid hY; have HUQ := Lib.hid hUq
        have HGET := Lib.hid (get_at (σ := σ) b1 xs x.now x.name hT)
        have HRGET := Lib.hid (rget_at (σ := σ) by0 xs x.now x.name hY)
        have HUS := Lib.hid (used_at (σ := σ) b1 xs x.now hT)
        have HRUS := Lib.hid (rused_at (σ := σ) by0 xs x.now hY)
        have HLI := Lib.hid (list_at (σ := σ) b1 xs hT)
        have HRLI := Lib.hid (rlist_at (σ := σ) by0 xs hY)
        have HGL : Hid ((getT xs x.now x.name).1.length ≤ 16) := Lib.hid (get_len x.now x.name hT.facts.2.2)
        clear hT hY hUq
        generalize getT xs x.now x.name = gt at *
        generalize (if momB x.now then (usedL xs x.now : Int) else 0) = us at *
        generalize xs.map Ent.name = nms at *
        obtain ⟨gl, gn, gc⟩ := gt
        have d1 : w7.cell? ⟨nb, 1, none⟩ = some (.int .i64 x.now) := hL.up2.one_cell rfl
        have d3 : w7.cell? ⟨nb, 3, none⟩ = some (.string x.name) := hL.up2.one_cell rfl
        go_wp2_with fail
        refine (HGET.out _ _ hL (by simp)).mono ?_
        rintro e w8 ⟨gv, G, gcl, rfl, hw8, hgo, hgr⟩
        clear d1 d3 hL
        obtain ⟨Ag, cg, rfl, _⟩ := hgo.slice
        have d1 : w8.cell? ⟨nb, 1, none⟩ = some (.int .i64 x.now) := hw8.up3.one_cell rfl
        have d3 : w8.cell? ⟨nb, 3, none⟩ = some (.string x.name) := hw8.up3.one_cell rfl
        go_wp2_with fail
        refine (HRGET.out _ _ hw8 (by simp)).mono ?_
        rintro e w9 ⟨rv, R, rfl, hw9, hrv⟩
        clear d1 d3 hw8
        have HGO := Lib.hid hgo; have HGR := Lib.hid hgr; have HRV := Lib.hid hrv
        have HGV := Lib.hid (hgo.isSl (d := kAd) hgr rfl (Hp.le_refl _))
        clear hgo hgr hrv
        have HS30 : Hid (∀ w' Hs', Sat σ w' Hs' → Hp.one nb (.cells #[.int .i64 x.kind, .int .i64 x.now, .int .i64 x.ttl, .string x.name, .slice Au x.addrs.length cu] 31 (0, 0)) ∈ Hs' → (w'.cell? ⟨nb, 1, none⟩ = some (.int .i64 x.now))) := Lib.hid (fun w' Hs' h hm => h.cellAt hm ((Hp.one_cell _ _ _ _).trans rfl))
        go_wp2
        go_region_held3 (fun w' => w'.cell? ⟨nb, 1, none⟩ = some (.int .i64 x.now))
          (first | exact HS30.out _ _ hwt (by simp) | exact HS30.out _ _ hwl2 (by simp) | exact HS30.out _ _ hwl1 (by simp) | exact HS30.out _ _ hwu2 (by simp) | exact HS30.out _ _ hwu1 (by simp) | exact HS30.out _ _ hwa (by simp) | exact HS30.out _ _ hw9.drew (by simp))
          (first
            | (go_at_call 13; refine (sameA_any (H1 := G) (H2 := R) _ _ gl gl _ hw9.drew (by simp) (by simp) HGV.out HRV.out).mono ?_; rintro e wa ⟨rfl, hwa⟩; rw [show decide (gl = gl) = true by simp])
            | (go_at_call 15; refine (HUS.out _ _ hwa (by simp)).mono ?_; rintro e wu1 ⟨rfl, hwu1⟩)
            | (go_at_call 21; refine (HRUS.out _ _ hwu1 (by simp)).mono ?_; rintro e wu2 ⟨rfl, hwu2⟩)
            | (go_at_call 14; refine (HLI.out _ _ hwu2 (by simp)).mono ?_; rintro e wl1 ⟨lv1, L1, rfl, hwl1, hl1⟩)
            | (go_at_call 23; refine (HRLI.out _ _ hwl1 (by simp)).mono ?_; rintro e wl2 ⟨lv2, L2, rfl, hwl2, hl2⟩)
            | (go_at_call 22; refine (sameT_any (H1 := L1) (H2 := L2) _ _ nms nms _ hwl2 (by simp) (by simp) hl1 hl2).mono ?_; rintro e wt ⟨rfl, hwt⟩; rw [show decide (nms = nms) = true by simp]))
        go_wp2
        go_loopw [20] (fun j wr => ∃ (q : Nat) (G' : Hp), q ≤ gl.length ∧ j = .int .i64 q ∧ Sat σ wr (G' :: M1 :: Y1 :: Hp.one nb (.cells #[.int .i64 x.kind, .int .i64 x.now, .int .i64 x.ttl, .string x.name, .slice Au x.addrs.length cu] 31 (0, 0)) :: Hs) ∧ Eager (0 < gl.length → ∃ g, Ag = some ⟨g, 0, none⟩ ∧ Bytes4 G' g 39 (gl.length * 4))) (fun j _ => gl.length - (intOf j).toNat)
        case atStart => exact ⟨0, G, by omega, rfl, hwt.drop.drop.drop, ⟨fun h0 => by obtain ⟨g, c, e, hB⟩ := own_bytes HGO.out HGR.out h0; injection e with e; exact ⟨g, e, hB⟩⟩⟩
        case round =>
          obtain ⟨j, G1, hj, rfl, hwl, hb⟩ := hrel
          clear hwt hwl2 hwl1 hwu2 hwu1 hwa hw9 hl1 hl2
          have hgl16 := HGL.out
          by_cases hjl : j < gl.length
          · obtain ⟨g, rfl, hB⟩ := hb.out (by omega)
            obtain ⟨z, hc, hset⟩ := bytes4_set hB hwl (j * 4 + 1) (by omega)
            obtain ⟨cs, hg, _⟩ := hB.out
            have f0 := heap_free (hwl.le g _ hg) (j * 4 + 1)
            have HSET := Lib.hid hset
            have hji : (j : Int) < gl.length := by omega
            clear hset hg hB hb
            go_wp2
            obtain ⟨G2, h1, h2⟩ := HSET.out (IntKind.u8.wrap (z + 1))
            exact ⟨⟨j + 1, G2, by omega, by go_num, h1, ⟨fun _ => ⟨g, rfl, h2⟩⟩⟩, by simp [intOf]; omega⟩
          · obtain rfl : j = gl.length := by omega
            go_wp2
            go_roundw
            case measure => simp [intOf]; omega
            case rel => exact ⟨k + 1, b1, M1, Y1, xs, by omega, by go_num, rfl, hwl.drop.up2.drop, HT.out, HY.out, HUQ.out⟩
    · obtain rfl : k = acts.length := by omega
      go_wp2_with fail
      refine (works_any wr hwr).mono ?_
      rintro e w3 ⟨rfl, hw3⟩
      go_wp2
      go_ret
      exact ⟨rfl, hw3.drop.drop⟩
end
end Go.Proofs.Ythofnhmehpdnbaa
