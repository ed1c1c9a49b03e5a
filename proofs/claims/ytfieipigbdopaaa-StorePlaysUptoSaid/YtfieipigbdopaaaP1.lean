/- Walk: StorePlays. -/
import Derived.Test.YtfieipigbdopaaaT7
import Derived.Test.YtfieipigbdopaaaT4
import Derived.Test.YtfieipigbdopaaaF1
set_option linter.unusedVariables false
set_option linter.unusedSimpArgs false
namespace Go.Proofs.Ytfieipigbdopaaa
open Go.RowKit
set_option maxHeartbeats 20000000
section
variable {σ : World} {Hs : List Hp} {H M N : Hp}
set_option maxRecDepth 100000 in
theorem plays_law (n keep : Int) (v : Value) (acts : List ActT) (w : World) (hw : Sat σ w Hs) (hH : H ∈ Hs) (hs : kAct.IsSl H v acts) (hok : ∀ a ∈ acts, a.key.size ≤ 9223372036854775807 ∧ a.bytes.length ≤ 140737488355328) (hni : -9223372036854775808 ≤ n ∧ n ≤ 9223372036854775807) :
    Calls Try.prog 7 #[.int .i64 n, .int .i64 keep, v] w fun e w' => e = .returned (.bool true) ∧ Sat σ w' Hs := by
  obtain ⟨A, c, rfl, hc1, hc2, _⟩ := hs.form
  have HOK := Lib.hid hok; clear hok
  cases hbad : newBad n keep
  rotate_left
  · go_enter Try.func7, Try.ntmps7
    go_wp2_with fail
    refine (new_bad n keep w hw hni hbad).mono ?_
    rintro e w1 ⟨rfl, hw1⟩
    go_wp2_with fail
    refine (rnew_bad n keep w1 hw1 hni hbad).mono ?_
    rintro e w2 ⟨rfl, hw2⟩
    go_wp2
    go_ret
    exact ⟨rfl, hw2⟩
  obtain ⟨n0, rfl⟩ : ∃ n0 : Nat, n = n0 := ⟨n.toNat, by have := newBad_no hbad; omega⟩
  go_enter Try.func7, Try.ntmps7
  go_wp2_with fail
  refine (new_any n0 keep w hw hbad).mono ?_
  rintro e w1 ⟨b, M, rfl, hw1, hT⟩
  go_wp2_with fail
  refine (rnew_any n0 keep w1 hw1 hbad).mono ?_
  rintro e w2 ⟨by0, Y, rfl, hw2, hY⟩
  clear hw hw1 w1
  generalize List.replicate n0 se0 = xs0 at *
  go_wp2
  go_loopw [11, 7, 12, 13, 14, 15, 16, 17, 18, 19, 20, 21, 22, 23] (fun i t _ _ _ _ _ _ _ _ _ _ _ _ wr => ∃ (k b : Nat) (M Y : Hp) (hand : Nat) (xs : List SE), k ≤ acts.length ∧ i = .int .i64 k ∧ t = .pointer (some ⟨b, 0, none⟩) ∧ Sat σ wr (M :: Y :: Hs) ∧ Sto M b keep hand xs ∧ RSto Y by0 keep hand xs) (fun i _ _ _ _ _ _ _ _ _ _ _ _ _ _ => acts.length - (intOf i).toNat)
  case atStart => exact ⟨0, b, M, Y, 0, xs0, by omega, rfl, rfl, hw2.swap, hT, hY⟩
  case round =>
    obtain ⟨k, b1, M1, Y1, hand, xs, hk, rfl, rfl, hwr, hT1, hY1⟩ := hrel
    clear hw2 hT hY
    have hT := hT1; have hY := hY1
    clear hT1 hY1
    by_cases hlt : k < acts.length
    · obtain ⟨gb, off, c', Au, cu, x, hx, hv, e0, e1, e2, e3, e4, hu⟩ := act_get hs hlt
      injection hv with hv1 hv2 hv3
      subst hv1; subst hv3; clear hv2
      have hHM : H ∈ M1 :: Y1 :: Hs := by simp [hH]
      have c0 := hwr.cellAt hHM e0; have c1 := hwr.cellAt hHM e1; have c2 := hwr.cellAt hHM e2; have c3 := hwr.cellAt hHM e3; have c4 := hwr.cellAt hHM e4
      have hgl : gb < wr.heap.size := World.block_lt_of_cell? wr _ c0
      obtain ⟨hxs, hxl⟩ := HOK.out x (List.mem_of_getElem? hx)
      have HU := Lib.hid hu
      have hki : (k : Int) < acts.length := by omega
      have hr := amongI_range x.kind 6 (by omega)
      clear e0 e1 e2 e3 e4 hx hs hu
      have hwx := hwr.alloc (.cells #[.int .i64 x.kind, .int .i64 x.now, .int .i64 x.age, .string x.key, .slice Au x.bytes.length cu] 32)
      go_wp2_with fail
      generalize hW : World.alloc wr _ = wx at *
      clear hW hwr c0 c1 c2 c3 c4 hgl hHM
      generalize wr.heap.size = nb at *
      refine (among_any x.kind 6 wx (by omega) (by omega)).mono ?_
      rintro e w5 ⟨rfl, rfl⟩
      by_cases q0 : amongI x.kind 6 = 0
      · as_aux_lemma =>
          rw [q0]
          have d4 : wx.cell? ⟨nb, 4, none⟩ = some (.slice Au x.bytes.length cu) := hwx.one_cell rfl
          go_wp2_with fail
          refine (bytesO_any _ x.bytes wx hwx (by simp [hH]) HU.out (by omega)).mono ?_
          rintro e w3 ⟨A3, c3, N3, cells, rfl, hw3, ho3, hcs⟩
          clear d4 hwx
          have hsl3 : kB.IsSl N3 (.slice A3 x.bytes.length c3) x.bytes := ho3.isSl (d := kB) hcs rfl (Hp.le_refl _)
          have HSL3 := Lib.hid hsl3; have HO3 := Lib.hid ho3; have HCS := Lib.hid hcs
          have HPUT : Hid (∀ w' Hs', Sat σ w' (M1 :: Hs') → N3 ∈ Hs' → Calls Try.prog 12 #[.pointer (some ⟨b1, 0, none⟩), .int .i64 x.now, .string x.key, .slice A3 x.bytes.length c3, .int .i64 x.age] w' (PutP σ Hs' M1 b1 keep (putE keep xs x.now x.key x.bytes.length x.age) (putR keep xs hand x.now x.key x.bytes x.age))) :=
            Lib.hid (fun w' Hs' h hm => put_any b1 keep hand xs x.now x.age x.key _ x.bytes w' h hT hm HSL3.out (by omega))
          have HRPUT : Hid (∀ w' Hs', Sat σ w' (Y1 :: Hs') → H ∈ Hs' → Calls Try.prog 23 #[.pointer (some ⟨by0, 0, none⟩), .int .i64 x.now, .string x.key, .slice Au x.bytes.length cu, .int .i64 x.age] w' (RPutP σ Hs' by0 keep (putE keep xs x.now x.key x.bytes.length x.age) (putR keep xs hand x.now x.key x.bytes x.age))) :=
            Lib.hid (fun w' Hs' h hm => rput_any by0 keep hand xs x.now x.age x.key _ x.bytes w' h hY hm HU.out (by omega))
          clear hT hY hsl3 ho3 hcs
          generalize putE keep xs x.now x.key x.bytes.length x.age = code at *
          generalize putR keep xs hand x.now x.key x.bytes x.age = xp at *
          obtain ⟨xs, hand⟩ := xp
          have HS15 : Hid (∀ w' Hs', Sat σ w' Hs' → Hp.one nb (.cells #[.int .i64 x.kind, .int .i64 x.now, .int .i64 x.age, .string x.key, .slice Au x.bytes.length cu] 32 (0, 0)) ∈ Hs' → (w'.cell? ⟨nb, 1, none⟩ = some (.int .i64 x.now) ∧ w'.cell? ⟨nb, 2, none⟩ = some (.int .i64 x.age) ∧ w'.cell? ⟨nb, 3, none⟩ = some (.string x.key) ∧ w'.cell? ⟨nb, 4, none⟩ = some (.slice Au x.bytes.length cu))) := Lib.hid (fun w' Hs' h hm => ⟨h.cellAt hm ((Hp.one_cell _ _ _ _).trans rfl), h.cellAt hm ((Hp.one_cell _ _ _ _).trans rfl), h.cellAt hm ((Hp.one_cell _ _ _ _).trans rfl), h.cellAt hm ((Hp.one_cell _ _ _ _).trans rfl)⟩)
          go_wp2
          go_region_held3 (fun w' => w'.cell? ⟨nb, 1, none⟩ = some (.int .i64 x.now) ∧ w'.cell? ⟨nb, 2, none⟩ = some (.int .i64 x.age) ∧ w'.cell? ⟨nb, 3, none⟩ = some (.string x.key) ∧ w'.cell? ⟨nb, 4, none⟩ = some (.slice Au x.bytes.length cu))
            (first | exact HS15.out _ _ hw6 (by simp) | exact HS15.out _ _ hw5 (by simp) | exact HS15.out _ _ hw4 (by simp) | exact HS15.out _ _ hw3.drew (by simp))
            (first
              | (go_at_call 12; refine (HPUT.out _ _ hw3.drew.up2 (by simp)).mono ?_; rintro e w4 ⟨rfl, M1, hw4, hT, _⟩)
              | (go_at_call 23; refine (HRPUT.out _ _ hw4.up3 (by simp [hH])).mono ?_; rintro e w5 ⟨rfl, Y1, hw5, hY⟩)
              | (go_at_call 16; refine (sameB_any (H1 := N3) (H2 := H) _ _ x.bytes _ hw5 (by simp) (by simp [hH]) HSL3.out HU.out).mono ?_; rintro e w6 ⟨rfl, hw6⟩))
          have hT : Sto M1 b1 keep hand xs := hT
          have hY : RSto Y1 by0 keep hand xs := hY
          have hwm := hw6.up2
          clear hw6 hw5 hw4 hw3
          have HT1 := Lib.hid hT; have HY1 := Lib.hid hY
          clear hT hY
          go_wp2
          go_loopw [15] (fun j wr => ∃ (q : Nat) (G' : Hp), q ≤ x.bytes.length ∧ j = .int .i64 q ∧ Sat σ wr (G' :: Y1 :: M1 :: Hp.one nb (.cells #[.int .i64 x.kind, .int .i64 x.now, .int .i64 x.age, .string x.key, .slice Au x.bytes.length cu] 32 (0, 0)) :: Hs) ∧ Eager (0 < x.bytes.length → ∃ g, A3 = some ⟨g, 0, none⟩ ∧ Bytes1 G' g 5 x.bytes.length)) (fun j _ => x.bytes.length - (intOf j).toNat)
          case atStart => exact ⟨0, N3, by omega, rfl, hwm, ⟨fun h0 => by obtain ⟨g, c, e, hB⟩ := own_bytes1 HO3.out HCS.out h0; injection e with e; exact ⟨g, e, hB⟩⟩⟩
          case round =>
            obtain ⟨j, G1, hj, rfl, hwl, hb⟩ := hrel
            clear hwm
            by_cases hjl : j < x.bytes.length
            · obtain ⟨g, rfl, hB⟩ := hb.out (by omega)
              obtain ⟨z, hc, hset⟩ := bytes1_set hB hwl j (by omega)
              obtain ⟨cs, hg, _⟩ := hB.out
              have f0 := heap_free (hwl.le g _ hg) j
              have HSET := Lib.hid hset
              have hji : (j : Int) < x.bytes.length := by omega
              clear hset hg hB hb
              go_wp2
              obtain ⟨G2, h1, h2⟩ := HSET.out (IntKind.u8.wrap (z + 1))
              exact ⟨⟨j + 1, G2, by omega, by go_num, h1, ⟨fun _ => ⟨g, rfl, h2⟩⟩⟩, by simp [intOf]; omega⟩
            · obtain rfl : j = x.bytes.length := by omega
              have hL := hwl.drop.swap
              have hT := HT1.out; have hY := HY1.out
              clear hwl hb
              generalize hw7 : wr = w7 at *
              clear hw7
              have HT := Lib.hid hT; have HY := Lib.hid hY
              have HUS := Lib.hid (used_any (σ := σ) b1 _ _ _ hT)
              have HRUS := Lib.hid (rused_any (σ := σ) by0 _ _ _ hY)
              have HHA := Lib.hid (hand_any (σ := σ) b1 _ _ _ hT)
              have HKE := Lib.hid (keys_any (σ := σ) b1 _ _ _ hT)
              have HRKE := Lib.hid (rkeys_any (σ := σ) by0 _ _ _ hY)
              obtain ⟨Ay, cy, hby, _⟩ := hY.cells
              have HS39 : Hid (∀ w' Hs', Sat σ w' Hs' → Y1 ∈ Hs' → (w'.cell? ⟨by0, 1, none⟩ = some (.int .i64 hand))) := Lib.hid (fun w' Hs' h hm => h.cellAt hm (Hp.cell_of hby rfl))
              clear hT hY hby
              generalize hks : xs.map SE.key = ks at *
              clear hks
              go_wp2
              go_region_held3 (fun w' => w'.cell? ⟨by0, 1, none⟩ = some (.int .i64 hand))
                (first | exact HS39.out _ _ hwt (by simp) | exact HS39.out _ _ hwl2 (by simp) | exact HS39.out _ _ hwl1 (by simp) | exact HS39.out _ _ hwh (by simp) | exact HS39.out _ _ hwu2 (by simp) | exact HS39.out _ _ hwu1 (by simp) | exact HS39.out _ _ hL.drew (by simp))
                (first
                  | (go_at_call 18; refine (HUS.out _ _ hL.drew (by simp)).mono ?_; rintro e wu1 ⟨rfl, hwu1⟩)
                  | (go_at_call 27; refine (HRUS.out _ _ hwu1 (by simp)).mono ?_; rintro e wu2 ⟨rfl, hwu2⟩)
                  | (go_at_call 19; refine (HHA.out _ _ hwu2 (by simp)).mono ?_; rintro e wh ⟨rfl, hwh⟩)
                  | (go_at_call 14; refine (HKE.out _ _ hwh (by simp)).mono ?_; rintro e wl1 ⟨lv1, L1, rfl, hwl1, hl1⟩)
                  | (go_at_call 28; refine (HRKE.out _ _ hwl1 (by simp)).mono ?_; rintro e wl2 ⟨lv2, L2, rfl, hwl2, hl2⟩)
                  | (go_at_call 15; refine (sameT_any (H1 := L1) (H2 := L2) _ _ ks ks _ hwl2 (by simp) (by simp) hl1 hl2).mono ?_; rintro e wt ⟨rfl, hwt⟩; rw [show decide (ks = ks) = true by simp]))
              go_wp2
              go_roundw
              case measure => simp [intOf]; omega
              case rel => exact ⟨k + 1, b1, M1, Y1, hand, xs, by omega, by go_num, rfl, hwt.drop.drop.up2.drop, HT.out, HY.out⟩
      by_cases q1 : amongI x.kind 6 = 1
      · as_aux_lemma =>
          rw [q1]
          have d4 : wx.cell? ⟨nb, 4, none⟩ = some (.slice Au x.bytes.length cu) := hwx.one_cell rfl
          go_wp2_with fail
          refine (bytesO_any _ x.bytes wx hwx (by simp [hH]) HU.out (by omega)).mono ?_
          rintro e w3 ⟨A3, c3, N3, cells, rfl, hw3, ho3, hcs⟩
          clear d4 hwx
          have hsl3 : kB.IsSl N3 (.slice A3 x.bytes.length c3) x.bytes := ho3.isSl (d := kB) hcs rfl (Hp.le_refl _)
          have HSL3 := Lib.hid hsl3; have HO3 := Lib.hid ho3; have HCS := Lib.hid hcs
          have HPUT : Hid (∀ w' Hs', Sat σ w' (M1 :: Hs') → N3 ∈ Hs' → Calls Try.prog 12 #[.pointer (some ⟨b1, 0, none⟩), .int .i64 x.now, .string x.key, .slice A3 x.bytes.length c3, .int .i64 x.age] w' (PutP σ Hs' M1 b1 keep (putE keep xs x.now x.key x.bytes.length x.age) (putR keep xs hand x.now x.key x.bytes x.age))) :=
            Lib.hid (fun w' Hs' h hm => put_any b1 keep hand xs x.now x.age x.key _ x.bytes w' h hT hm HSL3.out (by omega))
          have HRPUT : Hid (∀ w' Hs', Sat σ w' (Y1 :: Hs') → H ∈ Hs' → Calls Try.prog 23 #[.pointer (some ⟨by0, 0, none⟩), .int .i64 x.now, .string x.key, .slice Au x.bytes.length cu, .int .i64 x.age] w' (RPutP σ Hs' by0 keep (putE keep xs x.now x.key x.bytes.length x.age) (putR keep xs hand x.now x.key x.bytes x.age))) :=
            Lib.hid (fun w' Hs' h hm => rput_any by0 keep hand xs x.now x.age x.key _ x.bytes w' h hY hm HU.out (by omega))
          clear hT hY hsl3 ho3 hcs
          generalize putE keep xs x.now x.key x.bytes.length x.age = code at *
          generalize putR keep xs hand x.now x.key x.bytes x.age = xp at *
          obtain ⟨xs, hand⟩ := xp
          have HS15 : Hid (∀ w' Hs', Sat σ w' Hs' → Hp.one nb (.cells #[.int .i64 x.kind, .int .i64 x.now, .int .i64 x.age, .string x.key, .slice Au x.bytes.length cu] 32 (0, 0)) ∈ Hs' → (w'.cell? ⟨nb, 1, none⟩ = some (.int .i64 x.now) ∧ w'.cell? ⟨nb, 2, none⟩ = some (.int .i64 x.age) ∧ w'.cell? ⟨nb, 3, none⟩ = some (.string x.key) ∧ w'.cell? ⟨nb, 4, none⟩ = some (.slice Au x.bytes.length cu))) := Lib.hid (fun w' Hs' h hm => ⟨h.cellAt hm ((Hp.one_cell _ _ _ _).trans rfl), h.cellAt hm ((Hp.one_cell _ _ _ _).trans rfl), h.cellAt hm ((Hp.one_cell _ _ _ _).trans rfl), h.cellAt hm ((Hp.one_cell _ _ _ _).trans rfl)⟩)
          go_wp2
          go_region_held3 (fun w' => w'.cell? ⟨nb, 1, none⟩ = some (.int .i64 x.now) ∧ w'.cell? ⟨nb, 2, none⟩ = some (.int .i64 x.age) ∧ w'.cell? ⟨nb, 3, none⟩ = some (.string x.key) ∧ w'.cell? ⟨nb, 4, none⟩ = some (.slice Au x.bytes.length cu))
            (first | exact HS15.out _ _ hw6 (by simp) | exact HS15.out _ _ hw5 (by simp) | exact HS15.out _ _ hw4 (by simp) | exact HS15.out _ _ hw3.drew (by simp))
            (first
              | (go_at_call 12; refine (HPUT.out _ _ hw3.drew.up2 (by simp)).mono ?_; rintro e w4 ⟨rfl, M1, hw4, hT, _⟩)
              | (go_at_call 23; refine (HRPUT.out _ _ hw4.up3 (by simp [hH])).mono ?_; rintro e w5 ⟨rfl, Y1, hw5, hY⟩)
              | (go_at_call 16; refine (sameB_any (H1 := N3) (H2 := H) _ _ x.bytes _ hw5 (by simp) (by simp [hH]) HSL3.out HU.out).mono ?_; rintro e w6 ⟨rfl, hw6⟩))
          have hT : Sto M1 b1 keep hand xs := hT
          have hY : RSto Y1 by0 keep hand xs := hY
          have hwm := hw6.up2
          clear hw6 hw5 hw4 hw3
          have HT1 := Lib.hid hT; have HY1 := Lib.hid hY
          clear hT hY
          go_wp2
          go_loopw [15] (fun j wr => ∃ (q : Nat) (G' : Hp), q ≤ x.bytes.length ∧ j = .int .i64 q ∧ Sat σ wr (G' :: Y1 :: M1 :: Hp.one nb (.cells #[.int .i64 x.kind, .int .i64 x.now, .int .i64 x.age, .string x.key, .slice Au x.bytes.length cu] 32 (0, 0)) :: Hs) ∧ Eager (0 < x.bytes.length → ∃ g, A3 = some ⟨g, 0, none⟩ ∧ Bytes1 G' g 5 x.bytes.length)) (fun j _ => x.bytes.length - (intOf j).toNat)
          case atStart => exact ⟨0, N3, by omega, rfl, hwm, ⟨fun h0 => by obtain ⟨g, c, e, hB⟩ := own_bytes1 HO3.out HCS.out h0; injection e with e; exact ⟨g, e, hB⟩⟩⟩
          case round =>
            obtain ⟨j, G1, hj, rfl, hwl, hb⟩ := hrel
            clear hwm
            by_cases hjl : j < x.bytes.length
            · obtain ⟨g, rfl, hB⟩ := hb.out (by omega)
              obtain ⟨z, hc, hset⟩ := bytes1_set hB hwl j (by omega)
              obtain ⟨cs, hg, _⟩ := hB.out
              have f0 := heap_free (hwl.le g _ hg) j
              have HSET := Lib.hid hset
              have hji : (j : Int) < x.bytes.length := by omega
              clear hset hg hB hb
              go_wp2
              obtain ⟨G2, h1, h2⟩ := HSET.out (IntKind.u8.wrap (z + 1))
              exact ⟨⟨j + 1, G2, by omega, by go_num, h1, ⟨fun _ => ⟨g, rfl, h2⟩⟩⟩, by simp [intOf]; omega⟩
            · obtain rfl : j = x.bytes.length := by omega
              have hL := hwl.drop.swap
              have hT := HT1.out; have hY := HY1.out
              clear hwl hb
              generalize hw7 : wr = w7 at *
              clear hw7
              have HT := Lib.hid hT; have HY := Lib.hid hY
              have HUS := Lib.hid (used_any (σ := σ) b1 _ _ _ hT)
              have HRUS := Lib.hid (rused_any (σ := σ) by0 _ _ _ hY)
              have HHA := Lib.hid (hand_any (σ := σ) b1 _ _ _ hT)
              have HKE := Lib.hid (keys_any (σ := σ) b1 _ _ _ hT)
              have HRKE := Lib.hid (rkeys_any (σ := σ) by0 _ _ _ hY)
              obtain ⟨Ay, cy, hby, _⟩ := hY.cells
              have HS39 : Hid (∀ w' Hs', Sat σ w' Hs' → Y1 ∈ Hs' → (w'.cell? ⟨by0, 1, none⟩ = some (.int .i64 hand))) := Lib.hid (fun w' Hs' h hm => h.cellAt hm (Hp.cell_of hby rfl))
              clear hT hY hby
              generalize hks : xs.map SE.key = ks at *
              clear hks
              go_wp2
              go_region_held3 (fun w' => w'.cell? ⟨by0, 1, none⟩ = some (.int .i64 hand))
                (first | exact HS39.out _ _ hwt (by simp) | exact HS39.out _ _ hwl2 (by simp) | exact HS39.out _ _ hwl1 (by simp) | exact HS39.out _ _ hwh (by simp) | exact HS39.out _ _ hwu2 (by simp) | exact HS39.out _ _ hwu1 (by simp) | exact HS39.out _ _ hL.drew (by simp))
                (first
                  | (go_at_call 18; refine (HUS.out _ _ hL.drew (by simp)).mono ?_; rintro e wu1 ⟨rfl, hwu1⟩)
                  | (go_at_call 27; refine (HRUS.out _ _ hwu1 (by simp)).mono ?_; rintro e wu2 ⟨rfl, hwu2⟩)
                  | (go_at_call 19; refine (HHA.out _ _ hwu2 (by simp)).mono ?_; rintro e wh ⟨rfl, hwh⟩)
                  | (go_at_call 14; refine (HKE.out _ _ hwh (by simp)).mono ?_; rintro e wl1 ⟨lv1, L1, rfl, hwl1, hl1⟩)
                  | (go_at_call 28; refine (HRKE.out _ _ hwl1 (by simp)).mono ?_; rintro e wl2 ⟨lv2, L2, rfl, hwl2, hl2⟩)
                  | (go_at_call 15; refine (sameT_any (H1 := L1) (H2 := L2) _ _ ks ks _ hwl2 (by simp) (by simp) hl1 hl2).mono ?_; rintro e wt ⟨rfl, hwt⟩; rw [show decide (ks = ks) = true by simp]))
              go_wp2
              go_roundw
              case measure => simp [intOf]; omega
              case rel => exact ⟨k + 1, b1, M1, Y1, hand, xs, by omega, by go_num, rfl, hwt.drop.drop.up2.drop, HT.out, HY.out⟩
      by_cases q2 : amongI x.kind 6 = 2
      · as_aux_lemma =>
          rw [q2]
          obtain ⟨gr, hgr⟩ : ∃ gr, getS xs x.now x.key = gr := ⟨_, rfl⟩
          have HGET := Lib.hid (get_any b1 keep hand xs x.now x.key wx hwx.swap hT hxs)
          have HRGET : Hid (∀ w' Hs', Sat σ w' (Y1 :: Hs') → Calls Try.prog 24 #[.pointer (some ⟨by0, 0, none⟩), .int .i64 x.now, .string x.key] w' (RGetP σ Hs' by0 keep hand (getS xs x.now x.key))) := Lib.hid (fun w' Hs' h => rget_any by0 keep hand xs x.now x.key w' h hY hxs)
          rw [hgr] at HGET HRGET
          clear hgr hT hY
          obtain ⟨⟨gl, gn, gc⟩, xs⟩ := gr
          have d1 : wx.cell? ⟨nb, 1, none⟩ = some (.int .i64 x.now) := hwx.one_cell rfl
          have d3 : wx.cell? ⟨nb, 3, none⟩ = some (.string x.key) := hwx.one_cell rfl
          go_wp2_with fail
          refine HGET.out.mono ?_
          rintro e w3 ⟨v3, N3, cells, M1, rfl, hw3, ho3, hcs, hT, _⟩
          clear d1 d3 hwx HGET
          obtain ⟨A3, c3, rfl, _⟩ := ho3.slice
          have ho3 : Own N3 5 1 (.slice A3 gl.length c3) gl.length cells := ho3
          have hcs : kB.reps N3 gl cells := hcs
          have hsl3 : kB.IsSl N3 (.slice A3 gl.length c3) gl := ho3.isSl (d := kB) hcs rfl (Hp.le_refl _)
          have HSL3 := Lib.hid hsl3; have HO3 := Lib.hid ho3; have HCS := Lib.hid hcs
          clear ho3 hcs hsl3
          have d1 : w3.cell? ⟨nb, 1, none⟩ = some (.int .i64 x.now) := hw3.up2.one_cell rfl
          have d3 : w3.cell? ⟨nb, 3, none⟩ = some (.string x.key) := hw3.up2.one_cell rfl
          have hT : Sto M1 b1 keep hand xs := hT
          go_wp2_with fail
          refine (HRGET.out _ _ hw3.up3).mono ?_
          rintro e w4 ⟨v4, N4, Y1, rfl, hw4, hv4, hY⟩
          have hY : RSto Y1 by0 keep hand xs := hY
          have hv4 : kB.IsSl N4 v4 gl := hv4
          obtain ⟨A4, c4, rfl, _⟩ := hv4.form
          clear d1 d3 hw3
          go_wp2_with fail
          refine (sameB_any (H1 := N3) (H2 := N4) _ _ gl _ hw4 (by simp) (by simp) HSL3.out hv4).mono ?_
          rintro e w6 ⟨rfl, hw6⟩
          have hwm := hw6.drop.swap
          clear hw6 hw4 hv4
          have HT1 := Lib.hid hT; have HY1 := Lib.hid hY
          clear hT hY
          go_wp2
          go_loopw [22] (fun j wr => ∃ (q : Nat) (G' : Hp), q ≤ gl.length ∧ j = .int .i64 q ∧ Sat σ wr (G' :: Y1 :: M1 :: Hp.one nb (.cells #[.int .i64 x.kind, .int .i64 x.now, .int .i64 x.age, .string x.key, .slice Au x.bytes.length cu] 32 (0, 0)) :: Hs) ∧ Eager (0 < gl.length → ∃ g, A3 = some ⟨g, 0, none⟩ ∧ Bytes1 G' g 5 gl.length)) (fun j _ => gl.length - (intOf j).toNat)
          case atStart => exact ⟨0, N3, by omega, rfl, hwm, ⟨fun h0 => by obtain ⟨g, c, e, hB⟩ := own_bytes1 HO3.out HCS.out h0; injection e with e; exact ⟨g, e, hB⟩⟩⟩
          case round =>
            obtain ⟨j, G1, hj, rfl, hwl, hb⟩ := hrel
            clear hwm
            by_cases hjl : j < gl.length
            · obtain ⟨g, rfl, hB⟩ := hb.out (by omega)
              obtain ⟨z, hc, hset⟩ := bytes1_set hB hwl j (by omega)
              obtain ⟨cs, hg, _⟩ := hB.out
              have f0 := heap_free (hwl.le g _ hg) j
              have HSET := Lib.hid hset
              have hji : (j : Int) < gl.length := by omega
              clear hset hg hB hb
              go_wp2
              obtain ⟨G2, h1, h2⟩ := HSET.out (IntKind.u8.wrap (z + 1))
              exact ⟨⟨j + 1, G2, by omega, by go_num, h1, ⟨fun _ => ⟨g, rfl, h2⟩⟩⟩, by simp [intOf]; omega⟩
            · obtain rfl : j = gl.length := by omega
              have hL := hwl.drop.swap
              have hT := HT1.out; have hY := HY1.out
              clear hwl hb
              generalize hw7 : wr = w7 at *
              clear hw7
              have HT := Lib.hid hT; have HY := Lib.hid hY
              have HUS := Lib.hid (used_any (σ := σ) b1 _ _ _ hT)
              have HRUS := Lib.hid (rused_any (σ := σ) by0 _ _ _ hY)
              have HHA := Lib.hid (hand_any (σ := σ) b1 _ _ _ hT)
              have HKE := Lib.hid (keys_any (σ := σ) b1 _ _ _ hT)
              have HRKE := Lib.hid (rkeys_any (σ := σ) by0 _ _ _ hY)
              obtain ⟨Ay, cy, hby, _⟩ := hY.cells
              have HS39 : Hid (∀ w' Hs', Sat σ w' Hs' → Y1 ∈ Hs' → (w'.cell? ⟨by0, 1, none⟩ = some (.int .i64 hand))) := Lib.hid (fun w' Hs' h hm => h.cellAt hm (Hp.cell_of hby rfl))
              clear hT hY hby
              generalize hks : xs.map SE.key = ks at *
              clear hks
              go_wp2
              go_region_held3 (fun w' => w'.cell? ⟨by0, 1, none⟩ = some (.int .i64 hand))
                (first | exact HS39.out _ _ hwt (by simp) | exact HS39.out _ _ hwl2 (by simp) | exact HS39.out _ _ hwl1 (by simp) | exact HS39.out _ _ hwh (by simp) | exact HS39.out _ _ hwu2 (by simp) | exact HS39.out _ _ hwu1 (by simp) | exact HS39.out _ _ hL.drew (by simp))
                (first
                  | (go_at_call 18; refine (HUS.out _ _ hL.drew (by simp)).mono ?_; rintro e wu1 ⟨rfl, hwu1⟩)
                  | (go_at_call 27; refine (HRUS.out _ _ hwu1 (by simp)).mono ?_; rintro e wu2 ⟨rfl, hwu2⟩)
                  | (go_at_call 19; refine (HHA.out _ _ hwu2 (by simp)).mono ?_; rintro e wh ⟨rfl, hwh⟩)
                  | (go_at_call 14; refine (HKE.out _ _ hwh (by simp)).mono ?_; rintro e wl1 ⟨lv1, L1, rfl, hwl1, hl1⟩)
                  | (go_at_call 28; refine (HRKE.out _ _ hwl1 (by simp)).mono ?_; rintro e wl2 ⟨lv2, L2, rfl, hwl2, hl2⟩)
                  | (go_at_call 15; refine (sameT_any (H1 := L1) (H2 := L2) _ _ ks ks _ hwl2 (by simp) (by simp) hl1 hl2).mono ?_; rintro e wt ⟨rfl, hwt⟩; rw [show decide (ks = ks) = true by simp]))
              go_wp2
              go_roundw
              case measure => simp [intOf]; omega
              case rel => exact ⟨k + 1, b1, M1, Y1, hand, xs, by omega, by go_num, rfl, hwt.drop.drop.up2.drop, HT.out, HY.out⟩
      by_cases q3 : amongI x.kind 6 = 3
      · as_aux_lemma =>
          rw [q3]
          obtain ⟨gr, hgr⟩ : ∃ gr, getS xs x.now x.key = gr := ⟨_, rfl⟩
          have HGET := Lib.hid (get_any b1 keep hand xs x.now x.key wx hwx.swap hT hxs)
          have HRGET : Hid (∀ w' Hs', Sat σ w' (Y1 :: Hs') → Calls Try.prog 24 #[.pointer (some ⟨by0, 0, none⟩), .int .i64 x.now, .string x.key] w' (RGetP σ Hs' by0 keep hand (getS xs x.now x.key))) := Lib.hid (fun w' Hs' h => rget_any by0 keep hand xs x.now x.key w' h hY hxs)
          rw [hgr] at HGET HRGET
          clear hgr hT hY
          obtain ⟨⟨gl, gn, gc⟩, xs⟩ := gr
          have d1 : wx.cell? ⟨nb, 1, none⟩ = some (.int .i64 x.now) := hwx.one_cell rfl
          have d3 : wx.cell? ⟨nb, 3, none⟩ = some (.string x.key) := hwx.one_cell rfl
          go_wp2_with fail
          refine HGET.out.mono ?_
          rintro e w3 ⟨v3, N3, cells, M1, rfl, hw3, ho3, hcs, hT, _⟩
          clear d1 d3 hwx HGET
          obtain ⟨A3, c3, rfl, _⟩ := ho3.slice
          have ho3 : Own N3 5 1 (.slice A3 gl.length c3) gl.length cells := ho3
          have hcs : kB.reps N3 gl cells := hcs
          have hsl3 : kB.IsSl N3 (.slice A3 gl.length c3) gl := ho3.isSl (d := kB) hcs rfl (Hp.le_refl _)
          have HSL3 := Lib.hid hsl3; have HO3 := Lib.hid ho3; have HCS := Lib.hid hcs
          clear ho3 hcs hsl3
          have d1 : w3.cell? ⟨nb, 1, none⟩ = some (.int .i64 x.now) := hw3.up2.one_cell rfl
          have d3 : w3.cell? ⟨nb, 3, none⟩ = some (.string x.key) := hw3.up2.one_cell rfl
          have hT : Sto M1 b1 keep hand xs := hT
          go_wp2_with fail
          refine (HRGET.out _ _ hw3.up3).mono ?_
          rintro e w4 ⟨v4, N4, Y1, rfl, hw4, hv4, hY⟩
          have hY : RSto Y1 by0 keep hand xs := hY
          have hv4 : kB.IsSl N4 v4 gl := hv4
          obtain ⟨A4, c4, rfl, _⟩ := hv4.form
          clear d1 d3 hw3
          go_wp2_with fail
          refine (sameB_any (H1 := N3) (H2 := N4) _ _ gl _ hw4 (by simp) (by simp) HSL3.out hv4).mono ?_
          rintro e w6 ⟨rfl, hw6⟩
          have hwm := hw6.drop.swap
          clear hw6 hw4 hv4
          have HT1 := Lib.hid hT; have HY1 := Lib.hid hY
          clear hT hY
          go_wp2
          go_loopw [22] (fun j wr => ∃ (q : Nat) (G' : Hp), q ≤ gl.length ∧ j = .int .i64 q ∧ Sat σ wr (G' :: Y1 :: M1 :: Hp.one nb (.cells #[.int .i64 x.kind, .int .i64 x.now, .int .i64 x.age, .string x.key, .slice Au x.bytes.length cu] 32 (0, 0)) :: Hs) ∧ Eager (0 < gl.length → ∃ g, A3 = some ⟨g, 0, none⟩ ∧ Bytes1 G' g 5 gl.length)) (fun j _ => gl.length - (intOf j).toNat)
          case atStart => exact ⟨0, N3, by omega, rfl, hwm, ⟨fun h0 => by obtain ⟨g, c, e, hB⟩ := own_bytes1 HO3.out HCS.out h0; injection e with e; exact ⟨g, e, hB⟩⟩⟩
          case round =>
            obtain ⟨j, G1, hj, rfl, hwl, hb⟩ := hrel
            clear hwm
            by_cases hjl : j < gl.length
            · obtain ⟨g, rfl, hB⟩ := hb.out (by omega)
              obtain ⟨z, hc, hset⟩ := bytes1_set hB hwl j (by omega)
              obtain ⟨cs, hg, _⟩ := hB.out
              have f0 := heap_free (hwl.le g _ hg) j
              have HSET := Lib.hid hset
              have hji : (j : Int) < gl.length := by omega
              clear hset hg hB hb
              go_wp2
              obtain ⟨G2, h1, h2⟩ := HSET.out (IntKind.u8.wrap (z + 1))
              exact ⟨⟨j + 1, G2, by omega, by go_num, h1, ⟨fun _ => ⟨g, rfl, h2⟩⟩⟩, by simp [intOf]; omega⟩
            · obtain rfl : j = gl.length := by omega
              have hL := hwl.drop.swap
              have hT := HT1.out; have hY := HY1.out
              clear hwl hb
              generalize hw7 : wr = w7 at *
              clear hw7
              have HT := Lib.hid hT; have HY := Lib.hid hY
              have HUS := Lib.hid (used_any (σ := σ) b1 _ _ _ hT)
              have HRUS := Lib.hid (rused_any (σ := σ) by0 _ _ _ hY)
              have HHA := Lib.hid (hand_any (σ := σ) b1 _ _ _ hT)
              have HKE := Lib.hid (keys_any (σ := σ) b1 _ _ _ hT)
              have HRKE := Lib.hid (rkeys_any (σ := σ) by0 _ _ _ hY)
              obtain ⟨Ay, cy, hby, _⟩ := hY.cells
              have HS39 : Hid (∀ w' Hs', Sat σ w' Hs' → Y1 ∈ Hs' → (w'.cell? ⟨by0, 1, none⟩ = some (.int .i64 hand))) := Lib.hid (fun w' Hs' h hm => h.cellAt hm (Hp.cell_of hby rfl))
              clear hT hY hby
              generalize hks : xs.map SE.key = ks at *
              clear hks
              go_wp2
              go_region_held3 (fun w' => w'.cell? ⟨by0, 1, none⟩ = some (.int .i64 hand))
                (first | exact HS39.out _ _ hwt (by simp) | exact HS39.out _ _ hwl2 (by simp) | exact HS39.out _ _ hwl1 (by simp) | exact HS39.out _ _ hwh (by simp) | exact HS39.out _ _ hwu2 (by simp) | exact HS39.out _ _ hwu1 (by simp) | exact HS39.out _ _ hL.drew (by simp))
                (first
                  | (go_at_call 18; refine (HUS.out _ _ hL.drew (by simp)).mono ?_; rintro e wu1 ⟨rfl, hwu1⟩)
                  | (go_at_call 27; refine (HRUS.out _ _ hwu1 (by simp)).mono ?_; rintro e wu2 ⟨rfl, hwu2⟩)
                  | (go_at_call 19; refine (HHA.out _ _ hwu2 (by simp)).mono ?_; rintro e wh ⟨rfl, hwh⟩)
                  | (go_at_call 14; refine (HKE.out _ _ hwh (by simp)).mono ?_; rintro e wl1 ⟨lv1, L1, rfl, hwl1, hl1⟩)
                  | (go_at_call 28; refine (HRKE.out _ _ hwl1 (by simp)).mono ?_; rintro e wl2 ⟨lv2, L2, rfl, hwl2, hl2⟩)
                  | (go_at_call 15; refine (sameT_any (H1 := L1) (H2 := L2) _ _ ks ks _ hwl2 (by simp) (by simp) hl1 hl2).mono ?_; rintro e wt ⟨rfl, hwt⟩; rw [show decide (ks = ks) = true by simp]))
              go_wp2
              go_roundw
              case measure => simp [intOf]; omega
              case rel => exact ⟨k + 1, b1, M1, Y1, hand, xs, by omega, by go_num, rfl, hwt.drop.drop.up2.drop, HT.out, HY.out⟩
      by_cases q4 : amongI x.kind 6 = 4
      · as_aux_lemma =>
          rw [q4]
          have HS26 : Hid (∀ w' Hs', Sat σ w' Hs' → Hp.one nb (.cells #[.int .i64 x.kind, .int .i64 x.now, .int .i64 x.age, .string x.key, .slice Au x.bytes.length cu] 32 (0, 0)) ∈ Hs' → (w'.cell? ⟨nb, 3, none⟩ = some (.string x.key))) := Lib.hid (fun w' Hs' h hm => h.cellAt hm ((Hp.one_cell _ _ _ _).trans rfl))
          have HDROP : Hid (∀ w' Hs', Sat σ w' (M1 :: Hs') → Calls Try.prog 17 #[.pointer (some ⟨b1, 0, none⟩), .string x.key] w' (DropP σ Hs' M1 b1 keep hand (dropB xs x.key) (dropS xs x.key))) := Lib.hid (fun w' Hs' h => drop_any b1 keep hand xs x.key w' h hT)
          have HRDROP : Hid (∀ w' Hs', Sat σ w' (Y1 :: Hs') → Calls Try.prog 25 #[.pointer (some ⟨by0, 0, none⟩), .string x.key] w' (RDropP σ Hs' by0 keep hand (dropB xs x.key) (dropS xs x.key))) := Lib.hid (fun w' Hs' h => rdrop_any by0 keep hand xs x.key w' h hY)
          clear hT hY
          generalize dropB xs x.key = bd at *
          generalize dropS xs x.key = xs at *
          go_wp2
          go_region_held3 (fun w' => w'.cell? ⟨nb, 3, none⟩ = some (.string x.key))
            (first | exact HS26.out _ _ hw5 (by simp) | exact HS26.out _ _ hw4 (by simp) | exact HS26.out _ _ hwx.drew (by simp))
            (first
              | (go_at_call 17; refine (HDROP.out _ _ hwx.drew.swap).mono ?_; rintro e w4 ⟨rfl, M1, hw4, hT, _⟩)
              | (go_at_call 25; refine (HRDROP.out _ _ hw4.up2).mono ?_; rintro e w5 ⟨rfl, Y1, hw5, hY⟩))
          have hL := hw5.swap
          clear hw4 hw5 hwx
          have HT := Lib.hid hT; have HY := Lib.hid hY
          have HUS := Lib.hid (used_any (σ := σ) b1 _ _ _ hT)
          have HRUS := Lib.hid (rused_any (σ := σ) by0 _ _ _ hY)
          have HHA := Lib.hid (hand_any (σ := σ) b1 _ _ _ hT)
          have HKE := Lib.hid (keys_any (σ := σ) b1 _ _ _ hT)
          have HRKE := Lib.hid (rkeys_any (σ := σ) by0 _ _ _ hY)
          obtain ⟨Ay, cy, hby, _⟩ := hY.cells
          have HS39 : Hid (∀ w' Hs', Sat σ w' Hs' → Y1 ∈ Hs' → (w'.cell? ⟨by0, 1, none⟩ = some (.int .i64 hand))) := Lib.hid (fun w' Hs' h hm => h.cellAt hm (Hp.cell_of hby rfl))
          clear hT hY hby
          generalize hks : xs.map SE.key = ks at *
          clear hks
          go_wp2
          go_region_held3 (fun w' => w'.cell? ⟨by0, 1, none⟩ = some (.int .i64 hand))
            (first | exact HS39.out _ _ hwt (by simp) | exact HS39.out _ _ hwl2 (by simp) | exact HS39.out _ _ hwl1 (by simp) | exact HS39.out _ _ hwh (by simp) | exact HS39.out _ _ hwu2 (by simp) | exact HS39.out _ _ hwu1 (by simp) | exact HS39.out _ _ hL.drew (by simp))
            (first
              | (go_at_call 18; refine (HUS.out _ _ hL.drew (by simp)).mono ?_; rintro e wu1 ⟨rfl, hwu1⟩)
              | (go_at_call 27; refine (HRUS.out _ _ hwu1 (by simp)).mono ?_; rintro e wu2 ⟨rfl, hwu2⟩)
              | (go_at_call 19; refine (HHA.out _ _ hwu2 (by simp)).mono ?_; rintro e wh ⟨rfl, hwh⟩)
              | (go_at_call 14; refine (HKE.out _ _ hwh (by simp)).mono ?_; rintro e wl1 ⟨lv1, L1, rfl, hwl1, hl1⟩)
              | (go_at_call 28; refine (HRKE.out _ _ hwl1 (by simp)).mono ?_; rintro e wl2 ⟨lv2, L2, rfl, hwl2, hl2⟩)
              | (go_at_call 15; refine (sameT_any (H1 := L1) (H2 := L2) _ _ ks ks _ hwl2 (by simp) (by simp) hl1 hl2).mono ?_; rintro e wt ⟨rfl, hwt⟩; rw [show decide (ks = ks) = true by simp]))
          go_wp2
          go_roundw
          case measure => simp [intOf]; omega
          case rel => exact ⟨k + 1, b1, M1, Y1, hand, xs, by omega, by go_num, rfl, hwt.drop.drop.up2.drop, HT.out, HY.out⟩
      have q5 : amongI x.kind 6 = 5 := by omega
      as_aux_lemma =>
        rw [q5]
        go_wp2_with fail
        refine (clone_any b1 keep hand xs _ hwx.swap hT).mono ?_
        rintro e w3 ⟨b2, M2, rfl, hw3, hcl⟩
        have HCL := Lib.hid hcl
        clear hcl hwx
        have HPUT := Lib.hid (put_any b1 keep hand xs 1 9 ⟨#[115, 112, 111, 105, 108, 116]⟩ (.slice none 0 0) [] w3 hw3.swap hT (Ha := M2) (by simp) Kd.IsSl.nil (by decide))
        clear hT
        generalize putE keep xs 1 ⟨#[115, 112, 111, 105, 108, 116]⟩ _ 9 = code at *
        generalize putR keep xs hand 1 ⟨#[115, 112, 111, 105, 108, 116]⟩ [] 9 = xp at *
        go_wp2_with fail
        refine HPUT.out.mono ?_
        rintro e w4 ⟨rfl, M4, hw4, hT4, hk4⟩
        have HDROP := Lib.hid (drop_any b1 keep _ _ x.key w4 hw4 hT4)
        clear hw3 hT4 HPUT
        generalize dropB xp.1 x.key = bd at *
        generalize dropS xp.1 x.key = xd at *
        have d3 : w4.cell? ⟨nb, 3, none⟩ = some (.string x.key) := hw4.up2.one_cell rfl
        go_wp2_with fail
        refine HDROP.out.mono ?_
        rintro e w5 ⟨rfl, M5, hw5, hT5, hk5⟩
        have hL := hw5.swap.join.swap1
        have hT := HCL.out M5 (hk4.trans hk5) hw5.swap.dj2
        clear d3 hw4 hw5 HDROP hT5 hk4 hk5 HCL
        generalize Hp.or M2 M5 = M1 at *
        generalize b2 = b1 at *
        have HT := Lib.hid hT; have HY := Lib.hid hY
        have HUS := Lib.hid (used_any (σ := σ) b1 _ _ _ hT)
        have HRUS := Lib.hid (rused_any (σ := σ) by0 _ _ _ hY)
        have HHA := Lib.hid (hand_any (σ := σ) b1 _ _ _ hT)
        have HKE := Lib.hid (keys_any (σ := σ) b1 _ _ _ hT)
        have HRKE := Lib.hid (rkeys_any (σ := σ) by0 _ _ _ hY)
        obtain ⟨Ay, cy, hby, _⟩ := hY.cells
        have HS39 : Hid (∀ w' Hs', Sat σ w' Hs' → Y1 ∈ Hs' → (w'.cell? ⟨by0, 1, none⟩ = some (.int .i64 hand))) := Lib.hid (fun w' Hs' h hm => h.cellAt hm (Hp.cell_of hby rfl))
        clear hT hY hby
        generalize hks : xs.map SE.key = ks at *
        clear hks
        go_wp2
        go_region_held3 (fun w' => w'.cell? ⟨by0, 1, none⟩ = some (.int .i64 hand))
          (first | exact HS39.out _ _ hwt (by simp) | exact HS39.out _ _ hwl2 (by simp) | exact HS39.out _ _ hwl1 (by simp) | exact HS39.out _ _ hwh (by simp) | exact HS39.out _ _ hwu2 (by simp) | exact HS39.out _ _ hwu1 (by simp) | exact HS39.out _ _ hL.drew (by simp))
          (first
            | (go_at_call 18; refine (HUS.out _ _ hL.drew (by simp)).mono ?_; rintro e wu1 ⟨rfl, hwu1⟩)
            | (go_at_call 27; refine (HRUS.out _ _ hwu1 (by simp)).mono ?_; rintro e wu2 ⟨rfl, hwu2⟩)
            | (go_at_call 19; refine (HHA.out _ _ hwu2 (by simp)).mono ?_; rintro e wh ⟨rfl, hwh⟩)
            | (go_at_call 14; refine (HKE.out _ _ hwh (by simp)).mono ?_; rintro e wl1 ⟨lv1, L1, rfl, hwl1, hl1⟩)
            | (go_at_call 28; refine (HRKE.out _ _ hwl1 (by simp)).mono ?_; rintro e wl2 ⟨lv2, L2, rfl, hwl2, hl2⟩)
            | (go_at_call 15; refine (sameT_any (H1 := L1) (H2 := L2) _ _ ks ks _ hwl2 (by simp) (by simp) hl1 hl2).mono ?_; rintro e wt ⟨rfl, hwt⟩; rw [show decide (ks = ks) = true by simp]))
        go_wp2
        go_roundw
        case measure => simp [intOf]; omega
        case rel => exact ⟨k + 1, b1, M1, Y1, hand, xs, by omega, by go_num, rfl, hwt.drop.drop.up2.drop, HT.out, HY.out⟩
    · obtain rfl : k = acts.length := by omega
      go_wp2_with fail
      refine (works_any wr hwr).mono ?_
      rintro e w3 ⟨rfl, hw3⟩
      go_wp2
      go_ret
      exact ⟨rfl, hw3.drop.drop⟩
end
end Go.Proofs.Ytfieipigbdopaaa
