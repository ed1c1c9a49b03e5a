/- Walk: StoreBack. -/
import Derived.Test.YtfieipigbdopaaaL3
import Derived.Test.YtfieipigbdopaaaF1
set_option linter.unusedVariables false
set_option linter.unusedSimpArgs false
namespace Go.Proofs.Ytfieipigbdopaaa
open Go.RowKit
set_option maxHeartbeats 8000000
section
variable {σ : World} {Hs : List Hp} {H Hb M N : Hp}
set_option maxRecDepth 10000 in
theorem back_law (n : Int) (v : Value) (acts : List ActT) (now : Int) (nm : ByteArray) (vb : Value) (bs : List Int) (age later : Int) (w : World) (hw : Sat σ w Hs) (hH : H ∈ Hs) (hs : kAct.IsSl H v acts) (hok : ∀ a ∈ acts, a.key.size ≤ 9223372036854775807) (hnm : nm.size ≤ 9223372036854775807) (hHb : Hb ∈ Hs) (hsb : kB.IsSl Hb vb bs) (hl : -9223372036854775808 ≤ later ∧ later ≤ 9223372036854775807) :
    Calls Try.prog 3 #[.int .i64 n, v, .int .i64 now, .string nm, vb, .int .i64 age, .int .i64 later] w fun e w' => e = .returned (.bool true) ∧ Sat σ w' Hs := by
  obtain ⟨A, c, rfl, hc1, hc2, _⟩ := hs.form
  obtain ⟨Ab, cb, rfl, hb1, hb2, _⟩ := hsb.form
  have hr := amongI_range n 20 (by omega)
  have HOK := Lib.hid hok; clear hok
  go_enter Try.func3, Try.ntmps3
  go_wp2_with fail
  refine (works_any w hw).mono ?_
  rintro e w1 ⟨rfl, hw1⟩
  go_wp2_with fail
  refine (among_any n 20 w1 (by omega) (by omega)).mono ?_
  rintro e w2 ⟨rfl, rfl⟩
  obtain ⟨n0, hn0⟩ : ∃ n0 : Nat, 1 + amongI n 20 = n0 := ⟨(1 + amongI n 20).toNat, by omega⟩
  have m0 : IntKind.i64.wrap (1 + amongI n 20) = n0 := by rw [IntWalk.i64_in _ (by omega), hn0]
  have hr0 : 1 ≤ n0 ∧ n0 ≤ 20 := by omega
  clear hn0 hr
  go_wp2_with fail
  refine (new_any n0 64 w1 hw1 (newBad_small n0 (by omega))).mono ?_
  rintro e w2 ⟨b, M, rfl, hw2, hT⟩
  clear hw hw1 w1 m0
  go_wp2
  go_loopw [17] (fun i wr => ∃ (k : Nat) (M : Hp), k ≤ acts.length ∧ i = .int .i64 k ∧ Sat σ wr (M :: Hs) ∧ Sto M b 64 (stB acts n0 k).2 (stB acts n0 k).1) (fun i _ => acts.length - (intOf i).toNat)
  case atStart => exact ⟨0, M, by omega, rfl, hw2, hT⟩
  case round =>
    obtain ⟨k, M1, hk, rfl, hwr, hTr⟩ := hrel
    clear hw2 hT
    by_cases hlt : k < acts.length
    · obtain ⟨gb, off, c', Au, cu, x, hx, hv, e0, e1, e2, e3, e4, hu⟩ := act_get hs hlt
      injection hv with hv1 hv2 hv3
      subst hv1; subst hv3; clear hv2
      have hxs := HOK.out x (List.mem_of_getElem? hx)
      have HSTEP : Hid (stB acts n0 (k + 1) = ((getS (putR 64 (stB acts n0 k).1 (stB acts n0 k).2 x.now x.key x.bytes x.age).1 x.now x.key).2, (putR 64 (stB acts n0 k).1 (stB acts n0 k).2 x.now x.key x.bytes x.age).2)) := Lib.hid (by simp only [stB, hx])
      have HSS : Hid (∀ w' Hs', Sat σ w' Hs' → H ∈ Hs' → (w'.cell? ⟨gb, off + k * 5 + 1, none⟩ = some (.int .i64 x.now) ∧ w'.cell? ⟨gb, off + k * 5 + 2, none⟩ = some (.int .i64 x.age) ∧ w'.cell? ⟨gb, off + k * 5 + 3, none⟩ = some (.string x.key) ∧ w'.cell? ⟨gb, off + k * 5 + 4, none⟩ = some (.slice Au x.bytes.length cu))) := Lib.hid (fun w' Hs' h hm => ⟨h.cellAt hm e1, h.cellAt hm e2, h.cellAt hm e3, h.cellAt hm e4⟩)
      have HPUT : Hid (∀ w' Hs', Sat σ w' (M1 :: Hs') → H ∈ Hs' → Calls Try.prog 12 #[.pointer (some ⟨b, 0, none⟩), .int .i64 x.now, .string x.key, .slice Au x.bytes.length cu, .int .i64 x.age] w' (PutP σ Hs' M1 b 64 (putE 64 (stB acts n0 k).1 x.now x.key x.bytes.length x.age) (putR 64 (stB acts n0 k).1 (stB acts n0 k).2 x.now x.key x.bytes x.age))) :=
        Lib.hid (fun w' Hs' h hm => put_any b 64 _ _ x.now x.age x.key _ x.bytes w' h hTr hm hu (by omega))
      have hki : (k : Int) < acts.length := by omega
      clear e0 e1 e2 e3 e4 hx hs hu hTr
      generalize (stB acts n0 k).1 = xs at *
      generalize (stB acts n0 k).2 = hand at *
      generalize putE 64 xs x.now x.key x.bytes.length x.age = code at *
      generalize putR 64 xs hand x.now x.key x.bytes x.age = xs' at *
      go_wp2
      go_region_held3 (fun w' => w'.cell? ⟨gb, off + k * 5 + 1, none⟩ = some (.int .i64 x.now) ∧ w'.cell? ⟨gb, off + k * 5 + 2, none⟩ = some (.int .i64 x.age) ∧ w'.cell? ⟨gb, off + k * 5 + 3, none⟩ = some (.string x.key) ∧ w'.cell? ⟨gb, off + k * 5 + 4, none⟩ = some (.slice Au x.bytes.length cu))
        (first | exact HSS.out _ _ hwr.drew (by simp [hH]) | exact HSS.out _ _ hw3 (by simp [hH]))
        (first | (go_at_call 12; refine (HPUT.out _ _ hwr.drew (by simp [hH])).mono ?_; rintro e w3 ⟨rfl, M3, hw3, hT3, _⟩))
      clear hwr HPUT
      go_wp2
      go_region_held3 (fun w' => w'.cell? ⟨gb, off + k * 5 + 1, none⟩ = some (.int .i64 x.now) ∧ w'.cell? ⟨gb, off + k * 5 + 2, none⟩ = some (.int .i64 x.age) ∧ w'.cell? ⟨gb, off + k * 5 + 3, none⟩ = some (.string x.key) ∧ w'.cell? ⟨gb, off + k * 5 + 4, none⟩ = some (.slice Au x.bytes.length cu))
        (first | exact HSS.out _ _ hw3.drew (by simp [hH]) | exact HSS.out _ _ hw4 (by simp [hH]))
        (first | (go_at_call 13; refine (get_any b 64 _ _ x.now x.key _ hw3.drew hT3 (by omega)).mono ?_; rintro e w4 ⟨gv, N, gcl, M4, rfl, hw4, hgo, hgr, hT4, _⟩))
      go_wp2
      go_roundw
      case measure => simp [intOf]; omega
      case rel => exact ⟨k + 1, M4, by omega, by go_num, hw4.drop, by rw [HSTEP.out]; exact hT4⟩
    · obtain rfl : k = acts.length := by omega
      obtain ⟨hu, hh, hlen⟩ := stB_inv acts n0 acts.length
      have HBT := Lib.hid (fun h0 => back_tells (now := now) (age := age) (later := later) (k := nm) (bs := bs) hu hh h0)
      have HPC := Lib.hid (putE_cases (stB acts n0 acts.length).1 now nm bs.length age (by omega))
      have HOKE := Lib.hid (fun h0 => putE_ok (keep := 64) (xs := (stB acts n0 acts.length).1) (now := now) (k := nm) (n := bs.length) (age := age) h0)
      have HBAD := Lib.hid (fun h0 => putR_bad (keep := 64) (xs := (stB acts n0 acts.length).1) (hand := (stB acts n0 acts.length).2) (now := now) (age := age) (k := nm) (bs := bs) h0)
      have HT := Lib.hid hTr
      clear hs hu hh hlen hTr
      generalize (stB acts n0 acts.length).1 = xs at *
      generalize (stB acts n0 acts.length).2 = hand at *
      have HPUT : Hid (∀ w' Hs', Sat σ w' (M1 :: Hs') → Hb ∈ Hs' → Calls Try.prog 12 #[.pointer (some ⟨b, 0, none⟩), .int .i64 now, .string nm, .slice Ab bs.length cb, .int .i64 age] w' (PutP σ Hs' M1 b 64 (putE 64 xs now nm bs.length age) (putR 64 xs hand now nm bs age))) :=
        Lib.hid (fun w' Hs' h hm => put_any b 64 _ _ now age nm _ bs w' h HT.out hm hsb (by omega))
      have HSB := Lib.hid hsb
      clear hsb
      go_wp2_with fail
      refine (keys_any b 64 _ _ HT.out wr _ hwr (by simp)).mono ?_
      rintro e w3 ⟨kv, K, rfl, hw3, hkv⟩
      obtain ⟨ks, hks⟩ : ∃ ks, xs.map SE.key = ks := ⟨_, rfl⟩
      rw [hks] at hkv
      have HKS := Lib.hid hks
      clear hks
      obtain ⟨Ak, ck, rfl, _⟩ := hkv.form
      clear hwr
      go_wp2_with fail
      refine (HPUT.out _ _ hw3.swap (by simp [hHb])).mono ?_
      rintro e w4 ⟨rfl, M4, hw4, hT4, _⟩
      clear hw3
      rcases HPC.out with hcode | hcode | ⟨hcode, h64⟩
      · have hB := HBT.out hcode
        have hO := HOKE.out hcode
        rw [hcode]
        clear hcode
        go_wp2_with fail
        refine (get_any b 64 _ _ now nm _ hw4 hT4 hnm).mono ?_
        rintro e w5 ⟨gv, N, gcl, M5, rfl, hw5, hgo, hgr, hT5, _⟩
        rw [hB.1] at hgo hgr ⊢
        have hgv : kB.IsSl N gv bs := hgo.isSl (d := kB) hgr rfl (Hp.le_refl _)
        obtain ⟨Ag, cg, rfl, _⟩ := hgv.form
        have HB2 := Lib.hid hB.2; have HT5 := Lib.hid hT5; have HGV := Lib.hid hgv
        clear hw4 hT4 hgo hgr hB hT5 hgv
        go_wp2_with fail
        refine (sameB_any (H1 := N) (H2 := Hb) _ _ bs _ hw5 (by simp) (by simp [hHb]) HGV.out HSB.out).mono ?_
        rintro e w6 ⟨rfl, hw6⟩
        clear hw5
        by_cases q1 : later < now
        · go_wp2
          go_ret
          exact ⟨rfl, hw6.drop.drop.drop⟩
        by_cases q2 : 1099511627776 < later
        · go_wp2
          go_ret
          exact ⟨rfl, hw6.drop.drop.drop⟩
        have hB2 := HB2.out (by omega) (by omega)
        have m1 : IntKind.i64.wrap (later - now) = later - now := IntWalk.i64_in _ (by omega)
        go_wp2_with fail
        refine (get_any b 64 _ _ later nm _ hw6.swap HT5.out hnm).mono ?_
        rintro e w7 ⟨gv2, N2, gcl2, M7, rfl, hw7, hgo2, hgr2, hT7, _⟩
        rw [hB2] at hgo2 hgr2 ⊢
        clear hB2 hT7 hw6
        by_cases q3 : later - now < age
        · rw [if_pos q3] at hgo2 hgr2 ⊢
          have hgv2 : kB.IsSl N2 gv2 bs := hgo2.isSl (d := kB) hgr2 rfl (Hp.le_refl _)
          obtain ⟨Ag2, cg2, rfl, _⟩ := hgv2.form
          have HGV2 := Lib.hid hgv2
          clear hgv2 hgo2 hgr2
          go_wp2_with fail
          refine (sameB_any (H1 := N2) (H2 := Hb) _ _ bs _ hw7 (by simp) (by simp [hHb]) HGV2.out HSB.out).mono ?_
          rintro e w8 ⟨rfl, hw8⟩
          go_wp2
          go_ret
          exact ⟨rfl, hw8.drop.drop.drop.drop⟩
        · rw [if_neg q3] at hgo2 hgr2 ⊢
          obtain ⟨Ag2, cg2, rfl, _⟩ := hgo2.slice
          clear hgo2 hgr2
          go_wp2
          go_ret
          exact ⟨rfl, hw7.drop.drop.drop.drop⟩
      -- done<
      all_goals
        rw [HBAD.out (by rw [hcode]; decide)] at hT4
        dsimp only at hT4
        rw [hcode]
        clear hcode
        go_wp2_with fail
        refine (keys_any b 64 _ _ hT4 w4 _ hw4 (by simp)).mono ?_
        rintro e w5 ⟨kv2, K2, rfl, hw5, hkv2⟩
        rw [HKS.out] at hkv2
        obtain ⟨Ak2, ck2, rfl, _⟩ := hkv2.form
        go_wp2_with fail
        refine (sameT_any (H1 := K2) (H2 := K) _ _ ks ks _ hw5 (by simp) (by simp) hkv2 hkv).mono ?_
        rintro e w6 ⟨rfl, hw6⟩
        rw [show decide (ks = ks) = true by simp]
        go_wp2
        go_ret
        exact ⟨rfl, hw6.drop.drop.drop⟩
      -- done>
end
end Go.Proofs.Ytfieipigbdopaaa
