/- Walk: StoreFresh. -/
import Derived.Test.YtfieipigbdopaaaL2
import Derived.Test.YtfieipigbdopaaaW2
set_option linter.unusedVariables false
set_option linter.unusedSimpArgs false
namespace Go.Proofs.Ytfieipigbdopaaa
open Go.RowKit
set_option maxHeartbeats 4000000
def kAct : Kd ActT := Kd.iso (Kd.pair (Kd.int .i64) (Kd.pair (Kd.int .i64) (Kd.pair (Kd.int .i64) (Kd.pair Kd.str (Kd.sl kB))))) (fun x => (x.kind, x.now, x.age, x.key, x.bytes))
theorem kAct_cells {H : Hp} {x : ActT} {cs : List Value} (h : kAct.rep H x cs) : ∃ Au cu, cs = [.int .i64 x.kind, .int .i64 x.now, .int .i64 x.age, .string x.key, .slice Au x.bytes.length cu] ∧ kB.IsSl H (.slice Au x.bytes.length cu) x.bytes := by
  obtain ⟨_, _, rfl, rfl, _, _, rfl, rfl, _, _, rfl, rfl, _, _, rfl, rfl, ⟨v, rfl, hv⟩⟩ := h
  obtain ⟨Au, cu, rfl, _⟩ := hv.form
  exact ⟨Au, cu, rfl, hv⟩
section
variable {σ : World} {Hs : List Hp} {H M N : Hp}
theorem act_get {v : Value} {xs : List ActT} (hs : kAct.IsSl H v xs) {k : Nat} (hk : k < xs.length) : ∃ b off c Au cu x, xs[k]? = some x ∧ v = .slice (some ⟨b, off, none⟩) xs.length c ∧ Hp.cell H b (off + k * 5) = some (.int .i64 x.kind) ∧ Hp.cell H b (off + k * 5 + 1) = some (.int .i64 x.now) ∧ Hp.cell H b (off + k * 5 + 2) = some (.int .i64 x.age) ∧ Hp.cell H b (off + k * 5 + 3) = some (.string x.key) ∧ Hp.cell H b (off + k * 5 + 4) = some (.slice Au x.bytes.length cu) ∧ kB.IsSl H (.slice Au x.bytes.length cu) x.bytes := by
  obtain ⟨A, c, rfl, _⟩ := hs.form
  obtain ⟨b, off, cs, rfl, hcs, hcell⟩ := hs.get k _ (List.getElem?_eq_getElem hk)
  obtain ⟨Au, cu, rfl, hu⟩ := kAct_cells hcs
  exact ⟨b, off, c, Au, cu, _, List.getElem?_eq_getElem hk, rfl, hcell 0 _ rfl, hcell 1 _ rfl, hcell 2 _ rfl, hcell 3 _ rfl, hcell 4 _ rfl, hu⟩
theorem newBad_small (n : Nat) (hn : n ≤ 21) : newBad n 64 = false := by
  unfold newBad
  simp
  omega
theorem fresh_law (n now : Int) (nm : ByteArray) (v : Value) (acts : List ActT) (w : World) (hw : Sat σ w Hs) (hH : H ∈ Hs) (hs : kAct.IsSl H v acts) (hok : ∀ a ∈ acts, a.key.size ≤ 9223372036854775807) (hnm : nm.size ≤ 9223372036854775807) :
    Calls Try.prog 4 #[.int .i64 n, v, .int .i64 now, .string nm] w fun e w' => e = .returned (.bool true) ∧ Sat σ w' Hs := by
  obtain ⟨A, c, rfl, hc1, hc2, _⟩ := hs.form
  have hr := amongI_range n 20 (by omega)
  have HOK := Lib.hid hok; clear hok
  go_enter Try.func4, Try.ntmps4
  go_wp2_with fail
  refine (works_any w hw).mono ?_
  rintro e w1 ⟨rfl, hw1⟩
  go_wp2_with fail
  refine (among_any n 20 w1 (by omega) (by omega)).mono ?_
  rintro e w2 ⟨rfl, rfl⟩
  obtain ⟨n0, hn0⟩ : ∃ n0 : Nat, amongI n 20 = n0 := ⟨(amongI n 20).toNat, by omega⟩
  rw [hn0] at hr ⊢
  clear hn0
  go_wp2_with fail
  refine (new_any n0 64 w1 hw1 (newBad_small n0 (by omega))).mono ?_
  rintro e w2 ⟨b, M, rfl, hw2, hT⟩
  clear hw hw1 w1
  have HGT := Lib.hid (get_tells acts nm n0 acts.length now)
  go_wp2
  go_loopw [12, 11, 13] (fun i l _ wr => ∃ (k : Nat) (M : Hp), k ≤ acts.length ∧ i = .int .i64 k ∧ l = .int .i64 (stF acts nm n0 k).2 ∧ Sat σ wr (M :: Hs) ∧ Sto M b 64 (stF acts nm n0 k).1.2 (stF acts nm n0 k).1.1) (fun i _ _ _ => acts.length - (intOf i).toNat)
  case atStart => exact ⟨0, M, by omega, rfl, rfl, hw2, hT⟩
  case round =>
    obtain ⟨k, M1, hk, rfl, rfl, hwr, hTr⟩ := hrel
    clear hw2 hT
    by_cases hlt : k < acts.length
    · obtain ⟨gb, off, c', Au, cu, x, hx, hv, e0, e1, e2, e3, e4, hu⟩ := act_get hs hlt
      injection hv with hv1 hv2 hv3
      subst hv1; subst hv3; clear hv2
      have hHM : H ∈ M1 :: Hs := by simp [hH]
      have c0 := hwr.cellAt hHM e0; have c1 := hwr.cellAt hHM e1; have c2 := hwr.cellAt hHM e2; have c3 := hwr.cellAt hHM e3; have c4 := hwr.cellAt hHM e4
      have hgl : gb < wr.heap.size := World.block_lt_of_cell? wr _ c0
      have hxs := HOK.out x (List.mem_of_getElem? hx)
      have HSTEP : Hid (stF acts nm n0 (k + 1) = if amongI x.kind 6 = 4 then ((dropS (stF acts nm n0 k).1.1 x.key, (stF acts nm n0 k).1.2), if sEq x.key nm = true then -1 else (stF acts nm n0 k).2) else (putR 64 (stF acts nm n0 k).1.1 (stF acts nm n0 k).1.2 x.now x.key x.bytes x.age, if putE 64 (stF acts nm n0 k).1.1 x.now x.key x.bytes.length x.age = 0 ∧ sEq x.key nm = true then (k : Int) else (stF acts nm n0 k).2)) := Lib.hid (by simp only [stF, hx])
      have HPUT : Hid (∀ w' Hs', Sat σ w' (M1 :: Hs') → H ∈ Hs' → Calls Try.prog 12 #[.pointer (some ⟨b, 0, none⟩), .int .i64 x.now, .string x.key, .slice Au x.bytes.length cu, .int .i64 x.age] w' (PutP σ Hs' M1 b 64 (putE 64 (stF acts nm n0 k).1.1 x.now x.key x.bytes.length x.age) (putR 64 (stF acts nm n0 k).1.1 (stF acts nm n0 k).1.2 x.now x.key x.bytes x.age))) :=
        Lib.hid (fun w' Hs' h hm => put_any b 64 _ _ x.now x.age x.key _ x.bytes w' h hTr hm hu (by omega))
      have HDROP : Hid (∀ w' Hs', Sat σ w' (M1 :: Hs') → Calls Try.prog 17 #[.pointer (some ⟨b, 0, none⟩), .string x.key] w' (DropP σ Hs' M1 b 64 (stF acts nm n0 k).1.2 (dropB (stF acts nm n0 k).1.1 x.key) (dropS (stF acts nm n0 k).1.1 x.key))) :=
        Lib.hid (fun w' Hs' h => drop_any b 64 _ _ x.key w' h hTr)
      clear e0 e1 e2 e3 e4 hx hs hu hTr
      generalize (stF acts nm n0 k).1.1 = xs at *
      generalize (stF acts nm n0 k).1.2 = hand at *
      generalize (stF acts nm n0 k).2 = la at *
      generalize putE 64 xs x.now x.key x.bytes.length x.age = code at *
      generalize putR 64 xs hand x.now x.key x.bytes x.age = xs' at *
      generalize dropS xs x.key = xd at *
      generalize dropB xs x.key = bd at *
      have hki : (k : Int) < acts.length := by omega
      go_wp2_with fail
      refine (among_any _ 6 _ (by omega) (by omega)).mono ?_
      rintro e w2 ⟨rfl, rfl⟩
      have hwa := (hwr.alloc (.cells #[.int .i64 x.kind, .int .i64 x.now, .int .i64 x.age, .string x.key, .slice Au x.bytes.length cu] 32)).swap
      have d3 : (wr.alloc (.cells #[.int .i64 x.kind, .int .i64 x.now, .int .i64 x.age, .string x.key, .slice Au x.bytes.length cu] 32)).cell? ⟨wr.heap.size, 3, none⟩ = some (.string x.key) := hwa.swap.one_cell rfl
      by_cases h4 : amongI x.kind 6 = 4
      · rw [if_pos h4] at HSTEP
        rw [h4]
        clear c0 c1 c2 c3 c4 hgl h4 hwr HPUT
        generalize wr.alloc _ = wa at *
        generalize wr.heap.size = nb at *
        go_wp2_with fail
        refine (HDROP.out _ _ hwa).mono ?_
        rintro e w3 ⟨rfl, M3, hw3, hT3, _⟩
        have d3 : w3.cell? ⟨nb, 3, none⟩ = some (.string x.key) := hw3.drop.one_cell rfl
        clear hwa
        cases hq : x.key.toList == nm.toList
        · have HQ : Hid (sEq x.key nm = false) := Lib.hid hq
          go_wp2
          go_roundw
          case measure => simp [intOf]; omega
          case rel => exact ⟨k + 1, M3, by omega, by go_num, by rw [HSTEP.out, HQ.out]; simp, hw3.drop1, by rw [HSTEP.out]; exact hT3⟩
        · have HQ : Hid (sEq x.key nm = true) := Lib.hid hq
          go_wp2
          go_roundw
          case measure => simp [intOf]; omega
          case rel => exact ⟨k + 1, M3, by omega, by go_num, by rw [HSTEP.out, HQ.out]; simp, hw3.drop1, by rw [HSTEP.out]; exact hT3⟩
      · rw [if_neg h4] at HSTEP
        have h4' : (amongI x.kind 6 == 4) = false := beq_eq_false_iff_ne.2 h4
        have d1 : (wr.alloc (.cells #[.int .i64 x.kind, .int .i64 x.now, .int .i64 x.age, .string x.key, .slice Au x.bytes.length cu] 32)).cell? ⟨wr.heap.size, 1, none⟩ = some (.int .i64 x.now) := hwa.swap.one_cell rfl
        have d2 : (wr.alloc (.cells #[.int .i64 x.kind, .int .i64 x.now, .int .i64 x.age, .string x.key, .slice Au x.bytes.length cu] 32)).cell? ⟨wr.heap.size, 2, none⟩ = some (.int .i64 x.age) := hwa.swap.one_cell rfl
        have d4 : (wr.alloc (.cells #[.int .i64 x.kind, .int .i64 x.now, .int .i64 x.age, .string x.key, .slice Au x.bytes.length cu] 32)).cell? ⟨wr.heap.size, 4, none⟩ = some (.slice Au x.bytes.length cu) := hwa.swap.one_cell rfl
        clear c0 c1 c2 c3 c4 hgl h4 hwr HDROP
        generalize wr.alloc _ = wa at *
        generalize wr.heap.size = nb at *
        go_wp2_with fail
        refine (HPUT.out _ _ hwa (by simp [hH])).mono ?_
        rintro e w3 ⟨rfl, M3, hw3, hT3, _⟩
        clear d1 d2 d3 d4 hwa
        have d3 : w3.cell? ⟨nb, 3, none⟩ = some (.string x.key) := hw3.drop.one_cell rfl
        by_cases hcode : code = 0
        · subst hcode
          cases hq : x.key.toList == nm.toList
          · have HQ : Hid (sEq x.key nm = false) := Lib.hid hq
            go_wp2
            go_roundw
            case measure => simp [intOf]; omega
            case rel => exact ⟨k + 1, M3, by omega, by go_num, by rw [HSTEP.out, HQ.out]; simp, hw3.drop1, by rw [HSTEP.out]; exact hT3⟩
          · have HQ : Hid (sEq x.key nm = true) := Lib.hid hq
            go_wp2
            go_roundw
            case measure => simp [intOf]; omega
            case rel => exact ⟨k + 1, M3, by omega, by go_num, by rw [HSTEP.out, HQ.out]; simp, hw3.drop1, by rw [HSTEP.out]; exact hT3⟩
        · have hcz : (code == 0) = false := beq_eq_false_iff_ne.2 hcode
          have HCODE := Lib.hid hcode; clear hcode
          go_wp2
          go_roundw
          case measure => simp [intOf]; omega
          case rel => exact ⟨k + 1, M3, by omega, by go_num, by rw [HSTEP.out, if_neg (fun h => HCODE.out h.1)], hw3.drop1, by rw [HSTEP.out]; exact hT3⟩
    · obtain rfl : k = acts.length := by omega
      have HG : Hid (∀ w' Hs', Sat σ w' (M1 :: Hs') → Calls Try.prog 13 #[.pointer (some ⟨b, 0, none⟩), .int .i64 now, .string nm] w' (GetP σ Hs' M1 b 64 (stF acts nm n0 acts.length).1.2 (getS (stF acts nm n0 acts.length).1.1 now nm))) :=
        Lib.hid (fun w' Hs' h => get_any b 64 _ _ now nm w' h hTr hnm)
      rcases HGT.out with ⟨cd, hg, hcd⟩ | ⟨q, a, hla, ha, hg, hn1, hn2, hn3, hn4, hn5⟩
      · have HGE := Lib.hid hg
        have hcz : (cd != 0) = true := by rw [bne_iff_ne]; exact hcd
        clear hg hTr
        generalize (stF acts nm n0 acts.length).2 = la at *
        go_wp2_with fail
        refine (HG.out _ _ hwr).mono ?_
        rintro e w3 ⟨gv, N, gcl, M4, rfl, hw3, hgo, hgr, _, _⟩
        rw [HGE.out] at hgo hgr ⊢
        obtain ⟨Ag, cg, rfl, _⟩ := hgo.slice
        clear hcd
        go_wp2
        go_ret
        exact ⟨rfl, hw3.drop.drop⟩
      · have hq := (List.getElem?_eq_some_iff.1 ha).1
        obtain ⟨gb, off, c', Au, cu, x, hx, hv, e0, e1, e2, e3, e4, hu⟩ := act_get hs hq
        injection hv with hv1 hv2 hv3
        subst hv1; subst hv3; clear hv2
        obtain rfl : a = x := by rw [ha] at hx; exact Option.some.inj hx
        have m1 : IntKind.i64.wrap (now - a.now) = now - a.now := IntWalk.i64_in _ (by omega)
        have HGE := Lib.hid hg
        have E0 := Lib.hid e0; have E1 := Lib.hid e1; have E2 := Lib.hid e2; have E3 := Lib.hid e3; have E4 := Lib.hid e4; have HU := Lib.hid hu
        rw [hla]
        clear hg hTr hla ha hx e0 e1 e2 e3 e4 hu hs
        go_wp2_with fail
        refine (HG.out _ _ hwr).mono ?_
        rintro e w3 ⟨gv, N, gcl, M4, rfl, hw3, hgo, hgr, _, _⟩
        rw [HGE.out] at hgo hgr ⊢
        have hgv : kB.IsSl N gv a.bytes := hgo.isSl (d := kB) hgr rfl (Hp.le_refl _)
        obtain ⟨Ag, cg, rfl, _⟩ := hgv.form
        have hHM : H ∈ N :: M4 :: Hs := by simp [hH]
        have c0 := hw3.cellAt hHM E0.out; have c1 := hw3.cellAt hHM E1.out; have c2 := hw3.cellAt hHM E2.out; have c3 := hw3.cellAt hHM E3.out; have c4 := hw3.cellAt hHM E4.out
        have hgl : gb < w3.heap.size := World.block_lt_of_cell? w3 _ c0
        have hqi : (q : Int) < acts.length := by omega
        clear hwr hgo hgr
        go_wp2_with fail
        refine (sameB_any (H1 := N) (H2 := H) _ _ a.bytes _ hw3 (by simp) (by simp [hH]) hgv HU.out).mono ?_
        rintro e w4 ⟨rfl, hw4⟩
        clear c0 c1 c2 c3 c4 hgl
        have c0 := hw4.cellAt hHM E0.out; have c1 := hw4.cellAt hHM E1.out; have c2 := hw4.cellAt hHM E2.out
        go_wp2
        go_ret
        exact ⟨rfl, hw4.drop.drop⟩
end
end Go.Proofs.Ytfieipigbdopaaa
