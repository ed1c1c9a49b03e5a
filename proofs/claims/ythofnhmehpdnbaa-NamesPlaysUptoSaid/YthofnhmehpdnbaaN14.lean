/- Walk: NamesFresh. -/
import Derived.Test.YthofnhmehpdnbaaNL1
set_option linter.unusedVariables false
namespace Go.Proofs.Ythofnhmehpdnbaa
open Go.RowKit
set_option maxHeartbeats 2000000
def kAct : Kd ActT := Kd.iso (Kd.pair (Kd.int .i64) (Kd.pair (Kd.int .i64) (Kd.pair (Kd.int .i64) (Kd.pair Kd.str (Kd.sl kAd))))) (fun x => (x.kind, x.now, x.ttl, x.name, x.addrs))
theorem kAct_cells {H : Hp} {x : ActT} {cs : List Value} (h : kAct.rep H x cs) : ∃ Au cu, cs = [.int .i64 x.kind, .int .i64 x.now, .int .i64 x.ttl, .string x.name, .slice Au x.addrs.length cu] ∧ kAd.IsSl H (.slice Au x.addrs.length cu) x.addrs := by
  obtain ⟨_, _, rfl, rfl, _, _, rfl, rfl, _, _, rfl, rfl, _, _, rfl, rfl, ⟨v, rfl, hv⟩⟩ := h
  obtain ⟨Au, cu, rfl, _⟩ := hv.form
  exact ⟨Au, cu, rfl, hv⟩
section
variable {σ : World} {Hs : List Hp} {H M N : Hp}
theorem act_get {v : Value} {xs : List ActT} (hs : kAct.IsSl H v xs) {k : Nat} (hk : k < xs.length) : ∃ b off c Au cu x, xs[k]? = some x ∧ v = .slice (some ⟨b, off, none⟩) xs.length c ∧ Hp.cell H b (off + k * 5) = some (.int .i64 x.kind) ∧ Hp.cell H b (off + k * 5 + 1) = some (.int .i64 x.now) ∧ Hp.cell H b (off + k * 5 + 2) = some (.int .i64 x.ttl) ∧ Hp.cell H b (off + k * 5 + 3) = some (.string x.name) ∧ Hp.cell H b (off + k * 5 + 4) = some (.slice Au x.addrs.length cu) ∧ kAd.IsSl H (.slice Au x.addrs.length cu) x.addrs := by
  obtain ⟨A, c, rfl, _⟩ := hs.form
  obtain ⟨b, off, cs, rfl, hcs, hcell⟩ := hs.get k _ (List.getElem?_eq_getElem hk)
  obtain ⟨Au, cu, rfl, hu⟩ := kAct_cells hcs
  exact ⟨b, off, c, Au, cu, _, List.getElem?_eq_getElem hk, rfl, hcell 0 _ rfl, hcell 1 _ rfl, hcell 2 _ rfl, hcell 3 _ rfl, hcell 4 _ rfl, hu⟩
theorem fresh_any (n now : Int) (nm : ByteArray) (v : Value) (acts : List ActT) (w : World) (hw : Sat σ w Hs) (hH : H ∈ Hs) (hs : kAct.IsSl H v acts) (hok : ∀ a ∈ acts, a.name.size ≤ 9223372036854775807) :
    Calls Try.prog 3 #[.int .i64 n, v, .int .i64 now, .string nm] w fun e w' => e = .returned (.bool true) ∧ Sat σ w' Hs := by
  obtain ⟨A, c, rfl, hc1, hc2, _⟩ := hs.form
  have hr := amongI_range n 20 (by omega)
  have HOK := Lib.hid hok; clear hok
  go_enter Try.func3, Try.ntmps3
  go_wp2_with fail
  refine (works_any w hw).mono ?_
  rintro e w1 ⟨rfl, hw1⟩
  go_wp2_with fail
  refine (among_any n 20 w1 (by omega) (by omega)).mono ?_
  rintro e w2 ⟨rfl, rfl⟩
  go_wp2_with fail
  refine (new_any _ w1 hw1 (by omega) (by omega)).mono ?_
  rintro e w2 ⟨b, M, rfl, hw2, hT⟩
  clear hw hw1 w1
  generalize hn0 : (amongI n 20).toNat = n0 at *
  have HGT := Lib.hid (get_tells acts nm n0 acts.length now)
  go_wp2
  go_loopw [12, 11, 13] (fun i l _ wr => ∃ (k : Nat) (M : Hp), k ≤ acts.length ∧ i = .int .i64 k ∧ l = .int .i64 (stF acts nm n0 k).2 ∧ Sat σ wr (M :: Hs) ∧ TabRep M b (stF acts nm n0 k).1) (fun i _ _ _ => acts.length - (intOf i).toNat)
  case atStart => exact ⟨0, M, by omega, rfl, rfl, hw2, hT⟩
  case round =>
    obtain ⟨k, M1, hk, rfl, rfl, hwr, hTr⟩ := hrel
    clear hw2 hT
    by_cases hlt : k < acts.length
    · obtain ⟨gb, off, c', Au, cu, x, hx, hv, e0, e1, e2, e3, e4, hu⟩ := act_get hs hlt
      injection hv with hv1 hv2 hv3
      subst hv1; subst hv3; clear hv2
      have hHM : H ∈ M1 :: Hs := by simp [hH]
      have c0 := hwr.cellAt hHM e0; have c1 := hwr.cellAt hHM e1; have c2 := hwr.cellAt hHM e2; have c3 := hwr.cellAt hHM e3; have c4 := hwr.cellAt hHM e4
      have hgl : gb < wr.heap.size := World.block_lt_of_cell? wr _ c0
      have hxs := HOK.out x (List.mem_of_getElem? hx)
      have HSTEP : Hid (stF acts nm n0 (k + 1) = (putR (stF acts nm n0 k).1 x.now x.name x.addrs x.ttl, if putE (stF acts nm n0 k).1 x.now x.name x.addrs.length x.ttl = 0 ∧ sEq x.name nm = true then (k : Int) else (stF acts nm n0 k).2)) := Lib.hid (by simp only [stF, hx])
      have HPUT : Hid (∀ w' Hs', Sat σ w' (M1 :: Hs') → H ∈ Hs' → Calls Try.prog 11 #[.pointer (some ⟨b, 0, none⟩), .int .i64 x.now, .string x.name, .slice Au x.addrs.length cu, .int .i64 x.ttl] w' (PutP σ Hs' b (putE (stF acts nm n0 k).1 x.now x.name x.addrs.length x.ttl) (putR (stF acts nm n0 k).1 x.now x.name x.addrs x.ttl))) :=
        Lib.hid (fun w' Hs' h hm => put_any b _ x.now x.ttl x.name _ x.addrs w' h hTr hm hu (by omega))
      clear e0 e1 e2 e3 e4 hx hs hu hTr
      generalize (stF acts nm n0 k).1 = xs at *
      generalize (stF acts nm n0 k).2 = la at *
      generalize putE xs x.now x.name x.addrs.length x.ttl = code at *
      generalize putR xs x.now x.name x.addrs x.ttl = xs' at *
      go_wp2_with fail
      refine (HPUT.out _ _ (hwr.alloc (.cells #[.int .i64 x.kind, .int .i64 x.now, .int .i64 x.ttl, .string x.name, .slice Au x.addrs.length cu] 31)).swap (by simp [hH])).mono ?_
      rintro e w3 ⟨rfl, M3, hw3, hT3⟩
      have d3 : w3.cell? ⟨wr.heap.size, 3, none⟩ = some (.string x.name) := hw3.drop.one_cell rfl
      clear hwr c0 c1 c2 c3 c4 hgl HPUT hHM
      generalize wr.heap.size = nb at *
      by_cases hcode : code = 0
      · subst hcode
        cases hq : x.name.toList == nm.toList
        · have HQ : Hid (sEq x.name nm = false) := Lib.hid hq
          go_wp2
          go_roundw
          case measure => simp [intOf]; omega
          case rel => exact ⟨k + 1, M3, by omega, by go_num, by rw [HSTEP.out, HQ.out]; simp, hw3.drop1, by rw [HSTEP.out]; exact hT3⟩
        · have HQ : Hid (sEq x.name nm = true) := Lib.hid hq
          go_wp2
          go_roundw
          case measure => simp [intOf]; omega
          case rel => exact ⟨k + 1, M3, by omega, by go_num, by rw [HSTEP.out, HQ.out]; simp, hw3.drop1, by rw [HSTEP.out]; exact hT3⟩
      · have hcz : (code == 0) = false := beq_eq_false_iff_ne.2 hcode
        have HCODE := Lib.hid hcode; clear hcode
        go_wp2
        go_roundw
        case measure => simp [intOf]; omega
        case rel => exact ⟨k + 1, M3, by omega, by go_num, by rw [HSTEP.out, if_neg (fun h => HCODE.out h.1)], hw3.drop1, by rw [HSTEP.out]; exact hT3⟩
    · obtain rfl : k = acts.length := by omega
      have HG : Hid (∀ w' Hs', Sat σ w' (M1 :: Hs') → Calls Try.prog 12 #[.pointer (some ⟨b, 0, none⟩), .int .i64 now, .string nm] w' (GetPost σ Hs' M1 (getT (stF acts nm n0 acts.length).1 now nm))) :=
        Lib.hid (fun w' Hs' h => get_any b _ now nm w' h hTr)
      rcases HGT.out with ⟨cd, hg, hcd⟩ | ⟨q, a, hla, ha, hg, ht, hbad, hn1, hn2⟩
      · have HGE := Lib.hid hg
        have hcz : (cd != 0) = true := by rw [bne_iff_ne]; exact hcd
        clear hg hTr
        generalize (stF acts nm n0 acts.length).2 = la at *
        go_wp2_with fail
        refine (HG.out _ _ hwr).mono ?_
        rintro e w3 ⟨gv, N, rfl, hw3, hgv⟩
        rw [HGE.out] at hgv ⊢
        obtain ⟨Ag, cg, rfl, _⟩ := hgv.form
        clear hcd
        go_wp2
        go_ret
        exact ⟨rfl, hw3.drop.drop⟩
      · obtain ⟨-, b1, b2, b3, b4, b5, b6⟩ := bad_name hbad
        have hq := (List.getElem?_eq_some_iff.1 ha).1
        obtain ⟨gb, off, c', Au, cu, x, hx, hv, e0, e1, e2, e3, e4, hu⟩ := act_get hs hq
        injection hv with hv1 hv2 hv3
        subst hv1; subst hv3; clear hv2
        obtain rfl : a = x := by rw [ha] at hx; exact Option.some.inj hx
        have m1 : IntKind.i64.wrap (a.now + a.ttl) = a.now + a.ttl := IntWalk.i64_in _ (by omega)
        have m2 : IntKind.i64.wrap (a.now + a.ttl - now) = a.now + a.ttl - now := IntWalk.i64_in _ (by omega)
        have HGE := Lib.hid hg
        have E0 := Lib.hid e0; have E1 := Lib.hid e1; have E2 := Lib.hid e2; have E3 := Lib.hid e3; have E4 := Lib.hid e4; have HU := Lib.hid hu
        rw [hla]
        clear hg hTr hla ha hbad hx e0 e1 e2 e3 e4 hu hs
        go_wp2_with fail
        refine (HG.out _ _ hwr).mono ?_
        rintro e w3 ⟨gv, N, rfl, hw3, hgv⟩
        rw [HGE.out] at hgv ⊢
        obtain ⟨Ag, cg, rfl, _⟩ := hgv.form
        have hHM : H ∈ N :: M1 :: Hs := by simp [hH]
        have c0 := hw3.cellAt hHM E0.out; have c1 := hw3.cellAt hHM E1.out; have c2 := hw3.cellAt hHM E2.out; have c3 := hw3.cellAt hHM E3.out; have c4 := hw3.cellAt hHM E4.out
        have hgl : gb < w3.heap.size := World.block_lt_of_cell? w3 _ c0
        have hqi : (q : Int) < acts.length := by omega
        clear hwr
        go_wp2_with fail
        refine (sameA_any (H1 := N) (H2 := H) _ _ a.addrs a.addrs _ (hw3.alloc (.cells #[.int .i64 a.kind, .int .i64 a.now, .int .i64 a.ttl, .string a.name, .slice Au a.addrs.length cu] 31)) (by simp) (by simp [hH]) hgv HU.out).mono ?_
        rintro e w4 ⟨rfl, hw4⟩
        rw [show decide (a.addrs = a.addrs) = true by simp]
        have d1 : w4.cell? ⟨w3.heap.size, 1, none⟩ = some (.int .i64 a.now) := hw4.one_cell rfl
        have d2 : w4.cell? ⟨w3.heap.size, 2, none⟩ = some (.int .i64 a.ttl) := hw4.one_cell rfl
        clear hw3 c0 c1 c2 c3 c4 hgl
        generalize w3.heap.size = nb at *
        go_wp2
        go_ret
        exact ⟨rfl, hw4.drop.drop.drop⟩
end
end Go.Proofs.Ythofnhmehpdnbaa
