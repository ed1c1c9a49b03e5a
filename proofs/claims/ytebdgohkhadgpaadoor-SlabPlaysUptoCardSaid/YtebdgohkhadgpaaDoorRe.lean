/- Walks of the reference's slab: Write. -/
import Derived.Test.YtebdgohkhadgpaaDoorRd
set_option linter.unusedVariables false
set_option linter.unusedSimpArgs false
namespace Go.Proofs.YtebdgohkhadgpaaDoor
open Go Go.RowKit
section
variable {σ w w' : World} {Hs : List Hp} {H M N Y : Hp}
set_option maxHeartbeats 4000000
theorem splice_step {X ys : List Int} {a i : Nat} {v : Int} (h : a + ys.length ≤ X.length) (hv : ys[i]? = some v) : (spliceL X a (ys.take i)).set (a + i) v = spliceL X a (ys.take (i + 1)) := by
  have hi := (List.getElem?_eq_some_iff.1 hv).1
  have l1 : (ys.take i).length = i := by rw [List.length_take]; omega
  have l2 : (ys.take (i + 1)).length = i + 1 := by rw [List.length_take]; omega
  apply List.ext_getElem?
  intro x
  rw [List.getElem?_set, splice_get (by omega), splice_get (by omega), spliceL_length _ _ _ (by omega), l1, l2]
  by_cases e : a + i = x
  · subst e
    rw [if_pos rfl, if_pos (by omega), if_pos (by omega), Nat.add_sub_cancel_left, List.getElem?_take, if_pos (by omega), hv]
  · rw [if_neg e]
    by_cases e2 : a ≤ x ∧ x < a + i
    · rw [if_pos e2, if_pos (by omega), List.getElem?_take, List.getElem?_take, if_pos (by omega), if_pos (by omega)]
    · rw [if_neg e2, if_neg (by omega)]
def wrB (size : Nat) (held : List Bool) (bl : List (Option (Nat × List Int))) (b a : Int) (ys : List Int) : List (Option (Nat × List Int)) :=
  if spanE size held b a ys.length = 0 then match bl[b.toNat]? with
    | some (some x) => bl.set b.toNat (some (x.1, spliceL x.2 a.toNat ys))
    | _ => bl
  else bl
theorem rwrite_any {g size : Nat} {held : List Bool} {bl : List (Option (Nat × List Int))} (b a : Int) (v : Value) (ys : List Int) (w : World) (hw : Sat σ w (Y :: Hs)) (hN : N ∈ Hs) (h : RS Y g size held bl) (HX : ∀ q : Nat, held[q]? = some true → ∃ x, bl[q]? = some (some x)) (hy : kB.IsSl N v ys) :
    Calls Tryd.prog 21 #[.pointer (some ⟨g, 0, none⟩), .int .i64 b, .int .i64 a, v] w fun e w' => e = .returned (.int .i64 (spanE size held b a ys.length)) ∧ ∃ Y', Sat σ w' (Y' :: Hs) ∧ RS Y' g size held (wrB size held bl b a ys) := by
  obtain ⟨A, c, rfl, hc1, hc2, _⟩ := hy.form
  have HT := Lib.hid (rthere_any b w hw List.mem_cons_self h)
  obtain ⟨Ab, Ah, cb, ch, h1, _, _⟩ := id h.ex
  have c0 := hw.m_cell h1 (o := 0) rfl
  have HH := Lib.hid h
  have hsz := h.sz
  clear h h1
  cases hh : heldB held b
  · rw [hh] at HT
    have e : spanE size held b a ys.length = 5 := by unfold spanE; rw [if_pos hh]
    have eb : wrB size held bl b a ys = bl := by unfold wrB; rw [if_neg (by omega)]
    rw [e, eb]
    clear e eb
    go_enter Tryd.func21, Tryd.ntmps21
    go_wp2_with fail
    refine HT.out.mono ?_
    rintro e w1 ⟨rfl, rfl⟩
    go_wp2
    go_ret
    exact ⟨rfl, _, hw, HH.out⟩
  · rw [hh] at HT
    obtain ⟨k, rfl, hk, hkt⟩ := heldB_lt hh
    by_cases g1 : a < 0
    · have e : spanE size held k a ys.length = 2 := by unfold spanE; rw [if_neg (by simp [hh]), if_pos (by omega)]
      have eb : wrB size held bl k a ys = bl := by unfold wrB; rw [if_neg (by omega)]
      rw [e, eb]
      clear e eb
      go_enter Tryd.func21, Tryd.ntmps21
      go_wp2_with fail
      refine HT.out.mono ?_
      rintro e w1 ⟨rfl, rfl⟩
      go_wp2
      go_ret
      exact ⟨rfl, _, hw, HH.out⟩
    by_cases g3 : (size : Int) < a
    · have e : spanE size held k a ys.length = 2 := by unfold spanE; rw [if_neg (by simp [hh]), if_pos (by omega)]
      have eb : wrB size held bl k a ys = bl := by unfold wrB; rw [if_neg (by omega)]
      rw [e, eb]
      clear e eb
      go_enter Tryd.func21, Tryd.ntmps21
      go_wp2_with fail
      refine HT.out.mono ?_
      rintro e w1 ⟨rfl, rfl⟩
      go_wp2
      go_ret
      exact ⟨rfl, _, hw, HH.out⟩
    have e0 : IntKind.i64.wrap ((size : Int) - a) = (size : Int) - a := wrap_small _ (by omega) (by omega)
    by_cases g4 : (size : Int) - a < ys.length
    · have e : spanE size held k a ys.length = 2 := by unfold spanE; rw [if_neg (by simp [hh]), if_pos (by omega)]
      have eb : wrB size held bl k a ys = bl := by unfold wrB; rw [if_neg (by omega)]
      rw [e, eb]
      clear e eb
      go_enter Tryd.func21, Tryd.ntmps21
      go_wp2_with fail
      refine HT.out.mono ?_
      rintro e w1 ⟨rfl, rfl⟩
      go_wp2
      go_ret
      exact ⟨rfl, _, hw, HH.out⟩
    have e : spanE size held k a ys.length = 0 := by unfold spanE; rw [if_neg (by simp [hh]), if_neg (by omega)]
    obtain ⟨x, hx⟩ := HX k hkt
    obtain ⟨hl, hxb⟩ := HH.out.blk k x.1 x.2 hx
    obtain ⟨a, rfl⟩ : ∃ j : Nat, a = j := ⟨a.toNat, by omega⟩
    have eb : wrB size held bl k a ys = bl.set k (some (x.1, spliceL x.2 a ys)) := by
      unfold wrB
      rw [if_pos e, show ((k : Int)).toNat = k from rfl, hx]
      rfl
    rw [e, eb]
    have hr : a + ys.length ≤ x.2.length := by omega
    have H0 : Hid (RS Y g size held (bl.set k (some (x.1, spliceL x.2 a (ys.take 0))))) := Lib.hid (by
      rw [List.take_zero, spliceL_nil]
      have : bl.set k (some (x.1, x.2)) = bl := by
        apply List.ext_getElem?
        intro i
        rw [List.getElem?_set]
        split
        · rename_i e; subst e; rw [hx]; split <;> rename_i hh2
          · rfl
          · exact absurd (List.getElem?_eq_some_iff.1 hx).1 hh2
        · rfl
      rw [this]
      exact HH.out)
    have hkl := (List.getElem?_eq_some_iff.1 hx).1
    have HR := Lib.hid (And.intro hr (And.intro hl hkl))
    have hki : (k : Int) < held.length := by omega
    have hk0 : 0 < held.length := by omega
    have HY := Lib.hid hy
    have hrs : (a : Int) + ys.length ≤ 65536 := by omega
    clear hh hkt hx hl hxb HX eb e HH hy hr hkl
    generalize x.1 = bx at *
    generalize x.2 = X at *
    go_enter Tryd.func21, Tryd.ntmps21
    go_wp2_with fail
    refine HT.out.mono ?_
    rintro e w1 ⟨rfl, rfl⟩
    go_wp2
    clear HT
    go_loopw [9] (fun i wr => ∃ (q : Nat) (Y : Hp), q ≤ ys.length ∧ i = .int .i64 q ∧ Sat σ wr (Y :: Hs) ∧ RS Y g size held (bl.set k (some (bx, spliceL X a (ys.take q))))) (fun i _ => ys.length - (intOf i).toNat)
    case atStart => exact ⟨0, Y, by omega, rfl, hw, H0.out⟩
    case round =>
      obtain ⟨q, Y1, hq, rfl, hwr, hT⟩ := hrel
      clear hw c0
      by_cases hlt : q < ys.length
      · obtain ⟨b9, o9, c9, y, hyq, hv, hcell⟩ := byte_get HY.out hlt
        injection hv with hv1 hv2 hv3
        subst hv1; subst hv3; clear hv2
        obtain ⟨bb, cb', Ah', ch', cur, k1, k2, k3, _⟩ := hT.blkRow hk0
        have hbk : (bl.set k (some (bx, spliceL X a (ys.take q))))[k]? = some (some (bx, spliceL X a (ys.take q))) := by
          rw [List.getElem?_set, if_pos rfl, if_pos HR.out.2.2]
        obtain ⟨m1, m2⟩ := hT.blk k bx _ hbk
        have c1 := hwr.m_cell k1 (o := 1) rfl
        have cc := hwr.m_cell k2 (k3 k _ hbk)
        have cy := hwr.cellAt (by simp [hN]) hcell
        have cx : ∃ u, wr.cell? ⟨bx, a + q, none⟩ = some u := ⟨_, hwr.m_cell m2 (by rw [List.getElem?_toArray]; exact List.getElem?_eq_getElem (by unfold ints; rw [List.length_map, m1]; omega))⟩
        obtain ⟨u, cx⟩ := cx
        have fx := heap_free (hwr.le _ _ m2) (a + q)
        have HB := Lib.hid (hT.byteRow hbk (a + q) y)
        rw [List.set_set, splice_step HR.out.1 hyq] at HB
        have HM2 := Lib.hid m2
        have hxl := hwr.lt List.mem_cons_self m2
        have HBV : bvV size (some (bx, spliceL X a (ys.take q))) = .slice (some ⟨bx, 0, none⟩) size size := rfl
        rw [HBV] at cc
        have e5 : IntKind.i64.wrap ((a : Int) + q) = (a : Int) + q := wrap_small _ (by omega) (by omega)
        have e6 : (0 : Int) ≤ (a : Int) + q := by omega
        have e7 : (a : Int) + q < size := by have := HR.out.2.1; have := HR.out.1; omega
        have hqi : (q : Int) < ys.length := by omega
        clear k1 k2 k3 hbk m1 m2 hyq hcell hT HBV
        go_wp2
        refine wp_region_quiet_tail 15 (by kernel_rfl) (by kernel_rfl) ?_
        simp only [List.take_succ_cons, List.take_zero, List.drop_succ_cons, List.drop_zero]
        repeat (go_big_quiet_step (fail))
        refine wpQuiet_nil ?_
        intro _ hw'
        obtain ⟨nq, hw''⟩ := hw'
        subst hw''
        have hwd := hwr.drewN nq
        have HU := Lib.hid (hwd.upd HM2.out (o := a + q) (.int .u8 y))
        clear hwd hwr
        go_wp2
        go_roundw
        case measure => simp [intOf]; omega
        case rel => exact ⟨q + 1, _, by omega, by go_num, HU.out, HB.out⟩
      · obtain rfl : q = ys.length := by omega
        rw [List.take_length] at hT
        have HT := Lib.hid hT
        clear hT
        go_wp2
        go_ret
        exact ⟨rfl, _, hwr, HT.out⟩
end
end Go.Proofs.YtebdgohkhadgpaaDoor
