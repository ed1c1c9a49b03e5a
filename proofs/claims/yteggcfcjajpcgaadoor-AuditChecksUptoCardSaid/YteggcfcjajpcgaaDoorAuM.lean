/- Walk: the iterator of whole. -/
import Derived.Test.YteggcfcjajpcgaaDoorAuE
import Derived.Test.YteggcfcjajpcgaaDoorRng
set_option linter.unusedVariables false
set_option linter.unusedSimpArgs false
namespace Go.Proofs.YteggcfcjajpcgaaDoor
open Go Go.RowKit
/-- Is a record right behind another one? -/
def okS (a x : Ent) : Bool := decide ((nextE a x.at_ x.text).2 = 0) && decide (x = (nextE a x.at_ x.text).1)
def prevE (xs : List Ent) (k : Nat) : Ent := if k = 0 then ent0 else xs[k - 1]?.getD ent0
def okAt (xs : List Ent) (k : Nat) : Bool := okS (prevE xs k) (xs[k]?.getD ent0)
def upto {α : Type} (f : Nat → α) (k : Nat) : List α := (List.range k).map f
theorem upto_succ {α : Type} (f : Nat → α) (k : Nat) : upto f (k + 1) = upto f k ++ [f k] := by simp [upto, List.range_succ]
theorem upto_length {α : Type} (f : Nat → α) (k : Nat) : (upto f k).length = k := by simp [upto]
/-- Any entry of Go's. -/
def anyE (x : Ent) : Prop := x.sum.length = 32 ∧ -9223372036854775808 ≤ x.at_ ∧ x.text.size ≤ 9223372036854775807
theorem any0 : anyE ent0 := ⟨rfl, by decide, by decide⟩
theorem prev_ok {xs : List Ent} (h : ∀ x ∈ xs, anyE x) (k : Nat) : anyE (prevE xs k) := by
  unfold prevE
  split
  · exact any0
  · cases e : xs[k - 1]? with
    | none => exact any0
    | some x => exact h x (List.mem_of_getElem? e)
theorem below_setRow (V : World) (g n₀ : Nat) (h : n₀ ≤ g) (cs : Array Value) : Below n₀ V (V.setRow g cs) :=
  ⟨rfl, rfl, rfl, by rw [size_setRow]; exact Nat.le_refl _, fun k hk => setRow_other V g k cs (by omega)⟩
section
set_option maxHeartbeats 4000000
set_option maxRecDepth 10000 in
theorem whole1 (m : Nat) (l n₀ Bs b off c : Nat) (xs : List Ent) (hb : xs.length ≠ 0 → b < n₀) (hBs : Bs < n₀) (hlen : xs.length ≤ 4096) (hxs : ∀ x ∈ xs, anyE x) (J Jx : List (Nat × Bool) → World → Prop) (W : World) (hn0 : n₀ ≤ W.heap.size)
    (hJ : Under W.heap.size J) (hJx : Under W.heap.size Jx)
    (hY : ∀ pre x U, J pre U → pre.length < xs.length → YieldAt Fence.wide m Tryd.prog l #[.int .i64 (x.1 : Int), .bool x.2] U fun e V =>
      (e = .returned (.bool true) ∧ J (pre ++ [x]) V ∧ KpB n₀ U V) ∨ (e = .returned (.bool false) ∧ Jx (pre ++ [x]) V))
    (A : Option Addr) (hA : xs.length ≠ 0 → A = some ⟨b, off, none⟩) (hBc : W.cell? ⟨Bs, 0, none⟩ = some (.slice A xs.length c))
    (hrow : ∀ k x, xs[k]? = some x → W.rangeAt b (off + k * 34) (EA x).toList)
    {tt : TypeId} {fr : Nat × Nat} (hg1 : 1 < n₀) (hg2 : 0 < n₀) (hk : W.heap[1]? = some (.cells powV tt fr)) (hk0 : W.heap[0]? = some (.cells kV 90 (0, 0))) (h0 : J [] W) :
    Calls Tryd.prog 39 #[.func (.yield l) #[] #[], .pointer (some ⟨Bs, 0, none⟩)] W fun e V => (∃ v, e = .returned v) ∧
      ((∃ ys, ys = upto (fun j => (j, okAt xs j)) xs.length ∧ J ys V) ∨ (∃ pre, (∃ k, k ≤ xs.length ∧ pre = upto (fun j => (j, okAt xs j)) k) ∧ Jx pre V)) := by
  have HJ := Lib.hid hJ; have HJX := Lib.hid hJx; have HY := Lib.hid hY; have HROW := Lib.hid hrow; have HK := Lib.hid hk; have HK0 := Lib.hid hk0; have HXS := Lib.hid hxs; have HA := Lib.hid hA; have HB := Lib.hid hb
  clear hJ hJx hY hrow hk hk0 hxs hA hb
  go_enter Tryd.func39, Tryd.ntmps39
  have hcB : (W.alloc (.cells #[.int .i64 0, .string ⟨#[]⟩, .int .u8 0, .int .u8 0, .int .u8 0, .int .u8 0, .int .u8 0, .int .u8 0, .int .u8 0, .int .u8 0, .int .u8 0, .int .u8 0, .int .u8 0, .int .u8 0, .int .u8 0, .int .u8 0, .int .u8 0, .int .u8 0, .int .u8 0, .int .u8 0, .int .u8 0, .int .u8 0, .int .u8 0, .int .u8 0, .int .u8 0, .int .u8 0, .int .u8 0, .int .u8 0, .int .u8 0, .int .u8 0, .int .u8 0, .int .u8 0, .int .u8 0, .int .u8 0] 32)).cell? ⟨Bs, 0, none⟩ = some (.slice A xs.length c) := by
    rw [World.cell?_of_block (Below.heap_alloc _ _ _ (show Bs < W.heap.size by omega))]; exact hBc
  have HB1 : Hid (Below W.heap.size W (W.alloc (.cells #[.int .i64 0, .string ⟨#[]⟩, .int .u8 0, .int .u8 0, .int .u8 0, .int .u8 0, .int .u8 0, .int .u8 0, .int .u8 0, .int .u8 0, .int .u8 0, .int .u8 0, .int .u8 0, .int .u8 0, .int .u8 0, .int .u8 0, .int .u8 0, .int .u8 0, .int .u8 0, .int .u8 0, .int .u8 0, .int .u8 0, .int .u8 0, .int .u8 0, .int .u8 0, .int .u8 0, .int .u8 0, .int .u8 0, .int .u8 0, .int .u8 0, .int .u8 0, .int .u8 0, .int .u8 0, .int .u8 0] 32))) := Lib.hid ((Below.refl _ W).alloc (Nat.le_refl _) _)
  have HA1 : Hid ((W.alloc (.cells #[.int .i64 0, .string ⟨#[]⟩, .int .u8 0, .int .u8 0, .int .u8 0, .int .u8 0, .int .u8 0, .int .u8 0, .int .u8 0, .int .u8 0, .int .u8 0, .int .u8 0, .int .u8 0, .int .u8 0, .int .u8 0, .int .u8 0, .int .u8 0, .int .u8 0, .int .u8 0, .int .u8 0, .int .u8 0, .int .u8 0, .int .u8 0, .int .u8 0, .int .u8 0, .int .u8 0, .int .u8 0, .int .u8 0, .int .u8 0, .int .u8 0, .int .u8 0, .int .u8 0, .int .u8 0, .int .u8 0] 32)).heap[W.heap.size]? = some (.cells (EA ent0) 32 (0, 0))) := Lib.hid (heap_alloc_new _ _)
  go_wp2_with fail
  clear hcB hBc
  generalize hW1 : World.alloc W _ = W1 at *
  clear hW1
  obtain ⟨na, hna⟩ : ∃ na, W.heap.size = na := ⟨_, rfl⟩
  have HNL := Lib.hid hna
  have HN9 := Lib.hid hn0
  rw [hna] at HA1 HB1 hn0 HJ HJX
  simp only [hna]
  clear hna
  go_loopw [10] (fun i wr => ∃ k : Nat, k ≤ xs.length ∧ i = .int .i64 k ∧ Eager (J (upto (fun j => (j, okAt xs j)) k) wr ∧ Below n₀ W wr ∧ wr.heap[na]? = some (.cells (EA (prevE xs k)) 32 (0, 0)))) (fun i _ => xs.length - (intOf i).toNat)
  case atStart => exact ⟨0, Nat.zero_le _, rfl, ⟨HJ.out.at h0 HB1.out, HB1.out.mono hn0, HA1.out⟩⟩
  case round =>
    obtain ⟨k, hk, rfl, hst⟩ := hrel
    obtain ⟨hJs, hbw, hna⟩ := hst.out
    have HJS := Lib.hid hJs; have HBW := Lib.hid hbw; have HNA := Lib.hid hna
    clear hst hJs hbw hna HA1 HB1 h0
    by_cases hlt : k < xs.length
    · obtain ⟨x, hx⟩ : ∃ x, xs[k]? = some x := ⟨_, List.getElem?_eq_getElem hlt⟩
      obtain rfl := HA.out (by omega)
      have hbn := HB.out (by omega)
      have hki : (k : Int) < xs.length := by omega
      have hk0 : (0 : Int) ≤ k := by omega
      have HX := Lib.hid (HXS.out x (List.mem_of_getElem? hx))
      have hpv := prev_ok HXS.out k
      have HOKA : Hid (okAt xs k = okS (prevE xs k) x) := Lib.hid (by unfold okAt; rw [hx]; rfl)
      have HPN : Hid (prevE xs (k + 1) = x) := Lib.hid (by unfold prevE; rw [if_neg (by omega), Nat.add_sub_cancel, hx]; rfl)
      have HRG : Hid (wr.rangeAt b (off + k * 34) (EA x).toList) := Lib.hid (fun j v hv => by rw [HBW.out.cell (p := ⟨b, off + k * 34 + j, none⟩) hbn]; exact HROW.out k x hx j v hv)
      have hkk : wr.heap[1]? = some (.cells powV tt fr) := (HBW.out.block _ hg1).trans HK.out
      have hkk0 : wr.heap[0]? = some (.cells kV 90 (0, 0)) := (HBW.out.block _ hg2).trans HK0.out
      obtain ⟨pv, hpe⟩ : ∃ pv, prevE xs k = pv := ⟨_, rfl⟩
      rw [hpe] at HNA HOKA hpv
      have HNEXT : Hid (∀ w' Hs', Sat wr w' Hs' → hpOf wr ∈ Hs' → Calls Tryd.prog 28 #[.agg (EA pv), .int .i64 x.at_, .string x.text] w' fun e w2 => e = .returned (.tuple #[.agg (EA (nextE pv x.at_ x.text).1), .int .i64 (nextE pv x.at_ x.text).2]) ∧ Sat wr w2 Hs') := Lib.hid (fun w' Hs' h hm => next_any0 pv x.at_ x.text hpv.1 (fun _ => HX.out.2.1) HX.out.2.2 w' h hm hkk hkk0)
      have hys : (nextE pv x.at_ x.text).1.sum.length = 32 := by
        unfold nextE
        split
        · rfl
        · split
          · rfl
          · exact sha_length _
      have HOKS : Hid (okS pv x = (decide ((nextE pv x.at_ x.text).2 = 0) && decide (x = (nextE pv x.at_ x.text).1))) := Lib.hid rfl
      generalize (nextE pv x.at_ x.text).1 = y at *
      generalize (nextE pv x.at_ x.text).2 = ey at *
      have hxs := EA_size x HX.out.1
      have hyz := EA_size y hys
      have hpz := EA_size pv hpv.1
      have hez := EA_size ent0 rfl
      have heq : ∀ W, (Op.equal 32 (.agg (EA x)) (.agg (EA y))).run Tryd.prog W = .ok (decide (x = y)) W := fun W => ent_eq x y HX.out.1 hys W
      have heq2 : ∀ W, (Op.equalIn 10000 32 (.agg (EA x)) (.agg (EA y))).run Tryd.prog W = .ok (decide (x = y)) W := heq
      have HW1 : Hid (Sat wr (wr.alloc (.cells #[.int .i64 0, .string ⟨#[]⟩, .int .u8 0, .int .u8 0, .int .u8 0, .int .u8 0, .int .u8 0, .int .u8 0, .int .u8 0, .int .u8 0, .int .u8 0, .int .u8 0, .int .u8 0, .int .u8 0, .int .u8 0, .int .u8 0, .int .u8 0, .int .u8 0, .int .u8 0, .int .u8 0, .int .u8 0, .int .u8 0, .int .u8 0, .int .u8 0, .int .u8 0, .int .u8 0, .int .u8 0, .int .u8 0, .int .u8 0, .int .u8 0, .int .u8 0, .int .u8 0, .int .u8 0, .int .u8 0] 32)) [Hp.one wr.heap.size (.cells #[.int .i64 0, .string ⟨#[]⟩, .int .u8 0, .int .u8 0, .int .u8 0, .int .u8 0, .int .u8 0, .int .u8 0, .int .u8 0, .int .u8 0, .int .u8 0, .int .u8 0, .int .u8 0, .int .u8 0, .int .u8 0, .int .u8 0, .int .u8 0, .int .u8 0, .int .u8 0, .int .u8 0, .int .u8 0, .int .u8 0, .int .u8 0, .int .u8 0, .int .u8 0, .int .u8 0, .int .u8 0, .int .u8 0, .int .u8 0, .int .u8 0, .int .u8 0, .int .u8 0, .int .u8 0, .int .u8 0] 32 (0, 0)), hpOf wr]) := Lib.hid ((Sat.start wr).alloc _)
      clear hx hkk hkk0 hpe hpv hys
      go_upto_region 4 with (first
        | (with_reducible show wpList _ _ _ [_, _, _, _] _ _; refine wpList_load_mid rfl 32 (.tmp 13) rfl b (off + k * 34) rfl (EA x).toList _ HRG.out Tryd.underlying32 rfl (by rw [Array.length_toList, hxs]; kernel_rfl) ?_)
        | (with_reducible show wpList _ _ _ [{ dst := none, op := _, type := _, pos := _, after := _, guard := _ }] _ _; go_must (refine wpList_store_row rfl 32 (.tmp 5) (.tmp 14) rfl wr.heap.size (EA x) rfl rfl 32 _ HW1.out.heap (by rw [hxs]; kernel_rfl) (by rw [hxs]; kernel_rfl) (EA_one _) ?_)))
      have hw2 := HW1.out.setRow (EA x)
      clear HW1
      generalize World.setRow _ _ _ = w2 at *
      have hcx : w2.cell? ⟨wr.heap.size, 0, none⟩ = some (.int .i64 x.at_) ∧ w2.cell? ⟨wr.heap.size, 1, none⟩ = some (.string x.text) := ⟨hw2.one_cell (EA_get0 x), hw2.one_cell (EA_get1 x)⟩
      obtain ⟨hcx0, hcx1⟩ := hcx
      obtain ⟨nx, hnx⟩ : ∃ nx, wr.heap.size = nx := ⟨_, rfl⟩
      have hpn : w2.heap[na]? = some (.cells (EA pv) 32 (0, 0)) := hw2.blk (List.mem_cons_of_mem _ List.mem_cons_self) HNA.out
      have HPW := Lib.hid hpn
      rw [hnx] at hw2 hcx0 hcx1
      simp only [hnx]
      have HW2 := Lib.hid hw2
      clear hw2 hpn
      go_wp2_with (with_reducible show wpList _ _ _ (_ :: _ :: _ :: _ :: _ :: _ :: _ :: _ :: _ :: _ :: _ :: _ :: []) _ _; (refine wpList_load_row rfl 32 (.tmp 3) rfl na rfl 32 (EA pv) (0, 0) _ HPW.out Tryd.underlying32 rfl (by rw [hpz]; kernel_rfl) ?_))
      refine (HNEXT.out _ _ HW2.out (List.mem_cons_of_mem _ List.mem_cons_self)).mono ?_
      rintro e w3 ⟨rfl, hw3⟩
      have HW3 := Lib.hid (hw3.alloc (.cells #[.int .i64 0, .string ⟨#[]⟩, .int .u8 0, .int .u8 0, .int .u8 0, .int .u8 0, .int .u8 0, .int .u8 0, .int .u8 0, .int .u8 0, .int .u8 0, .int .u8 0, .int .u8 0, .int .u8 0, .int .u8 0, .int .u8 0, .int .u8 0, .int .u8 0, .int .u8 0, .int .u8 0, .int .u8 0, .int .u8 0, .int .u8 0, .int .u8 0, .int .u8 0, .int .u8 0, .int .u8 0, .int .u8 0, .int .u8 0, .int .u8 0, .int .u8 0, .int .u8 0, .int .u8 0, .int .u8 0] 32))
      clear HW2 HPW hcx0 hcx1 hw3
      go_upto_region 5 with (with_reducible show wpList _ _ _ [_, _] _ _; (refine wpList_store_row rfl 32 (.tmp 6) (.tmp 22) rfl w3.heap.size (EA y) rfl rfl 32 _ HW3.out.heap (by rw [hyz]; kernel_rfl) (by rw [hyz]; kernel_rfl) (EA_one _) ?_))
      have hw4 := HW3.out.setRow (EA y)
      clear HW3
      generalize World.setRow _ _ _ = w4 at *
      generalize w3.heap.size = ny at *
      have HHX : Hid (w4.heap[nx]? = some (.cells (EA x) 32 (0, 0))) := Lib.hid (hw4.drop.heap)
      have HHY : Hid (w4.heap[ny]? = some (.cells (EA y) 32 (0, 0))) := Lib.hid (hw4.heap)
      have HBU : Hid (Below wr.heap.size wr w4) := Lib.hid (hw4.end (List.mem_cons_of_mem _ (List.mem_cons_of_mem _ List.mem_cons_self)))
      have hJ4 := HJ.out.at HJS.out (HBU.out.mono (Nat.le_trans (by rw [HNL.out]; exact Nat.le_refl _) HBW.out.size))
      obtain ⟨fn, tmps, assign, body, hy, hR⟩ := HY.out _ (k, okAt xs k) w4 hJ4 (by rw [upto_length]; exact hlt)
      dsimp only at hy
      have HBN := Lib.hid hbn
      clear hbn HNEXT
      by_cases he : ey = 0
      · have hok : okAt xs k = decide (x = y) := by rw [HOKA.out, HOKS.out, decide_eq_true he, Bool.true_and]
        rw [hok] at hy
        subst he
        generalize decide (x = y) = q at *
        refine (wpIn_wide (n := m + 1)).1 ?_
        gi_wp2_with (first
          | (refine wpListIn_load_row rfl (by kernel_rfl) 32 (.tmp 5) rfl nx rfl 32 (EA x) (0, 0) _ HHX.out Tryd.underlying32 rfl (by rw [hxs]; kernel_rfl) ?_)
          | (refine wpListIn_load_row rfl (by kernel_rfl) 32 (.tmp 6) rfl ny rfl 32 (EA y) (0, 0) _ HHY.out Tryd.underlying32 rfl (by rw [hyz]; kernel_rfl) ?_))
        refine hR.mono ?_
        rintro e V (⟨rfl, hJ3, hk3⟩ | ⟨rfl, hJx3⟩)
        · have HV : Hid (V.heap[nx]? = some (.cells (EA x) 32 (0, 0))) := Lib.hid (hk3.2 _ _ _ _ HHX.out)
          have HVA : Hid (V.heap[na]? = some (.cells (EA pv) 32 (0, 0))) := Lib.hid (hk3.2 _ _ _ _ ((HBU.out.block _ (Array.getElem?_eq_some_iff.1 HNA.out).1).trans HNA.out))
          have HJ3 := Lib.hid hJ3; have HK3 := Lib.hid hk3.1
          clear hJ3 hk3 hy hR
          gi_wp2_with fail
          go_wp2_with (first
            | (with_reducible show wpList _ _ _ [_, _] _ _; (refine wpList_load_row rfl 32 (.tmp 5) rfl nx rfl 32 (EA x) (0, 0) _ HV.out Tryd.underlying32 rfl (by rw [hxs]; kernel_rfl) ?_))
            | (with_reducible show wpList _ _ _ [{ dst := none, op := _, type := _, pos := _, after := _, guard := _ }] _ _; go_must (refine wpList_store_row rfl 32 (.tmp 3) (.tmp 35) rfl na (EA x) rfl rfl 32 _ HVA.out (by rw [hxs]; kernel_rfl) (hpz.trans hxs.symm) (EA_one _) ?_)))
          have hbs := below_setRow V na n₀ hn0 (EA x)
          refine ⟨⟨k + 1, hlt, by go_num, ⟨?_, ((HBW.out.trans (HBU.out.mono (Nat.le_trans HN9.out HBW.out.size))).trans HK3.out).trans hbs, by rw [HPN.out]; exact heap_setRow HVA.out _⟩⟩, by simp [intOf]; omega⟩
          rw [upto_succ]
          exact HJ.out.at HJ3.out (below_setRow V na na (Nat.le_refl _) (EA x))
        · have HJX3 := Lib.hid hJx3
          clear hJx3 hy hR
          gi_wp2_with fail
          go_wp2
          refine bodyPost_ret (results_none rfl _ _ _) rfl ?_
          exact ⟨⟨_, rfl⟩, .inr ⟨_, ⟨k + 1, hlt, (upto_succ _ _).symm⟩, HJX3.out⟩⟩
      · have hok : okAt xs k = false := by rw [HOKA.out, HOKS.out, decide_eq_false he, Bool.false_and]
        rw [hok] at hy
        have heb : (ey == 0) = false := by simpa using he
        refine (wpIn_wide (n := m + 1)).1 ?_
        gi_wp2_with fail
        refine hR.mono ?_
        rintro e V (⟨rfl, hJ3, hk3⟩ | ⟨rfl, hJx3⟩)
        · have HV : Hid (V.heap[nx]? = some (.cells (EA x) 32 (0, 0))) := Lib.hid (hk3.2 _ _ _ _ HHX.out)
          have HVA : Hid (V.heap[na]? = some (.cells (EA pv) 32 (0, 0))) := Lib.hid (hk3.2 _ _ _ _ ((HBU.out.block _ (Array.getElem?_eq_some_iff.1 HNA.out).1).trans HNA.out))
          have HJ3 := Lib.hid hJ3; have HK3 := Lib.hid hk3.1
          clear hJ3 hk3 hy hR
          gi_wp2_with fail
          go_wp2_with (first
            | (with_reducible show wpList _ _ _ [_, _] _ _; (refine wpList_load_row rfl 32 (.tmp 5) rfl nx rfl 32 (EA x) (0, 0) _ HV.out Tryd.underlying32 rfl (by rw [hxs]; kernel_rfl) ?_))
            | (with_reducible show wpList _ _ _ [{ dst := none, op := _, type := _, pos := _, after := _, guard := _ }] _ _; go_must (refine wpList_store_row rfl 32 (.tmp 3) (.tmp 35) rfl na (EA x) rfl rfl 32 _ HVA.out (by rw [hxs]; kernel_rfl) (hpz.trans hxs.symm) (EA_one _) ?_)))
          have hbs := below_setRow V na n₀ hn0 (EA x)
          refine ⟨⟨k + 1, hlt, by go_num, ⟨?_, ((HBW.out.trans (HBU.out.mono (Nat.le_trans HN9.out HBW.out.size))).trans HK3.out).trans hbs, by rw [HPN.out]; exact heap_setRow HVA.out _⟩⟩, by simp [intOf]; omega⟩
          rw [upto_succ]
          exact HJ.out.at HJ3.out (below_setRow V na na (Nat.le_refl _) (EA x))
        · have HJX3 := Lib.hid hJx3
          clear hJx3 hy hR
          gi_wp2_with fail
          go_wp2
          refine bodyPost_ret (results_none rfl _ _ _) rfl ?_
          exact ⟨⟨_, rfl⟩, .inr ⟨_, ⟨k + 1, hlt, (upto_succ _ _).symm⟩, HJX3.out⟩⟩
    · obtain rfl : k = xs.length := by omega
      have HJE := Lib.hid HJS.out
      clear HJS HBW HNA hlt
      go_wp2
      go_end0
      exact ⟨⟨_, rfl⟩, .inl ⟨_, rfl, HJE.out⟩⟩
end
end Go.Proofs.YteggcfcjajpcgaaDoor
