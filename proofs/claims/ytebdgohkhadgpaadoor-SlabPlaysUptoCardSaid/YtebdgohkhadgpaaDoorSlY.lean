/- Walk: SlabClean. -/
import Derived.Test.YtebdgohkhadgpaaDoorSlX
set_option linter.unusedVariables false
set_option linter.unusedSimpArgs false
namespace Go.Proofs.YtebdgohkhadgpaaDoor
open Go Go.RowKit
section
variable {σ w w' : World} {Hs : List Hp} {H M N : Hp}
/-- Of n blocks the first i are held. -/
def hK (n i : Nat) : List Bool := List.replicate i true ++ List.replicate (n - i) false
theorem hK_len {n i : Nat} (h : i ≤ n) : (hK n i).length = n := by unfold hK; simp; omega
theorem hK_zero (n : Nat) : hK n 0 = List.replicate n false := by unfold hK; simp
theorem hK_count (n i : Nat) : (hK n i).count true = i := by unfold hK; simp [List.count_replicate]
theorem hK_at {n i c : Nat} (h : c < n) (hi : i ≤ n) : (hK n i)[c]? = some (decide (c < i)) := by
  unfold hK
  by_cases e : c < i
  · rw [List.getElem?_append_left (by simpa using e), List.getElem?_replicate, if_pos e]; simp [e]
  · rw [List.getElem?_append_right (by simp; omega), List.getElem?_replicate, if_pos (by simp; omega)]; simp [e]
theorem least_hK {n i : Nat} (h : i ≤ n) : least (hK n i) = i := by
  by_cases e : i < n
  · refine (least_of ?_ fun c hc => ?_).1
    · unfold freeAt; rw [hK_at e h]; simp
    · unfold freeAt; rw [hK_at (by omega) h]; simp [hc]
  · obtain rfl : i = n := by omega
    rw [least_none fun c hc => ?_, hK_len (Nat.le_refl _)]
    rw [hK_len (Nat.le_refl _)] at hc
    unfold freeAt; rw [hK_at hc (Nat.le_refl _)]; simp [hc]
theorem hK_set {n i : Nat} (h : i < n) : (hK n i).set i true = hK n (i + 1) := by
  apply List.ext_getElem?
  intro c
  by_cases hc : c < n
  · rw [hK_at hc (by omega), List.getElem?_set]
    by_cases e : i = c
    · subst e
      rw [if_pos rfl, if_pos (by rw [hK_len (by omega)]; exact h)]; simp
    · rw [if_neg e, hK_at hc (by omega)]
      congr 1
      simp
      omega
  · rw [List.getElem?_eq_none (by rw [List.length_set, hK_len (by omega)]; omega), List.getElem?_eq_none (by rw [hK_len (by omega)]; omega)]
theorem least_back {n q : Nat} (h : q < n) : least ((hK n n).set q false) = q ∧ q < ((hK n n).set q false).length := by
  refine ⟨(least_of ?_ fun c hc => ?_).1, by rw [List.length_set, hK_len (Nat.le_refl _)]; exact h⟩
  · unfold freeAt; rw [List.getElem?_set, if_pos rfl, if_pos (by rw [hK_len (Nat.le_refl _)]; exact h)]; rfl
  · unfold freeAt; rw [List.getElem?_set, if_neg (by omega), hK_at (by omega) (Nat.le_refl _)]; simp; omega
theorem range_splice (size : Nat) (mem ys : List Int) (q : Nat) (h : q * size + size ≤ mem.length) (hy : ys.length = size) : rangeL size (spliceL mem (q * size) ys) q 0 size = ys := by
  unfold rangeL spliceL
  simp only [Int.toNat_natCast, Int.toNat_zero, Nat.add_zero]
  rw [List.drop_append, List.drop_eq_nil_of_le (by rw [List.length_take]; omega), List.nil_append, List.length_take, Nat.min_eq_left (by omega), Nat.sub_self, List.drop_zero, ← hy, List.take_left]
theorem heldB_nat {held : List Bool} {q : Nat} (h : held[q]? = some true) : heldB held q = true := by
  unfold heldB; simp [h]
/-- make([]byte, n) as an equation (it serves under a guard too). -/
theorem make_bytes (w : World) (n : Nat) (hn : n ≤ 1000000) : (Instr.makeSlice 22 (.int .i64 (n : Int)) (.int .i64 (n : Int))).run Tryd.prog w = .ok (.slice (some ⟨w.heap.size, 0, none⟩) n n) (w.alloc (.cells (ints .u8 (List.replicate n 0)).toArray 5)) := by
  have hinfo : (Tryd.prog.info? 5).map (fun i => (i.zero, i.size, i.bytes)) = some (some (Value.int .u8 0), 1, 1) := by kernel_rfl
  obtain ⟨i0, hi, hzz⟩ := Option.map_eq_some_iff.1 hinfo
  simp only [Prod.mk.injEq] at hzz
  obtain ⟨hz0, hz1, hz2⟩ := hzz
  have hr := run_make (P := Tryd.prog) w 22 5 i0 _ Tryd.underlying22 hi hz0 .i64 .i64 n n (by omega) (Int.le_refl _) (by rw [hz2]; omega) (by omega)
  rw [hr, hz1, Int.toNat_natCast, ← made_zero]
theorem zeros_sl (b n : Nat) (t : TypeId) (fr : Nat × Nat) (hn : n ≤ 1000000) : kB.IsSl (Hp.one b (.cells (ints .u8 (List.replicate n 0)).toArray t fr)) (.slice (some ⟨b, 0, none⟩) n n) (List.replicate n 0) :=
  ⟨_, _, by rw [List.length_replicate], by simp, by omega, fun _ => ⟨b, 0, ints .u8 (List.replicate n 0), rfl, reps_ints _, fun j v hv => by unfold Hp.cell Hp.one; rw [if_pos rfl]; simpa using hv⟩⟩
set_option maxHeartbeats 4000000
set_option maxRecDepth 10000
theorem clean_any (n s : Int) (v : Value) (acts : List ActT) (again : Int) (w : World) (hw : Sat σ w Hs) (hH : H ∈ Hs) (hs : kAct.IsSl H v acts) (hok : ∀ x ∈ acts, -9223372036854775808 ≤ x.at_ ∧ x.at_ ≤ 9223372036854775807) (hT : ∀ w' Hs', Sat σ w' (Hs' ++ Hs) → TabZ w') :
    Calls Tryd.prog 4 #[.int .i64 n, .int .i64 s, v, .int .i64 again] w fun e w' => e = .returned (.bool true) ∧ Sat σ w' Hs := by
  obtain ⟨A, c, rfl, hc1, hc2, _⟩ := hs.form
  have hr := amongI_range n 12 (by omega)
  have hr2 := amongI_range s 64 (by omega)
  have HOK := Lib.hid hok
  clear hok
  go_enter Tryd.func4, Tryd.ntmps4
  go_wp2_with fail
  refine (works_any w hw hT).mono ?_
  rintro e w1 ⟨rfl, hw1⟩
  go_wp2_with fail
  refine (among_any s 64 w1 (by omega) (by omega)).mono ?_
  rintro e w2 ⟨rfl, rfl⟩
  obtain ⟨size, hsz⟩ : ∃ n0 : Nat, amongI s 64 = n0 := ⟨(amongI s 64).toNat, by omega⟩
  rw [hsz] at hr2 ⊢
  clear hsz
  go_wp2_with fail
  refine (among_any n 12 w1 (by omega) (by omega)).mono ?_
  rintro e w2 ⟨rfl, rfl⟩
  obtain ⟨n0, hn0⟩ : ∃ n0 : Nat, amongI n 12 = n0 := ⟨(amongI n 12).toNat, by omega⟩
  rw [hn0] at hr ⊢
  clear hn0
  go_wp2_with fail
  have hmul : n0 * size ≤ 12 * 64 := Nat.mul_le_mul (by omega) (by omega)
  refine (new_any n0 size w1 hw1 (by omega) (by omega) (by omega)).mono ?_
  rintro e w2 ⟨g, M, A2, c2, rfl, hw2, hS⟩
  rw [← hK_zero] at hS
  clear hw hw1 w1
  generalize List.replicate (n0 * size) (0 : Int) = mem0 at *
  go_wp2
  go_loopg [11, 12] (n0 + 1) (fun gk _ _ wr => ∃ (i : Nat) (M : Hp) (mem : List Int), Sat σ wr (M :: Hs) ∧ Slb M g size (hK n0 i) mem A2 c2 ∧ Eager (i ≤ n0 ∧ gk + i = n0 + 1))
  case atStart => exact ⟨0, M, mem0, hw2, hS, ⟨by omega, by omega⟩⟩
  case round =>
    obtain ⟨i, M1, mem, hwr, hTr, hle⟩ := hrel
    obtain ⟨hin, hgk⟩ := hle.out
    clear hw2 hS hle
    have hll := least_hK hin
    have hlen := hK_len hin
    by_cases hlt : i < n0
    · have HG := Lib.hid (get_any wr hwr hTr (by rw [hll, hlen]; exact hlt) (hT _ [M1] hwr))
      rw [hll, hK_set hlt] at HG
      have HC := Lib.hid (hK_count n0 (i + 1))
      clear hll hlen
      go_wp2_with fail
      refine HG.out.mono ?_
      rintro e w3 ⟨rfl, M4, hw3, hT4⟩
      clear hwr hTr HG
      go_wp2_with fail
      refine (used_any _ hw3 (by simp) hT4).mono ?_
      rintro e w5 ⟨rfl, rfl⟩
      rw [HC.out]
      have hi12 : ¬ (12 : Int) < ((i + 1 : Nat) : Int) := by omega
      go_wp2
      go_roundg (gk - 1)
      case measure => omega
      case rel => exact ⟨i + 1, M4, _, hw3, hT4, ⟨by omega, by omega⟩⟩
    · obtain rfl : i = n0 := by omega
      have HG := Lib.hid (get_full wr hwr (by simp) hTr (by rw [hll, hlen]))
      clear hll hlen
      go_wp2_with fail
      refine HG.out.mono ?_
      rintro e w3 ⟨rfl, rfl⟩
      clear HG
      have hl0 := hTr.len
      go_wp2
      go_loopw [13] (fun k w5 => ∃ (q : Nat) (M : Hp) (mem : List Int), q ≤ acts.length ∧ k = .int .i64 q ∧ Sat σ w5 (M :: Hs) ∧ Slb M g size (hK i i) mem A2 c2) (fun k _ => acts.length - (intOf k).toNat)
      case atStart => exact ⟨0, M1, mem, by omega, rfl, hwr, hTr⟩
      case round => 
        obtain ⟨k, M2, mem2, hk, rfl, hw5, hT5⟩ := hrel
        clear hl0 hwr hTr
        by_cases hlt : k < acts.length
        · obtain ⟨gb, off, c', Au, cu, x, hx, hv, e0, e1, e2, e3, e4, hu⟩ := act_get hs hlt
          injection hv with hv1 hv2 hv3
          subst hv1; subst hv3; clear hv2
          have hxa := HOK.out x (List.mem_of_getElem? hx)
          have hki : (k : Int) < acts.length := by omega
          have HSS : Hid (∀ w' Hs', Sat σ w' Hs' → H ∈ Hs' → (w'.cell? ⟨gb, off + k * 5 + 1, none⟩ = some (.int .i64 x.block) ∧ w'.cell? ⟨gb, off + k * 5 + 2, none⟩ = some (.int .i64 x.at_) ∧ w'.cell? ⟨gb, off + k * 5 + 4, none⟩ = some (.slice Au x.bytes.length cu))) := Lib.hid (fun w' Hs' h hm => ⟨h.cellAt hm e1, h.cellAt hm e2, h.cellAt hm e4⟩)
          have HW := Lib.hid (fun w' (h : Sat σ w' (M2 :: Hs)) => write_any x.block x.at_ (.slice Au x.bytes.length cu) x.bytes w' h hH hT5 hu hxa)
          clear e0 e1 e2 e3 e4 hx hs hu hT5
          go_wp2
          go_region_held3 (fun w' => w'.cell? ⟨gb, off + k * 5 + 1, none⟩ = some (.int .i64 x.block) ∧ w'.cell? ⟨gb, off + k * 5 + 2, none⟩ = some (.int .i64 x.at_) ∧ w'.cell? ⟨gb, off + k * 5 + 4, none⟩ = some (.slice Au x.bytes.length cu))
            (first | exact HSS.out _ _ hw5.drew (by simp [hH]) | exact HSS.out _ _ hw6 (by simp [hH]))
            (first | (go_at_call 12; refine (HW.out _ hw5.drew).mono ?_; rintro e w6 ⟨rfl, M3, hw6, hT6⟩))
          go_wp2
          go_roundw
          case measure => simp [intOf]; omega
          case rel => exact ⟨k + 1, M3, _, by omega, by go_num, hw6, hT6⟩
        · obtain rfl : k = acts.length := by omega
          clear hs
          by_cases hb : heldB (hK i i) again = true
          · obtain ⟨q, hqb, hq, hqt⟩ := heldB_lt hb
            subst hqb
            have HP := Lib.hid (put_any q wr hw5 hT5)
            rw [if_pos hb, if_pos hb, show ((q : Int)).toNat = q from rfl] at HP
            rw [hK_len (Nat.le_refl _)] at hq
            obtain ⟨hq1, hq2⟩ := least_back hq
            go_wp2_with fail
            refine HP.out.mono ?_
            rintro e w6 ⟨rfl, M3, hw6, hT6⟩
            have HG := Lib.hid (get_any w6 hw6 hT6 (by rw [hq1]; exact hq2) (hT _ [M3] hw6))
            rw [hq1] at HG
            have hl6 := hT6.len
            rw [List.length_set, hK_len (Nat.le_refl _)] at hl6
            have hroom : q * size + size ≤ mem2.length := by
              rw [hl6]
              have := Nat.mul_le_mul_right size hq
              rw [Nat.succ_mul] at this
              omega
            have HRS := Lib.hid (range_splice size mem2 (List.replicate size 0) q hroom (by simp))
            have HB : Hid (heldB ((((hK i i).set q false)).set q true) q = true) := Lib.hid (heldB_nat (by rw [List.getElem?_set, if_pos rfl, if_pos (by rw [List.length_set, hK_len (Nat.le_refl _)]; exact hq)]))
            have HM := Lib.hid (spliceL_length mem2 (q * size) (List.replicate size 0) (by simpa using hroom))
            clear hw5 hT5 HP hq1 hq2 hb hqt hq hl6 hroom hT6
            generalize ((hK i i).set q false).set q true = held' at *
            generalize spliceL mem2 (q * size) (List.replicate size 0) = mem3 at *
            go_wp2_with fail
            refine HG.out.mono ?_
            rintro e w7 ⟨rfl, M4, hw7, hT7⟩
            clear HG hw6
            have hsp : spanE size held' q 0 size = 0 := by unfold spanE; rw [HB.out]; simp
            have HR := Lib.hid (read_any q 0 size w7 hw7 (by simp) hT7 (by omega) (by omega))
            simp only [hsp, if_true, HRS.out] at HR
            go_wp2_with fail
            refine HR.out.mono ?_
            rintro e w8 ⟨vv, N, xs, rfl, hw8, ho8, rfl⟩
            have hv8 := ho8.isSl (d := kB) (reps_ints _) rfl (Hp.le_refl _)
            rw [List.length_replicate] at ho8
            obtain ⟨A8, c8, rfl, hc8, hc9⟩ := ho8.slice
            clear hsp HR hw7 hT7 ho8
            have hmk := make_bytes w8 size (by omega)
            have hw9 := hw8.alloc (.cells (ints .u8 (List.replicate size 0)).toArray 5)
            have hzs := zeros_sl w8.heap.size size 5 (0, 0) (by omega)
            generalize hzz : List.replicate size (0 : Int) = zz at *
            clear hzz
            generalize (ints .u8 zz).toArray = zc at *
            go_wp2_with (go_at_call 16; refine (sameB_any (H1 := N) (H2 := Hp.one w8.heap.size (.cells zc 5 (0, 0))) _ _ zz _ hw9 (by simp) (by simp) hv8 hzs).mono ?_; rintro e w10 ⟨rfl, hw10⟩)
            go_ret
            exact ⟨rfl, hw10.drop.drop.drop⟩
          · have HP := Lib.hid (put_any again wr hw5 hT5)
            rw [if_neg hb, if_neg hb] at HP
            clear hT5 hb
            go_wp2_with fail
            refine HP.out.mono ?_
            rintro e w6 ⟨rfl, M3, hw6, _⟩
            clear HP hw5
            go_wp2
            go_ret
            exact ⟨rfl, hw6.drop⟩
end
end Go.Proofs.YtebdgohkhadgpaaDoor
