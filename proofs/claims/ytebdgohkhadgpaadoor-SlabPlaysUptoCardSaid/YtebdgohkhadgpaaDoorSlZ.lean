/- Walk: SlabApart. -/
import Derived.Test.YtebdgohkhadgpaaDoorSlY
set_option linter.unusedVariables false
set_option linter.unusedSimpArgs false
namespace Go.Proofs.YtebdgohkhadgpaaDoor
open Go Go.RowKit
section
variable {σ w w' : World} {Hs : List Hp} {H M N : Hp}
/-- The byte that lies at place j of block q. -/
def byK (q j : Nat) : Int := (q : Int) + j
/-- The first c blocks are filled; of block c the first d bytes. -/
def FillP (size : Nat) (mem : List Int) (c d : Nat) : Prop := (∀ q j, q < c → j < size → mem[q * size + j]? = some (byK q j)) ∧ ∀ j, j < d → j < size → mem[c * size + j]? = some (byK c j)
theorem splice_get {mem ys : List Int} {off x : Nat} (h : off + ys.length ≤ mem.length) : (spliceL mem off ys)[x]? = if off ≤ x ∧ x < off + ys.length then ys[x - off]? else mem[x]? := by
  unfold spliceL
  by_cases h1 : x < off
  · rw [List.getElem?_append_left (by rw [List.length_take]; omega), List.getElem?_take, if_pos h1, if_neg (by omega)]
  · rw [List.getElem?_append_right (by rw [List.length_take]; omega), List.length_take, Nat.min_eq_left (by omega)]
    by_cases h2 : x - off < ys.length
    · rw [List.getElem?_append_left h2, if_pos (by omega)]
    · rw [List.getElem?_append_right (by omega), List.getElem?_drop, if_neg (by omega)]
      congr 1
      omega
theorem blk_lt {q c j size : Nat} (h : q < c) (hj : j < size) : q * size + j < c * size := by
  have := Nat.mul_le_mul_right size h
  rw [Nat.succ_mul] at this
  omega
theorem FillP.zero {size c : Nat} {mem ys : List Int} (h : FillP size mem c 0) (hy : ys.length = size) (hl : c * size + size ≤ mem.length) : FillP size (spliceL mem (c * size) ys) c 0 :=
  ⟨fun q j hq hj => by
    have := blk_lt hq hj
    rw [splice_get (by omega), if_neg (by omega)]
    exact h.1 q j hq hj, fun j hj => by omega⟩
theorem FillP.step {size c d : Nat} {mem : List Int} (h : FillP size mem c d) (hd : d < size) (hl : c * size + size ≤ mem.length) : FillP size (spliceL mem (c * size + d) [byK c d]) c (d + 1) :=
  ⟨fun q j hq hj => by
    have := blk_lt hq hj
    rw [splice_get (by simp; omega), if_neg (by simp; omega)]
    exact h.1 q j hq hj, fun j hj hs => by
    rw [splice_get (by simp; omega)]
    by_cases e : j = d
    · subst e
      rw [if_pos (by simp)]
      simp
    · rw [if_neg (by simp; omega)]
      exact h.2 j (by omega) hs⟩
theorem FillP.next {size c : Nat} {mem : List Int} (h : FillP size mem c size) : FillP size mem (c + 1) 0 :=
  ⟨fun q j hq hj => by
    by_cases e : q = c
    · subst e; exact h.2 j hj hj
    · exact h.1 q j (by omega) hj, fun j hj => by omega⟩
/-- What is read, when something was written: of the very block and range the new bytes, else the old ones. -/
theorem apart_law {size n0 c i j : Nat} {held : List Bool} {mem ys : List Int} {b a : Int} (h : FillP size mem c 0) (hl : mem.length = n0 * size) (hcn : c ≤ n0) (hhl : held.length = n0) (hi : i < c) (hj : j < size) :
    (rangeL size (wroteL size held mem b a ys) i 0 size)[j]? = if spanE size held b a ys.length = 0 ∧ b = i ∧ a ≤ j ∧ (j : Int) - a < ys.length then ys[((j : Int) - a).toNat]? else some (byK i j) := by
  unfold rangeL
  rw [List.getElem?_take, if_pos (by omega), List.getElem?_drop]
  simp only [Int.toNat_natCast, Int.toNat_zero, Nat.add_zero]
  unfold wroteL
  by_cases hs : spanE size held b a ys.length = 0
  · rw [if_pos hs]
    obtain ⟨k, a', n', rfl, rfl, hn, hk, _, ho⟩ := spanE_ok hs
    obtain rfl : n' = ys.length := by omega
    have hb1 := blk_lt (size := size) (show i < n0 by omega) hj
    have hkr : k * size + size ≤ n0 * size := by
      have := Nat.mul_le_mul_right size (show k + 1 ≤ n0 by omega)
      rw [Nat.succ_mul] at this; omega
    rw [show ((k : Int)).toNat = k from rfl, show ((a' : Int)).toNat = a' from rfl, splice_get (by omega)]
    by_cases e : k = i
    · subst e
      by_cases e2 : a' ≤ j ∧ j < a' + ys.length
      · rw [if_pos (by omega), if_pos (by omega)]
        congr 1
        omega
      · rw [if_neg (by omega), if_neg (by omega)]
        exact h.1 k j hi hj
    · have : ¬ (k * size + a' ≤ i * size + j ∧ i * size + j < k * size + a' + ys.length) := by
        rcases Nat.lt_or_gt_of_ne e with h1 | h1
        · have := Nat.mul_le_mul_right size h1
          rw [Nat.succ_mul] at this; omega
        · have := Nat.mul_le_mul_right size h1
          rw [Nat.succ_mul] at this; omega
      rw [if_neg this, if_neg (by omega)]
      exact h.1 i j hi hj
  · rw [if_neg hs, if_neg (fun h => hs h.1)]
    exact h.1 i j hi hj
theorem rangeL_len {size n0 i : Nat} {mem : List Int} (hl : mem.length = n0 * size) (hi : i < n0) : (rangeL size mem i 0 size).length = size := by
  unfold rangeL
  have := Nat.mul_le_mul_right size hi
  rw [Nat.succ_mul] at this
  simp only [List.length_take, List.length_drop, Int.toNat_natCast, Int.toNat_zero, hl]
  omega
theorem wroteL_len {size : Nat} {held : List Bool} {mem : List Int} {b a : Int} {ys : List Int} (hl : mem.length = held.length * size) : (wroteL size held mem b a ys).length = mem.length := by
  unfold wroteL
  split
  · rename_i hs
    obtain ⟨k, a', n', rfl, rfl, hn, hk, _, ho⟩ := spanE_ok hs
    have := Nat.mul_le_mul_right size hk
    rw [Nat.succ_mul] at this
    exact spliceL_length _ _ _ (by simp only [Int.toNat_natCast]; omega)
  · rfl
theorem spanE_held {size q a n : Nat} {held : List Bool} (h : held[q]? = some true) (ho : a + n ≤ size) : spanE size held q a n = 0 := by
  unfold spanE
  rw [heldB_nat h]
  simp
  omega
set_option maxHeartbeats 4000000
set_option maxRecDepth 10000
theorem apart_any (n s m : Int) (block at_ : Int) (v : Value) (ys : List Int) (w : World) (hw : Sat σ w Hs) (hH : H ∈ Hs) (hs : kB.IsSl H v ys) (hat : -9223372036854775808 ≤ at_ ∧ at_ ≤ 9223372036854775807) (hT : ∀ w' Hs', Sat σ w' (Hs' ++ Hs) → TabZ w') :
    Calls Tryd.prog 3 #[.int .i64 n, .int .i64 s, .int .i64 m, .int .i64 block, .int .i64 at_, v] w fun e w' => e = .returned (.bool true) ∧ Sat σ w' Hs := by
  obtain ⟨A, c, rfl, hc1, hc2, _⟩ := hs.form
  have hr := amongI_range n 20 (by omega)
  have hr2 := amongI_range s 64 (by omega)
  have hr3 := amongI_range m 20 (by omega)
  go_enter Tryd.func3, Tryd.ntmps3
  go_wp2_with fail
  refine (works_any w hw hT).mono ?_
  rintro e w1 ⟨rfl, hw1⟩
  go_wp2_with fail
  refine (among_any n 20 w1 (by omega) (by omega)).mono ?_
  rintro e w2 ⟨rfl, rfl⟩
  obtain ⟨n0, hn0⟩ : ∃ n0 : Nat, amongI n 20 = n0 := ⟨(amongI n 20).toNat, by omega⟩
  rw [hn0] at hr ⊢
  clear hn0
  go_wp2_with fail
  refine (among_any s 64 w1 (by omega) (by omega)).mono ?_
  rintro e w2 ⟨rfl, rfl⟩
  obtain ⟨size, hsz⟩ : ∃ n0 : Nat, amongI s 64 = n0 := ⟨(amongI s 64).toNat, by omega⟩
  rw [hsz] at hr2 ⊢
  clear hsz
  go_wp2_with fail
  have hmul : n0 * size ≤ 20 * 64 := Nat.mul_le_mul (by omega) (by omega)
  refine (new_any n0 size w1 hw1 (by omega) (by omega) (by omega)).mono ?_
  rintro e w2 ⟨g, M, A2, c2, rfl, hw2, hS⟩
  rw [← hK_zero] at hS
  clear hw hw1 w1
  generalize List.replicate (n0 * size) (0 : Int) = mem0 at *
  go_wp2_with fail
  refine (among_any m 20 w2 (by omega) (by omega)).mono ?_
  rintro e w3 ⟨rfl, rfl⟩
  obtain ⟨m0, hm0⟩ : ∃ n0 : Nat, amongI m 20 = n0 := ⟨(amongI m 20).toNat, by omega⟩
  rw [hm0] at hr3 ⊢
  clear hm0
  go_wp2
  go_loopw [15, 16, 17, 18] (fun i _ _ _ wr => ∃ (k c : Nat) (M : Hp) (mem : List Int), k ≤ m0 ∧ i = .int .i64 k ∧ Sat σ wr (M :: Hs) ∧ Slb M g size (hK n0 c) mem A2 c2 ∧ Eager (c = min k n0 ∧ FillP size mem c 0)) (fun i _ _ _ _ => m0 - (intOf i).toNat)
  case atStart => exact ⟨0, 0, M, mem0, by omega, rfl, hw2, hS, ⟨by omega, fun q j hq => by omega, fun j hj => by omega⟩⟩
  case round =>
    obtain ⟨k, cc, M1, mem, hk, rfl, hwr, hTr, hle⟩ := hrel
    clear hw2 hS
    have HF := Lib.hid hle.out
    clear hle
    by_cases hlt : k < m0
    · have hki : (k : Int) < m0 := by omega
      by_cases hfull : k < n0
      · obtain rfl : cc = k := by have := HF.out.1; omega
        have hll := least_hK (n := n0) (i := cc) (by omega)
        have hlen := hK_len (n := n0) (i := cc) (by omega)
        have HG := Lib.hid (get_any wr hwr hTr (by rw [hll, hlen]; exact hfull) (hT _ [M1] hwr))
        rw [hll, hK_set hfull] at HG
        have hl0 := hTr.len
        rw [hlen] at hl0
        have hroom : cc * size + size ≤ mem.length := by
          rw [hl0]
          have := Nat.mul_le_mul_right size hfull
          rw [Nat.succ_mul] at this; omega
        have HLEN := Lib.hid (And.intro hl0 hroom)
        have HF2 := Lib.hid (HF.out.2.zero (ys := List.replicate size 0) (by simp) hroom)
        have HL2 := Lib.hid (spliceL_length mem (cc * size) (List.replicate size 0) (by simpa using hroom))
        have HHT : Hid ((hK n0 (cc + 1))[cc]? = some true) := Lib.hid (by rw [hK_at hfull (by omega)]; simp)
        clear hll hlen hl0 hroom hTr HF
        generalize spliceL mem (cc * size) (List.replicate size 0) = mem1 at *
        obtain ⟨held1, hheld1⟩ : ∃ h, hK n0 (cc + 1) = h := ⟨_, rfl⟩
        rw [hheld1] at HG HHT
        have HHE := Lib.hid hheld1
        clear hheld1
        go_wp2_with fail
        refine HG.out.mono ?_
        rintro e w3 ⟨rfl, M4, hw3, hT4⟩
        clear hwr HG
        have hmk := make_bytes w3 size (by omega)
        have hzs := zeros_sl w3.heap.size size 5 (0, 0) (by omega)
        have hw4 := (hw3.alloc (.cells (ints .u8 (List.replicate size 0)).toArray 5)).swap
        have hsp : spanE size held1 (cc : Int) 0 (size : Int) = 0 := spanE_held (size := size) (q := cc) (a := 0) (n := size) HHT.out (by omega)
        have HW := Lib.hid (write_any cc 0 _ (List.replicate size 0) _ hw4 (by simp) hT4 hzs (by omega))
        have hwz : wroteL size held1 mem1 cc 0 (List.replicate size 0) = spliceL mem1 (cc * size) (List.replicate size 0) := by
          unfold wroteL
          rw [List.length_replicate, if_pos hsp]
          simp
        rw [List.length_replicate, hwz, show spanE size held1 cc 0 size = 0 from hsp] at HW
        have HF3 := Lib.hid (HF2.out.zero (ys := List.replicate size 0) (by simp) (by rw [HL2.out]; exact HLEN.out.2))
        have HL3 := Lib.hid (spliceL_length mem1 (cc * size) (List.replicate size 0) (by rw [HL2.out]; simpa using HLEN.out.2))
        clear HF2 hwz hsp hT4 hzs
        generalize spliceL mem1 (cc * size) (List.replicate size 0) = mem2 at *
        generalize (ints .u8 (List.replicate size 0)).toArray = zc at *
        go_wp2_with (go_at_call 12; refine HW.out.mono ?_; rintro e w5 ⟨rfl, M5, hw5, hT5⟩)
        have hw5 := hw5.drop1
        clear hmk hw4 HW hw3
        go_wp2
        rename World => w9
        go_loopw [18] (fun j wi => ∃ (q : Nat) (M : Hp) (mem : List Int), q ≤ size ∧ j = .int .i64 q ∧ Sat σ wi (M :: Hs) ∧ Slb M g size held1 mem A2 c2 ∧ Eager (FillP size mem cc q ∧ mem.length = mem2.length)) (fun j _ => size - (intOf j).toNat)
        case atStart => exact ⟨0, M5, mem2, by omega, rfl, hw5, hT5, ⟨HF3.out, rfl⟩⟩
        case round =>
          obtain ⟨q, M6, mem3, hq, rfl, hw6, hT6, hle⟩ := hrel
          have HF := Lib.hid hle.out
          clear hle hw5 hT5
          by_cases hqs : q < size
          · have hqi : (q : Int) < size := by omega
            have hwa := (hw6.alloc (.cells #[.int .u8 (byK cc q)] 5 (0, 0))).swap
            have hl1 := lit_sl wr.heap.size [byK cc q] 5 (0, 0) (by simp)
            have hsp : spanE size held1 (cc : Int) (q : Int) 1 = 0 := spanE_held (size := size) (q := cc) (a := q) (n := 1) HHT.out (by omega)
            have HW := Lib.hid (write_any cc q _ [byK cc q] _ hwa (List.mem_cons_self) hT6 hl1 (by omega))
            have hwq : wroteL size held1 mem3 cc q [byK cc q] = spliceL mem3 (cc * size + q) [byK cc q] := by
              unfold wroteL
              rw [show (([byK cc q].length : Nat) : Int) = 1 from rfl, if_pos hsp]
              simp
            rw [hwq, show (([byK cc q].length : Nat) : Int) = 1 from rfl, hsp] at HW
            have hr6 : cc * size + size ≤ mem3.length := by have := HLEN.out.2; have := HL2.out; have := HL3.out; have := HF.out.2; omega
            have HF4 := Lib.hid (HF.out.1.step hqs hr6)
            have HL4 := Lib.hid (spliceL_length mem3 (cc * size + q) [byK cc q] (by simp; omega))
            have HLQ := Lib.hid HF.out.2
            clear hsp hwq hr6 HF hl1 hT6
            unfold byK at HW hwa
            go_wp2_with (go_at_call 12; refine HW.out.mono ?_; rintro e w5 ⟨rfl, M5, hw5, hT5⟩)
            go_roundw
            case measure => simp [intOf]; omega
            case rel => exact ⟨q + 1, M5, _, by omega, by go_num, hw5.drop1, hT5, ⟨HF4.out, by rw [← HLQ.out]; exact HL4.out⟩⟩
          · obtain rfl : q = size := by omega
            have HF9 := Lib.hid (HF.out.1.next)
            clear HF
            go_wp2
            go_roundw
            case measure => simp [intOf]; omega
            case rel => exact ⟨cc + 1, cc + 1, M6, mem3, by omega, by go_num, hw6, by rw [HHE.out]; exact hT6, ⟨by omega, HF9.out⟩⟩
      · obtain rfl : cc = n0 := by have := HF.out.1; omega
        have hll := least_hK (n := cc) (i := cc) (by omega)
        have hlen := hK_len (n := cc) (i := cc) (by omega)
        have HG := Lib.hid (get_full wr hwr (by simp) hTr (by rw [hll, hlen]))
        clear hll hlen
        go_wp2_with fail
        refine HG.out.mono ?_
        rintro e w3 ⟨rfl, rfl⟩
        clear HG
        rename World => w9
        go_wp2
        go_loopw [18] (fun j wi => j = .int .i64 0 ∧ wi = w9) (fun _ _ => 0)
        case atStart => exact ⟨rfl, rfl⟩
        case round =>
          obtain ⟨rfl, rfl⟩ := hrel
          go_wp2
          go_roundw
          case measure => simp [intOf]; omega
          case rel => exact ⟨k + 1, cc, M1, mem, by omega, by go_num, hwr, hTr, ⟨by omega, HF.out.2⟩⟩
    · obtain rfl : k = m0 := by omega
      have hcm := HF.out.1
      have hcn : cc ≤ n0 := by omega
      have hck : cc ≤ k := by omega
      have hl0 := hTr.len
      rw [hK_len hcn] at hl0
      have HLAW := Lib.hid (fun (i j : Nat) (hi : i < cc) (hj : j < size) => apart_law (b := block) (a := at_) (ys := ys) (held := hK n0 cc) HF.out.2 hl0 hcn (hK_len hcn) hi hj)
      have HRL := Lib.hid (fun (i : Nat) (hi : i < cc) => rangeL_len (size := size) (n0 := n0) (i := i) (mem := wroteL size (hK n0 cc) mem block at_ ys) (by rw [wroteL_len (by rw [hK_len hcn]; exact hl0)]; exact hl0) (by omega))
      have HSP : Hid (∀ i : Nat, i < cc → spanE size (hK n0 cc) (i : Int) 0 (size : Int) = 0) := Lib.hid (fun (i : Nat) (hi : i < cc) => spanE_held (size := size) (q := i) (a := 0) (n := size) (held := hK n0 cc) (by rw [hK_at (by omega) hcn]; simp [hi]) (by omega))
      have HSE := Lib.hid (fun h0 : spanE size (hK n0 cc) block at_ ys.length = 0 => spanE_ok h0)
      have HCM := Lib.hid hcm
      have HW := Lib.hid (write_any block at_ (.slice A ys.length c) ys wr hwr hH hTr hs hat)
      clear hcm hl0 HF hTr
      obtain ⟨held1, hheld1⟩ : ∃ h, hK n0 cc = h := ⟨_, rfl⟩
      rw [hheld1] at HLAW HRL HSP HSE HW
      clear hheld1
      generalize wroteL size held1 mem block at_ ys = mem1 at *
      go_wp2_with fail
      refine HW.out.mono ?_
      rintro e w3 ⟨rfl, M4, hw3, hT4⟩
      clear HW hwr
      generalize hse : spanE size held1 block at_ ys.length = se at *
      clear hse
      rename World => w9
      go_wp2
      go_loopw [19, 20, 21, 22, 23] (fun i _ _ _ _ wr => ∃ (q : Nat), q ≤ cc ∧ i = .int .i64 q ∧ Sat σ wr (M4 :: Hs)) (fun i _ _ _ _ _ => cc - (intOf i).toNat)
      case atStart => exact ⟨0, by omega, rfl, hw3⟩
      case round =>
        obtain ⟨q, hq, rfl, hw4⟩ := hrel
        clear hw3
        by_cases hmn : k ≤ n0
        · have hmi : ¬ (n0 : Int) < k := by omega
          obtain rfl : cc = k := by have := HCM.out; omega
          by_cases hqc : q < cc
          · have hqi : (q : Int) < cc := by omega
            have hsp := HSP.out q hqc
            have hrl := HRL.out q hqc
            have HLQ := Lib.hid (fun j hj => HLAW.out q j hqc hj)
            have HR := Lib.hid (read_any q 0 size wr hw4 (by simp) hT4 (by omega) (by omega))
            rw [hsp, if_pos rfl] at HR
            generalize rangeL size mem1 q 0 size = rl at *
            have hrl' := hrl
            clear hsp hrl HLAW HRL HSP
            go_wp2_with fail
            refine HR.out.mono ?_
            rintro e w5 ⟨vv, N, xs, rfl, hw5, ho5, rfl⟩
            have hv5 := ho5.isSl (d := kB) (reps_ints _) rfl (Hp.le_refl _)
            rw [hrl'] at ho5
            obtain ⟨A8, c8, rfl, hc8, hc9⟩ := ho5.slice
            have HV := Lib.hid hv5
            clear hw4 HR ho5 hv5
            go_wp2
            go_loopw [22, 23] (fun j _ wr => ∃ (p : Nat), p ≤ size ∧ j = .int .i64 p ∧ Sat σ wr (N :: M4 :: Hs)) (fun j _ _ => size - (intOf j).toNat)
            case atStart => exact ⟨0, by omega, rfl, hw5⟩
            case round =>
              obtain ⟨p, hp, rfl, hw6⟩ := hrel
              clear hw5
              by_cases hps : p < size
              · have hpi : (p : Int) < size := by omega
                obtain ⟨b8, o8, c8', x, hx, hv, hcell⟩ := byte_get HV.out (k := p) (by omega)
                injection hv with hv1 hv2 hv3
                subst hv1; subst hv3; clear hv2
                have cx := hw6.cellAt (by simp) hcell
                have hbl := World.block_lt_of_cell? wr _ cx
                have hl := HLQ.out p hps
                rw [hx] at hl
                have HIF := Lib.hid hl
                clear hl hx hcell
                by_cases h0 : se = 0
                · obtain ⟨kb, a', n', rfl, rfl, hn', _, _, ho'⟩ := HSE.out h0
                  subst h0
                  by_cases h1 : q = kb
                  · subst h1
                    by_cases h2 : a' ≤ p
                    · have h2i : (a' : Int) ≤ p := by omega
                      have hwr' : IntKind.i64.wrap ((p : Int) - a') = (p : Int) - a' := IntWalk.i64_in _ (by omega)
                      by_cases h3 : (p : Int) - a' < ys.length
                      · obtain ⟨b9, o9, c9', y, hy, hv, hcell⟩ := byte_get hs (k := p - a') (by omega)
                        injection hv with hv1 hv2 hv3
                        subst hv1; subst hv3; clear hv2
                        have hxy : x = y := by
                          have := HIF.out
                          rw [if_pos ⟨rfl, rfl, h2i, h3⟩, show ((p : Int) - a').toNat = p - a' by omega, hy] at this
                          exact Option.some.inj this
                        subst hxy
                        have cy := hw6.cellAt (by simp [hH]) hcell
                        have hbl9 := World.block_lt_of_cell? wr _ cy
                        obtain ⟨d, hd⟩ : ∃ d : Nat, p = a' + d := ⟨p - a', by omega⟩
                        have hpd : (p : Int) - a' = d := by omega
                        have hpd2 : p - a' = d := by omega
                        rw [hpd] at hwr' h3
                        rw [hpd2] at cy
                        clear hcell hy hd hpd2
                        clear hn' ho'
                        clear HIF
                        go_wp2
                        go_quiet (fail)
                        go_wp2
                        go_roundw
                        case measure => simp [intOf]; omega
                        case rel => exact ⟨p + 1, by omega, by go_num, hw6.drewN _⟩
                      · have hxv : x = (q : Int) + p := by
                          have := HIF.out
                          rw [if_neg (fun h => h3 h.2.2.2)] at this
                          exact Option.some.inj this
                        subst hxv
                        have hd3 : decide ((p : Int) - a' < ys.length) = false := decide_eq_false h3
                        clear hn' ho' h3
                        clear HIF
                        go_wp2
                        go_quiet (fail)
                        go_wp2
                        go_roundw
                        case measure => simp [intOf]; omega
                        case rel => exact ⟨p + 1, by omega, by go_num, hw6.drewN _⟩
                    · have h2i : ¬ (a' : Int) ≤ p := by omega
                      have hxv : x = (q : Int) + p := by
                        have := HIF.out
                        rw [if_neg (fun h => h2i h.2.2.1)] at this
                        exact Option.some.inj this
                      subst hxv
                      clear hn' ho'
                      clear HIF
                      go_wp2
                      go_quiet (fail)
                      go_wp2
                      go_roundw
                      case measure => simp [intOf]; omega
                      case rel => exact ⟨p + 1, by omega, by go_num, hw6.drewN _⟩
                  · have h1i : ((q : Int) == kb) = false := by simp; omega
                    have hxv : x = (q : Int) + p := by
                      have := HIF.out
                      rw [if_neg (fun h => h1 (by omega))] at this
                      exact Option.some.inj this
                    subst hxv
                    clear hn' ho'
                    clear HIF
                    go_wp2
                    go_quiet (fail)
                    go_wp2
                    go_roundw
                    case measure => simp [intOf]; omega
                    case rel => exact ⟨p + 1, by omega, by go_num, hw6.drewN _⟩
                · have h0i : (se == 0) = false := by simpa using h0
                  have hxv : x = (q : Int) + p := by
                    have := HIF.out
                    rw [if_neg (fun h => h0 h.1)] at this
                    exact Option.some.inj this
                  subst hxv
                  clear HIF
                  go_wp2
                  go_quiet (fail)
                  go_wp2
                  go_roundw
                  case measure => simp [intOf]; omega
                  case rel => exact ⟨p + 1, by omega, by go_num, hw6.drewN _⟩
              · obtain rfl : p = size := by omega
                go_wp2
                go_roundw
                case measure => simp [intOf]; omega
                case rel => exact ⟨q + 1, by omega, by go_num, hw6.drop⟩
          · obtain rfl : q = cc := by omega
            go_wp2
            go_ret
            exact ⟨rfl, hw4.drop⟩
        · have hmi : (n0 : Int) < k := by omega
          obtain rfl : cc = n0 := by have := HCM.out; omega
          by_cases hqc : q < cc
          · have hqi : (q : Int) < cc := by omega
            have hsp := HSP.out q hqc
            have hrl := HRL.out q hqc
            have HLQ := Lib.hid (fun j hj => HLAW.out q j hqc hj)
            have HR := Lib.hid (read_any q 0 size wr hw4 (by simp) hT4 (by omega) (by omega))
            rw [hsp, if_pos rfl] at HR
            generalize rangeL size mem1 q 0 size = rl at *
            have hrl' := hrl
            clear hsp hrl HLAW HRL HSP
            go_wp2_with fail
            refine HR.out.mono ?_
            rintro e w5 ⟨vv, N, xs, rfl, hw5, ho5, rfl⟩
            have hv5 := ho5.isSl (d := kB) (reps_ints _) rfl (Hp.le_refl _)
            rw [hrl'] at ho5
            obtain ⟨A8, c8, rfl, hc8, hc9⟩ := ho5.slice
            have HV := Lib.hid hv5
            clear hw4 HR ho5 hv5
            go_wp2
            go_loopw [22, 23] (fun j _ wr => ∃ (p : Nat), p ≤ size ∧ j = .int .i64 p ∧ Sat σ wr (N :: M4 :: Hs)) (fun j _ _ => size - (intOf j).toNat)
            case atStart => exact ⟨0, by omega, rfl, hw5⟩
            case round =>
              obtain ⟨p, hp, rfl, hw6⟩ := hrel
              clear hw5
              by_cases hps : p < size
              · have hpi : (p : Int) < size := by omega
                obtain ⟨b8, o8, c8', x, hx, hv, hcell⟩ := byte_get HV.out (k := p) (by omega)
                injection hv with hv1 hv2 hv3
                subst hv1; subst hv3; clear hv2
                have cx := hw6.cellAt (by simp) hcell
                have hbl := World.block_lt_of_cell? wr _ cx
                have hl := HLQ.out p hps
                rw [hx] at hl
                have HIF := Lib.hid hl
                clear hl hx hcell
                by_cases h0 : se = 0
                · obtain ⟨kb, a', n', rfl, rfl, hn', _, _, ho'⟩ := HSE.out h0
                  subst h0
                  by_cases h1 : q = kb
                  · subst h1
                    by_cases h2 : a' ≤ p
                    · have h2i : (a' : Int) ≤ p := by omega
                      have hwr' : IntKind.i64.wrap ((p : Int) - a') = (p : Int) - a' := IntWalk.i64_in _ (by omega)
                      by_cases h3 : (p : Int) - a' < ys.length
                      · obtain ⟨b9, o9, c9', y, hy, hv, hcell⟩ := byte_get hs (k := p - a') (by omega)
                        injection hv with hv1 hv2 hv3
                        subst hv1; subst hv3; clear hv2
                        have hxy : x = y := by
                          have := HIF.out
                          rw [if_pos ⟨rfl, rfl, h2i, h3⟩, show ((p : Int) - a').toNat = p - a' by omega, hy] at this
                          exact Option.some.inj this
                        subst hxy
                        have cy := hw6.cellAt (by simp [hH]) hcell
                        have hbl9 := World.block_lt_of_cell? wr _ cy
                        obtain ⟨d, hd⟩ : ∃ d : Nat, p = a' + d := ⟨p - a', by omega⟩
                        have hpd : (p : Int) - a' = d := by omega
                        have hpd2 : p - a' = d := by omega
                        rw [hpd] at hwr' h3
                        rw [hpd2] at cy
                        clear hcell hy hd hpd2
                        clear hn' ho'
                        clear HIF
                        go_wp2
                        go_quiet (fail)
                        go_wp2
                        go_roundw
                        case measure => simp [intOf]; omega
                        case rel => exact ⟨p + 1, by omega, by go_num, hw6.drewN _⟩
                      · have hxv : x = (q : Int) + p := by
                          have := HIF.out
                          rw [if_neg (fun h => h3 h.2.2.2)] at this
                          exact Option.some.inj this
                        subst hxv
                        have hd3 : decide ((p : Int) - a' < ys.length) = false := decide_eq_false h3
                        clear hn' ho' h3
                        clear HIF
                        go_wp2
                        go_quiet (fail)
                        go_wp2
                        go_roundw
                        case measure => simp [intOf]; omega
                        case rel => exact ⟨p + 1, by omega, by go_num, hw6.drewN _⟩
                    · have h2i : ¬ (a' : Int) ≤ p := by omega
                      have hxv : x = (q : Int) + p := by
                        have := HIF.out
                        rw [if_neg (fun h => h2i h.2.2.1)] at this
                        exact Option.some.inj this
                      subst hxv
                      clear hn' ho'
                      clear HIF
                      go_wp2
                      go_quiet (fail)
                      go_wp2
                      go_roundw
                      case measure => simp [intOf]; omega
                      case rel => exact ⟨p + 1, by omega, by go_num, hw6.drewN _⟩
                  · have h1i : ((q : Int) == kb) = false := by simp; omega
                    have hxv : x = (q : Int) + p := by
                      have := HIF.out
                      rw [if_neg (fun h => h1 (by omega))] at this
                      exact Option.some.inj this
                    subst hxv
                    clear hn' ho'
                    clear HIF
                    go_wp2
                    go_quiet (fail)
                    go_wp2
                    go_roundw
                    case measure => simp [intOf]; omega
                    case rel => exact ⟨p + 1, by omega, by go_num, hw6.drewN _⟩
                · have h0i : (se == 0) = false := by simpa using h0
                  have hxv : x = (q : Int) + p := by
                    have := HIF.out
                    rw [if_neg (fun h => h0 h.1)] at this
                    exact Option.some.inj this
                  subst hxv
                  clear HIF
                  go_wp2
                  go_quiet (fail)
                  go_wp2
                  go_roundw
                  case measure => simp [intOf]; omega
                  case rel => exact ⟨p + 1, by omega, by go_num, hw6.drewN _⟩
              · obtain rfl : p = size := by omega
                go_wp2
                go_roundw
                case measure => simp [intOf]; omega
                case rel => exact ⟨q + 1, by omega, by go_num, hw6.drop⟩
          · obtain rfl : q = cc := by omega
            go_wp2
            go_ret
            exact ⟨rfl, hw4.drop⟩
end
end Go.Proofs.YtebdgohkhadgpaaDoor
