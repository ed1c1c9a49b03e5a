/- Walk: SlabCounts. -/
import Derived.Test.YtebdgohkhadgpaaDoorSlU
import Derived.Test.YtebdgohkhadgpaaDoorSlW
set_option linter.unusedVariables false
set_option linter.unusedSimpArgs false
namespace Go.Proofs.YtebdgohkhadgpaaDoor
open Go Go.RowKit
section
variable {σ w w' : World} {Hs : List Hp} {H M N : Hp}
theorem own_one {e : TypeId} {b n : Nat} {cells : List Value} (h : Own N e 1 (.slice (some ⟨b, 0, none⟩) n n) n cells) : N b = some (.cells cells.toArray e (0, 0)) := by
  rcases h.out.2 with ⟨e1, _⟩ | ⟨g, cap, cur, e1, hg, h1, h2, h3, h4⟩
  · cases e1
  · injection e1 with e1 e2 e3
    injection e1 with e1
    injection e1 with e1 e4 e5
    subst e1; subst e3
    rw [List.take_of_length_le (by simp; omega)] at h4
    rw [hg, ← h4]
theorem Sat.own_one {e : TypeId} {b n : Nat} {cells : List Value} (hw : Sat σ w (N :: Hs)) (h : Own N e 1 (.slice (some ⟨b, 0, none⟩) n n) n cells) : Sat σ w (Hp.one b (.cells cells.toArray e (0, 0)) :: Hs) :=
  hw.mono fun k o hk => by
    obtain ⟨rfl, rfl⟩ := Hp.one_some hk
    exact Go.Proofs.YtebdgohkhadgpaaDoor.own_one h
/-- A list of bools in cells. -/
def blV (held : List Bool) : Array Value := (held.map Value.bool).toArray
theorem blV_get {held : List Bool} {q : Nat} {x : Bool} (h : held[q]? = some x) : (blV held)[q]? = some (.bool x) := by unfold blV; simp [h]
theorem blV_set (held : List Bool) (q : Nat) (x : Bool) : (blV held).setIfInBounds q (.bool x) = blV (held.set q x) := by unfold blV; simp [List.map_set]
theorem made_bools (p : Nat) : (madeCells (Value.bool false).cells (p * 1)).toList = (List.replicate p false).map Value.bool := by
  apply List.ext_getElem?
  intro i
  simp only [madeCells, Array.toList_map, Array.toList_range, List.getElem?_map, List.getElem?_replicate, List.getElem?_range, Nat.mul_one]
  by_cases h : i < p
  · rw [if_pos h, List.getElem?_range h]
    have : i % (Value.bool false).cells.size = 0 := Nat.mod_one i
    simp only [Option.map_some, this]
    rfl
  · rw [if_neg h, List.getElem?_eq_none (by simp; omega)]
    rfl
set_option maxHeartbeats 4000000
set_option maxRecDepth 10000
theorem counts_any (n : Int) (v : Value) (acts : List ActT) (w : World) (hw : Sat σ w Hs) (hH : H ∈ Hs) (hs : kAct.IsSl H v acts) (hT : ∀ w' Hs', Sat σ w' (Hs' ++ Hs) → TabZ w') :
    Calls Tryd.prog 5 #[.int .i64 n, v] w fun e w' => e = .returned (.bool true) ∧ Sat σ w' Hs := by
  obtain ⟨A, c, rfl, hc1, hc2, _⟩ := hs.form
  have hr := amongI_range n 30 (by omega)
  go_enter Tryd.func5, Tryd.ntmps5
  go_wp2_with fail
  refine (works_any w hw hT).mono ?_
  rintro e w1 ⟨rfl, hw1⟩
  go_wp2_with fail
  refine (among_any n 30 w1 (by omega) (by omega)).mono ?_
  rintro e w2 ⟨rfl, rfl⟩
  obtain ⟨n0, hn0⟩ : ∃ n0 : Nat, amongI n 30 = n0 := ⟨(amongI n 30).toNat, by omega⟩
  rw [hn0] at hr ⊢
  clear hn0
  go_wp2_with fail
  refine (new_any n0 1 w1 hw1 (by omega) (by omega) (by omega)).mono ?_
  rintro e w2 ⟨g, M, A2, c2, rfl, hw2, hS⟩
  clear hw hw1 w1
  go_wp2_with (refine wpList_mk hw2 rfl (.tmp 30) (.tmp 30) 42 4 (.bool false) 1 1 rfl Tryd.underlying42 (by kernel_rfl) .i64 .i64 n0 rfl rfl (by omega) (by omega) ?_; intro hb w3 N hb1 hw3 ho1 hN1)
  rw [made_bools] at ho1
  have hw4 := (hw3.own_one ho1).swap
  have hcnt : (List.replicate n0 false).count true = 0 := by simp [List.count_replicate]
  have hlen : (List.replicate n0 false).length = n0 := List.length_replicate
  change Sat σ w3 (M :: Hp.one hb (.cells (blV (List.replicate n0 false)) 4 (0, 0)) :: Hs) at hw4
  generalize List.replicate n0 false = held0 at *
  generalize List.replicate (n0 * 1) (0 : Int) = mem0 at *
  clear hw3 hw2 hN1 hb1 ho1
  go_wp2
  go_loopw [9, 8, 10, 11, 12, 13, 14] (fun i u _ _ _ _ _ wr => ∃ (k : Nat) (M : Hp) (held : List Bool) (mem : List Int), k ≤ acts.length ∧ i = .int .i64 k ∧ u = .int .i64 (held.count true : Nat) ∧ Sat σ wr (M :: Hp.one hb (.cells (blV held) 4 (0, 0)) :: Hs) ∧ Slb M g 1 held mem A2 c2 ∧ Eager (held.length = n0)) (fun i _ _ _ _ _ _ _ => acts.length - (intOf i).toNat)
  case atStart => exact ⟨0, M, held0, mem0, by omega, rfl, by rw [hcnt]; rfl, hw4, hS, ⟨hlen⟩⟩
  case round =>
    obtain ⟨k, M1, held, mem, hk, rfl, rfl, hwr, hTr, hle⟩ := hrel
    clear hw4 hS hcnt hlen
    have HLE := Lib.hid hle.out
    clear hle
    have hcl : held.count true ≤ n0 := HLE.out ▸ List.count_le_length
    by_cases hlt : k < acts.length
    · obtain ⟨gb, off, c', Au, cu, x, hx, hv, e0, e1, e2, e3, e4, hu⟩ := act_get hs hlt
      injection hv with hv1 hv2 hv3
      subst hv1; subst hv3; clear hv2
      have hHM : H ∈ M1 :: Hp.one hb (.cells (blV held) 4 (0, 0)) :: Hs := by simp [hH]
      have c0 := hwr.cellAt hHM e0; have c1 := hwr.cellAt hHM e1
      have hgl : gb < wr.heap.size := World.block_lt_of_cell? wr _ c0
      have hbl : hb < wr.heap.size := hwr.swap.one_lt
      have hki : (k : Int) < acts.length := by omega
      have HCB : Hid (∀ q x, held[q]? = some x → wr.cell? ⟨hb, q, none⟩ = some (.bool x)) := Lib.hid fun q x h => hwr.swap.one_cell (blV_get h)
      have HLL := Lib.hid (least_le held)
      clear e0 e1 e2 e3 e4 hx hs hu
      go_wp2_with fail
      refine (among_any _ 3 _ (by omega) (by omega)).mono ?_
      rintro e w2 ⟨rfl, rfl⟩
      by_cases hkind : 0 < amongI x.kind 3
      · clear c0 c1
        have hll : least held ≤ n0 := HLE.out ▸ HLL.out
        rename World => w9
        go_wp2
        go_loopw [10] (fun l wi => ∃ q : Nat, q ≤ least held ∧ l = .int .i64 q ∧ wi = w9) (fun l _ => n0 - (intOf l).toNat)
        case atStart => exact ⟨0, by omega, rfl, rfl⟩
        case round =>
          obtain ⟨q, hq, rfl, _⟩ := hrel
          by_cases hql : q < least held
          · have cq := HCB.out q true (by
              have h1 := least_not hql
              unfold freeAt at h1
              have h2 : q < held.length := by have := HLL.out; omega
              rw [List.getElem?_eq_getElem h2] at h1 ⊢
              cases hx : held[q] <;> simp_all)
            have hqn : (q : Int) < n0 := by omega
            go_wp2
            go_roundw
            case measure => simp [intOf]; omega
            case rel => exact ⟨q + 1, by omega, by go_num, trivial⟩
          · obtain rfl : q = least held := by omega
            by_cases hfull : least held = n0
            · have HG := Lib.hid (get_full w9 hwr (by simp) hTr (by rw [HLE.out]; exact hfull))
              rw [hfull]
              clear hql hq hll HCB
              go_wp2_with fail
              refine HG.out.mono ?_
              rintro e w3 ⟨rfl, rfl⟩
              have hT4 := hTr; have hw4 := hwr; have hhl := HLE.out
              have HCC : Hid (((held.count true : Nat) : Int) = (held.count true : Nat)) := Lib.hid rfl
              go_wp2_with fail
              refine (used_any _ hw4 (by simp) hT4).mono ?_
              rintro e w5 ⟨rfl, rfl⟩
              try rw [HCC.out]
              go_wp2
              go_roundw
              case measure => simp [intOf]; omega
              case rel => exact ⟨k + 1, _, _, _, by omega, by go_num, by first | rfl | (rw [HCC.out]), hw4, hT4, ⟨hhl⟩⟩
            · have hlt' : least held < held.length := by have := HLE.out; omega
              have hfree := least_free hlt'
              have HG := Lib.hid (get_any w9 hwr hTr hlt' (hT _ [M1, Hp.one hb (.cells (blV held) 4 (0, 0))] hwr))
              have HF : Hid (held[least held]? = some false) := Lib.hid (by unfold freeAt at hfree; simpa using hfree)
              have cq := HCB.out (least held) false HF.out
              have hqn : ((least held : Nat) : Int) < n0 := by omega
              have HSET := Lib.hid (blV_set held (least held) true)
              have HCT := Lib.hid (count_set_true (held := held) (b := least held) HF.out)
              have HLS : Hid ((held.set (least held) true).length = n0) := Lib.hid (by rw [List.length_set]; exact HLE.out)
              clear hql hq hll hfull hlt' hfree HCB
              generalize held.set (least held) true = held' at *
              generalize least held = ls at *
              go_wp2_with fail
              clear cq
              refine HG.out.mono ?_
              rintro e w3 ⟨rfl, M4, hw3, hT4⟩
              have hbl3 : hb < w3.heap.size := hw3.swap.one_lt
              have hc3 := hw3.swap.one_cell (blV_get HF.out)
              have hf3 := heap_free (hw3.swap.le hb _ (Hp.one_self _ _)) ls
              have hw4 := (hw3.swap.set (o := ls) (.bool true)).swap
              rw [HSET.out] at hw4
              have hhl := HLS.out
              clear hwr hw3 hTr hHM hgl hbl HG
              have HCC : Hid (((held'.count true : Nat) : Int) = (held.count true : Nat) + 1) := Lib.hid (by rw [HCT.out]; rfl)
              have hcc2 : ((held.count true : Nat) : Int) + 1 ≤ n0 := by have := HCC.out; have := List.count_le_length (a := true) (l := held'); omega
              go_wp2_with fail
              refine (used_any _ hw4 (by simp) hT4).mono ?_
              rintro e w5 ⟨rfl, rfl⟩
              try rw [HCC.out]
              go_wp2
              go_roundw
              case measure => simp [intOf]; omega
              case rel => exact ⟨k + 1, _, _, _, by omega, by go_num, by first | rfl | (rw [HCC.out]), hw4, hT4, ⟨hhl⟩⟩
      · have hkz : ¬ (0 < amongI x.kind 3) := hkind
        rename World => w9
        by_cases hh : heldB held x.block = true
        · obtain ⟨q, hqb, hq, hqt⟩ := heldB_lt hh
          have HP := Lib.hid (put_any x.block w9 hwr hTr)
          rw [if_pos hh, if_pos hh] at HP
          rw [hqb] at HP c1
          have cq := HCB.out q true hqt
          have hqn : (q : Int) < n0 := by have := HLE.out; omega
          have HSET := Lib.hid (blV_set held q false)
          have HCT := Lib.hid (count_set (held := held) (b := q) hqt)
          have HLS : Hid ((held.set q false).length = n0) := Lib.hid (by rw [List.length_set]; exact HLE.out)
          have HQT := Lib.hid hqt
          rw [show ((q : Int)).toNat = q from rfl] at HP
          clear c0 hkind hh hqb hq hqt HCB
          generalize held.set q false = held' at *
          go_wp2_with fail
          clear cq c1
          refine HP.out.mono ?_
          rintro e w3 ⟨rfl, M4, hw3, hT4⟩
          have hbl3 : hb < w3.heap.size := hw3.swap.one_lt
          have hc3 := hw3.swap.one_cell (blV_get HQT.out)
          have hf3 := heap_free (hw3.swap.le hb _ (Hp.one_self _ _)) q
          have hw4 := (hw3.swap.set (o := q) (.bool false)).swap
          rw [HSET.out] at hw4
          have hhl := HLS.out
          have HCC : Hid (((held'.count true : Nat) : Int) = (held.count true : Nat) - 1) := Lib.hid (by have := HCT.out; omega)
          have hcc2 : ¬ ((held.count true : Nat) : Int) - 1 < 0 := by have := HCC.out; omega
          clear hwr hw3 hTr hHM hgl hbl HP
          go_wp2_with fail
          refine (used_any _ hw4 (by simp) hT4).mono ?_
          rintro e w5 ⟨rfl, rfl⟩
          try rw [HCC.out]
          go_wp2
          go_roundw
          case measure => simp [intOf]; omega
          case rel => exact ⟨k + 1, _, _, _, by omega, by go_num, by first | rfl | (rw [HCC.out]), hw4, hT4, ⟨hhl⟩⟩
        · have HP := Lib.hid (put_any x.block w9 hwr hTr)
          rw [if_neg hh, if_neg hh] at HP
          by_cases hn1 : x.block < 0
          · clear hh c0 hkind HCB
            go_wp2_with fail
            clear c1
            refine HP.out.mono ?_
            rintro e w3 ⟨rfl, M4, hw4, hT4⟩
            have hhl := HLE.out
            have HCC : Hid (((held.count true : Nat) : Int) = (held.count true : Nat)) := Lib.hid rfl
            clear hwr hTr hHM hgl hbl HP
            go_wp2_with fail
            refine (used_any _ hw4 (by simp) hT4).mono ?_
            rintro e w5 ⟨rfl, rfl⟩
            try rw [HCC.out]
            go_wp2
            go_roundw
            case measure => simp [intOf]; omega
            case rel => exact ⟨k + 1, _, _, _, by omega, by go_num, by first | rfl | (rw [HCC.out]), hw4, hT4, ⟨hhl⟩⟩
          by_cases hn2 : (n0 : Int) ≤ x.block
          · have hn3 : ¬ (x.block < n0) := by omega
            clear hh c0 hkind HCB
            go_wp2_with fail
            clear c1
            refine HP.out.mono ?_
            rintro e w3 ⟨rfl, M4, hw4, hT4⟩
            have hhl := HLE.out
            have HCC : Hid (((held.count true : Nat) : Int) = (held.count true : Nat)) := Lib.hid rfl
            clear hwr hTr hHM hgl hbl HP
            go_wp2_with fail
            refine (used_any _ hw4 (by simp) hT4).mono ?_
            rintro e w5 ⟨rfl, rfl⟩
            try rw [HCC.out]
            go_wp2
            go_roundw
            case measure => simp [intOf]; omega
            case rel => exact ⟨k + 1, _, _, _, by omega, by go_num, by first | rfl | (rw [HCC.out]), hw4, hT4, ⟨hhl⟩⟩
          obtain ⟨q, hqb⟩ : ∃ q : Nat, x.block = q := ⟨x.block.toNat, by omega⟩
          have hq : q < held.length := by have := HLE.out; omega
          have hqf : held[q]? = some false := by
            rw [hqb] at hh
            unfold heldB at hh
            rw [show ((q : Int)).toNat = q from rfl, List.getElem?_eq_getElem hq] at hh
            rw [List.getElem?_eq_getElem hq]
            cases hx : held[q]
            · rfl
            · rw [hx] at hh; simp at hh
          have cq := HCB.out q false hqf
          have hqn : (q : Int) < n0 := by have := HLE.out; omega
          rw [hqb] at HP c1
          clear hh c0 hkind HCB hn1 hn2 hqb hq hqf
          go_wp2_with fail
          clear c1
          refine HP.out.mono ?_
          rintro e w3 ⟨rfl, M4, hw4, hT4⟩
          have hhl := HLE.out
          have HCC : Hid (((held.count true : Nat) : Int) = (held.count true : Nat)) := Lib.hid rfl
          clear hwr hTr hHM hgl hbl HP
          go_wp2_with fail
          refine (used_any _ hw4 (by simp) hT4).mono ?_
          rintro e w5 ⟨rfl, rfl⟩
          try rw [HCC.out]
          go_wp2
          go_roundw
          case measure => simp [intOf]; omega
          case rel => exact ⟨k + 1, _, _, _, by omega, by go_num, by first | rfl | (rw [HCC.out]), hw4, hT4, ⟨hhl⟩⟩
    · obtain rfl : k = acts.length := by omega
      go_wp2
      go_ret
      exact ⟨rfl, hwr.drop.drop⟩
end
end Go.Proofs.YtebdgohkhadgpaaDoor
