/- Walks: Find, with its closure, and IndexFunc. -/
import Derived.Test.YteggcfcjajpcgaaDoorAuN
import Derived.Test.YteggcfcjajpcgaaDoorAuD
set_option linter.unusedVariables false
set_option linter.unusedSimpArgs false
namespace Go.Proofs.YteggcfcjajpcgaaDoor
open Go Go.RowKit
def isSum (h : List Int) (x : Ent) : Bool := decide (x.sum = h)
def z32' : List Int := List.replicate 32 0
/-- How many records the beginning with a head has. -/
def findE (xs : List Ent) (h : List Int) : Int × Int := if (checkE xs).2 ≠ 0 then (0, (checkE xs).2) else if h = z32' then (0, 0) else if idxI (isSum h) xs < 0 then (0, 5) else (idxI (isSum h) xs + 1, 0)
theorem idxI_lt {α : Type} (p : α → Bool) (xs : List α) : idxI p xs < xs.length ∧ -1 ≤ idxI p xs := by
  unfold idxI
  cases h : xs.findIdx? p with
  | none => exact ⟨show (-1 : Int) < xs.length by omega, show (-1 : Int) ≤ -1 by omega⟩
  | some i =>
    have := (List.findIdx?_eq_some_iff_getElem.1 h).1
    exact ⟨show (i : Int) < xs.length by omega, show (-1 : Int) ≤ i by omega⟩
theorem idxI_app {α : Type} (p : α → Bool) (xs : List α) (k : Nat) (x : α) (h : idxI p xs = k) : True := trivial
section
variable {σ w w' : World} {Hs : List Hp} {H H1 H2 M N Y G HB : Hp}
set_option maxHeartbeats 4000000
set_option maxRecDepth 10000 in
theorem find1_any (x : Ent) (h : List Int) (hx : x.sum.length = 32) (hl : h.length = 32) (nb : Nat) (w : World) (hw : Sat σ w Hs) (hm : Hp.one nb (.cells (outV h) 29 (0, 0)) ∈ Hs) :
    Calls Tryd.prog 35 #[.agg (EA x), .pointer (some ⟨nb, 0, none⟩)] w fun e w' => e = .returned (.bool (isSum h x)) ∧ Sat σ w' Hs := by
  have hcmp : ∀ W, (Op.equalIn 10000 29 (.agg (outV x.sum)) (.agg (outV h))).run Tryd.prog W = .ok (isSum h x) W := fun W => arr_eqd 9998 x.sum h hx hl W
  have hw2 := hw.alloc (.cells (EA x) 32)
  have hos : (outV x.sum).size = 32 := by rw [outV_size, hx]
  have hoh : (outV h).size = 32 := by rw [outV_size, hl]
  have hxs := EA_size x hx
  have HR : Hid ((w.alloc (.cells (EA x) 32)).rangeAt w.heap.size 2 (outV x.sum).toList) := Lib.hid (fun j v hv => hw2.one_cell (EA_sum x j v hv))
  have HB : Hid ((w.alloc (.cells (EA x) 32)).heap[nb]? = some (.cells (outV h) 29 (0, 0))) := Lib.hid (hw2.blk (List.mem_cons_of_mem _ hm) (Hp.one_self _ _))
  generalize isSum h x = q at *
  have HW2 := Lib.hid hw2
  clear hw hw2
  go_enter Tryd.func35, Tryd.ntmps35
  go_wp2_with (first
    | (with_reducible show wpList _ _ _ [_, _, _, _] _ _; refine wpList_load_mid rfl 29 (.tmp 4) rfl w.heap.size 2 rfl (outV x.sum).toList _ HR.out Tryd.underlying29 rfl (by rw [Array.length_toList, hos]; kernel_rfl) ?_)
    | (with_reducible show wpList _ _ _ [_, _, _] _ _; refine wpList_load_row rfl 29 (.tmp 1) rfl nb rfl 29 (outV h) (0, 0) _ HB.out Tryd.underlying29 rfl (by rw [hoh]; kernel_rfl) ?_))
  go_ret
  exact ⟨rfl, HW2.out.drop⟩
theorem drop_find {α : Type} (p : α → Bool) {xs : List α} {k : Nat} (h : ∀ j y, j < k → xs[j]? = some y → p y = false) : True := trivial
set_option maxRecDepth 10000 in
theorem index_any (v : Value) (xs : List Ent) (h : List Int) (hxs : ∀ x ∈ xs, x.sum.length = 32) (hl : h.length = 32) (nb : Nat) (w : World) (hw : Sat σ w Hs) (hm : Hp.one nb (.cells (outV h) 29 (0, 0)) ∈ Hs) (hH1 : H1 ∈ Hs) (hs : kE.IsSl H1 v xs) :
    Calls Tryd.prog 34 #[v, .func (.func 35) #[] #[.pointer (some ⟨nb, 0, none⟩)]] w fun e w' => e = .returned (.int .i64 (idxI (isSum h) xs)) ∧ Sat σ w' Hs := by
  obtain ⟨A, c, rfl, hc1, hc2, _⟩ := hs.form
  have hlx : xs.length ≤ 9223372036854775807 := Nat.le_trans hc1 hc2
  have HS := Lib.hid hs; have HXS := Lib.hid hxs
  have HF : Hid (∀ (x : Ent) (w' : World), x.sum.length = 32 → Sat σ w' Hs → Calls Tryd.prog 35 #[.agg (EA x), .pointer (some ⟨nb, 0, none⟩)] w' fun e w2 => e = .returned (.bool (isSum h x)) ∧ Sat σ w2 Hs) := Lib.hid (fun x w' hx hw' => find1_any x h hx hl nb w' hw' hm)
  clear hs hxs hc1
  go_enter Tryd.func34, Tryd.ntmps34
  go_wp2_with fail
  go_loopw [8, 5] (fun i _ wr => ∃ k : Nat, k ≤ xs.length ∧ i = .int .i64 k ∧ Sat σ wr Hs ∧ Eager (∀ (j : Nat) (y : Ent), j < k → xs[j]? = some y → isSum h y = false)) (fun i _ _ => xs.length - (intOf i).toNat)
  case atStart => exact ⟨0, Nat.zero_le _, rfl, hw, ⟨fun j y hj => absurd hj (Nat.not_lt_zero _)⟩⟩
  case round =>
    obtain ⟨k, hk, rfl, hwr, hst⟩ := hrel
    have HST := Lib.hid hst.out
    clear hst hw
    by_cases hlt : k < xs.length
    · obtain ⟨x, hx⟩ : ∃ x, xs[k]? = some x := ⟨_, List.getElem?_eq_getElem hlt⟩
      obtain ⟨b, off, cs, rfl, ⟨hxl, rfl⟩, hcell⟩ := HS.out.get k x hx
      have hki : (k : Int) < xs.length := by omega
      have hk0 : (0 : Int) ≤ k := by omega
      have hsz := EA_size x hxl
      have HX := Lib.hid hx
      have HRG : Hid (wr.rangeAt b (off + k * 34) (EA x).toList) := Lib.hid (fun j v hv => hwr.cellAt hH1 (hcell j v hv))
      have HC := Lib.hid (HF.out x wr hxl hwr)
      clear hcell hx
      obtain ⟨q, hq⟩ : ∃ q, isSum h x = q := ⟨_, rfl⟩
      rw [hq] at HC
      have HQ := Lib.hid hq
      clear hq
      cases q
      · go_wp2_with (first
          | (with_reducible show wpList _ _ _ [_, _] _ _; refine wpList_load_mid rfl 32 (.tmp 14) rfl b (off + k * 34) rfl (EA x).toList _ HRG.out Tryd.underlying32 rfl (by rw [Array.length_toList, hsz]; kernel_rfl) ?_)
          | (go_at_call 35; refine HC.out.mono ?_; rintro e w2 ⟨rfl, hw2⟩))
        refine ⟨⟨k + 1, hlt, by go_num, hw2, ⟨fun j y hj hy => ?_⟩⟩, by simp [intOf]; omega⟩
        rcases Nat.lt_or_ge j k with h1 | h1
        · exact HST.out j y h1 hy
        · obtain rfl : j = k := by omega
          rw [HX.out] at hy
          injection hy with hy
          subst hy
          exact HQ.out
      · have HE : Hid (idxI (isSum h) xs = k) := Lib.hid (idxI_yes _ _ k x HX.out HQ.out HST.out)
        go_wp2_with (first
          | (with_reducible show wpList _ _ _ [_, _] _ _; refine wpList_load_mid rfl 32 (.tmp 14) rfl b (off + k * 34) rfl (EA x).toList _ HRG.out Tryd.underlying32 rfl (by rw [Array.length_toList, hsz]; kernel_rfl) ?_)
          | (go_at_call 35; refine HC.out.mono ?_; rintro e w2 ⟨rfl, hw2⟩))
        go_ret
        exact ⟨by rw [HE.out]; rfl, hw2⟩
    · obtain rfl : k = xs.length := by omega
      have HE : Hid (idxI (isSum h) xs = -1) := Lib.hid (idxI_no _ _ fun j y hy => HST.out j y (List.getElem?_eq_some_iff.1 hy).1 hy)
      go_wp2
      go_ret
      exact ⟨by rw [HE.out]; rfl, hwr⟩
set_option maxRecDepth 10000 in
theorem find_any (v : Value) (xs : List Ent) (h : List Int) (hxs : ∀ x ∈ xs, anyE x) (hl : h.length = 32) (w : World) (hw : Sat σ w Hs) (hH1 : H1 ∈ Hs) (hs : kE.IsSl H1 v xs) (hH : H ∈ Hs) {tt : TypeId} {fr : Nat × Nat} (hk : H 1 = some (.cells powV tt fr)) (hk0 : H 0 = some (.cells kV 90 (0, 0))) :
    Calls Tryd.prog 22 #[v, .agg (outV h)] w fun e w' => e = .returned (.tuple #[.int .i64 (findE xs h).1, .int .i64 (findE xs h).2]) ∧ Sat σ w' Hs := by
  obtain ⟨A, c, rfl, hc1, hc2, _⟩ := hs.form
  have HC := Lib.hid (fun w' Hs' (h : Sat σ w' Hs') (h1 : H1 ∈ Hs') (h2 : H ∈ Hs') => check_any _ xs hxs w' h h1 hs h2 hk hk0)
  have HI := Lib.hid (fun nb w' Hs' (hw' : Sat σ w' Hs') (hm : Hp.one nb (.cells (outV h) 29 (0, 0)) ∈ Hs') (h1 : H1 ∈ Hs') => index_any _ xs h (fun x hx => (hxs x hx).1) hl nb w' hw' hm h1 hs)
  have HFE : Hid (findE xs h = if (checkE xs).2 ≠ 0 then (0, (checkE xs).2) else if h = z32' then (0, 0) else if idxI (isSum h) xs < 0 then (0, 5) else (idxI (isSum h) xs + 1, 0)) := Lib.hid rfl
  have hlx : xs.length ≤ 9223372036854775807 := Nat.le_trans hc1 hc2
  have HID := Lib.hid (idxI_lt (isSum h) xs)
  obtain ⟨cn, ce, hce⟩ : ∃ cn ce, checkE xs = (cn, ce) := ⟨_, _, rfl⟩
  rw [hce] at HFE HC
  clear hs hxs hk hk0 hce hc1
  generalize findE xs h = fe at *
  generalize idxI (isSum h) xs = ix at *
  have hoh : (outV h).size = 32 := by rw [outV_size, hl]
  have hzz : outV z32' = #[.int .u8 0, .int .u8 0, .int .u8 0, .int .u8 0, .int .u8 0, .int .u8 0, .int .u8 0, .int .u8 0, .int .u8 0, .int .u8 0, .int .u8 0, .int .u8 0, .int .u8 0, .int .u8 0, .int .u8 0, .int .u8 0, .int .u8 0, .int .u8 0, .int .u8 0, .int .u8 0, .int .u8 0, .int .u8 0, .int .u8 0, .int .u8 0, .int .u8 0, .int .u8 0, .int .u8 0, .int .u8 0, .int .u8 0, .int .u8 0, .int .u8 0, .int .u8 0] := rfl
  have hcmp : ∀ W, (Op.equalIn 10000 29 (.agg (outV h)) (.agg #[.int .u8 0, .int .u8 0, .int .u8 0, .int .u8 0, .int .u8 0, .int .u8 0, .int .u8 0, .int .u8 0, .int .u8 0, .int .u8 0, .int .u8 0, .int .u8 0, .int .u8 0, .int .u8 0, .int .u8 0, .int .u8 0, .int .u8 0, .int .u8 0, .int .u8 0, .int .u8 0, .int .u8 0, .int .u8 0, .int .u8 0, .int .u8 0, .int .u8 0, .int .u8 0, .int .u8 0, .int .u8 0, .int .u8 0, .int .u8 0, .int .u8 0, .int .u8 0])).run Tryd.prog W = .ok (decide (h = z32')) W := fun W => by
    have := arr_eqd 9998 h z32' hl rfl W
    rw [hzz] at this
    exact this
  have hw2 := hw.alloc (.cells (outV h) 29)
  clear hzz
  go_enter Tryd.func22, Tryd.ntmps22
  go_wp2_with fail
  refine (HC.out _ _ hw2 (List.mem_cons_of_mem _ hH1) (List.mem_cons_of_mem _ hH)).mono ?_
  rintro e w3 ⟨rfl, hw3⟩
  generalize w.heap.size = nb at *
  clear hw hw2 HC
  have HW3 := Lib.hid hw3
  clear hw3
  by_cases he : ce = 0
  · subst he
    have HB : Hid (w3.heap[nb]? = some (.cells (outV h) 29 (0, 0))) := Lib.hid HW3.out.heap
    by_cases hz : h = z32'
    · rw [decide_eq_true hz] at hcmp
      have HR : Hid (fe = (0, 0)) := Lib.hid (by rw [HFE.out, if_neg (fun h => h rfl), if_pos hz])
      clear HFE hz
      go_wp2_with (with_reducible show wpList _ _ _ [_, _, _] _ _; refine wpList_load_row rfl 29 (.tmp 3) rfl nb rfl 29 (outV h) (0, 0) _ HB.out Tryd.underlying29 rfl (by rw [hoh]; kernel_rfl) ?_)
      go_ret2
      exact ⟨by rw [HR.out]; rfl, HW3.out.drop⟩
    · rw [decide_eq_false hz] at hcmp
      have HR : Hid (fe = if ix < 0 then (0, 5) else (ix + 1, 0)) := Lib.hid (by rw [HFE.out, if_neg (fun h => h rfl), if_neg hz])
      have HIC := Lib.hid (HI.out nb w3 _ HW3.out List.mem_cons_self (List.mem_cons_of_mem _ hH1))
      clear HFE hz HI
      have hil : ix < xs.length := HID.out.1
      have hig : -1 ≤ ix := HID.out.2
      by_cases hneg : ix < 0
      · have hnb : decide (ix < 0) = true := decide_eq_true hneg
        have HR2 : Hid (fe = (0, 5)) := Lib.hid (by rw [HR.out, if_pos hneg])
        clear HR hil hig
        go_wp2_with (first | (with_reducible show wpList _ _ _ [_, _, _] _ _; refine wpList_load_row rfl 29 (.tmp 3) rfl nb rfl 29 (outV h) (0, 0) _ HB.out Tryd.underlying29 rfl (by rw [hoh]; kernel_rfl) ?_) | (go_at_call 34; refine HIC.out.mono ?_; rintro e w4 ⟨rfl, hw4⟩))
        go_ret2
        exact ⟨by rw [HR2.out]; rfl, hw4.drop⟩
      · have hnb : decide (ix < 0) = false := decide_eq_false hneg
        have HR2 : Hid (fe = (ix + 1, 0)) := Lib.hid (by rw [HR.out, if_neg hneg])
        have m1 : IntKind.i64.wrap (ix + 1) = ix + 1 := IntWalk.i64_in _ (by omega)
        clear HR hil hig
        go_wp2_with (first | (with_reducible show wpList _ _ _ [_, _, _] _ _; refine wpList_load_row rfl 29 (.tmp 3) rfl nb rfl 29 (outV h) (0, 0) _ HB.out Tryd.underlying29 rfl (by rw [hoh]; kernel_rfl) ?_) | (go_at_call 34; refine HIC.out.mono ?_; rintro e w4 ⟨rfl, hw4⟩))
        go_ret2
        exact ⟨by rw [HR2.out]; rfl, hw4.drop⟩
  · have heb : (ce != 0) = true := by simpa using he
    have HR : Hid (fe = (0, ce)) := Lib.hid (by rw [HFE.out, if_pos he])
    clear HFE he
    go_wp2_with fail
    go_ret2
    exact ⟨by rw [HR.out]; rfl, HW3.out.drop⟩
end
end Go.Proofs.YteggcfcjajpcgaaDoor
