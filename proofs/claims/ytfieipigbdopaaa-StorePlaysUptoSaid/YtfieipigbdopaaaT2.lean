/- Walks: the reference's Used, Keys, Drop. -/
import Derived.Test.YtfieipigbdopaaaT1
set_option linter.unusedVariables false
set_option linter.unusedSimpArgs false
namespace Go.Proofs.Ytfieipigbdopaaa
open Go.RowKit
set_option maxHeartbeats 1000000
section
variable {σ : World} {Hs : List Hp} {H M N Ha : Hp}
theorem rused_any (b : Nat) (keep : Int) (hand : Nat) (xs : List SE) (hS : RSto M b keep hand xs) (w : World) (Hs : List Hp) (hw : Sat σ w Hs) (hM : M ∈ Hs) :
    Calls Try.prog 27 #[.pointer (some ⟨b, 0, none⟩)] w fun e w' => e = .returned (.int .i64 (usedL xs : Int)) ∧ Sat σ w' Hs := by
  obtain ⟨A, c, hb, hsl⟩ := hS.cells
  have hlen := hS.ok.len
  have hcap := hsl.cap
  have HB := Lib.hid hb
  have cb0 : w.cell? ⟨b, 2, none⟩ = some (.slice A xs.length c) := hw.cellAt hM (Hp.cell_of hb rfl)
  clear hb hS
  go_enter Try.func27, Try.ntmps27
  go_wp2
  go_loopw [4, 3] (fun i n wr => ∃ k : Nat, k ≤ xs.length ∧ i = .int .i64 k ∧ n = .int .i64 (usedL (xs.take k) : Int) ∧ Sat σ wr Hs) (fun i _ _ => xs.length - (intOf i).toNat)
  case atStart => exact ⟨0, by omega, rfl, rfl, hw⟩
  case round =>
    obtain ⟨k, hk, rfl, rfl, hwr⟩ := hrel
    clear cb0 hw
    have cb0 : wr.cell? ⟨b, 2, none⟩ = some (.slice A xs.length c) := hwr.cellAt hM (Hp.cell_of HB.out rfl)
    by_cases hlt : k < xs.length
    · obtain ⟨gb, off, c', Au, cu, x, hx, hv, e0, e1, e2, e3, e4, hu⟩ := se_get hsl hlt
      injection hv with hv1 hv2 hv3
      subst hv1; subst hv3; clear hv2
      have c0 := hwr.cellAt hM e0
      have hsn := usedL_take xs k x hx
      have hul := usedL_le (xs.take k)
      have hul2 : (xs.take k).length ≤ k := List.length_take_le _ _
      have HSN := Lib.hid hsn
      have hki : (k : Int) < xs.length := by omega
      clear hsn hx hsl e0 e1 e2 e3 e4 hu
      generalize usedL (xs.take k) = q at *
      cases hh : x.key.toList.isEmpty
      · have HH : Hid (heldB x = true) := Lib.hid (by unfold heldB; rw [hh]; rfl)
        go_wp2
        exact ⟨⟨k + 1, by omega, by go_num, by rw [HSN.out, HH.out]; simp, hwr⟩, by simp [intOf]; omega⟩
      · have HH : Hid (heldB x = false) := Lib.hid (by unfold heldB; rw [hh]; rfl)
        go_wp2
        exact ⟨⟨k + 1, by omega, by go_num, by rw [HSN.out, HH.out]; simp, hwr⟩, by simp [intOf]; omega⟩
    · obtain rfl : k = xs.length := by omega
      go_wp2
      go_ret
      exact ⟨by simp, hwr⟩
theorem rkeys_any (b : Nat) (keep : Int) (hand : Nat) (xs : List SE) (hS : RSto M b keep hand xs) (w : World) (Hs : List Hp) (hw : Sat σ w Hs) (hM : M ∈ Hs) :
    Calls Try.prog 28 #[.pointer (some ⟨b, 0, none⟩)] w fun e w' => ∃ v N, e = .returned v ∧ Sat σ w' (N :: Hs) ∧ Kd.str.IsSl N v (xs.map SE.key) := by
  obtain ⟨A, c, hb, hsl⟩ := hS.cells
  have hlen := hS.ok.len
  have hcap := hsl.cap
  have HB := Lib.hid hb
  clear hb hS
  go_enter Try.func28, Try.ntmps28
  go_wp2
  go_loopw [4, 3] (fun i n wr => ∃ (k : Nat) (A1 : Option Addr) (c1 : Nat) (N : Hp), k ≤ xs.length ∧ i = .int .i64 k ∧ n = .slice A1 k c1 ∧ Sat σ wr (N :: Hs) ∧ Own N 9 1 (.slice A1 k c1) k ((xs.take k).map fun x => Value.string x.key)) (fun i _ _ => xs.length - (intOf i).toNat)
  case atStart => exact ⟨0, _, _, _, by omega, rfl, rfl, hw.alloc _, own_lit0 _ _ _⟩
  case round =>
    obtain ⟨k, A1, c1', N, hk, rfl, rfl, hwr, ho⟩ := hrel
    clear hw
    have hMN : M ∈ N :: Hs := by simp [hM]
    have cb0 : wr.cell? ⟨b, 2, none⟩ = some (.slice A xs.length c) := hwr.cellAt hMN (Hp.cell_of HB.out rfl)
    by_cases hlt : k < xs.length
    · obtain ⟨gb, off, c', Au, cu, x, hx, hv, e0, e1, e2, e3, e4, hu⟩ := se_get hsl hlt
      injection hv with hv1 hv2 hv3
      subst hv1; subst hv3; clear hv2
      have c0 := hwr.cellAt hMN e0
      have hki : (k : Int) < xs.length := by omega
      have HX := Lib.hid hx
      clear hx hsl e0 e1 e2 e3 e4 hu hMN
      go_wp2_with (at_builtin; refine wpList_app (hwr.alloc' _) rfl (.tmp 15) (.tmp 24) 35 35 9 (.string ⟨#[]⟩) 1 16 rfl Try.underlying35 (by kernel_rfl) rfl (by decide) _ _ k 1 _ [.string x.key] rfl rfl ho (src_new Try.underlying35 _ [.string x.key] _ 1 1 1 (by simp) rfl rfl) (by omega) ?_; intro A2 c2 w2 N2 hw2 ho2 _ _)
      exact ⟨⟨k + 1, A2, c2, N2, by omega, by go_num, rfl, hw2, by rw [List.take_add_one, HX.out, List.map_append]; exact ho2⟩, by simp [intOf]; omega⟩
    · obtain rfl : k = xs.length := by omega
      go_wp2
      go_ret
      exact ⟨_, N, rfl, hwr, keys_sl (by simpa using ho)⟩
def RDropP (σ : World) (Hs : List Hp) (b : Nat) (keep : Int) (hand : Nat) (q : Bool) (xs : List SE) (e : Ending) (w' : World) : Prop := e = .returned (.bool q) ∧ ∃ M', Sat σ w' (M' :: Hs) ∧ RSto M' b keep hand xs
theorem rdrop_any (b : Nat) (keep : Int) (hand : Nat) (xs : List SE) (k : ByteArray) (w : World) (hw : Sat σ w (M :: Hs)) (hS : RSto M b keep hand xs) :
    Calls Try.prog 25 #[.pointer (some ⟨b, 0, none⟩), .string k] w (RDropP σ Hs b keep hand (dropB xs k) (dropS xs k)) := by
  have HS := Lib.hid hS
  clear hS
  go_enter Try.func25, Try.ntmps25
  go_wp2_with fail
  refine (find_any b keep hand xs HS.out k w _ hw (by simp)).mono ?_
  rintro e w4 ⟨rfl, hw4⟩
  clear hw
  cases hk : k.toList.isEmpty
  rotate_left
  · have HD : Hid (dropB xs k = false) := Lib.hid (by unfold dropB; rw [hk]; rfl)
    go_wp2
    go_ret
    exact ⟨by rw [HD.out]; rfl, M, hw4, by unfold dropS; rw [HD.out]; exact HS.out⟩
  have HK := Lib.hid hk
  obtain ⟨A, c, hb, hsl⟩ := HS.out.cells
  have hlen := HS.out.ok.len
  clear hb hsl
  rcases idx_cases (keyP k) xs with ⟨hi, _⟩ | ⟨q, x, hi, hx, hx2, hx3, hx4⟩
  · have HD : Hid (dropB xs k = false) := Lib.hid (by unfold dropB; rw [HK.out, hi]; rfl)
    rw [hi]
    clear hi
    go_wp2
    go_ret
    exact ⟨by rw [HD.out]; rfl, M, hw4, by unfold dropS; rw [HD.out]; exact HS.out⟩
  · have HD : Hid (dropB xs k = true) := Lib.hid (by unfold dropB; rw [HK.out, hi]; simp)
    have HI := Lib.hid hi
    have hq := (List.getElem?_eq_some_iff.1 hx).1
    have hqi : (q : Int) < xs.length := by omega
    have hq0 : ¬ ((q : Int) < 0) := by omega
    obtain ⟨g, c', cur, Au, cu, hb, hsl, hgb, hg, k0, k1, k2, k3, k4, _, _, hput⟩ := tab_at HS.out.tab hx
    have hcap := hsl.cap
    have cb0 : w4.cell? ⟨b, 2, none⟩ = some (.slice (some ⟨g, 0, none⟩) xs.length c') := hw4.m_cell hb rfl
    have e0 := hw4.m_cell hg k0
    have e1 := hw4.m_cell hg k1
    have e2 := hw4.m_cell hg k2
    have e3 := hw4.m_cell hg k3
    have e4 := hw4.m_cell hg k4
    have hgf := hw4.le g _ hg
    have f0 := heap_free hgf (q * 5); have f1 := heap_free hgf (q * 5 + 1); have f2 := heap_free hgf (q * 5 + 2); have f3 := heap_free hgf (q * 5 + 3); have f4 := heap_free hgf (q * 5 + 4)
    have HFIN := Lib.hid (hput se0 (.slice none 0 0) _ _ _ _ hw4.emp.swap Kd.IsSl.nil)
    rw [hi]
    clear hi hx hx2 hx3 hx4 hb hsl hg k0 k1 k2 k3 k4 hput hgf
    go_wp2
    go_ret
    obtain ⟨M9, h1, h2, h3, _⟩ := HFIN.out
    exact ⟨by rw [HD.out]; rfl, M9, h1, by unfold dropS; rw [HD.out, if_pos rfl, HI.out, Int.toNat_natCast]; exact ⟨h2, HS.out.ok.put q (by exact ⟨by decide, by decide, by decide⟩)⟩⟩
end
end Go.Proofs.Ytfieipigbdopaaa
