/- Walks: Keys, Drop of a store. -/
import Derived.Test.YtfieipigbdopaaaS6
set_option linter.unusedVariables false
set_option linter.unusedSimpArgs false
namespace Go.Proofs.Ytfieipigbdopaaa
open Go.RowKit
set_option maxHeartbeats 1000000
def se0 : SE := ⟨⟨#[]⟩, [], 0, 0, false⟩
def dropB (xs : List SE) (k : ByteArray) : Bool := !k.toList.isEmpty && decide (0 ≤ idxI (keyP k) xs)
def dropS (xs : List SE) (k : ByteArray) : List SE := if dropB xs k then xs.set (idxI (keyP k) xs).toNat se0 else xs
section
variable {σ : World} {Hs : List Hp} {H M N Ha : Hp}
theorem keys_sl {N : Hp} {A : Option Addr} {c : Nat} {xs : List SE} (ho : Own N 9 1 (.slice A xs.length c) xs.length (xs.map fun x => Value.string x.key)) : Kd.str.IsSl N (.slice A xs.length c) (xs.map SE.key) :=
  ho.isSl (d := Kd.str) (H := N) (xs := xs.map SE.key) (by have := strs_reps N (xs.map SE.key); rwa [List.map_map] at this) (by simp) (Hp.le_refl _)
theorem keys_any (b : Nat) (keep : Int) (hand : Nat) (xs : List SE) (hS : Sto M b keep hand xs) (w : World) (Hs : List Hp) (hw : Sat σ w Hs) (hM : M ∈ Hs) :
    Calls Try.prog 14 #[.pointer (some ⟨b, 0, none⟩)] w fun e w' => ∃ v N, e = .returned v ∧ Sat σ w' (N :: Hs) ∧ Kd.str.IsSl N v (xs.map SE.key) := by
  have HIS := Lib.hid (hS.is w hw hM)
  obtain ⟨A, c, hb, hsl⟩ := hS.cells
  have hlen := hS.ok.len
  have hcap := hsl.cap
  have cb0 : w.cell? ⟨b, 0, none⟩ = some (.slice A xs.length c) := hw.cellAt hM (Hp.cell_of hb rfl)
  clear hb hS
  go_enter Try.func14, Try.ntmps14
  go_wp2_with (go_at_call 34; refine HIS.out.mono ?_; rintro e w3 ⟨rfl, rfl⟩)
  go_loopw [13, 3, 5] (fun i n _ wr => ∃ (k : Nat) (A1 : Option Addr) (c1 : Nat) (N : Hp), k ≤ xs.length ∧ i = .int .i64 k ∧ n = .slice A1 k c1 ∧ Sat σ wr (N :: Hs) ∧ Own N 9 1 (.slice A1 k c1) k ((xs.take k).map fun x => Value.string x.key)) (fun i _ _ _ => xs.length - (intOf i).toNat)
  case atStart => exact ⟨0, none, 0, Hp.emp, by omega, rfl, rfl, hw.emp, Own.nil _ _ _⟩
  case round =>
    obtain ⟨k, A1, c1', N, hk, rfl, rfl, hwr, ho⟩ := hrel
    clear cb0 hw
    by_cases hlt : k < xs.length
    · obtain ⟨gb, off, c', Au, cu, x, hx, hv, e0, e1, e2, e3, e4, hu⟩ := se_get hsl hlt
      injection hv with hv1 hv2 hv3
      subst hv1; subst hv3; clear hv2
      have hMN : M ∈ N :: Hs := by simp [hM]
      have c0 := hwr.cellAt hMN e0; have c1 := hwr.cellAt hMN e1; have c2 := hwr.cellAt hMN e2; have c3 := hwr.cellAt hMN e3; have c4 := hwr.cellAt hMN e4
      have hgl : gb < wr.heap.size := World.block_lt_of_cell? wr _ c0
      have hki : (k : Int) < xs.length := by omega
      have HX := Lib.hid hx
      clear hx hsl e0 e1 e2 e3 e4 hu hMN
      go_wp2_with (at_builtin; refine wpList_app ((hwr.alloc' _).alloc' _) rfl (.tmp 17) (.tmp 21) 35 35 9 (.string ⟨#[]⟩) 1 16 rfl Try.underlying35 (by kernel_rfl) rfl (by decide) _ _ k 1 _ [.string x.key] rfl rfl ho (src_new Try.underlying35 _ [.string x.key] _ 1 1 1 (by simp) rfl rfl) (by omega) ?_; intro A2 c2 w2 N2 hw2 ho2 _ _)
      go_roundw
      case measure => simp [intOf]; omega
      case rel => exact ⟨k + 1, A2, c2, N2, by omega, by go_num, rfl, hw2, by rw [List.take_add_one, HX.out, List.map_append]; exact ho2⟩
    · obtain rfl : k = xs.length := by omega
      go_wp2
      go_ret
      exact ⟨_, N, rfl, hwr, keys_sl (by simpa using ho)⟩
def DropP (σ : World) (Hs : List Hp) (M : Hp) (b : Nat) (keep : Int) (hand : Nat) (q : Bool) (xs : List SE) (e : Ending) (w' : World) : Prop := e = .returned (.bool q) ∧ ∃ M', Sat σ w' (M' :: Hs) ∧ Sto M' b keep hand xs ∧ Keep M b M'
theorem drop_any (b : Nat) (keep : Int) (hand : Nat) (xs : List SE) (k : ByteArray) (w : World) (hw : Sat σ w (M :: Hs)) (hS : Sto M b keep hand xs) :
    Calls Try.prog 17 #[.pointer (some ⟨b, 0, none⟩), .string k] w (DropP σ Hs M b keep hand (dropB xs k) (dropS xs k)) := by
  have HIS := Lib.hid (hS.is w hw (by simp))
  have HS := Lib.hid hS
  cases hk : k.toList.isEmpty
  rotate_left
  · have HD : Hid (dropB xs k = false) := Lib.hid (by unfold dropB; rw [hk]; rfl)
    clear hS
    go_enter Try.func17, Try.ntmps17
    go_wp2_with (go_at_call 34; refine HIS.out.mono ?_; rintro e w3 ⟨rfl, rfl⟩)
    go_ret
    exact ⟨by rw [HD.out]; rfl, M, hw, by unfold dropS; rw [HD.out]; exact HS.out, keep_refl _ _⟩
  obtain ⟨A, c, hb, hsl⟩ := hS.cells
  have hcap := hsl.cap
  have hlen := hS.ok.len
  clear hb hsl hS
  have HK := Lib.hid hk
  go_enter Try.func17, Try.ntmps17
  go_wp2_with (go_at_call 34; refine HIS.out.mono ?_; rintro e w3 ⟨rfl, rfl⟩)
  refine (HS.out.slot k w hw (by simp)).mono ?_
  rintro e w4 ⟨rfl, hw4⟩
  clear hw
  rcases idx_cases (keyP k) xs with ⟨hi, _⟩ | ⟨q, x, hi, hx, hx2, hx3, hx4⟩
  · have HD : Hid (dropB xs k = false) := Lib.hid (by unfold dropB; rw [HK.out, hi]; rfl)
    rw [hi]
    clear hi
    go_wp2
    go_ret
    exact ⟨by rw [HD.out]; rfl, M, hw4, by unfold dropS; rw [HD.out]; exact HS.out, keep_refl _ _⟩
  · have HD : Hid (dropB xs k = true) := Lib.hid (by unfold dropB; rw [HK.out, hi]; simp)
    have HI := Lib.hid hi
    have hq := (List.getElem?_eq_some_iff.1 hx).1
    have hqi : (q : Int) < xs.length := by omega
    obtain ⟨g, c', cur, Au, cu, hb, hsl, hgb, hg, k0, k1, k2, k3, k4, _, _, hput⟩ := tab_at HS.out.tab hx
    have hcap := hsl.cap
    have cb0 : w4.cell? ⟨b, 0, none⟩ = some (.slice (some ⟨g, 0, none⟩) xs.length c') := hw4.m_cell hb rfl
    have e0 := hw4.m_cell hg k0
    have e1 := hw4.m_cell hg k1
    have e2 := hw4.m_cell hg k2
    have e3 := hw4.m_cell hg k3
    have e4 := hw4.m_cell hg k4
    have hgf := hw4.le g _ hg
    have f0 := heap_free hgf (q * 5); have f1 := heap_free hgf (q * 5 + 1); have f2 := heap_free hgf (q * 5 + 2); have f3 := heap_free hgf (q * 5 + 3); have f4 := heap_free hgf (q * 5 + 4)
    have HFIN := Lib.hid (hput se0 (.slice none 0 0) _ _ _ _ hw4.emp.swap Kd.IsSl.nil)
    rw [hi]
    clear hi hx hx2 hx3 hx4 hb hsl hg k0 k1 k2 k3 k4 hput hgf
    go_wp2
    go_ret
    obtain ⟨M9, h1, h2, h3, _⟩ := HFIN.out
    exact ⟨by rw [HD.out]; rfl, M9, h1, by unfold dropS; rw [HD.out, if_pos rfl, HI.out, Int.toNat_natCast]; exact ⟨h2, HS.out.ok.put q (by exact ⟨by decide, by decide, by decide⟩)⟩, h3⟩
end
end Go.Proofs.Ytfieipigbdopaaa
