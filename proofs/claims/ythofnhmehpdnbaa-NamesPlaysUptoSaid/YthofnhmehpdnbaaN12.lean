/- Walks: SameTexts, Among, one, Put whole, Clone. -/
import Derived.Test.YthofnhmehpdnbaaN11
set_option linter.unusedVariables false
namespace Go.Proofs.Ythofnhmehpdnbaa
open Go.RowKit
set_option maxHeartbeats 1000000
theorem toList_inj {a b : ByteArray} (h : a.toList = b.toList) : a = b := by
  rw [ByteArray.toList_eq, ByteArray.toList_eq] at h
  cases a; cases b
  simpa using h
theorem sEq_iff {a b : ByteArray} : sEq a b = true ↔ a = b := by
  unfold sEq
  rw [beq_iff_eq]
  exact ⟨toList_inj, fun h => by rw [h]⟩
section
variable {σ : World} {Hs : List Hp} {H H1 H2 M N Ha : Hp}
theorem str_get {v : Value} {xs : List ByteArray} (hs : Kd.str.IsSl H v xs) {k : Nat} (hk : k < xs.length) : ∃ b off c x, xs[k]? = some x ∧ v = .slice (some ⟨b, off, none⟩) xs.length c ∧ Hp.cell H b (off + k) = some (.string x) := by
  obtain ⟨A, c, rfl, _⟩ := hs.form
  obtain ⟨b, off, cs, rfl, hcs, hcell⟩ := hs.get k _ (List.getElem?_eq_getElem hk)
  obtain rfl : cs = _ := hcs
  exact ⟨b, off, c, _, List.getElem?_eq_getElem hk, rfl, by have := hcell 0 _ rfl; simpa [Kd.str] using this⟩
theorem sameT_any (v1 v2 : Value) (xs ys : List ByteArray) (w : World) (hw : Sat σ w Hs) (hH1 : H1 ∈ Hs) (hH2 : H2 ∈ Hs) (h1 : Kd.str.IsSl H1 v1 xs) (h2 : Kd.str.IsSl H2 v2 ys) :
    Calls Try.prog 22 #[v1, v2] w fun e w' => e = .returned (.bool (decide (xs = ys))) ∧ Sat σ w' Hs := by
  obtain ⟨A1, c1, rfl, hc1, hm1, _⟩ := h1.form
  obtain ⟨A2, c2, rfl, hc2, hm2, _⟩ := h2.form
  by_cases hl : xs.length = ys.length
  rotate_left
  · have hz : ((xs.length : Int) != ys.length) = true := by rw [bne_iff_ne]; omega
    have HD : Hid (decide (xs = ys) = false) := Lib.hid (by rw [decide_eq_false_iff_not]; rintro rfl; exact hl rfl)
    clear hl
    go_enter Try.func22, Try.ntmps22
    go_wp2
    go_ret
    exact ⟨by rw [HD.out]; rfl, hw⟩
  · have HL := Lib.hid hl
    have hz : ((xs.length : Int) != ys.length) = false := by rw [hl]; simp
    clear hl
    go_enter Try.func22, Try.ntmps22
    go_wp2
    go_loopw [5] (fun i wr => ∃ k : Nat, k ≤ xs.length ∧ i = .int .i64 k ∧ Sat σ wr Hs ∧ Eager (∀ (j : Nat) (x y : ByteArray), j < k → xs[j]? = some x → ys[j]? = some y → x = y)) (fun i _ => xs.length - (intOf i).toNat)
    case atStart => exact ⟨0, by omega, rfl, hw, ⟨fun j x y hj => by omega⟩⟩
    case round =>
      obtain ⟨k, hk, rfl, hwr, hn⟩ := hrel
      by_cases hlt : k < xs.length
      · obtain ⟨g1, o1, d1, x, hx, hv, e0⟩ := str_get h1 hlt
        obtain ⟨g2, o2, d2, y, hy, hv', e4⟩ := str_get h2 (k := k) (by have := HL.out; omega)
        injection hv with hv1 hv2 hv3
        injection hv' with hv4 hv5 hv6
        subst hv1; subst hv3; subst hv4; subst hv6
        clear hv2 hv5
        have i0 := hwr.cellAt hH1 e0
        have i4 := hwr.cellAt hH2 e4
        have HX := Lib.hid hx; have HY := Lib.hid hy
        have hk2 : (k : Int) < ys.length := by have := HL.out; omega
        have hk1 : (k : Int) < xs.length := by omega
        clear e0 e4 hx hy h1 h2
        by_cases hxy : x = y
        · have q0 : (x.toList == y.toList) = true := by simp [hxy]
          have q1 : (x.toList != y.toList) = false := by simp [hxy]
          have HXY := Lib.hid hxy; clear hxy
          go_wp2
          go_quiet (fail)
          all_goals go_wp2
          go_roundw
          case measure => simp [intOf]; omega
          case rel => exact ⟨k + 1, by omega, by go_num, hwr.drewN _, ⟨fun j x' y' hj hx' hy' => by
            by_cases e : j = k
            · subst e; rw [HX.out] at hx'; rw [HY.out] at hy'; cases hx'; cases hy'; exact HXY.out
            · exact hn.out j x' y' (by omega) hx' hy'⟩⟩
        · have q0 : (x.toList == y.toList) = false := by rw [beq_eq_false_iff_ne]; exact fun h => hxy (toList_inj h)
          have q1 : (x.toList != y.toList) = true := by rw [bne_iff_ne]; exact fun h => hxy (toList_inj h)
          have HD : Hid (decide (xs = ys) = false) := Lib.hid (decide_list_ne HX.out HY.out hxy)
          clear hxy
          go_wp2
          go_quiet (fail)
          all_goals go_wp2
          go_ret
          exact ⟨by rw [HD.out]; rfl, hwr.drewN _⟩
      · obtain rfl : k = xs.length := by omega
        go_wp2
        go_ret
        exact ⟨by rw [decide_list_eq HL.out (fun j x y hx hy => hn.out j x y (List.getElem?_eq_some_iff.1 hx).1 hx hy)]; rfl, hwr⟩
def two64 : Int := 18446744073709551616
def amongI (n m : Int) : Int := (n % two64) % m
theorem amongI_range (n m : Int) (hm : 0 < m) : 0 ≤ amongI n m ∧ amongI n m < m := ⟨Int.emod_nonneg _ (by omega), Int.emod_lt_of_pos _ hm⟩
theorem ret_int' {k : IntKind} {a b : Int} (h : a = b) : Ending.returned (.int k a) = .returned (.int k b) := by rw [h]
theorem among_eq (n m : Int) (h0 : 0 < m) (h1 : m ≤ 1000000000000) : wrap64 ((IntKind.u64.wrap n).tmod m) = amongI n m := by
  have e : IntKind.u64.wrap n = n % two64 := by
    first | rfl | (simp [IntKind.wrap, two64]; done) | (rw [IntKind.wrap_u64]; rfl)
  have hn : 0 ≤ n % two64 := Int.emod_nonneg _ (by decide)
  rw [e, Int.tmod_eq_emod_of_nonneg hn]
  have := amongI_range n m h0
  unfold amongI at this ⊢
  generalize (n % two64) % m = q at *
  unfold wrap64
  omega
theorem among_any (n m : Int) (w : World) (h0 : 0 < m) (h1 : m ≤ 1000000000000) :
    Calls Try.prog 10 #[.int .i64 n, .int .i64 m] w fun e w' => e = .returned (.int .i64 (amongI n m)) ∧ w = w' := by
  go_enter Try.func10, Try.ntmps10
  go_wp2
  go_ret
  exact ⟨ret_int' (among_eq n m h0 h1), rfl⟩
theorem one_any (w : World) (hw : Sat σ w Hs) : Calls Try.prog 19 #[] w fun e w' => ∃ v N, e = .returned v ∧ Sat σ w' (N :: Hs) ∧ kAd.IsSl N v [⟨10, 0, 0, 1⟩] := by
  go_enter Try.func19, Try.ntmps19
  go_wp2
  go_ret
  have h := hw.alloc (.cells #[.int .u8 10, .int .u8 0, .int .u8 0, .int .u8 1] 39)
  exact ⟨_, _, rfl, h, (own_lit _ _ _ 4 1 (by rfl) (by omega)).isSl (d := kAd) (xs := [⟨10, 0, 0, 1⟩]) ⟨_, [], rfl, ⟨_, _, rfl, rfl, _, _, rfl, rfl, _, _, rfl, rfl, rfl⟩, rfl⟩ rfl (Hp.le_refl _)⟩
end
end Go.Proofs.Ythofnhmehpdnbaa
