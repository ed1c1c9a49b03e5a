/- Walks: SameTexts, Among. -/
import Derived.Test.YtfieipigbdopaaaIdx
import Derived.Test.YtfieipigbdopaaaChecked
set_option linter.unusedVariables false
set_option linter.unusedSimpArgs false
namespace Go.Proofs.Ytfieipigbdopaaa
open Go.RowKit
set_option maxHeartbeats 1000000
section
variable {σ : World} {Hs : List Hp} {H H1 H2 M N Ha : Hp}
theorem sameT_any (v1 v2 : Value) (xs ys : List ByteArray) (w : World) (hw : Sat σ w Hs) (hH1 : H1 ∈ Hs) (hH2 : H2 ∈ Hs) (h1 : Kd.str.IsSl H1 v1 xs) (h2 : Kd.str.IsSl H2 v2 ys) :
    Calls Try.prog 15 #[v1, v2] w fun e w' => e = .returned (.bool (decide (xs = ys))) ∧ Sat σ w' Hs := by
  obtain ⟨A1, c1, rfl, hc1, hm1, _⟩ := h1.form
  obtain ⟨A2, c2, rfl, hc2, hm2, _⟩ := h2.form
  by_cases hl : xs.length = ys.length
  rotate_left
  · have hz : ((xs.length : Int) != ys.length) = true := by rw [bne_iff_ne]; omega
    have HD : Hid (decide (xs = ys) = false) := Lib.hid (by rw [decide_eq_false_iff_not]; rintro rfl; exact hl rfl)
    clear hl
    go_enter Try.func15, Try.ntmps15
    go_wp2
    go_ret
    exact ⟨by rw [HD.out]; rfl, hw⟩
  · have HL := Lib.hid hl
    have hz : ((xs.length : Int) != ys.length) = false := by rw [hl]; simp
    clear hl
    go_enter Try.func15, Try.ntmps15
    go_wp2
    go_loopw [5] (fun i wr => ∃ k : Nat, k ≤ xs.length ∧ i = .int .i64 k ∧ Sat σ wr Hs ∧ Eager (∀ (j : Nat) (x y : ByteArray), j < k → xs[j]? = some x → ys[j]? = some y → x = y)) (fun i _ => xs.length - (intOf i).toNat)
    case atStart => exact ⟨0, by omega, rfl, hw, ⟨fun j x y hj => by omega⟩⟩
    case round =>
      obtain ⟨k, hk, rfl, hwr, hn⟩ := hrel
      by_cases hlt : k < xs.length
      · obtain ⟨g1, o1, d1, x, hx, hv, e0⟩ := str_get h1 hlt
        obtain ⟨g2, o2, d2, y, hy, hv', e4⟩ := str_get h2 (k := k) (by have := HL.out; omega)
        injection hv with hv1 hv2 hv3
        injection hv' with hv4 hv5 hv6
        subst hv1; subst hv3; subst hv4; subst hv6
        clear hv2 hv5
        have i0 := hwr.cellAt hH1 e0
        have i4 := hwr.cellAt hH2 e4
        have HX := Lib.hid hx; have HY := Lib.hid hy
        have hk2 : (k : Int) < ys.length := by have := HL.out; omega
        have hk1 : (k : Int) < xs.length := by omega
        clear e0 e4 hx hy h1 h2
        by_cases hxy : x = y
        · have q0 : (x.toList == y.toList) = true := by simp [hxy]
          have q1 : (x.toList != y.toList) = false := by simp [hxy]
          have HXY := Lib.hid hxy; clear hxy
          go_wp2
          go_quiet (fail)
          all_goals go_wp2
          go_roundw
          case measure => simp [intOf]; omega
          case rel => exact ⟨k + 1, by omega, by go_num, hwr.drewN _, ⟨fun j x' y' hj hx' hy' => by
            by_cases e : j = k
            · subst e; rw [HX.out] at hx'; rw [HY.out] at hy'; cases hx'; cases hy'; exact HXY.out
            · exact hn.out j x' y' (by omega) hx' hy'⟩⟩
        · have q0 : (x.toList == y.toList) = false := by rw [beq_eq_false_iff_ne]; exact fun h => hxy (toList_inj h)
          have q1 : (x.toList != y.toList) = true := by rw [bne_iff_ne]; exact fun h => hxy (toList_inj h)
          have HD : Hid (decide (xs = ys) = false) := Lib.hid (decide_list_ne HX.out HY.out hxy)
          clear hxy
          go_wp2
          go_quiet (fail)
          all_goals go_wp2
          go_ret
          exact ⟨by rw [HD.out]; rfl, hwr.drewN _⟩
      · obtain rfl : k = xs.length := by omega
        go_wp2
        go_ret
        exact ⟨by rw [decide_list_eq HL.out (fun j x y hx hy => hn.out j x y (List.getElem?_eq_some_iff.1 hx).1 hx hy)]; rfl, hwr⟩
theorem among_any (n m : Int) (w : World) (h0 : 0 < m) (h1 : m ≤ 1000000000000) :
    Calls Try.prog 11 #[.int .i64 n, .int .i64 m] w fun e w' => e = .returned (.int .i64 (amongI n m)) ∧ w = w' := by
  go_enter Try.func11, Try.ntmps11
  go_wp2
  go_ret
  exact ⟨ret_int' (among_eq n m h0 h1), rfl⟩
end
end Go.Proofs.Ytfieipigbdopaaa
