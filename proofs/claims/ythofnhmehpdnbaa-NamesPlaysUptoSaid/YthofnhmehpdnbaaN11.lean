/- Walks: equal slices; a number made small; an address; a clone. -/
import Derived.Test.YthofnhmehpdnbaaN10
set_option linter.unusedVariables false
namespace Go.Proofs.Ythofnhmehpdnbaa
open Go.RowKit
set_option maxHeartbeats 1000000
theorem decide_list_ne {α : Type} [DecidableEq α] {xs ys : List α} {k : Nat} {x y : α} (hx : xs[k]? = some x) (hy : ys[k]? = some y) (h : x ≠ y) : decide (xs = ys) = false := by
  rw [decide_eq_false_iff_not]
  intro e
  subst e
  rw [hx] at hy
  exact h (Option.some.inj hy)
theorem decide_list_eq {α : Type} [DecidableEq α] {xs ys : List α} (hl : xs.length = ys.length) (h : ∀ (j : Nat) (x y : α), xs[j]? = some x → ys[j]? = some y → x = y) : decide (xs = ys) = true := by
  rw [decide_eq_true_eq]
  apply List.ext_getElem hl
  intro i h1 h2
  exact h i _ _ (List.getElem?_eq_getElem h1) (List.getElem?_eq_getElem h2)
section
variable {σ : World} {Hs : List Hp} {H H1 H2 M N Ha : Hp}
theorem ad_get {v : Value} {xs : List Ad} (hs : kAd.IsSl H v xs) {k : Nat} (hk : k < xs.length) : ∃ b off c x, xs[k]? = some x ∧ v = .slice (some ⟨b, off, none⟩) xs.length c ∧ Hp.cell H b (off + k * 4) = some (.int .u8 x.A) ∧ Hp.cell H b (off + k * 4 + 1) = some (.int .u8 x.B) ∧ Hp.cell H b (off + k * 4 + 2) = some (.int .u8 x.C) ∧ Hp.cell H b (off + k * 4 + 3) = some (.int .u8 x.D) := by
  obtain ⟨A, c, rfl, _⟩ := hs.form
  obtain ⟨b, off, cs, rfl, hcs, hcell⟩ := hs.get k _ (List.getElem?_eq_getElem hk)
  have := kAd_cells hcs
  subst this
  exact ⟨b, off, c, _, List.getElem?_eq_getElem hk, rfl, hcell 0 _ rfl, hcell 1 _ rfl, hcell 2 _ rfl, hcell 3 _ rfl⟩
def adV (x : Ad) : Value := .agg #[.int .u8 x.A, .int .u8 x.B, .int .u8 x.C, .int .u8 x.D]
theorem ad_neq (x y : Ad) (h : x ≠ y) (w : World) : (binOp .neq 39 (.agg #[.int .u8 x.A, .int .u8 x.B, .int .u8 x.C, .int .u8 x.D]) (.agg #[.int .u8 y.A, .int .u8 y.B, .int .u8 y.C, .int .u8 y.D])).run Try.prog w = .ok (.bool true) w := by
  have hq : ((x.A == y.A) && (x.B == y.B) && (x.C == y.C) && (x.D == y.D)) = false := by
    rw [Bool.eq_false_iff]
    intro h'
    simp only [Bool.and_eq_true, beq_iff_eq] at h'
    exact h (by cases x; cases y; simp_all)
  clear h
  cases q0 : (x.A == y.A)
  · clear hq
    go_simp
  cases q1 : (x.B == y.B)
  · clear hq
    go_simp
  cases q2 : (x.C == y.C)
  · clear hq
    go_simp
  cases q3 : (x.D == y.D)
  · clear hq
    go_simp
  rw [q0, q1, q2, q3] at hq
  cases hq
theorem sameA_any (v1 v2 : Value) (xs ys : List Ad) (w : World) (hw : Sat σ w Hs) (hH1 : H1 ∈ Hs) (hH2 : H2 ∈ Hs) (h1 : kAd.IsSl H1 v1 xs) (h2 : kAd.IsSl H2 v2 ys) :
    Calls Try.prog 13 #[v1, v2] w fun e w' => e = .returned (.bool (decide (xs = ys))) ∧ Sat σ w' Hs := by
  obtain ⟨A1, c1, rfl, hc1, hm1, _⟩ := h1.form
  obtain ⟨A2, c2, rfl, hc2, hm2, _⟩ := h2.form
  by_cases hl : xs.length = ys.length
  rotate_left
  · have hz : ((xs.length : Int) != ys.length) = true := by rw [bne_iff_ne]; omega
    have HD : Hid (decide (xs = ys) = false) := Lib.hid (by rw [decide_eq_false_iff_not]; rintro rfl; exact hl rfl)
    clear hl
    go_enter Try.func13, Try.ntmps13
    go_wp2
    go_ret
    exact ⟨by rw [HD.out]; rfl, hw⟩
  · have HL := Lib.hid hl
    have hz : ((xs.length : Int) != ys.length) = false := by rw [hl]; simp
    clear hl
    go_enter Try.func13, Try.ntmps13
    go_wp2
    go_loopw [5] (fun i wr => ∃ k : Nat, k ≤ xs.length ∧ i = .int .i64 k ∧ Sat σ wr Hs ∧ Eager (∀ (j : Nat) (x y : Ad), j < k → xs[j]? = some x → ys[j]? = some y → x = y)) (fun i _ => xs.length - (intOf i).toNat)
    case atStart => exact ⟨0, by omega, rfl, hw, ⟨fun j x y hj => by omega⟩⟩
    case round =>
      obtain ⟨k, hk, rfl, hwr, hn⟩ := hrel
      by_cases hlt : k < xs.length
      · obtain ⟨g1, o1, d1, x, hx, hv, e0, e1, e2, e3⟩ := ad_get h1 hlt
        obtain ⟨g2, o2, d2, y, hy, hv', e4, e5, e6, e7⟩ := ad_get h2 (k := k) (by have := HL.out; omega)
        injection hv with hv1 hv2 hv3
        injection hv' with hv4 hv5 hv6
        subst hv1; subst hv3; subst hv4; subst hv6
        clear hv2 hv5
        have i0 := hwr.cellAt hH1 e0; have i1 := hwr.cellAt hH1 e1; have i2 := hwr.cellAt hH1 e2; have i3 := hwr.cellAt hH1 e3
        have i4 := hwr.cellAt hH2 e4; have i5 := hwr.cellAt hH2 e5; have i6 := hwr.cellAt hH2 e6; have i7 := hwr.cellAt hH2 e7
        have HX := Lib.hid hx; have HY := Lib.hid hy
        have hk2 : (k : Int) < ys.length := by have := HL.out; omega
        have hk1 : (k : Int) < xs.length := by omega
        clear e0 e1 e2 e3 e4 e5 e6 e7 hx hy h1 h2
        by_cases hxy : x = y
        · have q0 : (x.A == y.A) = true := by simp [hxy]
          have q1 : (x.B == y.B) = true := by simp [hxy]
          have q2 : (x.C == y.C) = true := by simp [hxy]
          have q3 : (x.D == y.D) = true := by simp [hxy]
          have HXY := Lib.hid hxy; clear hxy
          go_wp2
          go_quiet (fail)
          all_goals go_wp2
          go_roundw
          case measure => simp [intOf]; omega
          case rel => exact ⟨k + 1, by omega, by go_num, hwr.drewN _, ⟨fun j x' y' hj hx' hy' => by
            by_cases e : j = k
            · subst e; rw [HX.out] at hx'; rw [HY.out] at hy'; cases hx'; cases hy'; exact HXY.out
            · exact hn.out j x' y' (by omega) hx' hy'⟩⟩
        · have hq := ad_neq x y hxy
          have HD : Hid (decide (xs = ys) = false) := Lib.hid (decide_list_ne HX.out HY.out hxy)
          clear hxy
          go_wp2
          go_quiet (fail)
          all_goals go_wp2
          go_ret
          exact ⟨by rw [HD.out]; rfl, hwr.drewN _⟩
      · obtain rfl : k = xs.length := by omega
        go_wp2
        go_ret
        exact ⟨by rw [decide_list_eq HL.out (fun j x y hx hy => hn.out j x y (List.getElem?_eq_some_iff.1 hx).1 hx hy)]; rfl, hwr⟩
end
end Go.Proofs.Ythofnhmehpdnbaa
