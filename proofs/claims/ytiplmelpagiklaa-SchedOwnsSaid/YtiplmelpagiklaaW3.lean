/- Walk: SchedBack. -/
import Derived.Test.YtiplmelpagiklaaW1
import Derived.Test.YtiplmelpagiklaaL1
set_option linter.unusedVariables false
set_option linter.unusedSimpArgs false
namespace Go.Proofs.Ytiplmelpagiklaa
open Go.RowKit
set_option maxHeartbeats 4000000
theorem when_bad {xs : List Sl} {t k : Int} (h : (whenR xs t k).2 ≠ 0) : (whenR xs t k).1 = 0 := by
  unfold whenR at h ⊢
  split
  · rename_i h1
    rw [if_pos h1] at h
    split
    · rfl
    · rename_i h2; rw [if_neg h2] at h; exact absurd rfl h
  · rfl
theorem pl_tenant {xs : List Sl} {t : Int} (hc : chk xs = 0) (h : 0 < (plK xs t xs.length).length) : t < 8 := by
  obtain ⟨x, hx⟩ := pl_ex (xs := xs) (t := t) h
  obtain ⟨h1, h2⟩ := pl_get hx
  rw [isT_some (List.getElem?_eq_getElem h2), decide_eq_true_eq] at h1
  obtain ⟨-, -, h3, -⟩ := chk_ok hc
  have := h3 _ (List.getElem_mem h2)
  omega
theorem when_ok {xs : List Sl} {t k : Int} (h : (whenR xs t k).2 = 0) : chk xs = 0 ∧ 0 ≤ t ∧ t < 8 ∧ 0 < (plK xs t xs.length).length ∧ 0 ≤ k ∧ whenR xs t k = ((whenAt xs t k.toNat : Int), 0) := by
  unfold whenR at h ⊢
  split at h
  · rename_i h1
    rw [if_pos h1]
    split at h
    · simp at h
    · rename_i h2
      rw [if_neg h2]
      exact ⟨h1, by omega, pl_tenant h1 (by omega), by omega, by omega, rfl⟩
  · rename_i h1; exact absurd h h1
theorem when_eq {xs : List Sl} {t : Int} {m : Nat} (hc : chk xs = 0) (ht : 0 ≤ t) (hp : 0 < (plK xs t xs.length).length) (hm : m ≤ 1099511627776) (ha : whenAt xs t m ≤ 1099511627776) : whenR xs t m = ((whenAt xs t m : Int), 0) := by
  unfold whenR
  rw [if_pos hc, Int.toNat_natCast, if_neg (by omega)]
theorem tkd_eq {xs : List Sl} {i : Nat} (hc : chk xs = 0) (hi : i ≤ 1099511627776) : tkd xs i = 0 := by
  unfold tkd
  rw [if_pos hc, if_neg (by omega)]
theorem run_own {xs : List Sl} {i : Nat} (t : Int) (hc : chk xs = 0) (hi : i ≤ 1099511627776) : ∃ x, runR xs i = (x, 0) ∧ (x.t == t) = isT xs t (i % xs.length) := by
  obtain ⟨-, hl, -, -⟩ := chk_ok hc
  have hm : i % xs.length < xs.length := Nat.mod_lt _ hl
  refine ⟨xs[i % xs.length], ?_, ?_⟩
  · unfold runR
    rw [if_pos (tkd_eq hc hi), Int.toNat_natCast, List.getElem?_eq_getElem hm]
    rfl
  · rw [isT_some (List.getElem?_eq_getElem hm)]
    rfl
theorem own_eq {xs : List Sl} {t : Int} {a : Nat} (hc : chk xs = 0) (ht : 0 ≤ t) (h8 : t < 8) (ha : a ≤ 1099511627776) : ownR xs t a = (((a / xs.length * (plK xs t xs.length).length + (plK xs t (a % xs.length)).length : Nat) : Int), 0) := by
  unfold ownR
  rw [if_pos (tkd_eq hc ha), if_neg (by omega), Int.toNat_natCast]
section
variable {σ : World} {Hs : List Hp} {H M N : Hp}
set_option maxRecDepth 10000 in
theorem back_law (v : Value) (xs : List Sl) (t k : Int) (w : World) (hw : Sat σ w Hs) (hH : H ∈ Hs) (hs : kSl.IsSl H v xs) :
    Calls Try.prog 4 #[v, .int .i64 t, .int .i64 k] w fun e w' => e = .returned (.bool true) ∧ Sat σ w' Hs := by
  have HWH := Lib.hid (fun (k : Int) w' Hs' (h : Sat σ w' Hs') (hm : H ∈ Hs') => when_any v xs t k w' h hm hs)
  have HOW := Lib.hid (fun (n : Int) w' Hs' (h : Sat σ w' Hs') (hm : H ∈ Hs') => own2_any v xs t n w' h hm hs)
  have HRU := Lib.hid (fun (n : Int) w' Hs' (h : Sat σ w' Hs') (hm : H ∈ Hs') => run_any v xs n w' h hm hs)
  obtain ⟨A, c, rfl, hc1, hc2, _⟩ := hs.form
  clear hs
  by_cases h1 : k < 0
  · go_enter Try.func4, Try.ntmps4
    go_wp2_with fail
    refine (works_any w hw).mono ?_
    rintro e w1 ⟨rfl, hw1⟩
    go_wp2
    go_ret
    exact ⟨rfl, hw1⟩
  by_cases h2 : 1073741824 < k
  · go_enter Try.func4, Try.ntmps4
    go_wp2_with fail
    refine (works_any w hw).mono ?_
    rintro e w1 ⟨rfl, hw1⟩
    go_wp2
    go_ret
    exact ⟨rfl, hw1⟩
  by_cases hE : (whenR xs t k).2 = 0
  rotate_left
  · have hq : ((whenR xs t k).2 != 0) = true := by rw [bne_iff_ne]; exact hE
    have h0 := when_bad hE
    have HW := Lib.hid (fun w' (h : Sat σ w' Hs) => HWH.out k w' Hs h hH)
    rw [h0] at HW
    clear h0 hE
    go_enter Try.func4, Try.ntmps4
    go_wp2_with fail
    refine (works_any w hw).mono ?_
    rintro e w1 ⟨rfl, hw1⟩
    go_wp2_with fail
    refine (HW.out w1 hw1).mono ?_
    rintro e w2 ⟨rfl, hw2⟩
    go_wp2
    go_ret
    exact ⟨rfl, hw2⟩
  obtain ⟨hc, ht, ht8, hp, -, hWE⟩ := when_ok hE
  obtain ⟨hl1, hl2, -, -⟩ := chk_ok hc
  obtain ⟨m, rfl⟩ := Int.eq_ofNat_of_zero_le (show 0 ≤ k by omega)
  rw [Int.toNat_natCast] at hWE
  obtain ⟨b1, b2, b3, b4, b5, b6⟩ := back_facts (xs := xs) (t := t) (k := m) hl1 hp (by omega)
  have hWN := when_eq (m := m + 1) hc ht hp (by omega) b3
  have hOE := own_eq (a := whenAt xs t m) hc ht ht8 (by omega)
  rw [b5] at hOE
  have HA := Lib.hid (HWH.out m)
  rw [hWE] at HA
  have HB := Lib.hid (HWH.out ((m + 1 : Nat) : Int))
  rw [hWN] at HB
  have HO := Lib.hid (HOW.out (whenAt xs t m))
  rw [hOE] at HO
  obtain ⟨x, hx1, hx2⟩ := run_own (i := whenAt xs t m) t hc (by omega)
  have HR := Lib.hid (HRU.out (whenAt xs t m))
  rw [hx1] at HR
  rw [b4] at hx2
  have HRI := Lib.hid (fun (i : Nat) (g1 : whenAt xs t m < i) (g2 : i < whenAt xs t (m + 1)) => (show ∃ y, runR xs i = (y, 0) ∧ (y.t == t) = false by
    obtain ⟨y, e1, e2⟩ := run_own (i := i) t hc (by omega)
    exact ⟨y, e1, by rw [e2, b6 i g1 g2]⟩))
  clear hE hWE hWN hOE hx1 b4 b5 b6 HWH HOW hc hp
  obtain ⟨m', hm'⟩ : ∃ m' : Nat, m + 1 = m' := ⟨_, rfl⟩
  have m1 : IntKind.i64.wrap ((m : Int) + 1) = (m' : Int) := by rw [← hm', ← Int.natCast_succ]; exact IntWalk.i64_in _ (by omega)
  rw [hm'] at HB
  rw [hm'] at b1 b2 b3 HRI
  clear hm'
  generalize whenAt xs t m = a at *
  generalize whenAt xs t m' = b at *
  have m2 : IntKind.i64.wrap ((b : Int) - a) = (b : Int) - a := IntWalk.i64_in _ (by omega)
  have m3 : IntKind.i64.wrap ((a : Int) + 1) = (a : Int) + 1 := IntWalk.i64_in _ (by omega)
  have hd1 : decide ((b : Int) ≤ a) = false := decide_eq_false (by omega)
  have hd1n : decide (b ≤ a) = false := decide_eq_false (by omega)
  have hd2 : decide ((xs.length : Int) < (b : Int) - a) = false := decide_eq_false (by omega)
  have hx3 : (x.t != t) = false := by rw [bne, hx2]; rfl
  go_enter Try.func4, Try.ntmps4
  go_wp2_with fail
  refine (works_any w hw).mono ?_
  rintro e w1 ⟨rfl, hw1⟩
  go_wp2_with fail
  refine (HA.out w1 Hs hw1 hH).mono ?_
  rintro e w2 ⟨rfl, hw2⟩
  clear hw hw1
  go_wp2_with fail
  refine (HB.out w2 Hs hw2 hH).mono ?_
  rintro e w3 ⟨rfl, hw3⟩
  go_wp2_with fail
  refine (HO.out w3 Hs hw3 hH).mono ?_
  rintro e w4 ⟨rfl, hw4⟩
  go_wp2_with fail
  refine (HR.out w4 Hs hw4 hH).mono ?_
  rintro e w5 ⟨rfl, hw5⟩
  clear hw2 hw3 hw4
  go_wp2
  go_loopw [15, 16, 17] (fun j _ _ wr => ∃ i : Nat, a + 1 ≤ i ∧ i ≤ b ∧ j = .int .i64 i ∧ Sat σ wr Hs) (fun j _ _ _ => b - (intOf j).toNat)
  case atStart => exact ⟨a + 1, by omega, by omega, by go_num, hw5.alloc' _⟩
  case round =>
    obtain ⟨i, hi1, hi2, rfl, hwr⟩ := hrel
    clear hw5
    by_cases hib : i < b
    · obtain ⟨y, hy1, hy2⟩ := HRI.out i (by omega) hib
      have HY := Lib.hid (HRU.out i)
      rw [hy1] at HY
      clear hy1
      go_wp2_with fail
      refine (HY.out wr Hs hwr hH).mono ?_
      rintro e w6 ⟨rfl, hw6⟩
      go_wp2
      go_roundw
      case measure => simp [intOf]; omega
      case rel => exact ⟨i + 1, by omega, by omega, by go_num, hw6.alloc' _⟩
    · go_wp2
      go_ret
      exact ⟨rfl, hwr⟩
end
end Go.Proofs.Ytiplmelpagiklaa
