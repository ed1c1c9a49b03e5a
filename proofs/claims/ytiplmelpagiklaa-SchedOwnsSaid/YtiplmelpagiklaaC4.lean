/- Walks: When, Gap. -/
import Derived.Test.YtiplmelpagiklaaC3
set_option linter.unusedVariables false
set_option linter.unusedSimpArgs false
namespace Go.Proofs.Ytiplmelpagiklaa
open Go.RowKit
set_option maxHeartbeats 2000000
def nth (l : List Nat) (i : Nat) : Nat := (l[i]?).getD 0
theorem nth_eq {l : List Nat} {i x : Nat} (h : l[i]? = some x) : nth l i = x := by unfold nth; rw [h]; rfl
def whenAt (xs : List Sl) (t : Int) (k : Nat) : Nat := k / (plK xs t xs.length).length * xs.length + nth (plK xs t xs.length) (k % (plK xs t xs.length).length)
def whenR (xs : List Sl) (t k : Int) : Int × Int :=
  if chk xs = 0 then (if t < 0 ∨ (plK xs t xs.length).length = 0 ∨ k < 0 ∨ 1099511627776 < k ∨ 1099511627776 < whenAt xs t k.toNat then (0, 2) else ((whenAt xs t k.toNat : Int), 0)) else (0, chk xs)
def gapK (pl : List Nat) (n : Nat) : Nat → Int
  | 0 => (nth pl 0 : Int) + n - nth pl (pl.length - 1)
  | i + 1 => max (gapK pl n i) ((nth pl (i + 1) : Int) - nth pl i)
def gapR (xs : List Sl) (t : Int) : Int × Int :=
  if chk xs = 0 then (if t < 0 ∨ (plK xs t xs.length).length = 0 then (0, 2) else (gapK (plK xs t xs.length) xs.length ((plK xs t xs.length).length - 1), 0)) else (0, chk xs)
theorem gapK_range {pl : List Nat} {n : Nat} (h : ∀ x ∈ pl, x < n) (hn : n ≤ 64) : ∀ i, -64 ≤ gapK pl n i ∧ gapK pl n i ≤ 128
  | 0 => by
    have h1 : nth pl 0 ≤ 64 := by unfold nth; cases hx : pl[0]? with
      | none => simp
      | some x => have := h x (List.mem_of_getElem? hx); simp; omega
    have h2 : nth pl (pl.length - 1) ≤ 64 := by unfold nth; cases hx : pl[pl.length - 1]? with
      | none => simp
      | some x => have := h x (List.mem_of_getElem? hx); simp; omega
    unfold gapK
    omega
  | i + 1 => by
    have ih := gapK_range h hn i
    have h1 : nth pl (i + 1) ≤ 64 := by unfold nth; cases hx : pl[i + 1]? with
      | none => simp
      | some x => have := h x (List.mem_of_getElem? hx); simp; omega
    have h2 : nth pl i ≤ 64 := by unfold nth; cases hx : pl[i]? with
      | none => simp
      | some x => have := h x (List.mem_of_getElem? hx); simp; omega
    unfold gapK
    omega
section
variable {σ : World} {Hs : List Hp} {H M N : Hp}
theorem when_any (v : Value) (xs : List Sl) (t k : Int) (w : World) (hw : Sat σ w Hs) (hH : H ∈ Hs) (hs : kSl.IsSl H v xs) :
    Calls Try.prog 10 #[v, .int .i64 t, .int .i64 k] w fun e w' => e = .returned (.tuple #[.int .i64 (whenR xs t k).1, .int .i64 (whenR xs t k).2]) ∧ Sat σ w' Hs := by
  have HT := Lib.hid (check_any v xs w hw hH hs)
  have HP := Lib.hid (fun w' (h : Sat σ w' Hs) hl => places_any v xs t w' h hH hs hl)
  obtain ⟨A, c, rfl, hc1, hc2, _⟩ := hs.form
  clear hs
  by_cases h0 : chk xs = 0
  rotate_left
  · have hq : (chk xs != 0) = true := by rw [bne_iff_ne]; exact h0
    have HR : Hid (whenR xs t k = (0, chk xs)) := Lib.hid (by unfold whenR; rw [if_neg h0])
    clear h0
    go_enter Try.func10, Try.ntmps10
    go_wp2_with fail
    refine HT.out.mono ?_
    rintro e w2 ⟨rfl, hw2⟩
    go_wp2
    go_ret2
    exact ⟨by rw [HR.out]; rfl, hw2⟩
  obtain ⟨hl1, hl2, -, -⟩ := chk_ok h0
  have hp1 := plK_le xs t xs.length
  have HPM := Lib.hid (fun x (hx : x ∈ plK xs t xs.length) => (plK_lt hx).1)
  rw [h0] at HT
  have HR : Hid (whenR xs t k = if t < 0 ∨ (plK xs t xs.length).length = 0 ∨ k < 0 ∨ 1099511627776 < k ∨ 1099511627776 < whenAt xs t k.toNat then (0, 2) else ((whenAt xs t k.toNat : Int), 0)) := Lib.hid (by unfold whenR; rw [if_pos h0])
  have HW : Hid (whenAt xs t k.toNat = k.toNat / (plK xs t xs.length).length * xs.length + nth (plK xs t xs.length) (k.toNat % (plK xs t xs.length).length)) := Lib.hid rfl
  clear h0
  generalize plK xs t xs.length = pl at *
  generalize whenAt xs t k.toNat = at0 at *
  generalize whenR xs t k = res at *
  have hll : (natsI pl).length = pl.length := by simp [natsI]
  go_enter Try.func10, Try.ntmps10
  go_wp2_with fail
  refine HT.out.mono ?_
  rintro e w2 ⟨rfl, hw2⟩
  go_wp2_with fail
  refine (HP.out w2 hw2 hl1).mono ?_
  rintro e w3 ⟨v3, N, rfl, hw3, hv3⟩
  have hv3' := Lib.hid hv3
  obtain ⟨A3, c3, rfl, hcA, hcB, _⟩ := hv3.form
  rw [hll] at hv3' hcA ⊢
  clear hll hv3
  by_cases h1 : t < 0
  · rw [if_pos (.inl h1)] at HR
    go_wp2
    go_ret2
    exact ⟨by rw [HR.out]; rfl, hw3.drop⟩
  by_cases h2 : pl.length = 0
  · rw [if_pos (.inr (.inl h2))] at HR
    have h2' : ((pl.length : Int) == 0) = true := by simp [h2]
    clear h2
    go_wp2
    go_ret2
    exact ⟨by rw [HR.out]; rfl, hw3.drop⟩
  have h2' : ((pl.length : Int) == 0) = false := beq_eq_false_iff_ne.2 (by omega)
  by_cases h3 : k < 0
  · rw [if_pos (.inr (.inr (.inl h3)))] at HR
    go_wp2
    go_ret2
    exact ⟨by rw [HR.out]; rfl, hw3.drop⟩
  by_cases h4 : 1099511627776 < k
  · rw [if_pos (.inr (.inr (.inr (.inl h4))))] at HR
    have hd3 : decide (k < 0) = false := decide_eq_false h3
    go_wp2
    go_ret2
    exact ⟨by rw [HR.out]; rfl, hw3.drop⟩
  have hd3 : decide (k < 0) = false := decide_eq_false h3
  have hd4 : decide (1099511627776 < k) = false := decide_eq_false h4
  obtain ⟨m, rfl⟩ := Int.eq_ofNat_of_zero_le (show 0 ≤ k by omega)
  rw [Int.toNat_natCast] at HW
  have hmod : ((m : Int)).tmod pl.length = ((m % pl.length : Nat) : Int) := rfl
  have hdiv : ((m : Int)).tdiv pl.length = ((m / pl.length : Nat) : Int) := rfl
  have hml : m % pl.length < pl.length := Nat.mod_lt _ (by omega)
  have hdl : m / pl.length ≤ m := Nat.div_le_self _ _
  obtain ⟨g, off, c', x, hx, hv, e0⟩ := nat_get hv3'.out hml
  injection hv with hv1 hv2 hv3
  subst hv1; subst hv3; clear hv2
  have c0 := hw3.cellAt List.mem_cons_self e0
  have hxl := HPM.out x (List.mem_of_getElem? hx)
  rw [nth_eq hx] at HW
  clear hx e0
  generalize m % pl.length = r at *
  generalize m / pl.length = d at *
  have hmul : d * xs.length ≤ 1099511627776 * 64 := Nat.mul_le_mul (by omega) (by omega)
  have m1 : IntKind.i64.wrap (d : Int) = d := IntWalk.i64_in _ (by omega)
  have m2 : IntKind.i64.wrap ((d : Int) * (xs.length : Int)) = ((d * xs.length : Nat) : Int) := by rw [← Int.natCast_mul]; exact IntWalk.i64_in _ (by omega)
  generalize d * xs.length = dl at *
  have m3 : IntKind.i64.wrap ((dl : Int) + (x : Int)) = (at0 : Int) := by rw [HW.out, ← Int.natCast_add]; exact IntWalk.i64_in _ (by omega)
  have hri : (r : Int) < pl.length := by omega
  go_wp2
  go_quiet (fail)
  have hw4 := hw3.drewN nq
  by_cases h5 : 1099511627776 < at0
  · rw [if_pos (.inr (.inr (.inr (.inr h5))))] at HR
    have h5' : (1099511627776 : Int) < at0 := by omega
    go_wp2
    go_ret2
    exact ⟨by rw [HR.out]; rfl, hw4.drop⟩
  · rw [if_neg (by omega)] at HR
    have h5' : ¬ ((1099511627776 : Int) < at0) := by omega
    go_wp2
    go_ret2
    exact ⟨by rw [HR.out]; rfl, hw4.drop⟩
theorem gap_any (v : Value) (xs : List Sl) (t : Int) (w : World) (hw : Sat σ w Hs) (hH : H ∈ Hs) (hs : kSl.IsSl H v xs) :
    Calls Try.prog 12 #[v, .int .i64 t] w fun e w' => e = .returned (.tuple #[.int .i64 (gapR xs t).1, .int .i64 (gapR xs t).2]) ∧ Sat σ w' Hs := by
  have HT := Lib.hid (check_any v xs w hw hH hs)
  have HP := Lib.hid (fun w' (h : Sat σ w' Hs) hl => places_any v xs t w' h hH hs hl)
  obtain ⟨A, c, rfl, hc1, hc2, _⟩ := hs.form
  clear hs
  by_cases h0 : chk xs = 0
  rotate_left
  · have hq : (chk xs != 0) = true := by rw [bne_iff_ne]; exact h0
    have HR : Hid (gapR xs t = (0, chk xs)) := Lib.hid (by unfold gapR; rw [if_neg h0])
    clear h0
    go_enter Try.func12, Try.ntmps12
    go_wp2_with fail
    refine HT.out.mono ?_
    rintro e w2 ⟨rfl, hw2⟩
    go_wp2
    go_ret2
    exact ⟨by rw [HR.out]; rfl, hw2⟩
  obtain ⟨hl1, hl2, -, -⟩ := chk_ok h0
  have hp1 := plK_le xs t xs.length
  have HPM := Lib.hid (fun x (hx : x ∈ plK xs t xs.length) => (plK_lt hx).1)
  rw [h0] at HT
  have HR : Hid (gapR xs t = if t < 0 ∨ (plK xs t xs.length).length = 0 then (0, 2) else (gapK (plK xs t xs.length) xs.length ((plK xs t xs.length).length - 1), 0)) := Lib.hid (by unfold gapR; rw [if_pos h0])
  clear h0
  generalize plK xs t xs.length = pl at *
  generalize gapR xs t = res at *
  have hll : (natsI pl).length = pl.length := by simp [natsI]
  have HGR := Lib.hid (gapK_range HPM.out hl1)
  go_enter Try.func12, Try.ntmps12
  go_wp2_with fail
  refine HT.out.mono ?_
  rintro e w2 ⟨rfl, hw2⟩
  go_wp2_with fail
  refine (HP.out w2 hw2 hl1).mono ?_
  rintro e w3 ⟨v3, N, rfl, hw3, hv3⟩
  have hv3' := Lib.hid hv3
  obtain ⟨A3, c3, rfl, hcA, hcB, _⟩ := hv3.form
  rw [hll] at hv3' hcA ⊢
  clear hll hv3
  by_cases h1 : t < 0
  · rw [if_pos (.inl h1)] at HR
    go_wp2
    go_ret2
    exact ⟨by rw [HR.out]; rfl, hw3.drop⟩
  by_cases h2 : pl.length = 0
  · rw [if_pos (.inr h2)] at HR
    have h2' : ((pl.length : Int) == 0) = true := by simp [h2]
    clear h2
    go_wp2
    go_ret2
    exact ⟨by rw [HR.out]; rfl, hw3.drop⟩
  rw [if_neg (by omega)] at HR
  obtain ⟨ln, hln⟩ : ∃ ln, pl.length = ln + 1 := ⟨pl.length - 1, by omega⟩
  rw [hln] at hv3' hp1 hcA ⊢
  have h2' : ((ln : Int) + 1 == 0) = false := beq_eq_false_iff_ne.2 (by omega)
  obtain ⟨g, off, c', x0, hx0, hv, e0⟩ := nat_get hv3'.out (k := 0) (by omega)
  injection hv with hv1 hv2 hv3
  subst hv1; subst hv3; clear hv2
  obtain ⟨g1, off1, c1', x1, hx1, hv, e1⟩ := nat_get hv3'.out (k := ln) (by omega)
  injection hv with hv1 hv2 hv3
  injection hv1 with hv1
  injection hv1 with hv1 hv4 hv5
  subst hv1; subst hv3; subst hv4; clear hv2 hv5
  rw [Nat.add_zero] at e0
  have c0 := hw3.cellAt List.mem_cons_self e0
  have c1 := hw3.cellAt List.mem_cons_self e1
  have hxl0 := HPM.out x0 (List.mem_of_getElem? hx0)
  have hxl1 := HPM.out x1 (List.mem_of_getElem? hx1)
  have HG0 : Hid (gapK pl xs.length 0 = (x0 : Int) + xs.length - x1) := Lib.hid (by unfold gapK; rw [hln, Nat.add_sub_cancel, nth_eq hx0, nth_eq hx1])
  rw [hln, Nat.add_sub_cancel] at HR
  clear hx0 hx1 e0 e1
  have m1 : IntKind.i64.wrap ((ln : Int) + 1 - 1) = (ln : Int) := by rw [show (ln : Int) + 1 - 1 = ln by omega]; exact IntWalk.i64_in _ (by omega)
  have m2 : IntKind.i64.wrap ((x0 : Int) + (xs.length : Int)) = (x0 : Int) + (xs.length : Int) := IntWalk.i64_in _ (by omega)
  have m3 : IntKind.i64.wrap ((x0 : Int) + (xs.length : Int) - (x1 : Int)) = (x0 : Int) + (xs.length : Int) - (x1 : Int) := IntWalk.i64_in _ (by omega)
  have HLN := Lib.hid hln
  clear hln h2
  go_wp2
  go_quiet (fail)
  have hw4 := hw3.drewN nq
  generalize World.drewN w3 nq = w4 at *
  clear hw3 c0 c1
  go_wp2
  all_goals
    go_loopw [41, 9, 8] (fun i _ mo wr => ∃ k : Nat, k ≤ ln ∧ i = .int .i64 k ∧ mo = .int .i64 (gapK pl xs.length k) ∧ Sat σ wr (N :: Hs)) (fun i _ _ _ => ln - (intOf i).toNat)
    case atStart => exact ⟨0, by omega, rfl, by rw [HG0.out], hw4⟩
    case round =>
      obtain ⟨k, hk, rfl, rfl, hwr⟩ := hrel
      clear hw4
      by_cases hkl : k < ln
      · obtain ⟨g2, off2, c2', y0, hy0, hv, e0⟩ := nat_get hv3'.out (k := k) (by have := HLN.out; omega)
        injection hv with hv1 hv2 hv3
        injection hv1 with hv1
        injection hv1 with hv1 hv4 hv5
        subst hv1; subst hv4; clear hv2 hv3 hv5
        obtain ⟨g3, off3, c3', y1, hy1, hv, e1⟩ := nat_get hv3'.out (k := k + 1) (by have := HLN.out; omega)
        injection hv with hv1 hv2 hv3
        injection hv1 with hv1
        injection hv1 with hv1 hv4 hv5
        subst hv1; subst hv4; clear hv2 hv3 hv5
        have c0 := hwr.cellAt List.mem_cons_self e0
        have c1 := hwr.cellAt List.mem_cons_self e1
        have hyl0 := HPM.out y0 (List.mem_of_getElem? hy0)
        have hyl1 := HPM.out y1 (List.mem_of_getElem? hy1)
        have HGK : Hid (gapK pl xs.length (k + 1) = max (gapK pl xs.length k) ((y1 : Int) - y0)) := Lib.hid (by rw [gapK, nth_eq hy0, nth_eq hy1])
        have hgr := HGR.out k
        clear hy0 hy1 e0 e1
        generalize gapK pl xs.length k = gk at *
        have q1 : IntKind.i64.wrap ((k : Int) + 1) = ((k : Int) + 1) := IntWalk.i64_in _ (by omega)
        have q2 : IntKind.i64.wrap ((y1 : Int) - (y0 : Int)) = (y1 : Int) - (y0 : Int) := IntWalk.i64_in _ (by omega)
        have hki : (k : Int) + 1 < (ln : Int) + 1 := by omega
        have hki2 : (k : Int) < (ln : Int) + 1 := by omega
        by_cases hm : gk < (y1 : Int) - y0
        · rw [show max gk ((y1 : Int) - y0) = (y1 : Int) - y0 by omega] at HGK
          go_wp2
          go_quiet (fail)
          go_wp2
          go_roundw
          case measure => simp [intOf]; omega
          case rel => exact ⟨k + 1, by omega, by go_num, by first | (rw [HGK.out]; done) | (rw [HGK.out]; congr 1; omega), hwr.drewN _⟩
        · rw [show max gk ((y1 : Int) - y0) = gk by omega] at HGK
          go_wp2
          go_quiet (fail)
          go_wp2
          go_roundw
          case measure => simp [intOf]; omega
          case rel => exact ⟨k + 1, by omega, by go_num, by first | (rw [HGK.out]; done) | (rw [HGK.out]; congr 1; omega), hwr.drewN _⟩
      · obtain rfl : k = ln := by omega
        go_wp2
        go_ret2
        exact ⟨by rw [HR.out]; rfl, hwr.drop⟩
end
end Go.Proofs.Ytiplmelpagiklaa
