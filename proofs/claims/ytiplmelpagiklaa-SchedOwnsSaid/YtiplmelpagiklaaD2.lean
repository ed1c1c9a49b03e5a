/- Walks of the reference: Own, When, Gap. -/
import Derived.Test.YtiplmelpagiklaaD1
import Derived.Test.YtiplmelpagiklaaW4
set_option linter.unusedVariables false
set_option linter.unusedSimpArgs false
namespace Go.Proofs.Ytiplmelpagiklaa
open Go.RowKit
set_option maxHeartbeats 4000000
section
variable {σ : World} {Hs : List Hp} {H M N : Hp}
theorem among3_any (v : Value) (xs : List Sl) (t : Int) (n : Nat) (w : World) (hw : Sat σ w Hs) (hH : H ∈ Hs) (hs : kSl.IsSl H v xs) (hn : n ≤ xs.length) (hl : xs.length ≤ 64) :
    Calls Try.prog 30 #[v, .int .i64 t, .int .i64 n] w fun e w' => e = .returned (.int .i64 ((plK xs t n).length : Nat)) ∧ w' = w := by
  have HS := Lib.hid hs
  have HW := Lib.hid hw
  obtain ⟨A, c, rfl, hc1, hc2, _⟩ := hs.form
  clear hs hw
  go_enter Try.func30, Try.ntmps30
  go_wp2
  go_loopw [8, 7] (fun i o wr => ∃ k : Nat, k ≤ n ∧ i = .int .i64 k ∧ o = .int .i64 ((plK xs t k).length : Nat) ∧ wr = w) (fun i _ _ => n - (intOf i).toNat)
  case atStart => exact ⟨0, by omega, rfl, rfl, rfl⟩
  case round =>
    obtain ⟨k, hk, rfl, rfl, rfl⟩ := hrel
    by_cases hlt : k < n
    · obtain ⟨gb, off, c', x, hx, hv, e0, e1⟩ := sl_get HS.out (k := k) (by omega)
      injection hv with hv1 hv2 hv3
      subst hv1; subst hv3; clear hv2
      have c0 := HW.out.cellAt hH e0
      have hki : (k : Int) < xs.length := by omega
      have hkn : (k : Int) < n := by omega
      have HPS := Lib.hid (plK_succ (t := t) hx)
      have hple := plK_le xs t k
      clear hx e0 e1
      generalize (plK xs t k) = pk at *
      have m1 : IntKind.i64.wrap ((pk.length : Int) + 1) = (pk.length : Int) + 1 := IntWalk.i64_in _ (by omega)
      by_cases ht : x.t = t
      · rw [if_pos ht] at HPS
        have htq : (x.t == t) = true := by simp [ht]
        clear ht
        go_wp2
        go_roundw
        case measure => simp [intOf]; omega
        case rel => exact ⟨k + 1, by omega, by go_num, by rw [HPS.out]; simp, by first | rfl | trivial⟩
      · rw [if_neg ht, List.append_nil] at HPS
        have htq : (x.t == t) = false := beq_eq_false_iff_ne.2 ht
        clear ht
        go_wp2
        go_roundw
        case measure => simp [intOf]; omega
        case rel => exact ⟨k + 1, by omega, by go_num, by rw [HPS.out], by first | rfl | trivial⟩
    · obtain rfl : k = n := by omega
      go_wp2
      go_ret
      exact ⟨rfl, rfl⟩
theorem rown_any (v : Value) (xs : List Sl) (t n : Int) (w : World) (hw : Sat σ w Hs) (hH : H ∈ Hs) (hs : kSl.IsSl H v xs) :
    Calls Try.prog 9 #[v, .int .i64 t, .int .i64 n] w fun e w' => e = .returned (.tuple #[.int .i64 (ownR xs t n).1, .int .i64 (ownR xs t n).2]) ∧ Sat σ w' Hs := by
  have HT := Lib.hid (look_any v xs n w hw hH hs)
  have HAM := Lib.hid (fun (q : Nat) w' (h : Sat σ w' Hs) hq hl => among3_any v xs t q w' h hH hs hq hl)
  obtain ⟨A, c, rfl, hc1, hc2, _⟩ := hs.form
  clear hs
  by_cases h0 : tkd xs n = 0
  · obtain ⟨hc, hn1, hn2⟩ := tkd_ok h0
    obtain ⟨hl1, hl2, -, -⟩ := chk_ok hc
    obtain ⟨m, rfl⟩ := Int.eq_ofNat_of_zero_le hn1
    by_cases h1 : t < 0
    · have HR : Hid (ownR xs t m = (0, 2)) := Lib.hid (by unfold ownR; rw [if_pos h0, if_pos (.inl h1)])
      rw [h0] at HT
      go_enter Try.func9, Try.ntmps9
      go_wp2_with fail
      refine HT.out.mono ?_
      rintro e w2 ⟨rfl, hw2⟩
      go_wp2
      go_ret2
      exact ⟨by rw [HR.out]; rfl, hw2⟩
    by_cases h2 : 8 ≤ t
    · have HR : Hid (ownR xs t m = (0, 2)) := Lib.hid (by unfold ownR; rw [if_pos h0, if_pos (.inr h2)])
      rw [h0] at HT
      go_enter Try.func9, Try.ntmps9
      go_wp2_with fail
      refine HT.out.mono ?_
      rintro e w2 ⟨rfl, hw2⟩
      go_wp2
      go_ret2
      exact ⟨by rw [HR.out]; rfl, hw2⟩
    have hml : m % xs.length < xs.length := Nat.mod_lt _ hl2
    have hmod : ((m : Int)).tmod xs.length = ((m % xs.length : Nat) : Int) := rfl
    have hdiv : ((m : Int)).tdiv xs.length = ((m / xs.length : Nat) : Int) := rfl
    have hz : ((xs.length : Int) == 0) = false := beq_eq_false_iff_ne.2 (by omega)
    have hd2 : decide (8 ≤ t) = false := decide_eq_false h2
    have hdl : m / xs.length ≤ m := Nat.div_le_self _ _
    have HR : Hid (ownR xs t m = (((m / xs.length * (plK xs t xs.length).length + (plK xs t (m % xs.length)).length : Nat) : Int), 0)) := Lib.hid (by unfold ownR; rw [if_pos h0, if_neg (by omega), Int.toNat_natCast])
    have hp1 := plK_le xs t xs.length
    have hp2 := plK_le xs t (m % xs.length)
    rw [h0] at HT
    have HA1 := Lib.hid (fun w' h => HAM.out xs.length w' h (Nat.le_refl _) hl1)
    have HA2 := Lib.hid (fun w' h => HAM.out (m % xs.length) w' h (Nat.le_of_lt hml) hl1)
    clear hc h0 hn1 HAM
    generalize m % xs.length = r at *
    generalize m / xs.length = d at *
    have hmul : d * (plK xs t xs.length).length ≤ 1099511627776 * 64 := Nat.mul_le_mul (by omega) (by omega)
    have m1 : IntKind.i64.wrap (d : Int) = d := IntWalk.i64_in _ (by omega)
    have m2 : IntKind.i64.wrap ((d : Int) * ((plK xs t xs.length).length : Int)) = ((d * (plK xs t xs.length).length : Nat) : Int) := by rw [← Int.natCast_mul]; exact IntWalk.i64_in _ (by omega)
    have m3 : IntKind.i64.wrap (((d * (plK xs t xs.length).length : Nat) : Int) + (((plK xs t r).length : Nat) : Int)) = ((d * (plK xs t xs.length).length + (plK xs t r).length : Nat) : Int) := by rw [← Int.natCast_add]; exact IntWalk.i64_in _ (by omega)
    generalize hmn : d * (plK xs t xs.length).length = mn at *
    clear hmul
    generalize hsm : mn + (plK xs t r).length = sm at *
    clear hsm hmn
    generalize hpl : (plK xs t xs.length).length = pl at *
    clear hpl
    generalize hpr : (plK xs t r).length = pr at *
    clear hpr
    go_enter Try.func9, Try.ntmps9
    go_wp2_with fail
    refine HT.out.mono ?_
    rintro e w2 ⟨rfl, hw2⟩
    go_wp2
    go_quiet (first | (go_at_call 30; with_reducible exact Calls.quiet_of_same (HA1.out _ (hw2.drewN _))) | (go_at_call 30; with_reducible exact Calls.quiet_of_same (HA2.out _ (hw2.drewN _))))
    go_wp2
    go_ret2
    exact ⟨by rw [HR.out]; rfl, hw2.drewN _⟩
  · have hq : (tkd xs n != 0) = true := by rw [bne_iff_ne]; exact h0
    have HR : Hid (ownR xs t n = (0, tkd xs n)) := Lib.hid (by unfold ownR; rw [if_neg h0])
    clear h0
    go_enter Try.func9, Try.ntmps9
    go_wp2_with fail
    refine HT.out.mono ?_
    rintro e w2 ⟨rfl, hw2⟩
    go_wp2
    go_ret2
    exact ⟨by rw [HR.out]; rfl, hw2⟩
theorem pl_at {xs : List Sl} {t : Int} {i j : Nat} (h : isT xs t i = true) (hj : (plK xs t i).length = j) : nth (plK xs t xs.length) j = i := by
  obtain ⟨m, hm⟩ := List.getElem?_of_mem (pl_mem.2 h)
  have := pl_cnt hm
  obtain rfl : m = j := by omega
  exact nth_eq hm
set_option maxRecDepth 10000 in
theorem rwhen_any (v : Value) (xs : List Sl) (t k : Int) (w : World) (hw : Sat σ w Hs) (hH : H ∈ Hs) (hs : kSl.IsSl H v xs) :
    Calls Try.prog 11 #[v, .int .i64 t, .int .i64 k] w fun e w' => e = .returned (.tuple #[.int .i64 (whenR xs t k).1, .int .i64 (whenR xs t k).2]) ∧ Sat σ w' Hs := by
  have HT := Lib.hid (rcheck_any v xs w hw hH hs)
  have HAM := Lib.hid (fun w' (h : Sat σ w' Hs) hl => among3_any v xs t xs.length w' h hH hs (Nat.le_refl _) hl)
  have HS := Lib.hid hs
  obtain ⟨A, c, rfl, hc1, hc2, _⟩ := hs.form
  clear hs
  by_cases h0 : chk xs = 0
  rotate_left
  · have hq : (chk xs != 0) = true := by rw [bne_iff_ne]; exact h0
    have HR : Hid (whenR xs t k = (0, chk xs)) := Lib.hid (by unfold whenR; rw [if_neg h0])
    clear h0
    go_enter Try.func11, Try.ntmps11
    go_wp2_with fail
    refine HT.out.mono ?_
    rintro e w2 ⟨rfl, hw2⟩
    go_wp2
    go_ret2
    exact ⟨by rw [HR.out]; rfl, hw2⟩
  obtain ⟨hl1, hl2, -, -⟩ := chk_ok h0
  have hp1 := plK_le xs t xs.length
  rw [h0] at HT
  have HR : Hid (whenR xs t k = if t < 0 ∨ (plK xs t xs.length).length = 0 ∨ k < 0 ∨ 1099511627776 < k ∨ 1099511627776 < whenAt xs t k.toNat then (0, 2) else ((whenAt xs t k.toNat : Int), 0)) := Lib.hid (by unfold whenR; rw [if_pos h0])
  have HW : Hid (whenAt xs t k.toNat = k.toNat / (plK xs t xs.length).length * xs.length + nth (plK xs t xs.length) (k.toNat % (plK xs t xs.length).length)) := Lib.hid rfl
  have HPA := Lib.hid (fun i j h hj => pl_at (xs := xs) (t := t) (i := i) (j := j) h hj)
  have HPF : Hid ((plK xs t xs.length).length = (plK xs t xs.length).length) := Lib.hid rfl
  clear h0
  generalize whenAt xs t k.toNat = at0 at *
  generalize whenR xs t k = res at *
  generalize hPd : (plK xs t xs.length).length = p at *
  have HPD := Lib.hid hPd
  clear hPd
  go_enter Try.func11, Try.ntmps11
  go_wp2_with fail
  refine HT.out.mono ?_
  rintro e w2 ⟨rfl, hw2⟩
  by_cases h1 : t < 0
  · rw [if_pos (.inl h1)] at HR
    go_wp2
    go_ret2
    exact ⟨by rw [HR.out]; rfl, hw2⟩
  by_cases h3 : k < 0
  · rw [if_pos (.inr (.inr (.inl h3)))] at HR
    go_wp2
    go_ret2
    exact ⟨by rw [HR.out]; rfl, hw2⟩
  have hd3 : decide (k < 0) = false := decide_eq_false h3
  by_cases h2 : p = 0
  · rw [if_pos (.inr (.inl h2))] at HR
    have h2' : ((p : Int) == 0) = true := by simp [h2]
    clear h2
    go_wp2_with fail
    refine (HAM.out w2 hw2 hl1).mono ?_
    rintro e w3 ⟨rfl, rfl⟩
    go_wp2
    go_ret2
    exact ⟨by rw [HR.out]; rfl, hw2⟩
  have h2' : ((p : Int) == 0) = false := beq_eq_false_iff_ne.2 (by omega)
  by_cases h4 : 1099511627776 < k
  · rw [if_pos (.inr (.inr (.inr (.inl h4))))] at HR
    go_wp2_with fail
    refine (HAM.out w2 hw2 hl1).mono ?_
    rintro e w3 ⟨rfl, rfl⟩
    go_wp2
    go_ret2
    exact ⟨by rw [HR.out]; rfl, hw2⟩
  have hd4 : decide (1099511627776 < k) = false := decide_eq_false h4
  obtain ⟨m, rfl⟩ := Int.eq_ofNat_of_zero_le (show 0 ≤ k by omega)
  rw [Int.toNat_natCast] at HW
  have hmod : ((m : Int)).tmod p = ((m % p : Nat) : Int) := rfl
  have hdiv : ((m : Int)).tdiv p = ((m / p : Nat) : Int) := rfl
  have hml : m % p < p := Nat.mod_lt _ (by omega)
  have hdl : m / p ≤ m := Nat.div_le_self _ _
  generalize m % p = r at *
  generalize m / p = d at *
  have hmul : d * xs.length ≤ 1099511627776 * 64 := Nat.mul_le_mul (by omega) (by omega)
  have m1 : IntKind.i64.wrap (d : Int) = d := IntWalk.i64_in _ (by omega)
  have m2 : IntKind.i64.wrap ((d : Int) * (xs.length : Int)) = ((d * xs.length : Nat) : Int) := by rw [← Int.natCast_mul]; exact IntWalk.i64_in _ (by omega)
  generalize d * xs.length = dl at *
  go_wp2_with fail
  refine (HAM.out w2 hw2 hl1).mono ?_
  rintro e w3 ⟨rfl, rfl⟩
  go_wp2_with fail
  refine (HAM.out w3 hw2 hl1).mono ?_
  rintro e w4 ⟨rfl, rfl⟩
  go_wp2
  go_quiet (fail)
  have hw4 := hw2.drewN nq
  go_wp2
  go_loopw [12, 11] (fun i o wr => ∃ q : Nat, q ≤ xs.length ∧ i = .int .i64 q ∧ o = .int .i64 ((r : Int) - ((plK xs t q).length : Nat)) ∧ (plK xs t q).length ≤ r ∧ Sat σ wr Hs) (fun i _ _ => xs.length - (intOf i).toNat)
  case atStart => exact ⟨0, by omega, rfl, by simp [plK], by simp [plK], hw4⟩
  case round =>
    obtain ⟨q, hq, rfl, rfl, hqr, hwr⟩ := hrel
    clear hw4
    by_cases hql : q < xs.length
    · obtain ⟨gb, off, c', x, hx, hv, e0, e1⟩ := sl_get HS.out hql
      injection hv with hv1 hv2 hv3
      subst hv1; subst hv3; clear hv2
      have c0 := hwr.cellAt hH e0
      have hqi : (q : Int) < xs.length := by omega
      have HPS := Lib.hid (plK_succ (t := t) hx)
      have hxt : isT xs t q = decide (x.t = t) := isT_some hx
      have HPA2 := Lib.hid (fun h => HPA.out q r h)
      by_cases ht : x.t = t
      · rw [if_pos ht] at HPS
        have htq : (x.t == t) = true := by simp [ht]
        rw [decide_eq_true ht] at hxt
        have HPQ := Lib.hid (HPA2.out hxt)
        clear ht hxt hx e0 e1 HPA2
        generalize plK xs t q = pk at *
        by_cases hrz : pk.length = r
        · have hnt := HPQ.out hrz
          have hz0 : ((r : Int) - (pk.length : Int) == 0) = true := by rw [beq_iff_eq]; omega
          have m3 : IntKind.i64.wrap ((dl : Int) + (q : Int)) = (at0 : Int) := by rw [HW.out, hnt, ← Int.natCast_add]; exact IntWalk.i64_in _ (by omega)
          clear HPQ hrz
          by_cases h5 : 1099511627776 < at0
          · rw [if_pos (.inr (.inr (.inr (.inr h5))))] at HR
            have h5' : (1099511627776 : Int) < at0 := by omega
            go_wp2
            go_ret2
            exact ⟨by rw [HR.out]; rfl, hwr⟩
          · rw [if_neg (by omega)] at HR
            have h5' : ¬ ((1099511627776 : Int) < at0) := by omega
            go_wp2
            go_ret2
            exact ⟨by rw [HR.out]; rfl, hwr⟩
        · have hz0 : ((r : Int) - (pk.length : Int) == 0) = false := beq_eq_false_iff_ne.2 (by omega)
          have m4 : IntKind.i64.wrap ((r : Int) - (pk.length : Int) - 1) = (r : Int) - (pk.length : Int) - 1 := IntWalk.i64_in _ (by omega)
          clear HPQ
          go_wp2
          go_roundw
          case measure => simp [intOf]; omega
          case rel => exact ⟨q + 1, by omega, by go_num, by rw [HPS.out, List.length_append]; congr 1; simp; omega, by rw [HPS.out]; simp; omega, hwr⟩
      · rw [if_neg ht, List.append_nil] at HPS
        have htq : (x.t == t) = false := beq_eq_false_iff_ne.2 ht
        clear ht hxt hx e0 e1 HPA2
        generalize plK xs t q = pk at *
        go_wp2
        go_roundw
        case measure => simp [intOf]; omega
        case rel => exact ⟨q + 1, by omega, by go_num, by rw [HPS.out], by rw [HPS.out]; exact hqr, hwr⟩
    · exfalso
      obtain rfl : q = xs.length := by omega
      have := HPD.out
      omega
end
end Go.Proofs.Ytiplmelpagiklaa
