/- Walks: the reference's Gap; SchedOwns. -/
import Derived.Test.YtiplmelpagiklaaD2
set_option linter.unusedVariables false
set_option linter.unusedSimpArgs false
namespace Go.Proofs.Ytiplmelpagiklaa
open Go.RowKit
set_option maxHeartbeats 4000000
/-- The greatest way from an own slot so far. -/
structure GapP (xs : List Sl) (t : Int) (i wd : Nat) : Prop where
  ge : ∀ j x, (plK xs t xs.length)[j]? = some x → x < i → nxD xs t j ≤ wd
  at_ : wd = 0 ∨ ∃ j x, (plK xs t xs.length)[j]? = some x ∧ x < i ∧ nxD xs t j = wd
theorem GapP.skip {xs : List Sl} {t : Int} {i wd : Nat} (h : GapP xs t i wd) (hi : isT xs t i = false) : GapP xs t (i + 1) wd := by
  refine ⟨fun j x hx hl => ?_, ?_⟩
  · rcases Nat.lt_or_ge x i with h1 | h1
    · exact h.ge j x hx h1
    · obtain rfl : x = i := by omega
      have := (pl_get hx).1
      rw [hi] at this
      cases this
  · rcases h.at_ with h1 | ⟨j, x, h1, h2, h3⟩
    · exact .inl h1
    · exact .inr ⟨j, x, h1, by omega, h3⟩
theorem GapP.step {xs : List Sl} {t : Int} {i wd j : Nat} (h : GapP xs t i wd) (hi : (plK xs t xs.length)[j]? = some i) : GapP xs t (i + 1) (max wd (nxD xs t j)) := by
  refine ⟨fun j' x hx hl => ?_, ?_⟩
  · rcases Nat.lt_or_ge x i with h1 | h1
    · have := h.ge j' x hx h1; omega
    · obtain rfl : x = i := by omega
      have h1 := pl_cnt hx
      have h2 := pl_cnt hi
      obtain rfl : j' = j := by omega
      omega
  · rcases Nat.le_total wd (nxD xs t j) with h1 | h1
    · exact .inr ⟨j, i, hi, by omega, by omega⟩
    · rw [show max wd (nxD xs t j) = wd by omega]
      rcases h.at_ with h1 | ⟨j', x, h1, h2, h3⟩
      · exact .inl h1
      · exact .inr ⟨j', x, h1, by omega, h3⟩
theorem GapP.end {xs : List Sl} {t : Int} {wd g : Nat} (h : GapP xs t xs.length wd) (hg : ∀ j, j < (plK xs t xs.length).length → nxD xs t j ≤ g) (hj : ∃ j, j < (plK xs t xs.length).length ∧ nxD xs t j = g) (h1 : 1 ≤ g) : wd = g := by
  obtain ⟨j, hj, he⟩ := hj
  obtain ⟨x, hx⟩ := pl_ex (xs := xs) (t := t) hj
  have h2 := h.ge j x hx (pl_get hx).2
  rcases h.at_ with h3 | ⟨j', x', h3, h4, h5⟩
  · omega
  · have := hg j' (List.getElem?_eq_some_iff.1 h3).1
    omega
section
variable {σ : World} {Hs : List Hp} {H M N : Hp}
set_option maxRecDepth 10000 in
theorem rgap_any (v : Value) (xs : List Sl) (t : Int) (w : World) (hw : Sat σ w Hs) (hH : H ∈ Hs) (hs : kSl.IsSl H v xs) :
    Calls Try.prog 13 #[v, .int .i64 t] w fun e w' => e = .returned (.tuple #[.int .i64 (gapR xs t).1, .int .i64 (gapR xs t).2]) ∧ Sat σ w' Hs := by
  have HT := Lib.hid (rcheck_any v xs w hw hH hs)
  have HAM := Lib.hid (fun w' (h : Sat σ w' Hs) hl => among3_any v xs t xs.length w' h hH hs (Nat.le_refl _) hl)
  have HS := Lib.hid hs
  obtain ⟨A, c, rfl, hc1, hc2, _⟩ := hs.form
  clear hs
  by_cases h0 : chk xs = 0
  rotate_left
  · have hq : (chk xs != 0) = true := by rw [bne_iff_ne]; exact h0
    have HR : Hid (gapR xs t = (0, chk xs)) := Lib.hid (by unfold gapR; rw [if_neg h0])
    clear h0
    go_enter Try.func13, Try.ntmps13
    go_wp2_with fail
    refine HT.out.mono ?_
    rintro e w2 ⟨rfl, hw2⟩
    go_wp2
    go_ret2
    exact ⟨by rw [HR.out]; rfl, hw2⟩
  obtain ⟨hl1, hl2, -, -⟩ := chk_ok h0
  have hp1 := plK_le xs t xs.length
  rw [h0] at HT
  have HR : Hid (gapR xs t = if t < 0 ∨ (plK xs t xs.length).length = 0 then (0, 2) else (gapK (plK xs t xs.length) xs.length ((plK xs t xs.length).length - 1), 0)) := Lib.hid (by unfold gapR; rw [if_pos h0])
  clear h0
  generalize gapR xs t = res at *
  by_cases h1 : t < 0
  · rw [if_pos (.inl h1)] at HR
    go_enter Try.func13, Try.ntmps13
    go_wp2_with fail
    refine HT.out.mono ?_
    rintro e w2 ⟨rfl, hw2⟩
    go_wp2
    go_ret2
    exact ⟨by rw [HR.out]; rfl, hw2⟩
  by_cases h2 : (plK xs t xs.length).length = 0
  · rw [if_pos (.inr h2)] at HR
    rw [h2] at HAM
    go_enter Try.func13, Try.ntmps13
    go_wp2_with fail
    refine HT.out.mono ?_
    rintro e w2 ⟨rfl, hw2⟩
    go_wp2_with fail
    refine (HAM.out w2 hw2 hl1).mono ?_
    rintro e w3 ⟨rfl, rfl⟩
    go_wp2
    go_ret2
    exact ⟨by rw [HR.out]; rfl, hw2⟩
  have h2' : (((plK xs t xs.length).length : Int) == 0) = false := beq_eq_false_iff_ne.2 (by omega)
  rw [if_neg (by omega)] at HR
  obtain ⟨g, hg0, hg1, hg2, hg3, hg4⟩ := gap_facts (xs := xs) (t := t) (by omega)
  rw [hg0] at HR
  have HE := Lib.hid (fun wd (h : GapP xs t xs.length wd) => h.end hg3 hg4 hg1)
  have HN := Lib.hid (fun j x (hx : (plK xs t xs.length)[j]? = some x) => nxD_isD hx)
  have HMEM := Lib.hid (fun i (h : isT xs t i = true) => List.getElem?_of_mem (pl_mem.2 h))
  clear hg0 hg3 hg4
  generalize hpd : (plK xs t xs.length).length = p at *
  clear hpd
  go_enter Try.func13, Try.ntmps13
  go_wp2_with fail
  refine HT.out.mono ?_
  rintro e w2 ⟨rfl, hw2⟩
  go_wp2_with fail
  refine (HAM.out w2 hw2 hl1).mono ?_
  rintro e w3 ⟨rfl, rfl⟩
  go_wp2
  go_loopw [8, 7, 9] (fun i o _ wi => ∃ k wd : Nat, k ≤ xs.length ∧ wd ≤ 64 ∧ i = .int .i64 k ∧ o = .int .i64 wd ∧ Sat σ wi Hs ∧ Eager (GapP xs t k wd)) (fun i _ _ _ => xs.length - (intOf i).toNat)
  case atStart => exact ⟨0, 0, by omega, by omega, rfl, rfl, hw2, ⟨⟨fun j x hx h => by omega, .inl rfl⟩⟩⟩
  case round =>
    obtain ⟨k, wd, hk, hwd, rfl, rfl, hwi, hE⟩ := hrel
    obtain ⟨wo, rfl⟩ : ∃ wo : World, wo = wr := ⟨_, rfl⟩
    clear hw2
    by_cases hkl : k < xs.length
    · obtain ⟨gb, off, c', x, hx, hv, e0, e1⟩ := sl_get HS.out hkl
      injection hv with hv1 hv2 hv3
      subst hv1; subst hv3; clear hv2
      have c0 := hwi.cellAt hH e0
      have hki : (k : Int) < xs.length := by omega
      have hxt : isT xs t k = decide (x.t = t) := isT_some hx
      by_cases ht : x.t = t
      · have htq : (x.t != t) = false := by rw [ht]; simp
        rw [decide_eq_true ht] at hxt
        obtain ⟨j, hj⟩ := HMEM.out k hxt
        obtain ⟨n1, n2, hD⟩ := HN.out j k hj
        have HG2 := Lib.hid (hE.out.step hj)
        obtain ⟨d, hd⟩ : ∃ d, nxD xs t j = d := ⟨_, rfl⟩
        rw [hd] at n1 n2 hD HG2
        have hD' := Lib.hid hD
        clear ht hxt hx e0 e1 hj hD hd
        go_wp2
        clear c0
        go_loopw [9] (fun o wi => ∃ q : Nat, 1 ≤ q ∧ q ≤ d ∧ o = .int .i64 q ∧ Sat σ wi Hs) (fun o _ => d - (intOf o).toNat)
        case atStart => exact ⟨1, by omega, by omega, rfl, hwi⟩
        case round =>
          obtain ⟨q, hq1, hq, rfl, hwj⟩ := hrel
          clear hwi
          obtain ⟨r, hrd⟩ : ∃ r, (k + q) % xs.length = r := ⟨_, rfl⟩
          have hrl : r < xs.length := by rw [← hrd]; exact Nat.mod_lt _ hl2
          obtain ⟨gb3, off3, c3', y, hy, hv, e0, e1⟩ := sl_get HS.out hrl
          injection hv with hv1 hv2 hv3
          injection hv1 with hv1
          injection hv1 with hv1 hv4 hv5
          subst hv1; subst hv4; clear hv2 hv3 hv5
          have c0 := hwj.cellAt hH e0
          have hxt : isT xs t r = decide (y.t = t) := isT_some hy
          have hmod : ((k : Int) + (q : Int)).tmod xs.length = (r : Int) := by rw [← Int.natCast_add, ← hrd]; rfl
          have mkq : IntKind.i64.wrap ((k : Int) + (q : Int)) = (k : Int) + (q : Int) := IntWalk.i64_in _ (by omega)
          have hz : ((xs.length : Int) == 0) = false := beq_eq_false_iff_ne.2 (by omega)
          have hri : (r : Int) < xs.length := by omega
          have mq : IntKind.i64.wrap ((q : Int) + 1) = (q : Int) + 1 := IntWalk.i64_in _ (by omega)
          by_cases hqd : q < d
          · have hn := hD'.out.2 (q - 1) (by omega)
            rw [show k + 1 + (q - 1) = k + q by omega, hrd, hxt, decide_eq_false_iff_not] at hn
            have hne : (y.t != t) = true := by rw [bne_iff_ne]; exact hn
            clear hn hxt hy e0 e1 hrd
            go_wp2
            go_roundw
            case measure => simp [intOf]; omega
            case rel => exact ⟨q + 1, by omega, by omega, by go_num, hwj⟩
          · obtain rfl : q = d := by omega
            have hn := hD'.out.1
            rw [show k + 1 + (q - 1) = k + q by omega, hrd, hxt, decide_eq_true_eq] at hn
            have hne : (y.t != t) = false := by rw [hn]; simp
            clear hn hxt hy e0 e1 hrd
            by_cases hm : wd < q
            · have hmi : (wd : Int) < q := by omega
              rw [show max wd q = q by omega] at HG2
              go_wp2
              exact ⟨⟨k + 1, q, by omega, by omega, by go_num, by first | rfl | (congr 1; omega), hwj, ⟨HG2.out⟩⟩, by simp [intOf]; omega⟩
            · have hmi : ¬ ((wd : Int) < q) := by omega
              rw [show max wd q = wd by omega] at HG2
              go_wp2
              all_goals exact ⟨⟨k + 1, wd, by omega, by omega, by go_num, by first | rfl | (congr 1; omega), hwj, ⟨HG2.out⟩⟩, by simp [intOf]; omega⟩
      · have htq : (x.t != t) = true := by rw [bne_iff_ne]; exact ht
        rw [decide_eq_false ht] at hxt
        have HG2 := Lib.hid (hE.out.skip hxt)
        clear ht hxt hx e0 e1
        go_wp2
        go_roundw
        case measure => simp [intOf]; omega
        case rel => exact ⟨k + 1, wd, by omega, by omega, by go_num, rfl, hwi, ⟨HG2.out⟩⟩
    · obtain rfl : k = xs.length := by omega
      have he := HE.out wd hE.out
      subst he
      go_wp2
      go_ret2
      exact ⟨by rw [HR.out]; rfl, hwi⟩
set_option maxRecDepth 10000 in
theorem owns_law (v : Value) (xs : List Sl) (t n k : Int) (w : World) (hw : Sat σ w Hs) (hH : H ∈ Hs) (hs : kSl.IsSl H v xs) :
    Calls Try.prog 3 #[v, .int .i64 t, .int .i64 n, .int .i64 k] w fun e w' => e = .returned (.bool true) ∧ Sat σ w' Hs := by
  have HS := Lib.hid hs
  obtain ⟨A, c, rfl, hc1, hc2, _⟩ := hs.form
  clear hs
  go_enter Try.func3, Try.ntmps3
  go_wp2_with fail
  refine (own2_any _ xs t n w hw hH HS.out).mono ?_
  rintro e w1 ⟨rfl, hw1⟩
  go_wp2_with fail
  refine (rown_any _ xs t n w1 hw1 hH HS.out).mono ?_
  rintro e w2 ⟨rfl, hw2⟩
  generalize ownR xs t n = r1 at *
  clear hw hw1
  go_wp2_with fail
  refine (when_any _ xs t k w2 hw2 hH HS.out).mono ?_
  rintro e w3 ⟨rfl, hw3⟩
  go_wp2_with fail
  refine (rwhen_any _ xs t k w3 hw3 hH HS.out).mono ?_
  rintro e w4 ⟨rfl, hw4⟩
  generalize whenR xs t k = r2 at *
  clear hw2 hw3
  go_wp2_with fail
  refine (gap_any _ xs t w4 hw4 hH HS.out).mono ?_
  rintro e w5 ⟨rfl, hw5⟩
  go_wp2_with fail
  refine (rgap_any _ xs t w5 hw5 hH HS.out).mono ?_
  rintro e w6 ⟨rfl, hw6⟩
  generalize gapR xs t = r3 at *
  clear hw4 hw5
  go_wp2_with fail
  refine (works_any w6 hw6).mono ?_
  rintro e w7 ⟨rfl, hw7⟩
  go_wp2
  go_ret
  exact ⟨rfl, hw7⟩
end
end Go.Proofs.Ytiplmelpagiklaa
