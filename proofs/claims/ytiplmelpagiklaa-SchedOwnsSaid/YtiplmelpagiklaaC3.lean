/- Walks: BinarySearch, Own. -/
import Derived.Test.YtiplmelpagiklaaC2
set_option linter.unusedVariables false
set_option linter.unusedSimpArgs false
namespace Go.Proofs.Ytiplmelpagiklaa
open Go.RowKit
set_option maxHeartbeats 1000000
/-- How many are less. -/
def lessN (l : List Nat) (r : Nat) : Nat := (l.filter fun x => decide (x < r)).length
theorem lessN_eq {l : List Nat} {r a : Nat} (ha : a ≤ l.length) (h1 : ∀ (q x : Nat), q < a → l[q]? = some x → x < r) (h2 : ∀ (q x : Nat), a ≤ q → l[q]? = some x → r ≤ x) : lessN l r = a := by
  unfold lessN
  conv => lhs; rw [← List.take_append_drop a l]
  rw [List.filter_append, List.length_append]
  have e1 : (l.take a).filter (fun x => decide (x < r)) = l.take a := List.filter_eq_self.2 fun x hx => by
    obtain ⟨q, hq⟩ := List.getElem?_of_mem hx
    rw [List.getElem?_take] at hq
    split at hq
    · simpa using h1 q x (by omega) hq
    · cases hq
  have e2 : (l.drop a).filter (fun x => decide (x < r)) = [] := List.filter_eq_nil_iff.2 fun x hx => by
    obtain ⟨q, hq⟩ := List.getElem?_of_mem hx
    rw [List.getElem?_drop] at hq
    have := h2 (a + q) x (by omega) hq
    simp
    omega
  rw [e1, e2]
  simp
  omega
theorem plK_sorted (xs : List Sl) (t : Int) (k : Nat) : (plK xs t k).Pairwise (· < ·) := List.Pairwise.filter _ List.pairwise_lt_range
theorem plK_split (xs : List Sl) (t : Int) (r k : Nat) (h : r ≤ k) : plK xs t k = plK xs t r ++ ((List.range (k - r)).map (r + ·)).filter (isT xs t) := by
  unfold plK
  conv => lhs; rw [show k = r + (k - r) by omega, List.range_add]
  rw [List.filter_append]
theorem plK_lt {xs : List Sl} {t : Int} {k x : Nat} (h : x ∈ plK xs t k) : x < k ∧ isT xs t x = true := by
  unfold plK at h
  rw [List.mem_filter, List.mem_range] at h
  exact h
theorem lessN_pl (xs : List Sl) (t : Int) (r k : Nat) (h : r ≤ k) : lessN (plK xs t k) r = (plK xs t r).length := by
  unfold lessN
  rw [plK_split xs t r k h, List.filter_append, List.length_append]
  have e1 : (plK xs t r).filter (fun x => decide (x < r)) = plK xs t r := List.filter_eq_self.2 fun x hx => by simpa using (plK_lt hx).1
  have e2 : (((List.range (k - r)).map (r + ·)).filter (isT xs t)).filter (fun x => decide (x < r)) = [] := List.filter_eq_nil_iff.2 fun x hx => by
    rw [List.mem_filter, List.mem_map] at hx
    obtain ⟨⟨y, _, rfl⟩, _⟩ := hx
    simp
  rw [e1, e2]
  rfl
section
variable {σ : World} {Hs : List Hp} {H M N : Hp}
theorem isNaN_any (a : Int) (w : World) : Calls Try.prog 38 #[.int .i64 a] w fun e w' => e = .returned (.bool false) ∧ w = w' := by
  go_enter Try.func38, Try.ntmps38
  go_wp2
  go_ret
  exact ⟨by simp, rfl⟩
theorem isNaN2_any (a : Int) (w : World) : Calls Try.prog 36 #[.int .i64 a] w fun e w' => e = .returned (.bool false) ∧ w = w' := by
  go_enter Try.func36, Try.ntmps36
  go_wp2
  go_ret
  exact ⟨by simp, rfl⟩
theorem less_any (a b : Int) (w : World) : Calls Try.prog 35 #[.int .i64 a, .int .i64 b] w fun e w' => e = .returned (.bool (decide (a < b))) ∧ w = w' := by
  go_enter Try.func35, Try.ntmps35
  go_wp2_with (go_at_call 38; refine (isNaN_any _ _).mono ?_; rintro e w2 ⟨rfl, rfl⟩)
  go_ret
  exact ⟨rfl, rfl⟩
theorem half_eq (a : Nat) (h : a ≤ 200) : IntKind.i64.wrap (IntKind.u64.wrap (a : Int) / 2) = ((a / 2 : Nat) : Int) := by
  have e : IntKind.u64.wrap (a : Int) = a := by simp only [IntKind.wrap_u64]; omega
  rw [e]
  exact IntWalk.i64_in _ (by omega)
theorem search_any (v : Value) (l : List Nat) (r : Nat) (w : World) (hw : Sat σ w Hs) (hH : H ∈ Hs) (hs : kI.IsSl H v (natsI l)) (hl : l.length ≤ 64) (hso : l.Pairwise (· < ·)) :
    Calls Try.prog 28 #[v, .int .i64 r] w fun e w' => ∃ q, e = .returned (.tuple #[.int .i64 (lessN l r : Nat), .bool q]) ∧ Sat σ w' Hs := by
  obtain ⟨A, c, rfl, hc1, hc2, _⟩ := hs.form
  have hll : (natsI l).length = l.length := by simp [natsI]
  rw [hll] at hs hc1 ⊢
  clear hll
  have HSO := Lib.hid (fun (i j x y : Nat) (hij : i < j) (hx : l[i]? = some x) (hy : l[j]? = some y) => (show x < y from by
    obtain ⟨h1, e1⟩ := List.getElem?_eq_some_iff.1 hx
    obtain ⟨h2, e2⟩ := List.getElem?_eq_some_iff.1 hy
    rw [← e1, ← e2]
    exact List.pairwise_iff_getElem.1 hso i j h1 h2 hij))
  clear hso
  go_enter Try.func28, Try.ntmps28
  go_wp2
  go_loopw [7, 8, 9] (fun i j _ wr => ∃ a b : Nat, a ≤ b ∧ b ≤ l.length ∧ i = .int .i64 a ∧ j = .int .i64 b ∧ Sat σ wr Hs ∧ Eager ((∀ (q x : Nat), q < a → l[q]? = some x → x < r) ∧ (∀ (q x : Nat), b ≤ q → l[q]? = some x → r ≤ x))) (fun i j _ _ => (intOf j).toNat - (intOf i).toNat)
  case atStart => exact ⟨0, l.length, by omega, by omega, rfl, rfl, hw, ⟨fun q x h => by omega, fun q x h hx => by have := (List.getElem?_eq_some_iff.1 hx).1; omega⟩⟩
  case round =>
    obtain ⟨a, b, hab, hbl, rfl, rfl, hwr, hE⟩ := hrel
    clear hw
    by_cases hlt : a < b
    · obtain ⟨s, hsd⟩ : ∃ s : Nat, s = a + b := ⟨_, rfl⟩
      obtain ⟨h, hhd⟩ : ∃ h : Nat, h = s / 2 := ⟨_, rfl⟩
      have hb1 : a ≤ h ∧ h < b := by omega
      obtain ⟨g, off, c', x, hx, hv, e0⟩ := nat_get hs (k := h) (by omega)
      injection hv with hv1 hv2 hv3
      subst hv1; subst hv3; clear hv2
      have c0 := hwr.cellAt hH e0
      have hhalf : IntKind.i64.wrap (IntKind.u64.wrap (s : Int) / 2) = (h : Int) := by rw [hhd]; exact half_eq s (by omega)
      have m1 : IntKind.i64.wrap ((a : Int) + (b : Int)) = (s : Int) := by rw [show (a : Int) + b = s by omega]; exact IntWalk.i64_in _ (by omega)
      have hmi : (h : Int) < l.length := by omega
      have hab' : (a : Int) < b := by omega
      have HX := Lib.hid hx
      clear hx e0 hs hsd hhd
      by_cases hxr : (x : Int) < r
      · have hd : decide ((x : Int) < r) = true := decide_eq_true hxr
        go_wp2_with (go_at_call 35; refine (less_any _ _ _).mono ?_; rintro e w2 ⟨rfl, rfl⟩)
        exact ⟨⟨h + 1, b, by omega, hbl, by go_num, rfl, hwr, ⟨fun q y hq hy => by
          by_cases e : q = h
          · subst e; rw [HX.out] at hy; cases hy; omega
          · have := HSO.out q h y x (by omega) hy HX.out; omega, hE.out.2⟩⟩, by simp [intOf]; omega⟩
      · have hd : decide ((x : Int) < r) = false := decide_eq_false hxr
        go_wp2_with (go_at_call 35; refine (less_any _ _ _).mono ?_; rintro e w2 ⟨rfl, rfl⟩)
        exact ⟨⟨a, h, by omega, by omega, rfl, rfl, hwr, ⟨hE.out.1, fun q y hq hy => by
          by_cases e : q = h
          · subst e; rw [HX.out] at hy; cases hy; omega
          · have := HSO.out h q x y (by omega) HX.out hy; omega⟩⟩, by simp [intOf]; omega⟩
    · obtain rfl : a = b := by omega
      have HL := Lib.hid (lessN_eq hbl hE.out.1 hE.out.2)
      by_cases hal : a < l.length
      · obtain ⟨g, off, c', x, hx, hv, e0⟩ := nat_get hs hal
        injection hv with hv1 hv2 hv3
        subst hv1; subst hv3; clear hv2
        have c0 := hwr.cellAt hH e0
        have hai : (a : Int) < l.length := by omega
        clear hx hs e0
        cases hq : ((x : Int) == r)
        · go_wp2_with (go_at_call 36; refine (isNaN2_any _ _).mono ?_; rintro e w2 ⟨rfl, rfl⟩)
          go_ret2
          exact ⟨_, by rw [HL.out]; rfl, hwr⟩
        · go_wp2_with (go_at_call 36; refine (isNaN2_any _ _).mono ?_; rintro e w2 ⟨rfl, rfl⟩)
          go_ret2
          exact ⟨_, by rw [HL.out]; rfl, hwr⟩
      · have hai : ¬ ((a : Int) < l.length) := by omega
        go_wp2
        go_ret2
        exact ⟨.inl (by rw [HL.out]; rfl), hwr⟩
def ownR (xs : List Sl) (t n : Int) : Int × Int :=
  if tkd xs n = 0 then (if t < 0 ∨ 8 ≤ t then (0, 2) else (((n.toNat / xs.length * (plK xs t xs.length).length + (plK xs t (n.toNat % xs.length)).length : Nat) : Int), 0)) else (0, tkd xs n)
theorem own2_any (v : Value) (xs : List Sl) (t n : Int) (w : World) (hw : Sat σ w Hs) (hH : H ∈ Hs) (hs : kSl.IsSl H v xs) :
    Calls Try.prog 8 #[v, .int .i64 t, .int .i64 n] w fun e w' => e = .returned (.tuple #[.int .i64 (ownR xs t n).1, .int .i64 (ownR xs t n).2]) ∧ Sat σ w' Hs := by
  have HT := Lib.hid (ticked_any v xs n w hw hH hs)
  have HP := Lib.hid (fun w' (h : Sat σ w' Hs) hl => places_any v xs t w' h hH hs hl)
  obtain ⟨A, c, rfl, hc1, hc2, _⟩ := hs.form
  clear hs
  by_cases h0 : tkd xs n = 0
  · obtain ⟨hc, hn1, hn2⟩ := tkd_ok h0
    obtain ⟨hl1, hl2, -, -⟩ := chk_ok hc
    obtain ⟨m, rfl⟩ := Int.eq_ofNat_of_zero_le hn1
    by_cases h1 : t < 0
    · have HR : Hid (ownR xs t m = (0, 2)) := Lib.hid (by unfold ownR; rw [if_pos h0, if_pos (.inl h1)])
      rw [h0] at HT
      go_enter Try.func8, Try.ntmps8
      go_wp2_with fail
      refine HT.out.mono ?_
      rintro e w2 ⟨rfl, hw2⟩
      go_wp2
      go_ret2
      exact ⟨by rw [HR.out]; rfl, hw2⟩
    by_cases h2 : 8 ≤ t
    · have HR : Hid (ownR xs t m = (0, 2)) := Lib.hid (by unfold ownR; rw [if_pos h0, if_pos (.inr h2)])
      rw [h0] at HT
      go_enter Try.func8, Try.ntmps8
      go_wp2_with fail
      refine HT.out.mono ?_
      rintro e w2 ⟨rfl, hw2⟩
      go_wp2
      go_ret2
      exact ⟨by rw [HR.out]; rfl, hw2⟩
    have hml : m % xs.length < xs.length := Nat.mod_lt _ hl2
    have hmod : ((m : Int)).tmod xs.length = ((m % xs.length : Nat) : Int) := rfl
    have hdiv : ((m : Int)).tdiv xs.length = ((m / xs.length : Nat) : Int) := rfl
    have hz : ((xs.length : Int) == 0) = false := beq_eq_false_iff_ne.2 (by omega)
    have hd2 : decide (8 ≤ t) = false := decide_eq_false h2
    have hdl : m / xs.length ≤ m := Nat.div_le_self _ _
    have HR : Hid (ownR xs t m = (((m / xs.length * (plK xs t xs.length).length + (plK xs t (m % xs.length)).length : Nat) : Int), 0)) := Lib.hid (by unfold ownR; rw [if_pos h0, if_neg (by omega), Int.toNat_natCast])
    have HLS := Lib.hid (lessN_pl xs t (m % xs.length) xs.length (by omega))
    have HSO := Lib.hid (plK_sorted xs t xs.length)
    have hp1 := plK_le xs t xs.length
    have hp2 := plK_le xs t (m % xs.length)
    rw [h0] at HT
    clear hc h0 hn1
    generalize m % xs.length = r at *
    generalize m / xs.length = d at *
    have hmul : d * (plK xs t xs.length).length ≤ 1099511627776 * 64 := Nat.mul_le_mul (by omega) (by omega)
    have m1 : IntKind.i64.wrap (d : Int) = d := IntWalk.i64_in _ (by omega)
    have m2 : IntKind.i64.wrap ((d : Int) * ((plK xs t xs.length).length : Int)) = ((d * (plK xs t xs.length).length : Nat) : Int) := by rw [← Int.natCast_mul]; exact IntWalk.i64_in _ (by omega)
    have m3 : IntKind.i64.wrap (((d * (plK xs t xs.length).length : Nat) : Int) + (((plK xs t r).length : Nat) : Int)) = ((d * (plK xs t xs.length).length + (plK xs t r).length : Nat) : Int) := by rw [← Int.natCast_add]; exact IntWalk.i64_in _ (by omega)
    generalize hmn : d * (plK xs t xs.length).length = mn at *
    clear hmul
    generalize hsm : mn + (plK xs t r).length = sm at *
    clear hsm hmn
    generalize hpl : plK xs t xs.length = pl at *
    clear hpl
    generalize hpr : (plK xs t r).length = pr at *
    clear hpr
    go_enter Try.func8, Try.ntmps8
    go_wp2_with fail
    refine HT.out.mono ?_
    rintro e w2 ⟨rfl, hw2⟩
    go_wp2_with fail
    refine (HP.out w2 hw2 hl1).mono ?_
    rintro e w3 ⟨v3, N, rfl, hw3, hv3⟩
    have hv3' := Lib.hid hv3
    obtain ⟨A3, c3, rfl, _⟩ := hv3.form
    have hll : (natsI pl).length = pl.length := by simp [natsI]
    rw [hll] at hv3' ⊢
    clear hll hv3
    go_wp2_with fail
    refine (search_any _ pl r w3 hw3 (by simp) hv3'.out (by omega) HSO.out).mono ?_
    rintro e w4 ⟨q, rfl, hw4⟩
    rw [HLS.out]
    go_wp2
    go_ret2
    exact ⟨by rw [HR.out]; rfl, hw4.drop⟩
  · have hq : (tkd xs n == 0) = false := beq_eq_false_iff_ne.2 h0
    have HR : Hid (ownR xs t n = (0, tkd xs n)) := Lib.hid (by unfold ownR; rw [if_neg h0])
    clear h0
    go_enter Try.func8, Try.ntmps8
    go_wp2_with fail
    refine HT.out.mono ?_
    rintro e w2 ⟨rfl, hw2⟩
    go_wp2
    go_ret2
    exact ⟨by rw [HR.out]; rfl, hw2⟩
end
end Go.Proofs.Ytiplmelpagiklaa
