/- Walks: a table is judged. -/
import Derived.Test.YtiplmelpagiklaaIdx
import Derived.Test.YtiplmelpagiklaaChecked
set_option linter.unusedVariables false
set_option linter.unusedSimpArgs false
namespace Go.Proofs.Ytiplmelpagiklaa
open Go.RowKit
set_option maxHeartbeats 1000000
structure Sl where
  t : Int
  b : Int
def kSl : Kd Sl := Kd.iso (Kd.pair (Kd.int .i64) (Kd.int .i64)) (fun x => (x.t, x.b))
theorem kSl_cells {H : Hp} {x : Sl} {cs : List Value} (h : kSl.rep H x cs) : cs = [.int .i64 x.t, .int .i64 x.b] := by
  obtain ⟨_, _, rfl, rfl, rfl⟩ := h
  rfl
theorem kSl_mk {H : Hp} {x : Sl} : kSl.rep H x [.int .i64 x.t, .int .i64 x.b] := ⟨_, _, rfl, rfl, rfl⟩
def wrongB (x : Sl) : Bool := decide (x.t < -1) || decide (8 ≤ x.t) || decide (x.b < 1) || decide (4096 < x.b)
def ownB (x : Sl) : Bool := decide (0 ≤ x.t)
/-- What is wrong with a table. -/
def chk (xs : List Sl) : Int := if decide (64 < xs.length) || xs.any wrongB || !(xs.any ownB) then 50 else 0
/-- and with a tick -/
def tkd (xs : List Sl) (n : Int) : Int := if chk xs = 0 then (if n < 0 ∨ 1099511627776 < n then 2 else 0) else chk xs
theorem idx_any {α : Type} (p : α → Bool) (xs : List α) : decide (0 ≤ idxI p xs) = xs.any p := by
  rcases idx_cases p xs with ⟨h1, h2⟩ | ⟨k, x, h1, h2, h3, h4, h5⟩
  · rw [h1, show xs.any p = false from ?_]
    · rfl
    · rw [List.any_eq_false]
      intro x hx
      simpa using List.find?_eq_none.1 h2 x hx
  · rw [h1, show xs.any p = true from List.any_eq_true.2 ⟨x, List.mem_of_getElem? h2, h4⟩]
    simp
section
variable {σ : World} {Hs : List Hp} {H M N : Hp}
theorem sl_get {v : Value} {xs : List Sl} (hs : kSl.IsSl H v xs) {k : Nat} (hk : k < xs.length) : ∃ b off c x, xs[k]? = some x ∧ v = .slice (some ⟨b, off, none⟩) xs.length c ∧ Hp.cell H b (off + k * 2) = some (.int .i64 x.t) ∧ Hp.cell H b (off + k * 2 + 1) = some (.int .i64 x.b) := by
  obtain ⟨A, c, rfl, _⟩ := hs.form
  obtain ⟨b, off, cs, rfl, hcs, hcell⟩ := hs.get k _ (List.getElem?_eq_getElem hk)
  obtain rfl := kSl_cells hcs
  exact ⟨b, off, c, _, List.getElem?_eq_getElem hk, rfl, hcell 0 _ rfl, hcell 1 _ rfl⟩
theorem wrong_any (x : Sl) (w : World) :
    Calls Try.prog 32 #[.agg #[.int .i64 x.t, .int .i64 x.b]] w fun e w' => e = .returned (.bool (wrongB x)) ∧ Below w.heap.size w w' := by
  unfold wrongB
  by_cases h1 : x.t < -1
  · go_enter Try.func32, Try.ntmps32
    go_wp2
    go_ret
    exact ⟨by simp [h1], (Below.refl _ _).alloc (Nat.le_refl _) _⟩
  by_cases h2 : 8 ≤ x.t
  · go_enter Try.func32, Try.ntmps32
    go_wp2
    go_ret
    exact ⟨by simp [h2], (Below.refl _ _).alloc (Nat.le_refl _) _⟩
  by_cases h3 : x.b < 1
  · have hd : decide (8 ≤ x.t) = false := decide_eq_false h2
    go_enter Try.func32, Try.ntmps32
    go_wp2
    go_ret
    exact ⟨by simp [h3], (Below.refl _ _).alloc (Nat.le_refl _) _⟩
  · have hd : decide (8 ≤ x.t) = false := decide_eq_false h2
    have hd1 : decide (x.t < -1) = false := decide_eq_false h1
    have hd2 : decide (x.b < 1) = false := decide_eq_false h3
    go_enter Try.func32, Try.ntmps32
    go_wp2
    go_ret
    exact ⟨by simp [hd, hd1, hd2], (Below.refl _ _).alloc (Nat.le_refl _) _⟩
theorem own_any (x : Sl) (w : World) :
    Calls Try.prog 33 #[.agg #[.int .i64 x.t, .int .i64 x.b]] w fun e w' => e = .returned (.bool (ownB x)) ∧ Below w.heap.size w w' := by
  go_enter Try.func33, Try.ntmps33
  go_wp2
  go_ret
  exact ⟨rfl, (Below.refl _ _).alloc (Nat.le_refl _) _⟩
theorem indexW_any (v : Value) (xs : List Sl) (w : World) (hw : Sat σ w Hs) (hH : H ∈ Hs) (hs : kSl.IsSl H v xs) :
    Calls Try.prog 37 #[v, .func (.func 32) #[] #[]] w fun e w' => e = .returned (.int .i64 (idxI wrongB xs)) ∧ Sat σ w' Hs := by
  obtain ⟨A, c, rfl, hc1, hc2, _⟩ := hs.form
  go_enter Try.func37, Try.ntmps37
  go_wp2
  go_loopw [8, 5] (fun i _ wr => ∃ j : Nat, j ≤ xs.length ∧ i = .int .i64 j ∧ Sat σ wr Hs ∧ Eager (∀ (i : Nat) (y : Sl), i < j → xs[i]? = some y → wrongB y = false)) (fun i _ _ => xs.length - (intOf i).toNat)
  case atStart => exact ⟨0, by omega, rfl, hw, ⟨fun j y hj => by omega⟩⟩
  case round =>
    obtain ⟨j, hk, rfl, hwr, hn⟩ := hrel
    by_cases hlt : j < xs.length
    · obtain ⟨b, off, c', x, hx, hv, e0, e1⟩ := sl_get hs hlt
      injection hv with hv1 hv2 hv3
      subst hv1; subst hv3; clear hv2
      have c0 := hwr.cellAt hH e0; have c1 := hwr.cellAt hH e1
      have HX := Lib.hid hx
      have hji : (j : Int) < xs.length := by omega
      clear e0 e1 hx hs hw
      go_wp2_with fail
      refine (wrong_any x _).mono ?_
      rintro e w2 ⟨rfl, hb2⟩
      have hw2 := hwr.below hb2
      clear c0 c1 hwr
      cases hpx : wrongB x
      · have HPX : Hid (wrongB x = false) := Lib.hid hpx
        clear hpx
        go_wp2
        go_roundw
        case measure => simp [intOf]; omega
        case rel => exact ⟨j + 1, by omega, by go_num, hw2, ⟨fun i y hj hy => by
          by_cases e : i = j
          · subst e; rw [HX.out] at hy; cases hy; exact HPX.out
          · exact hn.out i y (by omega) hy⟩⟩
      · have HPX : Hid (wrongB x = true) := Lib.hid hpx
        clear hpx
        go_wp2
        go_ret
        exact ⟨by rw [idxI_yes wrongB xs j x HX.out HPX.out hn.out]; rfl, hw2⟩
    · obtain rfl : j = xs.length := by omega
      go_wp2
      go_ret
      exact ⟨by rw [idxI_no wrongB xs (fun i y hy => hn.out i y (List.getElem?_eq_some_iff.1 hy).1 hy)]; rfl, hwr⟩
theorem indexO_any (v : Value) (xs : List Sl) (w : World) (hw : Sat σ w Hs) (hH : H ∈ Hs) (hs : kSl.IsSl H v xs) :
    Calls Try.prog 37 #[v, .func (.func 33) #[] #[]] w fun e w' => e = .returned (.int .i64 (idxI ownB xs)) ∧ Sat σ w' Hs := by
  obtain ⟨A, c, rfl, hc1, hc2, _⟩ := hs.form
  go_enter Try.func37, Try.ntmps37
  go_wp2
  go_loopw [8, 5] (fun i _ wr => ∃ j : Nat, j ≤ xs.length ∧ i = .int .i64 j ∧ Sat σ wr Hs ∧ Eager (∀ (i : Nat) (y : Sl), i < j → xs[i]? = some y → ownB y = false)) (fun i _ _ => xs.length - (intOf i).toNat)
  case atStart => exact ⟨0, by omega, rfl, hw, ⟨fun j y hj => by omega⟩⟩
  case round =>
    obtain ⟨j, hk, rfl, hwr, hn⟩ := hrel
    by_cases hlt : j < xs.length
    · obtain ⟨b, off, c', x, hx, hv, e0, e1⟩ := sl_get hs hlt
      injection hv with hv1 hv2 hv3
      subst hv1; subst hv3; clear hv2
      have c0 := hwr.cellAt hH e0; have c1 := hwr.cellAt hH e1
      have HX := Lib.hid hx
      have hji : (j : Int) < xs.length := by omega
      clear e0 e1 hx hs hw
      go_wp2_with fail
      refine (own_any x _).mono ?_
      rintro e w2 ⟨rfl, hb2⟩
      have hw2 := hwr.below hb2
      clear c0 c1 hwr
      cases hpx : ownB x
      · have HPX : Hid (ownB x = false) := Lib.hid hpx
        clear hpx
        go_wp2
        go_roundw
        case measure => simp [intOf]; omega
        case rel => exact ⟨j + 1, by omega, by go_num, hw2, ⟨fun i y hj hy => by
          by_cases e : i = j
          · subst e; rw [HX.out] at hy; cases hy; exact HPX.out
          · exact hn.out i y (by omega) hy⟩⟩
      · have HPX : Hid (ownB x = true) := Lib.hid hpx
        clear hpx
        go_wp2
        go_ret
        exact ⟨by rw [idxI_yes ownB xs j x HX.out HPX.out hn.out]; rfl, hw2⟩
    · obtain rfl : j = xs.length := by omega
      go_wp2
      go_ret
      exact ⟨by rw [idxI_no ownB xs (fun i y hy => hn.out i y (List.getElem?_eq_some_iff.1 hy).1 hy)]; rfl, hwr⟩
theorem contW_any (v : Value) (xs : List Sl) (w : World) (hw : Sat σ w Hs) (hH : H ∈ Hs) (hs : kSl.IsSl H v xs) :
    Calls Try.prog 34 #[v, .func (.func 32) #[] #[]] w fun e w' => e = .returned (.bool (xs.any wrongB)) ∧ Sat σ w' Hs := by
  go_enter Try.func34, Try.ntmps34
  go_wp2_with fail
  refine (indexW_any v xs w hw hH hs).mono ?_
  rintro e w2 ⟨rfl, hw2⟩
  go_wp2
  go_ret
  exact ⟨by rw [← idx_any]; rfl, hw2⟩
theorem contO_any (v : Value) (xs : List Sl) (w : World) (hw : Sat σ w Hs) (hH : H ∈ Hs) (hs : kSl.IsSl H v xs) :
    Calls Try.prog 34 #[v, .func (.func 33) #[] #[]] w fun e w' => e = .returned (.bool (xs.any ownB)) ∧ Sat σ w' Hs := by
  go_enter Try.func34, Try.ntmps34
  go_wp2_with fail
  refine (indexO_any v xs w hw hH hs).mono ?_
  rintro e w2 ⟨rfl, hw2⟩
  go_wp2
  go_ret
  exact ⟨by rw [← idx_any]; rfl, hw2⟩
theorem check_any (v : Value) (xs : List Sl) (w : World) (hw : Sat σ w Hs) (hH : H ∈ Hs) (hs : kSl.IsSl H v xs) :
    Calls Try.prog 22 #[v] w fun e w' => e = .returned (.int .i64 (chk xs)) ∧ Sat σ w' Hs := by
  have hs' := Lib.hid hs
  obtain ⟨A, c, rfl, hc1, hc2, _⟩ := hs.form
  clear hs
  by_cases h : 64 < xs.length
  · have h' : (64 : Int) < xs.length := by omega
    have hC : chk xs = 50 := by simp [chk, h]
    rw [hC]
    clear hC h
    go_enter Try.func22, Try.ntmps22
    go_wp2
    go_ret
    exact ⟨rfl, hw⟩
  · have h' : ¬ ((64 : Int) < xs.length) := by omega
    have hd : decide (64 < xs.length) = false := decide_eq_false h
    cases h2 : xs.any wrongB
    · cases h3 : xs.any ownB
      · have hC : chk xs = 50 := by unfold chk; rw [hd, h2, h3]; rfl
        rw [hC]
        clear hC h hd
        go_enter Try.func22, Try.ntmps22
        go_wp2_with fail
        refine (contW_any _ xs w hw hH hs'.out).mono ?_
        rintro e w2 ⟨rfl, hw2⟩
        rw [h2]
        clear h2
        go_wp2_with fail
        refine (contO_any _ xs w2 hw2 hH hs'.out).mono ?_
        rintro e w3 ⟨rfl, hw3⟩
        rw [h3]
        clear h3
        go_wp2
        go_ret
        exact ⟨rfl, hw3⟩
      · have hC : chk xs = 0 := by unfold chk; rw [hd, h2, h3]; rfl
        rw [hC]
        clear hC h hd
        go_enter Try.func22, Try.ntmps22
        go_wp2_with fail
        refine (contW_any _ xs w hw hH hs'.out).mono ?_
        rintro e w2 ⟨rfl, hw2⟩
        rw [h2]
        clear h2
        go_wp2_with fail
        refine (contO_any _ xs w2 hw2 hH hs'.out).mono ?_
        rintro e w3 ⟨rfl, hw3⟩
        rw [h3]
        clear h3
        go_wp2
        go_ret
        exact ⟨rfl, hw3⟩
    · have hC : chk xs = 50 := by unfold chk; rw [hd, h2]; rfl
      rw [hC]
      clear hC h hd
      go_enter Try.func22, Try.ntmps22
      go_wp2_with fail
      refine (contW_any _ xs w hw hH hs'.out).mono ?_
      rintro e w2 ⟨rfl, hw2⟩
      rw [h2]
      clear h2
      go_wp2
      go_ret
      exact ⟨rfl, hw2⟩
theorem ticked_any (v : Value) (xs : List Sl) (n : Int) (w : World) (hw : Sat σ w Hs) (hH : H ∈ Hs) (hs : kSl.IsSl H v xs) :
    Calls Try.prog 26 #[v, .int .i64 n] w fun e w' => e = .returned (.int .i64 (tkd xs n)) ∧ Sat σ w' Hs := by
  by_cases h0 : chk xs = 0
  · by_cases h1 : n < 0
    · have hT : tkd xs n = 2 := by unfold tkd; rw [if_pos h0, if_pos (.inl h1)]
      rw [hT]
      go_enter Try.func26, Try.ntmps26
      go_wp2_with fail
      refine (check_any _ xs w hw hH hs).mono ?_
      rintro e w2 ⟨rfl, hw2⟩
      rw [h0]
      go_wp2
      go_ret
      exact ⟨rfl, hw2⟩
    · by_cases h2 : 1099511627776 < n
      · have hT : tkd xs n = 2 := by unfold tkd; rw [if_pos h0, if_pos (.inr h2)]
        rw [hT]
        go_enter Try.func26, Try.ntmps26
        go_wp2_with fail
        refine (check_any _ xs w hw hH hs).mono ?_
        rintro e w2 ⟨rfl, hw2⟩
        rw [h0]
        go_wp2
        go_ret
        exact ⟨rfl, hw2⟩
      · have hT : tkd xs n = 0 := by unfold tkd; rw [if_pos h0, if_neg (by omega)]
        rw [hT]
        go_enter Try.func26, Try.ntmps26
        go_wp2_with fail
        refine (check_any _ xs w hw hH hs).mono ?_
        rintro e w2 ⟨rfl, hw2⟩
        rw [h0]
        go_wp2
        go_ret
        exact ⟨rfl, hw2⟩
  · have hq : (chk xs == 0) = false := beq_eq_false_iff_ne.2 h0
    have hT : tkd xs n = chk xs := by unfold tkd; rw [if_neg h0]
    rw [hT]
    clear hT h0
    go_enter Try.func26, Try.ntmps26
    go_wp2_with fail
    refine (check_any _ xs w hw hH hs).mono ?_
    rintro e w2 ⟨rfl, hw2⟩
    go_wp2
    go_ret
    exact ⟨rfl, hw2⟩
end
end Go.Proofs.Ytiplmelpagiklaa
