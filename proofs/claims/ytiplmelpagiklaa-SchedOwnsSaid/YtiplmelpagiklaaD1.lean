/- Walks of the reference: Check, look, Run, Frame, among, Own. -/
import Derived.Test.YtiplmelpagiklaaC3
set_option linter.unusedVariables false
set_option linter.unusedSimpArgs false
namespace Go.Proofs.Ytiplmelpagiklaa
open Go.RowKit
set_option maxHeartbeats 4000000
section
variable {σ : World} {Hs : List Hp} {H M N : Hp}
set_option maxRecDepth 10000 in
theorem rcheck_any (v : Value) (xs : List Sl) (w : World) (hw : Sat σ w Hs) (hH : H ∈ Hs) (hs : kSl.IsSl H v xs) :
    Calls Try.prog 23 #[v] w fun e w' => e = .returned (.int .i64 (chk xs)) ∧ Sat σ w' Hs := by
  have HS := Lib.hid hs
  obtain ⟨A, c, rfl, hc1, hc2, _⟩ := hs.form
  clear hs
  go_enter Try.func23, Try.ntmps23
  go_wp2
  go_loopw [4, 3, 5] (fun i o _ wr => ∃ k : Nat, k ≤ xs.length ∧ i = .int .i64 k ∧ o = .bool ((xs.take k).any ownB) ∧ Sat σ wr Hs ∧ Eager (∀ y ∈ xs.take k, wrongB y = false)) (fun i _ _ _ => xs.length - (intOf i).toNat)
  case atStart => exact ⟨0, by omega, rfl, rfl, hw, ⟨fun y hy => by simp at hy⟩⟩
  case round =>
    obtain ⟨k, hk, rfl, rfl, hwr, hE⟩ := hrel
    clear hw
    by_cases hlt : k < xs.length
    · obtain ⟨gb, off, c', x, hx, hv, e0, e1⟩ := sl_get HS.out hlt
      injection hv with hv1 hv2 hv3
      subst hv1; subst hv3; clear hv2
      have c0 := hwr.cellAt hH e0; have c1 := hwr.cellAt hH e1
      have hgl : gb < wr.heap.size := World.block_lt_of_cell? wr _ c0
      have hki : (k : Int) < xs.length := by omega
      have HX := Lib.hid hx
      have HB := Lib.hid (fun (h : wrongB x = true) => (show chk xs = 50 by
        unfold chk
        rw [show xs.any wrongB = true from List.any_eq_true.2 ⟨x, List.mem_of_getElem? hx, h⟩]
        simp))
      clear hx e0 e1
      by_cases h1 : x.t < -1
      · have HB : Hid (chk xs = 50) := Lib.hid (HB.out (by simp [wrongB, h1]))
        skip
        go_wp2
        go_ret
        exact ⟨by rw [HB.out]; rfl, hwr.alloc' _⟩
      by_cases h2 : 8 ≤ x.t
      · have HB : Hid (chk xs = 50) := Lib.hid (HB.out (by simp [wrongB, h2]))
        skip
        go_wp2
        go_ret
        exact ⟨by rw [HB.out]; rfl, hwr.alloc' _⟩
      have hd1 : decide (x.t < -1) = false := decide_eq_false h1
      have hd2 : decide (8 ≤ x.t) = false := decide_eq_false h2
      by_cases h3 : x.b < 1
      · have HB : Hid (chk xs = 50) := Lib.hid (HB.out (by simp [wrongB, h3]))
        skip
        go_wp2
        go_ret
        exact ⟨by rw [HB.out]; rfl, hwr.alloc' _⟩
      have hd3 : decide (x.b < 1) = false := decide_eq_false h3
      by_cases h4 : 4096 < x.b
      · have HB : Hid (chk xs = 50) := Lib.hid (HB.out (by simp [wrongB, h4]))
        skip
        go_wp2
        go_ret
        exact ⟨by rw [HB.out]; rfl, hwr.alloc' _⟩
      have hd4 : decide (4096 < x.b) = false := decide_eq_false h4
      clear HB
      have HNX : Hid ((xs.take (k + 1)).any ownB = ((xs.take k).any ownB || ownB x) ∧ ∀ y ∈ xs.take (k + 1), wrongB y = false) := Lib.hid (by
        rw [List.take_add_one, HX.out]
        refine ⟨by simp, fun y hy => ?_⟩
        simp only [Option.toList_some, List.mem_append, List.mem_singleton] at hy
        rcases hy with hy | rfl
        · exact hE.out y hy
        · unfold wrongB; rw [hd1, hd2, hd3, hd4]; rfl)
      cases ho : (xs.take k).any ownB
      · rw [ho, Bool.false_or] at HNX
        have HO : Hid (ownB x = decide (0 ≤ x.t)) := Lib.hid rfl
        rw [HO.out] at HNX
        clear ho HO
        go_wp2
        go_roundw
        case measure => simp [intOf]; omega
        case rel => exact ⟨k + 1, by omega, by go_num, by rw [HNX.out.1], hwr.alloc' _, ⟨HNX.out.2⟩⟩
      · rw [ho, Bool.true_or] at HNX
        clear ho
        go_wp2
        go_roundw
        case measure => simp [intOf]; omega
        case rel => exact ⟨k + 1, by omega, by go_num, by rw [HNX.out.1], hwr.alloc' _, ⟨HNX.out.2⟩⟩
    · obtain rfl : k = xs.length := by omega
      rw [List.take_length] at hE ⊢
      have hnw : xs.any wrongB = false := by
        rw [List.any_eq_false]
        intro y hy
        rw [hE.out y hy]
        simp
      have HC : Hid (chk xs = if decide (64 < xs.length) || !(xs.any ownB) then 50 else 0) := Lib.hid (by unfold chk; rw [hnw, Bool.or_false])
      clear hnw
      cases ho : xs.any ownB
      · rw [ho, show (decide (64 < xs.length) || !false) = true by simp, if_pos rfl] at HC
        clear ho
        go_wp2
        go_ret
        exact ⟨by rw [HC.out]; rfl, hwr⟩
      · rw [ho, Bool.not_true, Bool.or_false] at HC
        clear ho
        by_cases h : 64 < xs.length
        · rw [if_pos (by simpa using h)] at HC
          have h' : (64 : Int) < xs.length := by omega
          clear h
          go_wp2
          go_ret
          exact ⟨by rw [HC.out]; rfl, hwr⟩
        · rw [if_neg (by simpa using h)] at HC
          have h' : ¬ ((64 : Int) < xs.length) := by omega
          clear h
          go_wp2
          go_ret
          exact ⟨by rw [HC.out]; rfl, hwr⟩
theorem look_any (v : Value) (xs : List Sl) (n : Int) (w : World) (hw : Sat σ w Hs) (hH : H ∈ Hs) (hs : kSl.IsSl H v xs) :
    Calls Try.prog 29 #[v, .int .i64 n] w fun e w' => e = .returned (.int .i64 (tkd xs n)) ∧ Sat σ w' Hs := by
  by_cases h0 : chk xs = 0
  · by_cases h1 : n < 0
    · have hT : tkd xs n = 2 := by unfold tkd; rw [if_pos h0, if_pos (.inl h1)]
      rw [hT]
      go_enter Try.func29, Try.ntmps29
      go_wp2_with fail
      refine (rcheck_any _ xs w hw hH hs).mono ?_
      rintro e w2 ⟨rfl, hw2⟩
      rw [h0]
      go_wp2
      go_ret
      exact ⟨rfl, hw2⟩
    · by_cases h2 : 1099511627776 < n
      · have hT : tkd xs n = 2 := by unfold tkd; rw [if_pos h0, if_pos (.inr h2)]
        rw [hT]
        go_enter Try.func29, Try.ntmps29
        go_wp2_with fail
        refine (rcheck_any _ xs w hw hH hs).mono ?_
        rintro e w2 ⟨rfl, hw2⟩
        rw [h0]
        go_wp2
        go_ret
        exact ⟨rfl, hw2⟩
      · have hT : tkd xs n = 0 := by unfold tkd; rw [if_pos h0, if_neg (by omega)]
        rw [hT]
        go_enter Try.func29, Try.ntmps29
        go_wp2_with fail
        refine (rcheck_any _ xs w hw hH hs).mono ?_
        rintro e w2 ⟨rfl, hw2⟩
        rw [h0]
        go_wp2
        go_ret
        exact ⟨rfl, hw2⟩
  · have hq : (chk xs != 0) = true := by rw [bne_iff_ne]; exact h0
    have hT : tkd xs n = chk xs := by unfold tkd; rw [if_neg h0]
    rw [hT]
    clear hT h0
    go_enter Try.func29, Try.ntmps29
    go_wp2_with fail
    refine (rcheck_any _ xs w hw hH hs).mono ?_
    rintro e w2 ⟨rfl, hw2⟩
    go_wp2
    go_ret
    exact ⟨rfl, hw2⟩
theorem among2_any (v : Value) (xs : List Sl) (t : Int) (n : Nat) (w : World) (hw : Sat σ w Hs) (hH : H ∈ Hs) (hs : kSl.IsSl H v xs) (hn : n ≤ xs.length) (hl : xs.length ≤ 64) :
    Calls Try.prog 30 #[v, .int .i64 t, .int .i64 n] w fun e w' => e = .returned (.int .i64 ((plK xs t n).length : Nat)) ∧ Sat σ w' Hs := by
  have HS := Lib.hid hs
  obtain ⟨A, c, rfl, hc1, hc2, _⟩ := hs.form
  clear hs
  go_enter Try.func30, Try.ntmps30
  go_wp2
  go_loopw [8, 7] (fun i o wr => ∃ k : Nat, k ≤ n ∧ i = .int .i64 k ∧ o = .int .i64 ((plK xs t k).length : Nat) ∧ Sat σ wr Hs) (fun i _ _ => n - (intOf i).toNat)
  case atStart => exact ⟨0, by omega, rfl, rfl, hw⟩
  case round =>
    obtain ⟨k, hk, rfl, rfl, hwr⟩ := hrel
    clear hw
    by_cases hlt : k < n
    · obtain ⟨gb, off, c', x, hx, hv, e0, e1⟩ := sl_get HS.out (k := k) (by omega)
      injection hv with hv1 hv2 hv3
      subst hv1; subst hv3; clear hv2
      have c0 := hwr.cellAt hH e0; have c1 := hwr.cellAt hH e1
      have hki : (k : Int) < xs.length := by omega
      have hkn : (k : Int) < n := by omega
      have HPS := Lib.hid (plK_succ (t := t) hx)
      have hple := plK_le xs t k
      clear hx e0 e1
      generalize (plK xs t k) = pk at *
      have m1 : IntKind.i64.wrap ((pk.length : Int) + 1) = (pk.length : Int) + 1 := IntWalk.i64_in _ (by omega)
      by_cases ht : x.t = t
      · rw [if_pos ht] at HPS
        have htq : (x.t == t) = true := by simp [ht]
        clear ht
        go_wp2
        go_roundw
        case measure => simp [intOf]; omega
        case rel => exact ⟨k + 1, by omega, by go_num, by rw [HPS.out]; simp, hwr⟩
      · rw [if_neg ht, List.append_nil] at HPS
        have htq : (x.t == t) = false := beq_eq_false_iff_ne.2 ht
        clear ht
        go_wp2
        go_roundw
        case measure => simp [intOf]; omega
        case rel => exact ⟨k + 1, by omega, by go_num, by rw [HPS.out], hwr⟩
    · obtain rfl : k = n := by omega
      go_wp2
      go_ret
      exact ⟨rfl, hwr⟩
theorem rrun_any (v : Value) (xs : List Sl) (n : Int) (w : World) (hw : Sat σ w Hs) (hH : H ∈ Hs) (hs : kSl.IsSl H v xs) :
    Calls Try.prog 18 #[v, .int .i64 n] w fun e w' => e = .returned (.tuple #[.agg #[.int .i64 (runR xs n).1.t, .int .i64 (runR xs n).1.b], .int .i64 (runR xs n).2]) ∧ Sat σ w' Hs := by
  have HT := Lib.hid (fun w' (Hs' : List Hp) (h : Sat σ w' Hs') (hm : H ∈ Hs') => look_any v xs n w' h hm hs)
  by_cases h0 : tkd xs n = 0
  · obtain ⟨hc, hn1, hn2⟩ := tkd_ok h0
    obtain ⟨hl1, hl2, -, -⟩ := chk_ok hc
    obtain ⟨m, rfl⟩ := Int.eq_ofNat_of_zero_le hn1
    have hml : m % xs.length < xs.length := Nat.mod_lt _ hl2
    obtain ⟨b, off, c, x, hx, rfl, e0, e1⟩ := sl_get hs hml
    have hmod : ((m : Int)).tmod xs.length = ((m % xs.length : Nat) : Int) := rfl
    have hz : ((xs.length : Int) == 0) = false := beq_eq_false_iff_ne.2 (by omega)
    have hmi : ((m % xs.length : Nat) : Int) < xs.length := by omega
    have HR : Hid (runR xs m = (x, 0)) := Lib.hid (by unfold runR; rw [if_pos h0, Int.toNat_natCast, hx]; rfl)
    have HE := Lib.hid (And.intro e0 e1)
    rw [h0] at HT
    generalize m % xs.length = q at *
    clear hc h0 hn1 hx e0 e1 hs
    go_enter Try.func18, Try.ntmps18
    go_wp2_with fail
    refine (HT.out _ _ (hw.alloc (.cells #[.int .i64 0, .int .i64 0] 30)) (by simp [hH])).mono ?_
    rintro e w2 ⟨rfl, hw2⟩
    have f0 := heap_free (hw2.le _ _ (Hp.one_self _ _)) 0; have f1 := heap_free (hw2.le _ _ (Hp.one_self _ _)) 1
    have r0 : w2.cell? ⟨w.heap.size, 0, none⟩ = some (.int .i64 0) := hw2.one_cell rfl
    have r1 : w2.cell? ⟨w.heap.size, 1, none⟩ = some (.int .i64 0) := hw2.one_cell rfl
    generalize w.heap.size = nb at *
    have c0 := hw2.cellAt (H := H) (by simp [hH]) HE.out.1; have c1 := hw2.cellAt (H := H) (by simp [hH]) HE.out.2
    go_wp2
    have hfin := (hw2.set (o := 0) (.int .i64 x.t)).set (o := 1) (.int .i64 x.b)
    (try simp only [Exit.inBlock, Exit.then])
    refine bodyPost_ret (results_cell_row2 rfl _ _ nb _ _ _ _ rfl (hfin.le nb _ (Hp.one_self _ _)) Try.underlying30 rfl (by kernel_rfl)) rfl ?_
    rw [HR.out]
    exact ⟨rfl, hfin.drop⟩
  · have hq : (tkd xs n != 0) = true := by rw [bne_iff_ne]; exact h0
    have HR : Hid (runR xs n = (⟨0, 0⟩, tkd xs n)) := Lib.hid (by unfold runR; rw [if_neg h0])
    clear h0
    go_enter Try.func18, Try.ntmps18
    go_wp2_with fail
    refine (HT.out _ _ (hw.alloc (.cells #[.int .i64 0, .int .i64 0] 30)) (by simp [hH])).mono ?_
    rintro e w2 ⟨rfl, hw2⟩
    have f0 := heap_free (hw2.le _ _ (Hp.one_self _ _)) 0; have f1 := heap_free (hw2.le _ _ (Hp.one_self _ _)) 1
    have r0 : w2.cell? ⟨w.heap.size, 0, none⟩ = some (.int .i64 0) := hw2.one_cell rfl
    have r1 : w2.cell? ⟨w.heap.size, 1, none⟩ = some (.int .i64 0) := hw2.one_cell rfl
    generalize w.heap.size = nb at *
    go_wp2
    have hfin := (hw2.set (o := 0) (.int .i64 0)).set (o := 1) (.int .i64 0)
    (try simp only [Exit.inBlock, Exit.then])
    refine bodyPost_ret (results_cell_row2 rfl _ _ nb _ _ _ _ rfl (hfin.le nb _ (Hp.one_self _ _)) Try.underlying30 rfl (by kernel_rfl)) rfl ?_
    rw [HR.out]
    exact ⟨rfl, hfin.drop⟩
theorem rframe_any (v : Value) (xs : List Sl) (n : Int) (w : World) (hw : Sat σ w Hs) (hH : H ∈ Hs) (hs : kSl.IsSl H v xs) :
    Calls Try.prog 20 #[v, .int .i64 n] w fun e w' => e = .returned (.tuple #[.int .i64 (frameR xs n).1, .int .i64 (frameR xs n).2]) ∧ Sat σ w' Hs := by
  have HT := Lib.hid (look_any v xs n w hw hH hs)
  obtain ⟨A, c, rfl, hc1, hc2, _⟩ := hs.form
  by_cases h0 : tkd xs n = 0
  · obtain ⟨hc, hn1, hn2⟩ := tkd_ok h0
    obtain ⟨hl1, hl2, -, -⟩ := chk_ok hc
    obtain ⟨m, rfl⟩ := Int.eq_ofNat_of_zero_le hn1
    have hdiv : ((m : Int)).tdiv xs.length = ((m / xs.length : Nat) : Int) := rfl
    have hz : ((xs.length : Int) == 0) = false := beq_eq_false_iff_ne.2 (by omega)
    have hdl : m / xs.length ≤ m := Nat.div_le_self _ _
    have HR : Hid (frameR xs m = (((m / xs.length : Nat) : Int), 0)) := Lib.hid (by unfold frameR; rw [if_pos h0, Int.toNat_natCast])
    rw [h0] at HT
    generalize m / xs.length = q at *
    have m1 : IntKind.i64.wrap (q : Int) = q := IntWalk.i64_in _ (by omega)
    clear hc h0 hn1 hs
    go_enter Try.func20, Try.ntmps20
    go_wp2_with fail
    refine HT.out.mono ?_
    rintro e w2 ⟨rfl, hw2⟩
    go_wp2
    go_ret2
    exact ⟨by rw [HR.out]; rfl, hw2⟩
  · have hq : (tkd xs n != 0) = true := by rw [bne_iff_ne]; exact h0
    have HR : Hid (frameR xs n = (0, tkd xs n)) := Lib.hid (by unfold frameR; rw [if_neg h0])
    clear h0
    go_enter Try.func20, Try.ntmps20
    go_wp2_with fail
    refine HT.out.mono ?_
    rintro e w2 ⟨rfl, hw2⟩
    go_wp2
    go_ret2
    exact ⟨by rw [HR.out]; rfl, hw2⟩
end
end Go.Proofs.Ytiplmelpagiklaa
