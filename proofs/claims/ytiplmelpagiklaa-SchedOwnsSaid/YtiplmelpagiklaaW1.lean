/- Walks: the chapter's example; Work. -/
import Derived.Test.YtiplmelpagiklaaC4
import Derived.WalkMore
set_option linter.unusedVariables false
set_option linter.unusedSimpArgs false
namespace Go.Proofs.Ytiplmelpagiklaa
open Go.RowKit
set_option maxHeartbeats 2000000
def ex : List Sl := [⟨0, 5⟩, ⟨1, 2⟩, ⟨0, 1⟩]
theorem ev0 : chk ex = 0 := by decide
theorem ev1 : runR ex 5 = (⟨0, 1⟩, 0) := by
  have h : tkd ex 5 = 0 := by unfold tkd; rw [ev0]; rfl
  unfold runR
  rw [if_pos h]
  rfl
theorem evp0 : plK ex 0 3 = [0, 2] := by decide
theorem evp1 : plK ex 1 3 = [1] := by decide
theorem evp2 : plK ex 0 2 = [0] := by decide
theorem ev2 : ownR ex 0 5 = (3, 0) := by
  have h : tkd ex 5 = 0 := by unfold tkd; rw [ev0]; rfl
  unfold ownR
  rw [if_pos h, if_neg (by omega), show ex.length = 3 from rfl, show ((5 : Int).toNat % 3) = 2 from rfl, evp0, evp2]
  rfl
theorem ev3 : whenR ex 0 3 = (5, 0) := by
  have h : whenAt ex 0 3 = 5 := by unfold whenAt; rw [show ex.length = 3 from rfl, evp0]; rfl
  unfold whenR
  rw [if_pos ev0, show ex.length = 3 from rfl, evp0, show (3 : Int).toNat = 3 from rfl, h, if_neg (by simp)]
  rfl
theorem ev4 : gapR ex 1 = (3, 0) := by
  unfold gapR
  rw [if_pos ev0, show ex.length = 3 from rfl, evp1, if_neg (by simp)]
  rfl
theorem ev5 : chk [] = 50 := by decide
section
variable {σ : World} {Hs : List Hp} {H M N : Hp}
theorem among_any (n m : Int) (w : World) (h0 : 0 < m) (h1 : m ≤ 1000000000000) :
    Calls Try.prog 16 #[.int .i64 n, .int .i64 m] w fun e w' => e = .returned (.int .i64 (amongI n m)) ∧ w = w' := by
  go_enter Try.func16, Try.ntmps16
  go_wp2
  go_ret
  exact ⟨ret_int' (among_eq n m h0 h1), rfl⟩
theorem example_any (w : World) (hw : Sat σ w Hs) : Calls Try.prog 31 #[] w fun e w' => ∃ b N, e = .returned (.slice (some ⟨b, 0, none⟩) 3 3) ∧ Sat σ w' (N :: Hs) ∧ kSl.IsSl N (.slice (some ⟨b, 0, none⟩) 3 3) ex := by
  go_enter Try.func31, Try.ntmps31
  go_wp2
  go_ret
  exact ⟨w.heap.size, _, rfl, hw.alloc _, (own_lit _ #[.int .i64 0, .int .i64 5, .int .i64 1, .int .i64 2, .int .i64 0, .int .i64 1] _ 2 3 (by rfl) (by omega)).isSl (d := kSl) (xs := ex) ⟨_, _, rfl, kSl_mk (x := ⟨0, 5⟩), ⟨_, _, rfl, kSl_mk (x := ⟨1, 2⟩), ⟨_, [], rfl, kSl_mk (x := ⟨0, 1⟩), rfl⟩⟩⟩ rfl (Hp.le_refl _)⟩
theorem works_any (w : World) (hw : Sat σ w Hs) : Calls Try.prog 14 #[] w fun e w' => e = .returned (.bool true) ∧ Sat σ w' Hs := by
  go_enter Try.func14, Try.ntmps14
  go_wp2_with fail
  refine (example_any w hw).mono ?_
  rintro e w1 ⟨b, N, rfl, hw1, hs⟩
  go_wp2_with fail
  refine (run_any _ ex 5 w1 hw1 (by simp) hs).mono ?_
  rintro e w2 ⟨rfl, hw2⟩
  rw [ev1]
  clear hw1 hs
  have hwa := hw2.drop.alloc (.cells #[.int .i64 0, .int .i64 1] 30)
  have r0 : (w2.alloc (.cells #[.int .i64 0, .int .i64 1] 30)).cell? ⟨w2.heap.size, 0, none⟩ = some (.int .i64 0) := hwa.one_cell rfl
  go_wp2_with fail
  generalize hnb : w2.heap.size = nb at *
  generalize World.alloc w2 _ = w3 at *
  clear hw2 r0 hnb
  refine (example_any w3 hwa).mono ?_
  rintro e w4 ⟨b4, N4, rfl, hw4, hs4⟩
  go_wp2_with fail
  refine (own2_any _ ex 0 5 w4 hw4 (by simp) hs4).mono ?_
  rintro e w5 ⟨rfl, hw5⟩
  rw [ev2]
  have hw5 := hw5.drop
  clear hw4 hs4 hwa
  go_wp2_with fail
  refine (example_any w5 hw5).mono ?_
  rintro e w6 ⟨b6, N6, rfl, hw6, hs6⟩
  go_wp2_with fail
  refine (when_any _ ex 0 3 w6 hw6 (by simp) hs6).mono ?_
  rintro e w7 ⟨rfl, hw7⟩
  rw [ev3]
  have hw7 := hw7.drop
  clear hw6 hs6 hw5
  go_wp2_with fail
  refine (example_any w7 hw7).mono ?_
  rintro e w8 ⟨b8, N8, rfl, hw8, hs8⟩
  go_wp2_with fail
  refine (gap_any _ ex 1 w8 hw8 (by simp) hs8).mono ?_
  rintro e w9 ⟨rfl, hw9⟩
  rw [ev4]
  have hw9 := hw9.drop
  clear hw8 hs8 hw7
  have r0 : w9.cell? ⟨nb, 0, none⟩ = some (.int .i64 0) := hw9.one_cell rfl
  have r1 : w9.cell? ⟨nb, 1, none⟩ = some (.int .i64 1) := hw9.one_cell rfl
  go_wp2_with fail
  refine (check_any (H := Hp.emp) _ [] w9 hw9.emp List.mem_cons_self Kd.IsSl.nil).mono ?_
  rintro e wa ⟨rfl, hwa⟩
  rw [ev5]
  go_wp2
  go_ret
  exact ⟨rfl, hwa.drop.drop⟩
theorem fn_equal (x : Value) (b : Bool) (d : Nat) (w : World) (hx : (x = Value.nilFunc ∧ b = true) ∨ (∃ f ts cs, x = .func f ts cs) ∧ b = false) : (Op.equalIn (d + 1) 27 x Value.nilFunc).run Try.prog w = .ok b w := by
  have hu := Try.underlying27
  unfold Op.equalIn
  rw [Sem.run_bind, run_underlying hu]
  rcases hx with ⟨rfl, rfl⟩ | ⟨⟨f, ts, cs, rfl⟩, rfl⟩ <;> rfl
theorem fn_nil (w : World) : (binOp .neq 27 Value.nilFunc Value.nilFunc).run Try.prog w = .ok (.bool false) w := by
  show ((Op.equal 27 Value.nilFunc Value.nilFunc) >>= fun b => pure (Value.bool (!b))).run Try.prog w = _
  unfold Op.equal
  rw [Sem.run_bind, show Op.maxDepth = (Op.maxDepth - 1) + 1 from rfl, fn_equal _ true _ w (.inl ⟨rfl, rfl⟩)]
  rfl
theorem fn_some (f : Fn) (ts cs : Array Value) (w : World) : (binOp .neq 27 (.func f ts cs) Value.nilFunc).run Try.prog w = .ok (.bool true) w := by
  show ((Op.equal 27 (.func f ts cs) Value.nilFunc) >>= fun b => pure (Value.bool (!b))).run Try.prog w = _
  unfold Op.equal
  rw [Sem.run_bind, show Op.maxDepth = (Op.maxDepth - 1) + 1 from rfl, fn_equal _ false _ w (.inr ⟨⟨f, ts, cs, rfl⟩, rfl⟩)]
  rfl
theorem step_any (b5 b6 : Nat) (c l : Int) (w : World) (hw : Sat σ w (Hp.one b5 (.cells #[.int .i64 c] 3 (0, 0)) :: Hp.one b6 (.cells #[.int .i64 l] 3 (0, 0)) :: Hs)) (hc : 0 ≤ c ∧ c ≤ 5000) (hl : 0 ≤ l ∧ l ≤ 5000) :
    Calls Try.prog 24 #[.pointer (some ⟨b5, 0, none⟩), .pointer (some ⟨b6, 0, none⟩)] w fun e w' => e = .returned (.bool (decide (l ≠ 0))) ∧ Sat σ w' (Hp.one b5 (.cells #[.int .i64 (c + 1)] 3 (0, 0)) :: Hp.one b6 (.cells #[.int .i64 (if l = 0 then 0 else l - 1)] 3 (0, 0)) :: Hs) := by
  have d5 : w.cell? ⟨b5, 0, none⟩ = some (.int .i64 c) := hw.one_cell rfl
  have d6 : w.cell? ⟨b6, 0, none⟩ = some (.int .i64 l) := hw.swap.one_cell rfl
  have f5 := heap_free (hw.le b5 _ (Hp.one_self _ _)) 0
  have f6 := heap_free (hw.swap.le b6 _ (Hp.one_self _ _)) 0
  have hne : b5 ≠ b6 := fun e => by have := hw.dj2 b5 _ (Hp.one_self _ _); rw [e, Hp.one_self] at this; cases this
  have m1 : IntKind.i64.wrap (c + 1) = c + 1 := IntWalk.i64_in _ (by omega)
  have m2 : IntKind.i64.wrap (l - 1) = l - 1 := IntWalk.i64_in _ (by omega)
  have hw2 := hw.set (o := 0) (.int .i64 (c + 1))
  by_cases h : l = 0
  · subst h
    go_enter Try.func24, Try.ntmps24
    go_wp2
    go_ret
    exact ⟨rfl, hw2⟩
  · have hq : (l == 0) = false := beq_eq_false_iff_ne.2 h
    have hw3 := hw2.swap.set (o := 0) (.int .i64 (l - 1))
    rw [if_neg h, show decide (l ≠ 0) = true by simp [h]]
    clear h
    go_enter Try.func24, Try.ntmps24
    go_wp2
    go_ret
    exact ⟨rfl, hw3.swap⟩
theorem work_nil (b : Int) (w : World) (hw : Sat σ w Hs) : Calls Try.prog 25 #[.int .i64 b, Value.nilFunc] w fun e w' => e = .returned (.int .i64 0) ∧ Sat σ w' Hs := by
  have hq := fn_nil
  go_enter Try.func25, Try.ntmps25
  go_wp2
  go_step3
  go_wp2
  go_step3
  go_wp2
  go_loopw [5] (fun n wr => n = .int .i64 0 ∧ Sat σ wr Hs) (fun n _ => 0)
  case atStart => exact ⟨rfl, hw⟩
  case round =>
    obtain ⟨rfl, hwr⟩ := hrel
    go_wp2
    (try simp only [Exit.inBlock, Exit.then])
    (try rw [Exit.noGoto_ret])
    go_ret
    exact ⟨rfl, hwr⟩
theorem work_any (b5 b6 : Nat) (bud wk : Int) (hwk : 0 ≤ wk ∧ wk ≤ 4000) (hbu : -5 ≤ bud ∧ bud ≤ 3000) (w : World) (hw : Sat σ w (Hp.one b5 (.cells #[.int .i64 0] 3 (0, 0)) :: Hp.one b6 (.cells #[.int .i64 wk] 3 (0, 0)) :: Hs)) :
    Calls Try.prog 25 #[.int .i64 bud, .func (.func 24) #[] #[.pointer (some ⟨b5, 0, none⟩), .pointer (some ⟨b6, 0, none⟩)]] w fun e w' => e = .returned (.int .i64 (max 0 (min bud wk))) ∧ ∃ l, Sat σ w' (Hp.one b5 (.cells #[.int .i64 (max 0 (min bud (wk + 1)))] 3 (0, 0)) :: Hp.one b6 (.cells #[.int .i64 l] 3 (0, 0)) :: Hs) := by
  have hq := fn_some
  go_enter Try.func25, Try.ntmps25
  go_wp2
  go_step3
  go_wp2
  go_step3
  go_wp2
  go_loopw [5] (fun n wr => ∃ k : Nat, (k : Int) ≤ wk ∧ ((k : Int) ≤ bud ∨ k = 0) ∧ n = .int .i64 k ∧ Sat σ wr (Hp.one b5 (.cells #[.int .i64 k] 3 (0, 0)) :: Hp.one b6 (.cells #[.int .i64 (wk - k)] 3 (0, 0)) :: Hs)) (fun n _ => (bud - intOf n).toNat)
  case atStart => exact ⟨0, by omega, by omega, rfl, by simpa using hw⟩
  case round =>
    obtain ⟨k, h1, h2, rfl, hwr⟩ := hrel
    clear hw
    by_cases hb : (k : Int) < bud
    · by_cases hl : wk - (k : Int) = 0
      · have hd : decide (wk - (k : Int) ≠ 0) = false := by simp [hl]
        have HST := Lib.hid (step_any b5 b6 k (wk - k) wr hwr (by omega) (by omega))
        rw [hd, if_pos hl] at HST
        clear hd
        go_wp2_with fail
        refine HST.out.mono ?_
        rintro e w2 ⟨rfl, hw2⟩
        go_wp2
        (try simp only [Exit.inBlock, Exit.then])
        (try rw [Exit.noGoto_ret])
        go_ret
        refine ⟨?_, 0, ?_⟩
        · rw [show max 0 (min bud wk) = (k : Int) by omega]; rfl
        · rw [show max 0 (min bud (wk + 1)) = (k : Int) + 1 by omega]; exact hw2
      · have hd : decide (wk - (k : Int) ≠ 0) = true := by simp [hl]
        have HST := Lib.hid (step_any b5 b6 k (wk - k) wr hwr (by omega) (by omega))
        rw [hd, if_neg hl] at HST
        clear hd
        have m1 : IntKind.i64.wrap ((k : Int) + 1) = (k : Int) + 1 := IntWalk.i64_in _ (by omega)
        go_wp2_with fail
        refine HST.out.mono ?_
        rintro e w2 ⟨rfl, hw2⟩
        go_wp2
        go_roundw
        case measure => simp [intOf]; omega
        case rel => exact ⟨k + 1, by omega, by omega, by go_num, by rw [show wk - ((k + 1 : Nat) : Int) = wk - k - 1 by omega]; exact hw2⟩
    · go_wp2
      (try simp only [Exit.inBlock, Exit.then])
      (try rw [Exit.noGoto_ret])
      go_ret
      refine ⟨?_, wk - k, ?_⟩
      · rw [show max 0 (min bud wk) = (k : Int) by omega]; rfl
      · rw [show max 0 (min bud (wk + 1)) = (k : Int) by omega]; exact hwr
end
end Go.Proofs.Ytiplmelpagiklaa
