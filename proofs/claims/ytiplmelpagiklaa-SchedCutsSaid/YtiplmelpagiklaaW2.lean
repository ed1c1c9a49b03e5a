/- Walk: SchedCuts. -/
import Derived.Test.YtiplmelpagiklaaW1
set_option linter.unusedVariables false
set_option linter.unusedSimpArgs false
namespace Go.Proofs.Ytiplmelpagiklaa
open Go.RowKit
set_option maxHeartbeats 4000000
section
variable {σ : World} {Hs : List Hp} {H M N : Hp}
theorem cuts_law (bu wk0 : Int) (w : World) (hw : Sat σ w Hs) :
    Calls Try.prog 7 #[.int .i64 bu, .int .i64 wk0] w fun e w' => e = .returned (.bool true) ∧ Sat σ w' Hs := by
  by_cases h1 : 3000 < bu
  · go_enter Try.func7, Try.ntmps7
    go_wp2_with fail
    refine (works_any w hw).mono ?_
    rintro e w1 ⟨rfl, hw1⟩
    go_wp2_with fail
    refine (among_any wk0 4000 w1 (by omega) (by omega)).mono ?_
    rintro e w2 ⟨rfl, rfl⟩
    have hr := amongI_range wk0 4000 (by omega)
    generalize amongI wk0 4000 = wk at *
    have hwb := ((hw1.alloc (.cells #[.int .i64 0] 3)).alloc (.cells #[.int .i64 wk] 3)).swap
    have m1 : IntKind.i64.wrap (wk + 1) = wk + 1 := IntWalk.i64_in _ (by omega)
    have hsz : (w1.alloc (.cells #[.int .i64 0] 3)).heap.size = w1.heap.size + 1 := by simp
    rw [hsz] at hwb
    have HW := Lib.hid (work_any w1.heap.size (w1.heap.size + 1) 3000 wk (by omega) (by omega) _ hwb)
    go_wp2_with fail
    generalize World.alloc (World.alloc w1 _) _ = w4 at *
    generalize w1.heap.size = b5 at *
    clear hsz hw1 hwb
    by_cases k1 : 3000 < wk
    · rw [show max 0 (min 3000 wk) = 3000 by omega, show max 0 (min 3000 (wk + 1)) = 3000 by omega] at HW
      refine HW.out.mono ?_
      rintro e w5 ⟨rfl, l5, hw5⟩
      have d5 : w5.cell? ⟨b5, 0, none⟩ = some (.int .i64 3000) := hw5.one_cell rfl
      clear HW
      go_wp2_with (go_at_call 25; refine (work_nil _ w5 hw5).mono ?_; rintro e w6 ⟨rfl, hw6⟩)
      all_goals
        go_ret
        exact ⟨rfl, hw6.drop.drop⟩
    by_cases k2 : 3000 = wk
    · --
      rw [show max 0 (min 3000 wk) = wk by omega, show max 0 (min 3000 (wk + 1)) = wk by omega] at HW
      refine HW.out.mono ?_
      rintro e w5 ⟨rfl, l5, hw5⟩
      have d5 : w5.cell? ⟨b5, 0, none⟩ = some (.int .i64 wk) := hw5.one_cell rfl
      clear HW
      go_wp2_with (go_at_call 25; refine (work_nil _ w5 hw5).mono ?_; rintro e w6 ⟨rfl, hw6⟩)
      all_goals
        go_ret
        exact ⟨rfl, hw6.drop.drop⟩
    by_cases k3 : 3000 = wk + 1
    · --
      rw [show max 0 (min 3000 wk) = wk by omega, show max 0 (min 3000 (wk + 1)) = (wk + 1) by omega] at HW
      refine HW.out.mono ?_
      rintro e w5 ⟨rfl, l5, hw5⟩
      have d5 : w5.cell? ⟨b5, 0, none⟩ = some (.int .i64 (wk + 1)) := hw5.one_cell rfl
      clear HW
      go_wp2_with (go_at_call 25; refine (work_nil _ w5 hw5).mono ?_; rintro e w6 ⟨rfl, hw6⟩)
      all_goals
        go_ret
        exact ⟨rfl, hw6.drop.drop⟩
    rw [show max 0 (min 3000 wk) = wk by omega, show max 0 (min 3000 (wk + 1)) = (wk + 1) by omega] at HW
    refine HW.out.mono ?_
    rintro e w5 ⟨rfl, l5, hw5⟩
    have d5 : w5.cell? ⟨b5, 0, none⟩ = some (.int .i64 (wk + 1)) := hw5.one_cell rfl
    clear HW
    go_wp2_with (go_at_call 25; refine (work_nil _ w5 hw5).mono ?_; rintro e w6 ⟨rfl, hw6⟩)
    all_goals
      go_ret
      exact ⟨rfl, hw6.drop.drop⟩
  by_cases h2 : bu < -5
  · go_enter Try.func7, Try.ntmps7
    go_wp2_with fail
    refine (works_any w hw).mono ?_
    rintro e w1 ⟨rfl, hw1⟩
    go_wp2_with fail
    refine (among_any wk0 4000 w1 (by omega) (by omega)).mono ?_
    rintro e w2 ⟨rfl, rfl⟩
    have hr := amongI_range wk0 4000 (by omega)
    generalize amongI wk0 4000 = wk at *
    have hwb := ((hw1.alloc (.cells #[.int .i64 0] 3)).alloc (.cells #[.int .i64 wk] 3)).swap
    have m1 : IntKind.i64.wrap (wk + 1) = wk + 1 := IntWalk.i64_in _ (by omega)
    have hsz : (w1.alloc (.cells #[.int .i64 0] 3)).heap.size = w1.heap.size + 1 := by simp
    rw [hsz] at hwb
    have HW := Lib.hid (work_any w1.heap.size (w1.heap.size + 1) (-5) wk (by omega) (by omega) _ hwb)
    go_wp2_with fail
    generalize World.alloc (World.alloc w1 _) _ = w4 at *
    generalize w1.heap.size = b5 at *
    clear hsz hw1 hwb
    rw [show max 0 (min (-5) wk) = 0 by omega, show max 0 (min (-5) (wk + 1)) = 0 by omega] at HW
    refine HW.out.mono ?_
    rintro e w5 ⟨rfl, l5, hw5⟩
    have d5 : w5.cell? ⟨b5, 0, none⟩ = some (.int .i64 0) := hw5.one_cell rfl
    clear HW
    go_wp2_with (go_at_call 25; refine (work_nil _ w5 hw5).mono ?_; rintro e w6 ⟨rfl, hw6⟩)
    all_goals
      go_ret
      exact ⟨rfl, hw6.drop.drop⟩
  by_cases h2' : bu = -5
  · subst h2'
    go_enter Try.func7, Try.ntmps7
    go_wp2_with fail
    refine (works_any w hw).mono ?_
    rintro e w1 ⟨rfl, hw1⟩
    go_wp2_with fail
    refine (among_any wk0 4000 w1 (by omega) (by omega)).mono ?_
    rintro e w2 ⟨rfl, rfl⟩
    have hr := amongI_range wk0 4000 (by omega)
    generalize amongI wk0 4000 = wk at *
    have hwb := ((hw1.alloc (.cells #[.int .i64 0] 3)).alloc (.cells #[.int .i64 wk] 3)).swap
    have m1 : IntKind.i64.wrap (wk + 1) = wk + 1 := IntWalk.i64_in _ (by omega)
    have hsz : (w1.alloc (.cells #[.int .i64 0] 3)).heap.size = w1.heap.size + 1 := by simp
    rw [hsz] at hwb
    have HW := Lib.hid (work_any w1.heap.size (w1.heap.size + 1) (-5) wk (by omega) (by omega) _ hwb)
    go_wp2_with fail
    generalize World.alloc (World.alloc w1 _) _ = w4 at *
    generalize w1.heap.size = b5 at *
    clear hsz hw1 hwb
    rw [show max 0 (min (-5) wk) = 0 by omega, show max 0 (min (-5) (wk + 1)) = 0 by omega] at HW
    refine HW.out.mono ?_
    rintro e w5 ⟨rfl, l5, hw5⟩
    have d5 : w5.cell? ⟨b5, 0, none⟩ = some (.int .i64 0) := hw5.one_cell rfl
    clear HW
    go_wp2_with (go_at_call 25; refine (work_nil _ w5 hw5).mono ?_; rintro e w6 ⟨rfl, hw6⟩)
    all_goals
      go_ret
      exact ⟨rfl, hw6.drop.drop⟩
  go_enter Try.func7, Try.ntmps7
  go_wp2_with fail
  refine (works_any w hw).mono ?_
  rintro e w1 ⟨rfl, hw1⟩
  go_wp2_with fail
  refine (among_any wk0 4000 w1 (by omega) (by omega)).mono ?_
  rintro e w2 ⟨rfl, rfl⟩
  have hr := amongI_range wk0 4000 (by omega)
  generalize amongI wk0 4000 = wk at *
  have hwb := ((hw1.alloc (.cells #[.int .i64 0] 3)).alloc (.cells #[.int .i64 wk] 3)).swap
  have m1 : IntKind.i64.wrap (wk + 1) = wk + 1 := IntWalk.i64_in _ (by omega)
  have hsz : (w1.alloc (.cells #[.int .i64 0] 3)).heap.size = w1.heap.size + 1 := by simp
  rw [hsz] at hwb
  have HW := Lib.hid (work_any w1.heap.size (w1.heap.size + 1) bu wk (by omega) (by omega) _ hwb)
  go_wp2_with fail
  generalize World.alloc (World.alloc w1 _) _ = w4 at *
  generalize w1.heap.size = b5 at *
  clear hsz hw1 hwb
  by_cases h3 : bu < 0
  · --
    rw [show max 0 (min bu wk) = 0 by omega, show max 0 (min bu (wk + 1)) = 0 by omega] at HW
    refine HW.out.mono ?_
    rintro e w5 ⟨rfl, l5, hw5⟩
    have d5 : w5.cell? ⟨b5, 0, none⟩ = some (.int .i64 0) := hw5.one_cell rfl
    clear HW
    go_wp2_with (go_at_call 25; refine (work_nil _ w5 hw5).mono ?_; rintro e w6 ⟨rfl, hw6⟩)
    all_goals
      go_ret
      exact ⟨rfl, hw6.drop.drop⟩
  by_cases k1 : bu < wk
  · rw [show max 0 (min bu wk) = bu by omega, show max 0 (min bu (wk + 1)) = bu by omega] at HW
    refine HW.out.mono ?_
    rintro e w5 ⟨rfl, l5, hw5⟩
    have d5 : w5.cell? ⟨b5, 0, none⟩ = some (.int .i64 bu) := hw5.one_cell rfl
    clear HW
    go_wp2_with (go_at_call 25; refine (work_nil _ w5 hw5).mono ?_; rintro e w6 ⟨rfl, hw6⟩)
    all_goals
      go_ret
      exact ⟨rfl, hw6.drop.drop⟩
  by_cases k2 : bu = wk
  · --
    rw [show max 0 (min bu wk) = wk by omega, show max 0 (min bu (wk + 1)) = wk by omega] at HW
    refine HW.out.mono ?_
    rintro e w5 ⟨rfl, l5, hw5⟩
    have d5 : w5.cell? ⟨b5, 0, none⟩ = some (.int .i64 wk) := hw5.one_cell rfl
    clear HW
    go_wp2_with (go_at_call 25; refine (work_nil _ w5 hw5).mono ?_; rintro e w6 ⟨rfl, hw6⟩)
    all_goals
      go_ret
      exact ⟨rfl, hw6.drop.drop⟩
  by_cases k3 : bu = wk + 1
  · --
    rw [show max 0 (min bu wk) = wk by omega, show max 0 (min bu (wk + 1)) = (wk + 1) by omega] at HW
    refine HW.out.mono ?_
    rintro e w5 ⟨rfl, l5, hw5⟩
    have d5 : w5.cell? ⟨b5, 0, none⟩ = some (.int .i64 (wk + 1)) := hw5.one_cell rfl
    clear HW
    go_wp2_with (go_at_call 25; refine (work_nil _ w5 hw5).mono ?_; rintro e w6 ⟨rfl, hw6⟩)
    all_goals
      go_ret
      exact ⟨rfl, hw6.drop.drop⟩
  rw [show max 0 (min bu wk) = wk by omega, show max 0 (min bu (wk + 1)) = (wk + 1) by omega] at HW
  refine HW.out.mono ?_
  rintro e w5 ⟨rfl, l5, hw5⟩
  have d5 : w5.cell? ⟨b5, 0, none⟩ = some (.int .i64 (wk + 1)) := hw5.one_cell rfl
  clear HW
  go_wp2_with (go_at_call 25; refine (work_nil _ w5 hw5).mono ?_; rintro e w6 ⟨rfl, hw6⟩)
  all_goals
    go_ret
    exact ⟨rfl, hw6.drop.drop⟩
end
end Go.Proofs.Ytiplmelpagiklaa
