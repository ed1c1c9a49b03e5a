/- Walks: a chunk's reader: New, Done, Read, Clone. -/
import Derived.Test.YtgpmkiamfbbfmaaDoorCkD
set_option linter.unusedVariables false
set_option linter.unusedSimpArgs false
namespace Go.Proofs.YtgpmkiamfbbfmaaDoor
open Go Go.RowKit
section
variable {σ w w' : World} {Hs : List Hp} {H H1 H2 M N Y : Hp}
set_option maxHeartbeats 4000000
theorem new_c (w : World) (hw : Sat σ w Hs) : Calls Tryd.prog 7 #[] w fun e w' => ∃ g M, e = .returned (.pointer (some ⟨g, 0, none⟩)) ∧ Sat σ w' (M :: Hs) ∧ Rdr M g cs0 := by
  go_enter Tryd.func7, Tryd.ntmps7
  go_wp2
  go_ret
  exact ⟨_, _, rfl, hw.alloc _, ⟨⟨.pointer none, Hp.one_self _ _, rfl⟩⟩⟩
theorem done_c {g : Nat} {s : CS} (w : World) (hw : Sat σ w Hs) (hM : M ∈ Hs) (h : Rdr M g s) : Calls Tryd.prog 10 #[.pointer (some ⟨g, 0, none⟩)] w fun e w' => e = .returned (.bool (decide (s.st = 6))) ∧ w' = w := by
  obtain ⟨pe, h1, h2⟩ := h.ex
  have c0 : w.cell? ⟨g, 0, none⟩ = some (.int .i64 s.st) := hw.cellAt hM (Hp.cell_of h1 (o := 0) rfl)
  clear h1 h2 h
  by_cases h6 : s.st = 6
  · rw [h6] at c0 ⊢
    go_enter Tryd.func10, Tryd.ntmps10
    go_wp2
    go_ret
    exact ⟨rfl, rfl⟩
  · have hb : ((s.st : Int) == 6) = false := by simp; omega
    rw [decide_eq_false h6]
    go_enter Tryd.func10, Tryd.ntmps10
    go_wp2
    go_ret
    exact ⟨rfl, rfl⟩
end
end Go.Proofs.YtgpmkiamfbbfmaaDoor
