/- Walks: a chunk's reader: New, Done, Read, Clone. -/
import Derived.Test.YtgpmkiamfbbfmaaCkD
set_option linter.unusedVariables false
set_option linter.unusedSimpArgs false
namespace Go.Proofs.Ytgpmkiamfbbfmaa
open Go Go.RowKit
section
variable {σ w w' : World} {Hs : List Hp} {H H1 H2 M N Y : Hp}
set_option maxHeartbeats 4000000
theorem new_c (w : World) (hw : Sat σ w Hs) : Calls Try.prog 6 #[] w fun e w' => ∃ g M, e = .returned (.pointer (some ⟨g, 0, none⟩)) ∧ Sat σ w' (M :: Hs) ∧ Rdr M g cs0 := by
  go_enter Try.func6, Try.ntmps6
  go_wp2
  go_ret
  exact ⟨_, _, rfl, hw.alloc _, ⟨⟨.pointer none, Hp.one_self _ _, rfl⟩⟩⟩
theorem done_c {g : Nat} {s : CS} (w : World) (hw : Sat σ w Hs) (hM : M ∈ Hs) (h : Rdr M g s) : Calls Try.prog 12 #[.pointer (some ⟨g, 0, none⟩)] w fun e w' => e = .returned (.bool (decide (s.st = 6))) ∧ w' = w := by
  obtain ⟨pe, h1, h2⟩ := h.ex
  have c0 : w.cell? ⟨g, 0, none⟩ = some (.int .i64 s.st) := hw.cellAt hM (Hp.cell_of h1 (o := 0) rfl)
  clear h1 h2 h
  by_cases h6 : s.st = 6
  · rw [h6] at c0 ⊢
    go_enter Try.func12, Try.ntmps12
    go_wp2
    go_ret
    exact ⟨rfl, rfl⟩
  · have hb : ((s.st : Int) == 6) = false := by simp; omega
    rw [decide_eq_false h6]
    go_enter Try.func12, Try.ntmps12
    go_wp2
    go_ret
    exact ⟨rfl, rfl⟩
theorem read_c {g : Nat} {s : CS} (w : World) (hw : Sat σ w Hs) (hM : M ∈ Hs) (h : Rdr M g s) : Calls Try.prog 10 #[.pointer (some ⟨g, 0, none⟩)] w fun e w' => e = .returned (.tuple #[.int .i64 s.pos, .int .i64 s.body]) ∧ Sat σ w' Hs := by
  obtain ⟨pe, h1, h2⟩ := h.ex
  have c4 : w.cell? ⟨g, 4, none⟩ = some (.int .i64 s.pos) := hw.cellAt hM (Hp.cell_of h1 (o := 4) rfl)
  have c5 : w.cell? ⟨g, 5, none⟩ = some (.int .i64 s.body) := hw.cellAt hM (Hp.cell_of h1 (o := 5) rfl)
  clear h1 h2 h
  go_enter Try.func10, Try.ntmps10
  go_wp2
  go_quiet (fail)
  go_wp2
  go_ret2
  exact ⟨rfl, hw.drewN _⟩
theorem clone_c {g : Nat} {s : CS} (w : World) (hw : Sat σ w Hs) (hM : M ∈ Hs) (h : Rdr M g s) (he : s.err = none) : Calls Try.prog 15 #[.pointer (some ⟨g, 0, none⟩)] w fun e w' => ∃ g2 M2, e = .returned (.pointer (some ⟨g2, 0, none⟩)) ∧ Sat σ w' (M2 :: Hs) ∧ Rdr M2 g2 s := by
  obtain ⟨pe, h1, h2⟩ := h.ex
  rw [he] at h2
  obtain rfl : pe = _ := h2
  have HE := Lib.hid he
  have HG := Lib.hid (hw.blk hM h1)
  have c0 : w.cell? ⟨g, 0, none⟩ = some (.int .i64 s.st) := hw.cellAt hM (Hp.cell_of h1 (o := 0) rfl)
  have c1 : w.cell? ⟨g, 1, none⟩ = some (.int .i64 s.size) := hw.cellAt hM (Hp.cell_of h1 (o := 1) rfl)
  have c2 : w.cell? ⟨g, 2, none⟩ = some (.int .i64 s.left) := hw.cellAt hM (Hp.cell_of h1 (o := 2) rfl)
  have c3 : w.cell? ⟨g, 3, none⟩ = some (.int .i64 s.many) := hw.cellAt hM (Hp.cell_of h1 (o := 3) rfl)
  have c4 : w.cell? ⟨g, 4, none⟩ = some (.int .i64 s.pos) := hw.cellAt hM (Hp.cell_of h1 (o := 4) rfl)
  have c5 : w.cell? ⟨g, 5, none⟩ = some (.int .i64 s.body) := hw.cellAt hM (Hp.cell_of h1 (o := 5) rfl)
  have c6 : w.cell? ⟨g, 6, none⟩ = some (.pointer none) := hw.cellAt hM (Hp.cell_of h1 (o := 6) rfl)
  have c7 : w.cell? ⟨g, 7, none⟩ = some (.bool true) := hw.cellAt hM (Hp.cell_of h1 (o := 7) rfl)
  have hgl := hw.lt hM h1
  clear h1 h he
  go_enter Try.func15, Try.ntmps15
  go_wp2
  go_ret
  exact ⟨_, _, rfl, hw.alloc _, ⟨⟨.pointer none, Hp.one_self _ _, by rw [HE.out]; rfl⟩⟩⟩
/-- A reader that no call made. -/
def ZR (p : Value) (w : World) : Prop := p = .pointer none ∨ ∃ g, p = .pointer (some ⟨g, 0, none⟩) ∧ w.cell? ⟨g, 7, none⟩ = some (.bool false) ∧ w.cell? ⟨g, 0, none⟩ = some (.int .i64 0) ∧ w.cell? ⟨g, 4, none⟩ = some (.int .i64 0) ∧ w.cell? ⟨g, 5, none⟩ = some (.int .i64 0)
theorem add_none (p v : Value) (w : World) (hw : Sat σ w Hs) (hp : ZR p w) : Calls Try.prog 8 #[p, v] w fun e w' => ∃ ve N, e = .returned (.tuple #[.slice none 0 0, .int .i64 0, ve]) ∧ Sat σ w' (N :: Hs) ∧ EV N ve (some ([(chunkB, 0)], 1)) := by
  rcases hp with rfl | ⟨g, rfl, c7, -, -, -⟩
  · go_enter Try.func8, Try.ntmps8
    go_wp2
    go_ret3
    exact ⟨_, _, rfl, hw.alloc _, ⟨_, _, rfl, Hp.one_self _ _, rfl⟩, by show 1 ≤ 4; omega, by show 0 < 1; omega⟩
  · go_enter Try.func8, Try.ntmps8
    go_wp2
    go_ret3
    exact ⟨_, _, rfl, hw.alloc _, ⟨_, _, rfl, Hp.one_self _ _, rfl⟩, by show 1 ≤ 4; omega, by show 0 < 1; omega⟩
theorem read_none (p : Value) (w : World) (hw : Sat σ w Hs) (hp : ZR p w) : Calls Try.prog 10 #[p] w fun e w' => e = .returned (.tuple #[.int .i64 0, .int .i64 0]) ∧ Sat σ w' Hs := by
  rcases hp with rfl | ⟨g, rfl, -, -, c4, c5⟩
  · go_enter Try.func10, Try.ntmps10
    go_wp2
    go_ret2
    exact ⟨rfl, hw⟩
  · go_enter Try.func10, Try.ntmps10
    go_wp2
    go_quiet (fail)
    go_wp2
    go_ret2
    exact ⟨rfl, hw.drewN _⟩
theorem done_none (p : Value) (w : World) (hp : ZR p w) : Calls Try.prog 12 #[p] w fun e w' => e = .returned (.bool false) ∧ w' = w := by
  rcases hp with rfl | ⟨g, rfl, -, c0, -, -⟩
  · go_enter Try.func12, Try.ntmps12
    go_wp2
    go_ret
    exact ⟨rfl, rfl⟩
  · go_enter Try.func12, Try.ntmps12
    go_wp2
    go_ret
    exact ⟨rfl, rfl⟩
theorem clone_none (p : Value) (w : World) (hp : ZR p w) : Calls Try.prog 15 #[p] w fun e w' => e = .returned (.pointer none) ∧ w' = w := by
  rcases hp with rfl | ⟨g, rfl, c7, -, -, -⟩
  · go_enter Try.func15, Try.ntmps15
    go_wp2
    go_ret
    exact ⟨rfl, rfl⟩
  · go_enter Try.func15, Try.ntmps15
    go_wp2
    go_ret
    exact ⟨rfl, rfl⟩
end
end Go.Proofs.Ytgpmkiamfbbfmaa
