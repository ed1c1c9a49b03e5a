/- Walks of the reference: fault, digit. -/
import Derived.Test.YtgpmkiamfbbfmaaCkD
set_option linter.unusedVariables false
set_option linter.unusedSimpArgs false
namespace Go.Proofs.Ytgpmkiamfbbfmaa
open Go Go.RowKit
section
variable {σ w w' : World} {Hs : List Hp} {H H1 H2 M N Y : Hp}
set_option maxHeartbeats 4000000
theorem rfault_any (a c : Int) (w : World) (hw : Sat σ w Hs) :
    Calls Try.prog 20 #[.int .i64 a, .int .i64 c] w fun e w' => e = .returned (.agg (badC [(chunkB, a)] c)) ∧ Sat σ w' Hs := by
  go_enter Try.func20, Try.ntmps20
  go_wp2_with fail
  refine (fail_any chunkB a c _ (hw.alloc (.cells #[.int .i64 0, .string ⟨#[]⟩, .string ⟨#[]⟩, .string ⟨#[]⟩, .string ⟨#[]⟩, .int .i64 0, .int .i64 0, .int .i64 0, .int .i64 0, .int .i64 0] 34))).mono ?_
  rintro e w2 ⟨rfl, hw2⟩
  generalize w.heap.size = nb at *
  have e0 : w2.cell? ⟨nb, 0, none⟩ = some (.int .i64 0) := hw2.one_cell rfl
  have g0 := heap_free hw2.heap 0
  have e1 : w2.cell? ⟨nb, 1, none⟩ = some (.string ⟨#[]⟩) := hw2.one_cell rfl
  have g1 := heap_free hw2.heap 1
  have e2 : w2.cell? ⟨nb, 2, none⟩ = some (.string ⟨#[]⟩) := hw2.one_cell rfl
  have g2 := heap_free hw2.heap 2
  have e3 : w2.cell? ⟨nb, 3, none⟩ = some (.string ⟨#[]⟩) := hw2.one_cell rfl
  have g3 := heap_free hw2.heap 3
  have e4 : w2.cell? ⟨nb, 4, none⟩ = some (.string ⟨#[]⟩) := hw2.one_cell rfl
  have g4 := heap_free hw2.heap 4
  have e5 : w2.cell? ⟨nb, 5, none⟩ = some (.int .i64 0) := hw2.one_cell rfl
  have g5 := heap_free hw2.heap 5
  have e6 : w2.cell? ⟨nb, 6, none⟩ = some (.int .i64 0) := hw2.one_cell rfl
  have g6 := heap_free hw2.heap 6
  have e7 : w2.cell? ⟨nb, 7, none⟩ = some (.int .i64 0) := hw2.one_cell rfl
  have g7 := heap_free hw2.heap 7
  have e8 : w2.cell? ⟨nb, 8, none⟩ = some (.int .i64 0) := hw2.one_cell rfl
  have g8 := heap_free hw2.heap 8
  have e9 : w2.cell? ⟨nb, 9, none⟩ = some (.int .i64 0) := hw2.one_cell rfl
  have g9 := heap_free hw2.heap 9
  have hfin := ((((((((((hw2.set (o := 0) (.int .i64 ((List.length [(chunkB, a)] : Nat) : Int))).set (o := 1) (.string (chL [(chunkB, a)] 0))).set (o := 2) (.string (chL [(chunkB, a)] 1))).set (o := 3) (.string (chL [(chunkB, a)] 2))).set (o := 4) (.string (chL [(chunkB, a)] 3))).set (o := 5) (.int .i64 (chA [(chunkB, a)] 0))).set (o := 6) (.int .i64 (chA [(chunkB, a)] 1))).set (o := 7) (.int .i64 (chA [(chunkB, a)] 2))).set (o := 8) (.int .i64 (chA [(chunkB, a)] 3))).set (o := 9) (.int .i64 c))
  change Sat σ _ (Hp.one nb (.cells (((((((((((badC [] 0).setIfInBounds 0 _).setIfInBounds 1 _).setIfInBounds 2 _).setIfInBounds 3 _).setIfInBounds 4 _).setIfInBounds 5 _).setIfInBounds 6 _).setIfInBounds 7 _).setIfInBounds 8 _).setIfInBounds 9 _) 34 (0, 0)) :: _) at hfin
  rw [badC_set] at hfin
  have HFIN := Lib.hid hfin
  clear hfin
  have HBQ : Hid (badC [(chunkB, a)] c = #[.int .i64 ((List.length [(chunkB, a)] : Nat) : Int), .string (chL [(chunkB, a)] 0), .string (chL [(chunkB, a)] 1), .string (chL [(chunkB, a)] 2), .string (chL [(chunkB, a)] 3), .int .i64 (chA [(chunkB, a)] 0), .int .i64 (chA [(chunkB, a)] 1), .int .i64 (chA [(chunkB, a)] 2), .int .i64 (chA [(chunkB, a)] 3), .int .i64 c]) := Lib.hid rfl
  rw [HBQ.out]
  generalize ((List.length [(chunkB, a)] : Nat) : Int) = x0 at *
  generalize chL [(chunkB, a)] 0 = x1 at *
  generalize chL [(chunkB, a)] 1 = x2 at *
  generalize chL [(chunkB, a)] 2 = x3 at *
  generalize chL [(chunkB, a)] 3 = x4 at *
  generalize chA [(chunkB, a)] 0 = x5 at *
  generalize chA [(chunkB, a)] 1 = x6 at *
  generalize chA [(chunkB, a)] 2 = x7 at *
  generalize chA [(chunkB, a)] 3 = x8 at *
  go_wp2
  refine bodyPost_ret (results_cell_row rfl _ _ nb _ _ _ _ rfl HFIN.out.heap Try.underlying34 rfl (by kernel_rfl)) rfl ?_
  exact ⟨by rw [HBQ.out], HFIN.out.drop⟩
def loD (i : Nat) : Int := if i < 10 then 48 + i else 87 + i
def upD (i : Nat) : Int := if i < 10 then 48 + i else 55 + i
theorem ix_lo (i : Nat) (hi : i < 16) (W : World) : (Instr.index 9 (.string ⟨#[48, 49, 50, 51, 52, 53, 54, 55, 56, 57, 97, 98, 99, 100, 101, 102]⟩) (.int .i64 (i : Int))).run Try.prog W = .ok (.int .u8 (loD i)) W := by
  obtain rfl | rfl | rfl | rfl | rfl | rfl | rfl | rfl | rfl | rfl | rfl | rfl | rfl | rfl | rfl | rfl : i = 0 ∨ i = 1 ∨ i = 2 ∨ i = 3 ∨ i = 4 ∨ i = 5 ∨ i = 6 ∨ i = 7 ∨ i = 8 ∨ i = 9 ∨ i = 10 ∨ i = 11 ∨ i = 12 ∨ i = 13 ∨ i = 14 ∨ i = 15 := by omega
  all_goals kernel_rfl
theorem ix_up (i : Nat) (hi : i < 16) (W : World) : (Instr.index 9 (.string ⟨#[48, 49, 50, 51, 52, 53, 54, 55, 56, 57, 65, 66, 67, 68, 69, 70]⟩) (.int .i64 (i : Int))).run Try.prog W = .ok (.int .u8 (upD i)) W := by
  obtain rfl | rfl | rfl | rfl | rfl | rfl | rfl | rfl | rfl | rfl | rfl | rfl | rfl | rfl | rfl | rfl : i = 0 ∨ i = 1 ∨ i = 2 ∨ i = 3 ∨ i = 4 ∨ i = 5 ∨ i = 6 ∨ i = 7 ∨ i = 8 ∨ i = 9 ∨ i = 10 ∨ i = 11 ∨ i = 12 ∨ i = 13 ∨ i = 14 ∨ i = 15 := by omega
  all_goals kernel_rfl
theorem val_lo (i : Nat) (hi : i < 16) : valC (loD i) = i ∧ valC (upD i) = i := by
  unfold valC loD upD
  by_cases h : i < 10
  · simp only [if_pos h]
    rw [if_pos (by omega)]
    omega
  · simp only [if_neg h]
    rw [if_neg (by omega), if_pos (by omega), if_neg (by omega), if_neg (by omega), if_pos (by omega)]
    omega
theorem val_no (c : Int) (h : ∀ j : Nat, j < 16 → c ≠ loD j ∧ c ≠ upD j) : valC c = -1 := by
  unfold valC
  by_cases h1 : 48 ≤ c ∧ c ≤ 57
  · have := (h (c - 48).toNat (by omega)).1
    unfold loD at this
    rw [if_pos (by omega)] at this
    omega
  · rw [if_neg h1]
    by_cases h2 : 97 ≤ c ∧ c ≤ 102
    · have := (h (c - 87).toNat (by omega)).1
      unfold loD at this
      rw [if_neg (by omega)] at this
      omega
    · rw [if_neg h2]
      by_cases h3 : 65 ≤ c ∧ c ≤ 70
      · have := (h (c - 55).toNat (by omega)).2
        unfold upD at this
        rw [if_neg (by omega)] at this
        omega
      · rw [if_neg h3]
def digD (c : Int) : Int := if valC c < 0 then 16 else valC c
theorem rdigit_any (c : Int) (w : World) : Calls Try.prog 19 #[.int .u8 c] w fun e w' => e = .returned (.int .i64 (digD c)) ∧ w' = w := by
  go_enter Try.func19, Try.ntmps19
  go_wp2
  go_loopw [3] (fun i wr => ∃ k : Nat, k ≤ 16 ∧ i = .int .i64 k ∧ wr = w ∧ Eager (∀ j : Nat, j < k → c ≠ loD j ∧ c ≠ upD j)) (fun i _ => 16 - (intOf i).toNat)
  case atStart => exact ⟨0, by omega, rfl, rfl, ⟨fun j hj => by omega⟩⟩
  case round =>
    obtain ⟨k, hk, rfl, hwr, hno⟩ := hrel
    have HN := Lib.hid hno.out
    clear hno
    by_cases hlt : k < 16
    · have hki : (k : Int) < 16 := by omega
      have x1 := ix_lo k hlt; have x2 := ix_up k hlt
      have HV := Lib.hid (val_lo k hlt)
      by_cases h1 : loD k = c
      · have HD : Hid (digD c = k) := Lib.hid (by unfold digD; rw [← h1, HV.out.1, if_neg (by omega)])
        rw [h1] at x1
        clear h1 x2
        go_wp2
        go_ret
        exact ⟨by rw [HD.out]; rfl, rfl⟩
      · have b1 : (loD k == c) = false := by simpa using h1
        by_cases h2 : upD k = c
        · have HD : Hid (digD c = k) := Lib.hid (by unfold digD; rw [← h2, HV.out.2, if_neg (by omega)])
          rw [h2] at x2
          clear h2 h1
          go_wp2
          go_ret
          exact ⟨by rw [HD.out]; rfl, rfl⟩
        · have b2 : (upD k == c) = false := by simpa using h2
          have HN2 : Hid (∀ j : Nat, j < k + 1 → c ≠ loD j ∧ c ≠ upD j) := Lib.hid (fun j hj => by
            by_cases e : j = k
            · subst e; exact ⟨fun e => h1 e.symm, fun e => h2 e.symm⟩
            · exact HN.out j (by omega))
          clear h1 h2
          go_wp2
          go_roundw
          case measure => simp [intOf]; omega
          case rel => exact ⟨k + 1, by omega, by go_num, trivial, ⟨HN2.out⟩⟩
    · obtain rfl : k = 16 := by omega
      have HD : Hid (digD c = 16) := Lib.hid (by unfold digD; rw [if_pos (by rw [val_no c HN.out]; omega)])
      go_wp2
      go_ret
      exact ⟨by rw [HD.out]; rfl, rfl⟩
end
end Go.Proofs.Ytgpmkiamfbbfmaa
