/- Walks: New, Get, Drop, Used, Hand, Keys, Clone of a store. -/
import Derived.Test.YtfieipigbdopaaaS7
set_option linter.unusedVariables false
set_option linter.unusedSimpArgs false
namespace Go.Proofs.Ytfieipigbdopaaa
open Go.RowKit
set_option maxHeartbeats 2000000
def newBad (n keep : Int) : Bool := decide (n < 0) || decide (4096 < n) || decide (keep < 0) || decide (65536 < keep) || decide (4194304 < n * keep)
theorem newBad_no {n keep : Int} (h : newBad n keep = false) : 0 ≤ n ∧ n ≤ 4096 ∧ 0 ≤ keep ∧ keep ≤ 65536 ∧ n * keep ≤ 4194304 := by
  simp only [newBad, Bool.or_eq_false_iff, decide_eq_false_iff_not] at h
  obtain ⟨⟨⟨⟨h1, h2⟩, h3⟩, h4⟩, h5⟩ := h
  exact ⟨by omega, by omega, by omega, by omega, by omega⟩
theorem new_ok (n : Nat) (keep : Int) (hb : newBad n keep = false) : StoF keep 0 (List.replicate n se0) := by
  have hb := newBad_no hb
  refine ⟨fun x hx => ?_, by rw [List.length_replicate]; omega, .inr rfl, by omega⟩
  obtain ⟨_, rfl⟩ := List.mem_replicate.1 hx
  exact ⟨by decide, by decide, by decide⟩
section
variable {σ : World} {Hs : List Hp} {H M N Ha : Hp}
theorem new_bad (n keep : Int) (w : World) (hw : Sat σ w Hs) (hn : -9223372036854775808 ≤ n ∧ n ≤ 9223372036854775807) (hb : newBad n keep = true) :
    Calls Try.prog 10 #[.int .i64 n, .int .i64 keep] w fun e w' => e = .returned (.tuple #[.pointer none, .int .i64 2]) ∧ Sat σ w' Hs := by
  simp [newBad] at hb
  by_cases h1 : n < 0
  · go_enter Try.func10, Try.ntmps10
    go_wp2
    go_ret2
    exact ⟨rfl, hw⟩
  by_cases h2 : 4096 < n
  · go_enter Try.func10, Try.ntmps10
    go_wp2
    go_ret2
    exact ⟨rfl, hw⟩
  by_cases h3 : keep < 0
  · go_enter Try.func10, Try.ntmps10
    go_wp2
    go_ret2
    exact ⟨rfl, hw⟩
  by_cases h4 : 65536 < keep
  · go_enter Try.func10, Try.ntmps10
    go_wp2
    go_ret2
    exact ⟨rfl, hw⟩
  have h5 : 4194304 < n * keep := by omega
  have h6 : n * keep ≤ 4096 * 65536 := by
    have a1 : n * keep ≤ 4096 * keep := Int.mul_le_mul_of_nonneg_right (by omega) (by omega)
    have a2 : 4096 * keep ≤ 4096 * 65536 := Int.mul_le_mul_of_nonneg_left (by omega) (by omega)
    omega
  have m1 : IntKind.i64.wrap (n * keep) = n * keep := IntWalk.i64_in _ (by omega)
  go_enter Try.func10, Try.ntmps10
  go_wp2
  go_ret2
  exact ⟨rfl, hw⟩
theorem new_any (n : Nat) (keep : Int) (w : World) (hw : Sat σ w Hs) (hb : newBad n keep = false) :
    Calls Try.prog 10 #[.int .i64 n, .int .i64 keep] w fun e w' => ∃ b M, e = .returned (.tuple #[.pointer (some ⟨b, 0, none⟩), .int .i64 0]) ∧ Sat σ w' (M :: Hs) ∧ Sto M b keep 0 (List.replicate n se0) := by
  have HOK := Lib.hid (new_ok n keep hb)
  obtain ⟨h1, h2, h3, h4, h5⟩ := newBad_no hb
  have hp : 0 ≤ (n : Int) * keep := Int.mul_nonneg (by omega) (by omega)
  have m1 : IntKind.i64.wrap ((n : Int) * keep) = (n : Int) * keep := IntWalk.i64_in _ (by omega)
  go_enter Try.func10, Try.ntmps10
  go_wp2_with (refine wpList_mk hw rfl (.tmp 26) (.tmp 26) 55 66 (.agg #[.string ⟨#[]⟩, .slice none 0 0, .int .i64 0, .int .i64 0, .bool false]) 5 64 rfl Try.underlying55 (by kernel_rfl) .i64 .i64 n rfl rfl (by omega) (by omega) ?_; intro b1 w1 N hb1 hw1 ho1 hN1)
  go_ret2
  have hb2 := hw1.alloc (.cells #[.slice (some ⟨b1, 0, none⟩) n n, .int .i64 keep, .int .i64 0, .bool true] 57)
  refine ⟨w1.heap.size, _, rfl, hb2.join, ⟨Tab.new (pre := []) (post := [.int .i64 keep, .int .i64 0, .bool true]) hb2 (by rw [List.length_replicate]; exact ho1) ?_, HOK.out⟩⟩
  exact reps_made (d := kSE) (kSE_mk (x := se0) (v := .slice none 0 0) Kd.IsSl.nil) (by decide) n
end
end Go.Proofs.Ytfieipigbdopaaa
