/- Walks: the reference's New. -/
import Derived.Test.YtfieipigbdopaaaT2
import Derived.Test.YtfieipigbdopaaaS5
set_option linter.unusedVariables false
set_option linter.unusedSimpArgs false
namespace Go.Proofs.Ytfieipigbdopaaa
open Go.RowKit
set_option maxHeartbeats 2000000
section
variable {σ : World} {Hs : List Hp} {H M N Ha : Hp}
theorem rnew_bad (n keep : Int) (w : World) (hw : Sat σ w Hs) (hn : -9223372036854775808 ≤ n ∧ n ≤ 9223372036854775807) (hb : newBad n keep = true) :
    Calls Try.prog 21 #[.int .i64 n, .int .i64 keep] w fun e w' => e = .returned (.tuple #[.pointer none, .int .i64 2]) ∧ Sat σ w' Hs := by
  simp [newBad] at hb
  by_cases h1 : n < 0
  · go_enter Try.func21, Try.ntmps21
    go_wp2
    go_ret2
    exact ⟨rfl, hw⟩
  by_cases h2 : 4096 < n
  · go_enter Try.func21, Try.ntmps21
    go_wp2
    go_ret2
    exact ⟨rfl, hw⟩
  by_cases h3 : keep < 0
  · go_enter Try.func21, Try.ntmps21
    go_wp2
    go_ret2
    exact ⟨rfl, hw⟩
  by_cases h4 : 65536 < keep
  · go_enter Try.func21, Try.ntmps21
    go_wp2
    go_ret2
    exact ⟨rfl, hw⟩
  have h5 : 4194304 < n * keep := by omega
  have h6 : n * keep ≤ 4096 * 65536 := by
    have a1 : n * keep ≤ 4096 * keep := Int.mul_le_mul_of_nonneg_right (by omega) (by omega)
    have a2 : 4096 * keep ≤ 4096 * 65536 := Int.mul_le_mul_of_nonneg_left (by omega) (by omega)
    omega
  have m1 : IntKind.i64.wrap (n * keep) = n * keep := IntWalk.i64_in _ (by omega)
  go_enter Try.func21, Try.ntmps21
  go_wp2
  go_ret2
  exact ⟨rfl, hw⟩
theorem rnew_any (n : Nat) (keep : Int) (w : World) (hw : Sat σ w Hs) (hb : newBad n keep = false) :
    Calls Try.prog 21 #[.int .i64 n, .int .i64 keep] w fun e w' => ∃ b M, e = .returned (.tuple #[.pointer (some ⟨b, 0, none⟩), .int .i64 0]) ∧ Sat σ w' (M :: Hs) ∧ RSto M b keep 0 (List.replicate n se0) := by
  have HOK := Lib.hid (new_ok n keep hb)
  obtain ⟨h1, h2, h3, h4, h5⟩ := newBad_no hb
  have hp : 0 ≤ (n : Int) * keep := Int.mul_nonneg (by omega) (by omega)
  have m1 : IntKind.i64.wrap ((n : Int) * keep) = (n : Int) * keep := IntWalk.i64_in _ (by omega)
  go_enter Try.func21, Try.ntmps21
  go_wp2_with (refine wpList_mk hw rfl (.tmp 27) (.tmp 27) 52 71 (.agg #[.string ⟨#[]⟩, .slice none 0 0, .int .i64 0, .int .i64 0, .bool false]) 5 64 rfl Try.underlying52 (by kernel_rfl) .i64 .i64 n rfl rfl (by omega) (by omega) ?_; intro b1 w1 N hb1 hw1 ho1 hN1)
  go_ret2
  have hb2 := hw1.alloc (.cells #[.int .i64 keep, .int .i64 0, .slice (some ⟨b1, 0, none⟩) n n] 54)
  refine ⟨w1.heap.size, _, rfl, hb2.join, ⟨Tab.new (pre := [.int .i64 keep, .int .i64 0]) (post := []) hb2 (by rw [List.length_replicate]; exact ho1) ?_, HOK.out⟩⟩
  exact reps_made (d := kSE) (kSE_mk (x := se0) (v := .slice none 0 0) Kd.IsSl.nil) (by decide) n
end
end Go.Proofs.Ytfieipigbdopaaa
