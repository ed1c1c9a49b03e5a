/- Walk: the trailing zeros; a block's bytes; a range of a block. -/
import Derived.Test.YtebdgohkhadgpaaDoorSlB
set_option linter.unusedVariables false
set_option linter.unusedSimpArgs false
namespace Go.Proofs.YtebdgohkhadgpaaDoor
open Go Go.RowKit
section
variable {σ w w' : World} {Hs : List Hp} {H M N : Hp}
theorem tz_key (x a : Nat) (hx : x < 18446744073709551616) (hx0 : x ≠ 0) (hlow : x &&& (18446744073709551616 - x) = a) :
    IntKind.u64.wrap (bits BinOp.and IntKind.u64 (x : Int) (IntKind.u64.wrap (-(x : Int))) * 285870213051353865) / 288230376151711744 = ((a * 285870213051353865 % 18446744073709551616 / 288230376151711744 : Nat) : Int) := by
  have e1 : IntKind.u64.wrap (-(x : Int)) = ((18446744073709551616 - x : Nat) : Int) := by rw [IntKind.wrap_u64]; omega
  rw [e1, bits_and_u64_nat x _ hx (by omega), hlow, IntKind.wrap_u64]
  omega
/-- the table of the library's TrailingZeros64, in its block -/
def TabZ (w : World) : Prop := ∀ j, j < 64 → w.cell? ⟨0, j, none⟩ = some (.int .u8 (Lib.deBruijn64tab.getD j 0))
set_option maxHeartbeats 1000000 in
theorem tz_core (x k idx : Nat) (w : World) (hx0 : ((x : Int) == 0) = false)
    (key : IntKind.u64.wrap (bits BinOp.and IntKind.u64 (x : Int) (IntKind.u64.wrap (-(x : Int))) * 285870213051353865) / 288230376151711744 = (idx : Int))
    (hi : idx < 64) (hk : k < 64) (hcell : w.cell? ⟨0, idx, none⟩ = some (.int .u8 k)) :
    Calls Tryd.prog 27 #[.int .u64 x] w fun e w' => e = .returned (.int .i64 k) ∧ w' = w := by
  go_enter Tryd.func27, Tryd.ntmps27
  go_wp2_with (simp only [key])
  go_ret
  exact ⟨rfl, rfl⟩
theorem tz_any (x : Nat) (w : World) (hx0 : x ≠ 0) (hx : x < 18446744073709551616) (hT : TabZ w) :
    Calls Tryd.prog 27 #[.int .u64 x] w fun e w' => e = .returned (.int .i64 (Lib.ctz 64 x)) ∧ w' = w := by
  obtain ⟨hlow, hk⟩ := Lib.lowest_bit 64 x hx0 hx
  obtain ⟨hi, htab⟩ := Lib.deBruijn64_at _ hk
  have hcell := hT _ hi
  rw [htab] at hcell
  exact tz_core x _ _ w (by simp; omega) (tz_key x _ hx hx0 hlow) hi hk hcell
theorem wrap_small (x : Int) (h0 : 0 ≤ x) (h1 : x ≤ 4294967296) : IntKind.i64.wrap x = x := by simp [IntKind.wrap, IntKind.bits, IntKind.signed]; omega
set_option maxHeartbeats 1000000 in
theorem piece_any (w : World) (g b size n c : Nat) (A : Option Addr) (hw : Sat σ w Hs) (hs : w.cell? ⟨g, 66, none⟩ = some (.int .i64 size)) (hm : w.cell? ⟨g, 64, none⟩ = some (.slice A n c)) (hb : (b + 1) * size ≤ n) (hn : n ≤ 4194304) (hc : n ≤ c) (hbb : b < 4096) :
    Calls Tryd.prog 28 #[.pointer (some ⟨g, 0, none⟩), .int .i64 b] w fun e w' => ∃ A', e = .returned (.slice A' size size) ∧ (0 < size → A' = A.map (·.add (b * size))) ∧ Sat σ w' Hs := by
  obtain ⟨p, hp⟩ : ∃ p : Nat, p = b * size := ⟨_, rfl⟩
  obtain ⟨q, hq⟩ : ∃ q : Nat, q = (b + 1) * size := ⟨_, rfl⟩
  have hpq : q = p + size := by rw [hq, hp, Nat.add_mul]; omega
  have e1 : IntKind.i64.wrap ((b : Int) * size) = (p : Int) := by rw [hp, Int.natCast_mul]; exact wrap_small _ (by rw [← Int.natCast_mul, ← hp]; omega) (by rw [← Int.natCast_mul, ← hp]; omega)
  have e2 : IntKind.i64.wrap ((b : Int) + 1) = (b : Int) + 1 := wrap_small _ (by omega) (by omega)
  have e3 : ((b : Int) + 1) * size = (q : Int) := by rw [hq]; simp
  have e4 : IntKind.i64.wrap (q : Int) = (q : Int) := wrap_small _ (by omega) (by omega)
  have c1 : (p : Int) ≤ q := by omega
  have c2 : (q : Int) ≤ c := by omega
  rw [← hp]
  rw [← hq] at hb
  clear hp hq
  go_enter Tryd.func28, Tryd.ntmps28
  go_wp2
  go_region_held3 (fun w' => w'.cell? ⟨g, 66, none⟩ = some (.int .i64 size))
    (first | assumption)
    (fail)
  go_wp2
  · subst h
    go_ret
    exact ⟨⟨_, rfl⟩, hw.drew⟩
  · have e5 : q - p = size := by omega
    go_ret
    refine ⟨_, congrArg Ending.returned ?_, fun _ => rfl, hw.drew⟩
    simp [e5]
end
end Go.Proofs.YtebdgohkhadgpaaDoor
