/- What the laws' arguments are: destinations, whole numbers. -/
import Derived.Test.YtcndkpmeakaapaaDoorByt
set_option linter.unusedVariables false
namespace Go.Proofs.YtcndkpmeakaapaaDoor
open Go Go.RowKit
theorem opensInts : Opens Tryd.prog 48 (Kd.sl (Kd.int .i64)) (fun l => l.length ≤ 9223372036854775807 ∧ ∀ x ∈ l, inKind .i64 x) (fun l => (l.map fun _ => 1).sum + 1) := opens_slice Tryd.underlying48 (opens_int Tryd.underlying3) (by kernel_rfl) (by decide)
abbrev kAddr := (Kd.int .u8).pair ((Kd.int .u8).pair ((Kd.int .u8).pair (Kd.int .u8)))
abbrev kHost := kAddr.pair Kd.str
abbrev kDest := kHost.pair (Kd.int .i64)
def okA (x : Int × Int × Int × Int) : Prop := inKind .u8 x.1 ∧ inKind .u8 x.2.1 ∧ inKind .u8 x.2.2.1 ∧ inKind .u8 x.2.2.2
def okH (x : (Int × Int × Int × Int) × ByteArray) : Prop := okA x.1 ∧ x.2.size ≤ 9223372036854775807
def okD (x : ((Int × Int × Int × Int) × ByteArray) × Int) : Prop := okH x.1 ∧ inKind .i64 x.2
theorem opensAddr : ∃ m, Opens Tryd.prog 25 kAddr okA m := by
  have h := opens_struct Tryd.underlying25 (fs_cons rfl (by kernel_rfl) (opens_int Tryd.underlying5) (fs_cons rfl (by kernel_rfl) (opens_int Tryd.underlying5) (fs_cons rfl (by kernel_rfl) (opens_int Tryd.underlying5) (fs_one rfl (by kernel_rfl) (opens_int Tryd.underlying5))))) (by kernel_rfl)
  exact ⟨_, h⟩
theorem opensHost : ∃ m, Opens Tryd.prog 27 kHost okH m := by
  obtain ⟨m, ha⟩ := opensAddr
  have h := opens_struct Tryd.underlying27 (fs_cons rfl (by kernel_rfl) ha (fs_one rfl (by kernel_rfl) (opens_str Tryd.underlying9))) (by kernel_rfl)
  exact ⟨_, h⟩
theorem opensDest : ∃ m, Opens Tryd.prog 29 kDest okD m := by
  obtain ⟨m, ha⟩ := opensHost
  have h := opens_struct Tryd.underlying29 (fs_cons rfl (by kernel_rfl) ha (fs_one rfl (by kernel_rfl) (opens_int Tryd.underlying3))) (by kernel_rfl)
  exact ⟨_, h⟩
theorem dest_cells {H : Hp} {x : ((Int × Int × Int × Int) × ByteArray) × Int} {cs : List Value} (h : kDest.rep H x cs) : cs = [.int .u8 x.1.1.1, .int .u8 x.1.1.2.1, .int .u8 x.1.1.2.2.1, .int .u8 x.1.1.2.2.2, .string x.1.2, .int .i64 x.2] := by
  obtain ⟨c, r, rfl, ⟨c1, r1, rfl, ⟨c2, r2, rfl, h2, ⟨c3, r3, rfl, h3, ⟨c4, r4, rfl, h4, h5⟩⟩⟩, h6⟩, h7⟩ := h
  have e2 : c2 = _ := h2
  have e3 : c3 = _ := h3
  have e4 : c4 = _ := h4
  have e5 : r4 = _ := h5
  have e6 : r1 = _ := h6
  have e7 : r = _ := h7
  subst e2 e3 e4 e5 e6 e7
  rfl
theorem okD_bytes {x : ((Int × Int × Int × Int) × ByteArray) × Int} (h : okD x) : ((0 ≤ x.1.1.1 ∧ x.1.1.1 < 256) ∧ (0 ≤ x.1.1.2.1 ∧ x.1.1.2.1 < 256) ∧ (0 ≤ x.1.1.2.2.1 ∧ x.1.1.2.2.1 < 256) ∧ (0 ≤ x.1.1.2.2.2 ∧ x.1.1.2.2.2 < 256)) := by
  obtain ⟨⟨⟨h1, h2, h3, h4⟩, _⟩, _⟩ := h
  have := lit_u8 h1; have := lit_u8 h2; have := lit_u8 h3; have := lit_u8 h4
  omega
theorem dest_agg {H : Hp} {x : ((Int × Int × Int × Int) × ByteArray) × Int} {v : Value} (h : kDest.rep H x v.cells.toList) : v = .agg #[.int .u8 x.1.1.1, .int .u8 x.1.1.2.1, .int .u8 x.1.1.2.2.1, .int .u8 x.1.1.2.2.2, .string x.1.2, .int .i64 x.2] := by
  have lc := dest_cells h
  cases v <;> (try (have := congrArg List.length lc; simp [Value.cells] at this))
  congr 1; apply Array.ext'; simpa [Value.cells] using lc
end Go.Proofs.YtcndkpmeakaapaaDoor
