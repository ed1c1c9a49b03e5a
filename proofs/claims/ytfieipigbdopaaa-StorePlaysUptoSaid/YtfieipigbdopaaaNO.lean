/- What the laws' arguments are: acts. -/
import Derived.Test.YtfieipigbdopaaaF1
import Derived.Test.YtfieipigbdopaaaOpn
set_option linter.unusedVariables false
namespace Go.Proofs.Ytfieipigbdopaaa
def okAct (x : ActT) : Prop := inKind .i64 x.kind ∧ inKind .i64 x.now ∧ inKind .i64 x.age ∧ x.key.size ≤ 9223372036854775807 ∧ (x.bytes.length ≤ 9223372036854775807 ∧ ∀ y ∈ x.bytes, inKind .u8 y)
def mAct (x : ActT) : Nat := 1 + (1 + (1 + ((x.key.size + 1) + ((x.bytes.map fun _ => 1).sum + 1)))) + 1
theorem opensBytes : Opens Try.prog 23 (Kd.sl kB) (fun l => l.length ≤ 9223372036854775807 ∧ ∀ x ∈ l, inKind .u8 x) (fun l => (l.map fun _ => 1).sum + 1) := opens_slice Try.underlying23 (opens_int Try.underlying5) (by kernel_rfl) (by decide)
theorem opensAct : Opens Try.prog 32 kAct okAct mAct :=
  opens_iso (fun x : ActT => (x.kind, x.now, x.age, x.key, x.bytes)) (fun x => ⟨x.1, x.2.1, x.2.2.1, x.2.2.2.1, x.2.2.2.2⟩) (fun _ => rfl)
    (opens_struct Try.underlying32 (fs_cons rfl (by kernel_rfl) (opens_int Try.underlying3) (fs_cons rfl (by kernel_rfl) (opens_int Try.underlying3) (fs_cons rfl (by kernel_rfl) (opens_int Try.underlying3) (fs_cons rfl (by kernel_rfl) (opens_str Try.underlying9) (fs_one rfl (by kernel_rfl) opensBytes))))) (by kernel_rfl))
theorem opensActs : Opens Try.prog 22 (Kd.sl kAct) (fun l => l.length ≤ 9223372036854775807 ∧ ∀ x ∈ l, okAct x) (fun l => (l.map mAct).sum + 1) := opens_slice Try.underlying22 opensAct (by kernel_rfl) (by decide)
theorem lit_i64 {n : Int} (h : (Lit.int .i64 n).wf = true) : -9223372036854775808 ≤ n ∧ n ≤ 9223372036854775807 := by
  unfold Lit.wf at h
  rw [Bool.and_eq_true, decide_eq_true_eq, decide_eq_true_eq] at h
  exact h
end Go.Proofs.Ytfieipigbdopaaa
