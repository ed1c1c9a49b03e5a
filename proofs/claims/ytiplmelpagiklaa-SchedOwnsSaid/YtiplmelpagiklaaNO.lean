/- What the laws' arguments are: tables. -/
import Derived.Test.YtiplmelpagiklaaC1
import Derived.Test.YtiplmelpagiklaaOpn
set_option linter.unusedVariables false
namespace Go.Proofs.Ytiplmelpagiklaa
def okSl (x : Sl) : Prop := inKind .i64 x.t ∧ inKind .i64 x.b
def mSl (_ : Sl) : Nat := 1 + 1 + 1
theorem opensSl : Opens Try.prog 30 kSl okSl mSl :=
  opens_iso (fun x : Sl => (x.t, x.b)) (fun x => ⟨x.1, x.2⟩) (fun _ => rfl)
    (opens_struct Try.underlying30 (fs_cons rfl (by kernel_rfl) (opens_int Try.underlying3) (fs_one rfl (by kernel_rfl) (opens_int Try.underlying3))) (by kernel_rfl))
theorem opensTab : Opens Try.prog 22 (Kd.sl kSl) (fun l => l.length ≤ 9223372036854775807 ∧ ∀ x ∈ l, okSl x) (fun l => (l.map mSl).sum + 1) := opens_slice Try.underlying22 opensSl (by kernel_rfl) (by decide)
theorem lit_i64 {n : Int} (h : (Lit.int .i64 n).wf = true) : -9223372036854775808 ≤ n ∧ n ≤ 9223372036854775807 := by
  unfold Lit.wf at h
  rw [Bool.and_eq_true, decide_eq_true_eq, decide_eq_true_eq] at h
  exact h
theorem tab_small : ∀ l : List Sl, l.length ≤ (l.map mSl).sum
  | [] => by simp
  | x :: l => by
    have := tab_small l
    rw [List.map_cons, List.sum_cons, List.length_cons]
    unfold mSl at *
    omega
theorem tab_ok {l : List Sl} {n : Nat} (h : (l.map mSl).sum + 1 ≤ n) (hn : n ≤ 1048576) : l.length * 16 ≤ 140737488355328 := by
  have := tab_small l
  omega
end Go.Proofs.Ytiplmelpagiklaa
