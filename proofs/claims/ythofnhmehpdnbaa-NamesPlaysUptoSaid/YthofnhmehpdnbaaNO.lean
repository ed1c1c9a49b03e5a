/- What the laws' arguments are: addresses, acts. -/
import Derived.Test.YthofnhmehpdnbaaN14
import Derived.Test.YthofnhmehpdnbaaOpn
set_option linter.unusedVariables false
namespace Go.Proofs.Ythofnhmehpdnbaa
def okAd (x : Ad) : Prop := inKind .u8 x.A ∧ inKind .u8 x.B ∧ inKind .u8 x.C ∧ inKind .u8 x.D
def mAd (_ : Ad) : Nat := 5
def okAct (x : ActT) : Prop := inKind .i64 x.kind ∧ inKind .i64 x.now ∧ inKind .i64 x.ttl ∧ x.name.size ≤ 9223372036854775807 ∧ (x.addrs.length ≤ 9223372036854775807 ∧ ∀ y ∈ x.addrs, okAd y)
def mAct (x : ActT) : Nat := 1 + (1 + (1 + ((x.name.size + 1) + ((x.addrs.map mAd).sum + 1)))) + 1
theorem opensAd : Opens Try.prog 39 kAd okAd mAd :=
  opens_iso (fun x : Ad => (x.A, x.B, x.C, x.D)) (fun x => ⟨x.1, x.2.1, x.2.2.1, x.2.2.2⟩) (fun _ => rfl)
    (opens_struct Try.underlying39 (fs_cons rfl (by kernel_rfl) (opens_int Try.underlying5) (fs_cons rfl (by kernel_rfl) (opens_int Try.underlying5) (fs_cons rfl (by kernel_rfl) (opens_int Try.underlying5) (fs_one rfl (by kernel_rfl) (opens_int Try.underlying5))))) (by kernel_rfl))
theorem opensAds : Opens Try.prog 29 (Kd.sl kAd) (fun l => l.length ≤ 9223372036854775807 ∧ ∀ x ∈ l, okAd x) (fun l => (l.map mAd).sum + 1) := opens_slice Try.underlying29 opensAd (by kernel_rfl) (by decide)
theorem opensAct : Opens Try.prog 31 kAct okAct mAct :=
  opens_iso (fun x : ActT => (x.kind, x.now, x.ttl, x.name, x.addrs)) (fun x => ⟨x.1, x.2.1, x.2.2.1, x.2.2.2.1, x.2.2.2.2⟩) (fun _ => rfl)
    (opens_struct Try.underlying31 (fs_cons rfl (by kernel_rfl) (opens_int Try.underlying3) (fs_cons rfl (by kernel_rfl) (opens_int Try.underlying3) (fs_cons rfl (by kernel_rfl) (opens_int Try.underlying3) (fs_cons rfl (by kernel_rfl) (opens_str Try.underlying9) (fs_one rfl (by kernel_rfl) opensAds))))) (by kernel_rfl))
theorem opensActs : Opens Try.prog 22 (Kd.sl kAct) (fun l => l.length ≤ 9223372036854775807 ∧ ∀ x ∈ l, okAct x) (fun l => (l.map mAct).sum + 1) := opens_slice Try.underlying22 opensAct (by kernel_rfl) (by decide)
theorem opensStrs : Opens Try.prog 37 (Kd.sl Kd.str) (fun l => l.length ≤ 9223372036854775807 ∧ ∀ x ∈ l, x.size ≤ 9223372036854775807) (fun l => (l.map fun s => s.size + 1).sum + 1) := opens_slice Try.underlying37 (opens_str Try.underlying9) (by kernel_rfl) (by decide)
end Go.Proofs.Ythofnhmehpdnbaa
