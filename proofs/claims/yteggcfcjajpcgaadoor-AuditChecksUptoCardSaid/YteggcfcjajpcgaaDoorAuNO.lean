/- What the laws' arguments are: notes. -/
import Derived.Test.YteggcfcjajpcgaaDoorAuG
import Derived.Test.YteggcfcjajpcgaaDoorOpn
import Derived.Test.YteggcfcjajpcgaaDoorBulk
set_option linter.unusedVariables false
namespace Go.Proofs.YteggcfcjajpcgaaDoor
def okNt (x : Nt) : Prop := inKind .i64 x.at_ ∧ x.text.size ≤ 9223372036854775807
def mNt (x : Nt) : Nat := 1 + (x.text.size + 1) + 1
theorem kd_ext {α : Type} {d d' : Kd α} (h : d.sz = d'.sz) (hr : d.rep = d'.rep) : d = d' := by
  cases d; cases d'; cases h; cases hr; rfl
theorem kN_eq : ((Kd.int .i64).pair Kd.str).iso (fun x : Nt => (x.at_, x.text)) = kN := by
  refine kd_ext rfl ?_
  funext H x cs
  refine propext ⟨?_, ?_⟩
  · rintro ⟨c, r, rfl, h1, h2⟩
    have e1 : c = [.int .i64 x.at_] := h1
    have e2 : r = [.string x.text] := h2
    rw [e1, e2]; rfl
  · intro h
    have h' : cs = [.int .i64 x.at_, .string x.text] := h
    exact ⟨[.int .i64 x.at_], [.string x.text], h', rfl, rfl⟩
theorem opensNt : Opens Tryd.prog 39 kN okNt mNt := by
  have h := opens_iso (fun x : Nt => (x.at_, x.text)) (fun x => ⟨x.1, x.2⟩) (fun _ => rfl)
    (opens_struct Tryd.underlying39 (fs_cons rfl (by kernel_rfl) (opens_int Tryd.underlying3) (fs_one rfl (by kernel_rfl) (opens_str Tryd.underlying9))) (by kernel_rfl))
  rw [kN_eq] at h
  exact h
theorem opensNts : Opens Tryd.prog 22 (Kd.sl kN) (fun l => l.length ≤ 9223372036854775807 ∧ ∀ x ∈ l, okNt x) (fun l => (l.map mNt).sum + 1) := opens_slice Tryd.underlying22 opensNt (by kernel_rfl) (by decide)
theorem le_sum_map {α : Type} (f : α → Nat) : ∀ {l : List α} {x : α}, x ∈ l → f x ≤ (l.map f).sum
  | a :: l, x, h => by
    rw [List.map_cons, List.sum_cons]
    rcases List.mem_cons.1 h with rfl | h
    · omega
    · have := le_sum_map f h
      omega
theorem nts_ok {l : List Nt} (h : l.length ≤ 9223372036854775807 ∧ ∀ x ∈ l, okNt x) : ∀ x ∈ l, x.text.size ≤ 9223372036854775807 := fun x hx => (h.2 x hx).2
end Go.Proofs.YteggcfcjajpcgaaDoor
