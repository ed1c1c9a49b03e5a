/- What the laws' arguments are: entries. -/
import Derived.Test.YteggcfcjajpcgaaDoorAuNO
import Derived.Test.YteggcfcjajpcgaaDoorArr
import Derived.Test.YteggcfcjajpcgaaDoorAuM
set_option linter.unusedVariables false
namespace Go.Proofs.YteggcfcjajpcgaaDoor
def okEn (x : Ent) : Prop := inKind .i64 x.at_ ∧ x.text.size ≤ 9223372036854775807 ∧ x.sum.length = 32 ∧ ∀ z ∈ x.sum, inKind .u8 z
def mEn (x : Ent) : Nat := 1 + ((x.text.size + 1) + ((x.sum.map fun _ => 1).sum + 1)) + 1
theorem arr_reps {H : Hp} : ∀ (l : List Int), (Kd.int .u8).reps H l (l.map fun x => Value.int .u8 x)
  | [] => rfl
  | x :: l => ⟨[.int .u8 x], _, rfl, rfl, arr_reps l⟩
theorem kE_eq : ((Kd.int .i64).pair (Kd.str.pair ((Kd.int .u8).arr 32))).iso (fun x : Ent => (x.at_, x.text, x.sum)) = kE := by
  refine kd_ext rfl ?_
  funext H x cs
  refine propext ⟨?_, ?_⟩
  · rintro ⟨c, r, rfl, h1, c2, r2, rfl, h2, h3, h4⟩
    have e1 : c = [.int .i64 x.at_] := h1
    have e2 : c2 = [.string x.text] := h2
    have e3 := arr_cells h4
    refine ⟨h3, ?_⟩
    rw [EA_list, e1, e2, e3]; rfl
  · rintro ⟨h3, h⟩
    rw [EA_list] at h
    exact ⟨[.int .i64 x.at_], _, h, rfl, [.string x.text], _, rfl, rfl, h3, arr_reps x.sum⟩
theorem opensEnt : Opens Tryd.prog 32 kE okEn mEn := by
  have h := opens_iso (fun x : Ent => (x.at_, x.text, x.sum)) (fun x => ⟨x.1, x.2.1, x.2.2⟩) (fun _ => rfl)
    (opens_struct Tryd.underlying32 (fs_cons rfl (by kernel_rfl) (opens_int Tryd.underlying3) (fs_cons rfl (by kernel_rfl) (opens_str Tryd.underlying9) (fs_one rfl (by kernel_rfl) (opens_array Tryd.underlying29 (opens_int Tryd.underlying5) (by kernel_rfl) (by kernel_rfl))))) (by kernel_rfl))
  rw [kE_eq] at h
  exact h
theorem opensEnts : Opens Tryd.prog 26 (Kd.sl kE) (fun l => l.length ≤ 9223372036854775807 ∧ ∀ x ∈ l, okEn x) (fun l => (l.map mEn).sum + 1) := opens_slice Tryd.underlying26 opensEnt (by kernel_rfl) (by decide)
theorem len_le_sum {α : Type} (f : α → Nat) (hf : ∀ x, 1 ≤ f x) : ∀ (l : List α), l.length ≤ (l.map f).sum
  | [] => Nat.zero_le _
  | a :: l => by
    rw [List.map_cons, List.sum_cons, List.length_cons]
    have h1 := hf a
    have h2 := len_le_sum f hf l
    omega
theorem ents_small {l : List Ent} {n : Nat} (h : (l.map mEn).sum + 1 ≤ n) (hn : n ≤ 2000000) : l.length ≤ 2000000 := by
  have := len_le_sum mEn (fun x => by unfold mEn; omega) l
  omega
theorem ents_any {l : List Ent} (h : l.length ≤ 9223372036854775807 ∧ ∀ x ∈ l, okEn x) : ∀ x ∈ l, anyE x := fun x hx => by
  obtain ⟨h1, h2, h3, _⟩ := h.2 x hx
  have h4 : -9223372036854775808 ≤ x.at_ := by
    unfold inKind at h1
    simp [Lit.wf, IntKind.min, IntKind.max, IntKind.bits, IntKind.signed] at h1
    omega
  exact ⟨h3, h4, h2⟩
end Go.Proofs.YteggcfcjajpcgaaDoor
