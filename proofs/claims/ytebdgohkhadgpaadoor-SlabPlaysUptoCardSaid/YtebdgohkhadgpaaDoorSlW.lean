/- What the laws' arguments are: acts. -/
import Derived.Test.YtebdgohkhadgpaaDoorSlT
import Derived.Test.YtebdgohkhadgpaaDoorOpn
set_option linter.unusedVariables false
namespace Go.Proofs.YtebdgohkhadgpaaDoor
open Go Go.RowKit
structure ActT where
  kind : Int
  block : Int
  at_ : Int
  n : Int
  bytes : List Int
def kAct : Kd ActT := Kd.iso (Kd.pair (Kd.int .i64) (Kd.pair (Kd.int .i64) (Kd.pair (Kd.int .i64) (Kd.pair (Kd.int .i64) (Kd.sl kB))))) (fun x => (x.kind, x.block, x.at_, x.n, x.bytes))
theorem kAct_cells {H : Hp} {x : ActT} {cs : List Value} (h : kAct.rep H x cs) : ∃ Au cu, cs = [.int .i64 x.kind, .int .i64 x.block, .int .i64 x.at_, .int .i64 x.n, .slice Au x.bytes.length cu] ∧ kB.IsSl H (.slice Au x.bytes.length cu) x.bytes := by
  obtain ⟨_, _, rfl, rfl, _, _, rfl, rfl, _, _, rfl, rfl, _, _, rfl, rfl, ⟨v, rfl, hv⟩⟩ := h
  obtain ⟨Au, cu, rfl, _⟩ := hv.form
  exact ⟨Au, cu, rfl, hv⟩
theorem act_get {H : Hp} {v : Value} {xs : List ActT} (hs : kAct.IsSl H v xs) {k : Nat} (hk : k < xs.length) : ∃ b off c Au cu x, xs[k]? = some x ∧ v = .slice (some ⟨b, off, none⟩) xs.length c ∧ Hp.cell H b (off + k * 5) = some (.int .i64 x.kind) ∧ Hp.cell H b (off + k * 5 + 1) = some (.int .i64 x.block) ∧ Hp.cell H b (off + k * 5 + 2) = some (.int .i64 x.at_) ∧ Hp.cell H b (off + k * 5 + 3) = some (.int .i64 x.n) ∧ Hp.cell H b (off + k * 5 + 4) = some (.slice Au x.bytes.length cu) ∧ kB.IsSl H (.slice Au x.bytes.length cu) x.bytes := by
  obtain ⟨A, c, rfl, _⟩ := hs.form
  obtain ⟨b, off, cs, rfl, hcs, hcell⟩ := hs.get k _ (List.getElem?_eq_getElem hk)
  obtain ⟨Au, cu, rfl, hu⟩ := kAct_cells hcs
  exact ⟨b, off, c, Au, cu, _, List.getElem?_eq_getElem hk, rfl, hcell 0 _ rfl, hcell 1 _ rfl, hcell 2 _ rfl, hcell 3 _ rfl, hcell 4 _ rfl, hu⟩
def okAct (x : ActT) : Prop := inKind .i64 x.kind ∧ inKind .i64 x.block ∧ inKind .i64 x.at_ ∧ inKind .i64 x.n ∧ (x.bytes.length ≤ 9223372036854775807 ∧ ∀ y ∈ x.bytes, inKind .u8 y)
def mAct (x : ActT) : Nat := 1 + (1 + (1 + (1 + ((x.bytes.map fun _ => 1).sum + 1)))) + 1
theorem opensBytes : Opens Tryd.prog 22 (Kd.sl kB) (fun l => l.length ≤ 9223372036854775807 ∧ ∀ x ∈ l, inKind .u8 x) (fun l => (l.map fun _ => 1).sum + 1) := opens_slice Tryd.underlying22 (opens_int Tryd.underlying5) (by kernel_rfl) (by decide)
theorem opensAct : Opens Tryd.prog 38 kAct okAct mAct :=
  opens_iso (fun x : ActT => (x.kind, x.block, x.at_, x.n, x.bytes)) (fun x => ⟨x.1, x.2.1, x.2.2.1, x.2.2.2.1, x.2.2.2.2⟩) (fun _ => rfl)
    (opens_struct Tryd.underlying38 (fs_cons rfl (by kernel_rfl) (opens_int Tryd.underlying3) (fs_cons rfl (by kernel_rfl) (opens_int Tryd.underlying3) (fs_cons rfl (by kernel_rfl) (opens_int Tryd.underlying3) (fs_cons rfl (by kernel_rfl) (opens_int Tryd.underlying3) (fs_one rfl (by kernel_rfl) opensBytes))))) (by kernel_rfl))
theorem opensActs : Opens Tryd.prog 35 (Kd.sl kAct) (fun l => l.length ≤ 9223372036854775807 ∧ ∀ x ∈ l, okAct x) (fun l => (l.map mAct).sum + 1) := opens_slice Tryd.underlying35 opensAct (by kernel_rfl) (by decide)
theorem lit_i64 {n : Int} (h : (Lit.int .i64 n).wf = true) : -9223372036854775808 ≤ n ∧ n ≤ 9223372036854775807 := by
  unfold Lit.wf at h
  rw [Bool.and_eq_true, decide_eq_true_eq, decide_eq_true_eq] at h
  exact h
theorem lit_u8 {n : Int} (h : (Lit.int .u8 n).wf = true) : 0 ≤ n ∧ n ≤ 255 := by
  unfold Lit.wf at h
  rw [Bool.and_eq_true, decide_eq_true_eq, decide_eq_true_eq] at h
  exact h
end Go.Proofs.YtebdgohkhadgpaaDoor
