/- Walk: digest.Parse. -/
import Derived.Test.YteggcfcjajpcgaaDoorDgR
set_option linter.unusedVariables false
namespace Go.Proofs.YteggcfcjajpcgaaDoor
open Go.RowKit
/-- a string's byte -/
def chS (s : ByteArray) (i : Nat) : Int := ((s.toList.getD i 0).toNat : Int)
theorem chS_range (s : ByteArray) (i : Nat) : 0 ≤ chS s i ∧ chS s i < 256 := by
  have := (s.toList.getD i 0).toNat_lt
  unfold chS
  omega
/-- the byte that two digits stand for -/
def pF (s : ByteArray) (j : Nat) : Int := 16 * halfI (chS s (2 * j)) + halfI (chS s (2 * j + 1))
def pL (s : ByteArray) : List Int := (List.range 32).map (pF s)
def OkText (s : ByteArray) : Prop := s.size = 64 ∧ ∀ j, j < 64 → 0 ≤ halfI (chS s j)
open Classical in
noncomputable def parseL (s : ByteArray) : List Int := if OkText s then pL s else List.replicate 32 0
open Classical in
noncomputable def parseE (s : ByteArray) : Int := if OkText s then 0 else 2
theorem halfI_range (c : Int) : -1 ≤ halfI c ∧ halfI c ≤ 15 := by unfold halfI; split <;> (try split) <;> omega
theorem results_row_tmp {P : Program} {fn : Func} {p u : Tmp} {ty : TypeId} (h : fn.results = #[.cell p ty, .tmp u]) (tmps : Array Value) (w : World) (g : Nat) (t : TypeId) (cs : Array Value) (fr : Nat × Nat) (d : TypeDesc)
    (hp : tmps.getD p undef = .pointer (some ⟨g, 0, none⟩)) (hg : w.heap[g]? = some (.cells cs t fr))
    (hu : P.underlying ty = some d) (hd : (match d with | .struct _ | .array _ _ => true | _ => false) = true) (hi : (P.info? ty).map (·.size) = some cs.size) :
    (results fn tmps).run P w = .ok (.tuple #[.agg cs, tmps.getD u undef]) w := by
  have hp' : tmps[p]?.getD undef = .pointer (some ⟨g, 0, none⟩) := by simpa using hp
  simp [results, h, hp', asAddr, run_loadVar_row w g t ty cs fr d hg hu hd hi]
theorem index_str {P : Program} (t : TypeId) (ht : P.underlying t = some .string) (s : ByteArray) (n : Nat) (h : n < s.size) (x : Int) (hx : x = n) :
    ∀ w : World, (Instr.index t (.string s) (.int .i64 x)).run P w = .ok (.int .u8 (chS s n)) w := by
  intro w
  subst hx
  rw [run_index_string w t s .i64 _ ht, dif_pos ⟨by omega, by omega⟩]
  have e : s.toList.getD n 0 = s[n]'h := by
    rw [ByteArray.toList_eq]
    simp [List.getD_eq_getElem?_getD, h]
    rfl
  unfold chS
  rw [e]
  rfl
theorem or_i64 (A B : Nat) (hA : A < 16) (hB : B < 16) : bits .or .i64 ((A : Int) * 16) (B : Int) = 16 * (A : Int) + B := by
  have h : ∀ a b : Fin 16, bits .or .i64 ((a.val : Int) * 16) (b.val : Int) = 16 * (a.val : Int) + b.val := by decide +kernel
  exact h ⟨A, hA⟩ ⟨B, hB⟩
theorem zeros_at (i : Nat) (h : i < 32) : (outV (List.replicate 32 0))[i]? = some (.int .u8 0) := by
  show (Array.replicate 32 (Value.int .u8 0))[i]? = _
  rw [Array.getElem?_replicate, if_pos h]
end Go.Proofs.YteggcfcjajpcgaaDoor
