/- Plain: the words of a new slab; walk: New of wrong numbers. -/
import Derived.Test.YtebdgohkhadgpaaDoorSlK
set_option linter.unusedVariables false
set_option linter.unusedSimpArgs false
namespace Go.Proofs.YtebdgohkhadgpaaDoor
open Go Go.RowKit
theorem FW.of {held held' : List Bool} {ws : Nat → Nat} (h : FW held ws) (e : ∀ c, freeAt held' c = freeAt held c) : FW held' ws :=
  ⟨h.lt, fun i j hi hj => by rw [e, h.bit i j hi hj]⟩
theorem freeAt_snoc (held : List Bool) (c : Nat) : freeAt (held ++ [true]) c = freeAt held c := by
  unfold freeAt
  by_cases h : c < held.length
  · rw [List.getElem?_append_left h]
  · rw [List.getElem?_append_right (by omega), List.getElem?_eq_none (l := held) (by omega)]
    cases hc : c - held.length with
    | zero => rfl
    | succ m => simp
theorem fw_zero : FW [] (fun _ => 0) := ⟨fun i hi => by simp, fun i j hi hj => by simp [freeAt]⟩
theorem fw_push {k : Nat} {ws : Nat → Nat} (h : FW (List.replicate k false) ws) (hk : k < 4096) : FW (List.replicate (k + 1) false) (updW ws (k / 64) (ws (k / 64) ||| 2 ^ (k % 64))) := by
  have h1 : FW (List.replicate k false ++ [true]) ws := h.of (freeAt_snoc _)
  have h2 := h1.put (b := k) (by simp) (by simp; omega)
  have e : (List.replicate k false ++ [true]).set k false = List.replicate (k + 1) false := by
    rw [List.set_append_right _ _ (by simp), List.length_replicate, Nat.sub_self, List.set_cons_zero, ← List.replicate_succ']
  rw [e] at h2
  exact h2
def newE (n s : Int) : Int := if n < 0 ∨ 4096 < n ∨ s < 0 ∨ 65536 < s ∨ 4194304 < n * s then 2 else 0
section
variable {σ w w' : World} {Hs : List Hp} {H M N : Hp}
set_option maxHeartbeats 1000000
theorem new_bad (n s : Int) (w : World) (h : newE n s = 2) : Calls Tryd.prog 10 #[.int .i64 n, .int .i64 s] w fun e w' => e = .returned (.tuple #[.pointer none, .int .i64 2]) ∧ w' = w := by
  by_cases h1 : n < 0
  · clear h
    go_enter Tryd.func10, Tryd.ntmps10
    go_wp2
    go_ret2
    exact ⟨rfl, rfl⟩
  by_cases h2 : 4096 < n
  · clear h
    go_enter Tryd.func10, Tryd.ntmps10
    go_wp2
    go_ret2
    exact ⟨rfl, rfl⟩
  by_cases h3 : s < 0
  · clear h
    go_enter Tryd.func10, Tryd.ntmps10
    go_wp2
    go_ret2
    exact ⟨rfl, rfl⟩
  by_cases h4 : 65536 < s
  · clear h
    go_enter Tryd.func10, Tryd.ntmps10
    go_wp2
    go_ret2
    exact ⟨rfl, rfl⟩
  have h5 : 4194304 < n * s := by
    unfold newE at h
    split at h
    · omega
    · cases h
  have hle : n * s ≤ 4096 * 65536 := Int.mul_le_mul (by omega) (by omega) (by omega) (by omega)
  have hwr : IntKind.i64.wrap (n * s) = n * s := wrap_small _ (by omega) (by omega)
  clear h hle
  go_enter Tryd.func10, Tryd.ntmps10
  go_wp2
  go_ret2
  exact ⟨rfl, rfl⟩
end
end Go.Proofs.YtebdgohkhadgpaaDoor
