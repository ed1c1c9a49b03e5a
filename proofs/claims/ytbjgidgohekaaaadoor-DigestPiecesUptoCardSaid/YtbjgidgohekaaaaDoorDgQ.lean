/- Arrays of bytes compared. -/
import Derived.Test.YtbjgidgohekaaaaDoorDgF
namespace Go.Proofs.YtbjgidgohekaaaaDoor
open Go.RowKit
theorem run_eq_arr {P : Program} (t e : TypeId) (n d : Nat) (cs : Array Value) (w : World) (ht : P.underlying t = some (.array n e)) (he : P.underlying e = some (.int .u8)) (hs : (P.info? e).map (·.size) = some 1) (hcs : ∀ i, i < n → ∃ x : Int, cs[i]? = some (.int .u8 x)) :
    (Op.equalIn (d + 2) t (.agg cs) (.agg cs)).run P w = .ok true w := by
  rw [Op.equalIn]
  obtain ⟨i, hi, hz⟩ := Option.map_eq_some_iff.1 hs
  have hso : (sizeOf e).run P w = .ok 1 w := by simp [sizeOf, typeInfo, hi, hz, run_program]
  simp only [Sem.run_bind, run_underlying ht, Result.andThen_ok, hso]
  simp only [Std.Legacy.Range.forIn_eq_forIn_range', Std.Legacy.Range.size, Nat.sub_zero, Nat.add_sub_cancel, Nat.div_one]
  have hp : ∀ k, k < n → ∃ x : Int, (part e cs (k * 1)).run P w = .ok (.int .u8 x) w := by
    intro k hk
    obtain ⟨x, hx⟩ := hcs k hk
    exact ⟨x, by simp [part, isAgg, run_underlying he, hx]⟩
  have hq : ∀ l : List Nat, (∀ k ∈ l, k < n) → (forIn (m := Sem) l ((none : Option Bool), ()) fun i _ => do
      let x ← part e cs (i * 1)
      let y ← part e cs (i * 1)
      let r ← Op.equalIn (d + 1) e x y
      if (!r) = true then pure (ForInStep.done (some false, ())) else pure (ForInStep.yield (none, ()))).run P w = .ok (none, ()) w := by
    intro l hl
    induction l with
    | nil => simp
    | cons k l ih =>
      obtain ⟨x, hx⟩ := hp k (hl k (by simp))
      simp only [List.forIn_cons, Sem.run_bind, hx, Result.andThen_ok, run_equalIn_int w d e .u8 .u8 x x he, beq_self_eq_true, Bool.not_true, Bool.false_eq_true, if_false, Sem.run_pure]
      exact ih (fun j hj => hl j (by simp [hj]))
  rw [hq _ (fun k hk => by simpa using hk)]
  simp
end Go.Proofs.YtbjgidgohekaaaaDoor
