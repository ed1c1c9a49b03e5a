/- Walks: small functions of a store. -/
import Derived.Test.YtfieipigbdopaaaBas2
set_option linter.unusedVariables false
set_option linter.unusedSimpArgs false
namespace Go.Proofs.Ytfieipigbdopaaa
open Go.RowKit
set_option maxHeartbeats 400000
structure SE where
  key : ByteArray
  b : List Int
  at_ : Int
  age : Int
  asked : Bool
def kSE : Kd SE := Kd.iso (Kd.pair Kd.str (Kd.pair (Kd.sl kB) (Kd.pair (Kd.int .i64) (Kd.pair (Kd.int .i64) Kd.bool)))) (fun x => (x.key, x.b, x.at_, x.age, x.asked))
theorem kSE_cells {H : Hp} {x : SE} {cs : List Value} (h : kSE.rep H x cs) : ∃ Au cu, cs = [.string x.key, .slice Au x.b.length cu, .int .i64 x.at_, .int .i64 x.age, .bool x.asked] ∧ kB.IsSl H (.slice Au x.b.length cu) x.b := by
  obtain ⟨_, _, rfl, rfl, _, _, rfl, ⟨v, rfl, hv⟩, _, _, rfl, rfl, _, _, rfl, rfl, rfl⟩ := h
  obtain ⟨Au, cu, rfl, _⟩ := hv.form
  exact ⟨Au, cu, rfl, hv⟩
theorem kSE_mk {H : Hp} {x : SE} {v : Value} (h : kB.IsSl H v x.b) : kSE.rep H x [.string x.key, v, .int .i64 x.at_, .int .i64 x.age, .bool x.asked] :=
  ⟨_, _, rfl, rfl, _, _, rfl, ⟨v, rfl, h⟩, _, _, rfl, rfl, _, _, rfl, rfl, rfl⟩
def freshB (a g now : Int) : Bool := decide (a ≤ now) && decide (now - a < g)
section
variable {σ : World} {Hs : List Hp} {H M N : Hp}
theorem is_any (b : Nat) (m : Bool) (w : World) (hc : w.cell? ⟨b, 3, none⟩ = some (.bool m)) :
    Calls Try.prog 34 #[.pointer (some ⟨b, 0, none⟩)] w fun e w' => e = .returned (.bool m) ∧ w = w' := by
  go_enter Try.func34, Try.ntmps34
  go_wp2
  go_ret
  exact ⟨rfl, rfl⟩
theorem is_nil (w : World) :
    Calls Try.prog 34 #[.pointer none] w fun e w' => e = .returned (.bool false) ∧ w = w' := by
  go_enter Try.func34, Try.ntmps34
  go_wp2
  go_ret
  exact ⟨rfl, rfl⟩
theorem fresh_any (g o : Nat) (a n now : Int) (w : World) (h2 : w.cell? ⟨g, o + 2, none⟩ = some (.int .i64 a)) (h3 : w.cell? ⟨g, o + 3, none⟩ = some (.int .i64 n)) (hn : 0 ≤ now ∧ now ≤ 1099511627776) (ha : 0 ≤ a ∧ a ≤ 1099511627776) (hw : Sat σ w Hs) :
    Calls Try.prog 33 #[.pointer (some ⟨g, o, none⟩), .int .i64 now] w fun e w' => e = .returned (.bool (freshB a n now)) ∧ Sat σ w' Hs := by
  have m1 : IntKind.i64.wrap (now - a) = now - a := IntWalk.i64_in _ (by omega)
  unfold freshB
  by_cases h : a ≤ now
  · by_cases h' : now - a < n
    · go_enter Try.func33, Try.ntmps33
      go_wp2
      go_quiet (fail)
      go_wp2
      go_ret
      exact ⟨by simp [h, h'], hw.drewN _⟩
    · go_enter Try.func33, Try.ntmps33
      go_wp2
      go_quiet (fail)
      go_wp2
      go_ret
      exact ⟨by simp [h, h'], hw.drewN _⟩
  · have hd : decide (a ≤ now) = false := decide_eq_false h
    go_enter Try.func33, Try.ntmps33
    go_wp2
    go_quiet (fail)
    go_wp2
    go_ret
    exact ⟨by rw [hd]; rfl, hw.drewN _⟩
theorem slot1_any (k x : ByteArray) (v : Value) (a g : Int) (q : Bool) (bn : Nat) (w : World) (hc : w.cell? ⟨bn, 0, none⟩ = some (.string k)) (hb : bn < w.heap.size) (ho : v.oneCell' = true) :
    Calls Try.prog 41 #[.agg #[.string x, v, .int .i64 a, .int .i64 g, .bool q], .pointer (some ⟨bn, 0, none⟩)] w fun e w' => e = .returned (.bool (x.toList == k.toList)) ∧ Below w.heap.size w w' := by
  cases hq : x.toList == k.toList
  · go_enter Try.func41, Try.ntmps41
    go_wp2
    go_ret
    exact ⟨rfl, (Below.refl _ _).alloc (Nat.le_refl _) _⟩
  · go_enter Try.func41, Try.ntmps41
    go_wp2
    go_ret
    exact ⟨rfl, (Below.refl _ _).alloc (Nat.le_refl _) _⟩
end
end Go.Proofs.Ytfieipigbdopaaa
