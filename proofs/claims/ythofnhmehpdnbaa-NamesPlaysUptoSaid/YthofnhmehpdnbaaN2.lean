/- Walks: closures and readers of names. -/
import Derived.Test.YthofnhmehpdnbaaN1
import Derived.Test.YthofnhmehpdnbaaApp
import Derived.Deep.RegionHeld3
set_option linter.unusedVariables false
namespace Go.Proofs.Ythofnhmehpdnbaa
open Go.RowKit
set_option maxHeartbeats 400000
def sEq (a b : ByteArray) : Bool := a.toList == b.toList
section
variable {σ : World} {Hs : List Hp} {H M : Hp}
theorem put1_any (nm x : ByteArray) (u : Value) (till : Int) (bn : Nat) (w : World) (hc : w.cell? ⟨bn, 0, none⟩ = some (.string nm)) (hb : bn < w.heap.size) (ho : u.oneCell' = true) :
    Calls Try.prog 27 #[.agg #[.string x, u, .int .i64 till], .pointer (some ⟨bn, 0, none⟩)] w fun e w' => e = .returned (.bool (sEq x nm)) ∧ Below w.heap.size w w' := by
  go_enter Try.func27, Try.ntmps27
  go_wp2
  go_ret
  exact ⟨rfl, (Below.refl _ _).alloc (Nat.le_refl _) _⟩
theorem put2_any (x : ByteArray) (u : Value) (till now : Int) (bn : Nat) (w : World) (hc : w.cell? ⟨bn, 0, none⟩ = some (.int .i64 now)) (hb : bn < w.heap.size) (ho : u.oneCell' = true) :
    Calls Try.prog 28 #[.agg #[.string x, u, .int .i64 till], .pointer (some ⟨bn, 0, none⟩)] w fun e w' => e = .returned (.bool (!holdsB x till now)) ∧ Below w.heap.size w w' := by
  go_enter Try.func28, Try.ntmps28
  go_wp2_with (go_at_call 29; refine (holds_any _ _ _ _ _ ho).mono ?_; rintro e w' ⟨rfl, hb1⟩)
  go_ret
  exact ⟨rfl, ((Below.refl _ _).alloc (Nat.le_refl _) _).trans (hb1.mono (by simp))⟩
theorem put4_any (x : ByteArray) (u : Value) (till least : Int) (bn : Nat) (w : World) (hc : w.cell? ⟨bn, 0, none⟩ = some (.int .i64 least)) (hb : bn < w.heap.size) (ho : u.oneCell' = true) :
    Calls Try.prog 32 #[.agg #[.string x, u, .int .i64 till], .pointer (some ⟨bn, 0, none⟩)] w fun e w' => e = .returned (.bool (till == least)) ∧ Below w.heap.size w w' := by
  go_enter Try.func32, Try.ntmps32
  go_wp2
  go_ret
  exact ⟨rfl, (Below.refl _ _).alloc (Nat.le_refl _) _⟩
theorem put3_any (x y : ByteArray) (u v : Value) (s t : Int) (w : World) (ho : u.oneCell' = true) (hv : v.oneCell' = true) (h1 : 0 ≤ s) (h2 : s ≤ 4611686018427387904) (h3 : 0 ≤ t) (h4 : t ≤ 4611686018427387904) :
    Calls Try.prog 31 #[.agg #[.string x, u, .int .i64 s], .agg #[.string y, v, .int .i64 t]] w fun e w' => e = .returned (.int .i64 (s - t)) ∧ Below w.heap.size w w' := by
  go_enter Try.func31, Try.ntmps31
  go_wp2
  go_ret
  exact ⟨rfl, ((Below.refl _ _).alloc (Nat.le_refl _) _).alloc (by simp) _⟩
theorem get1_any (nm x : ByteArray) (u : Value) (till now : Int) (bn bt : Nat) (w : World) (hc : w.cell? ⟨bn, 0, none⟩ = some (.string nm)) (hb : bn < w.heap.size) (hc2 : w.cell? ⟨bt, 0, none⟩ = some (.int .i64 now)) (hb2 : bt < w.heap.size) (ho : u.oneCell' = true) :
    Calls Try.prog 34 #[.agg #[.string x, u, .int .i64 till], .pointer (some ⟨bn, 0, none⟩), .pointer (some ⟨bt, 0, none⟩)] w fun e w' => e = .returned (.bool (sEq x nm && holdsB x till now)) ∧ Below w.heap.size w w' := by
  cases h : x.toList == nm.toList
  · go_enter Try.func34, Try.ntmps34
    go_wp2_with (go_at_call 29; refine (holds_any _ _ _ _ _ ho).mono ?_; rintro e w' ⟨rfl, hb1⟩)
    go_ret
    exact ⟨by simp [sEq, h], (Below.refl _ _).alloc (Nat.le_refl _) _⟩
  · go_enter Try.func34, Try.ntmps34
    go_wp2_with (go_at_call 29; refine (holds_any _ _ _ _ _ ho).mono ?_; rintro e w' ⟨rfl, hb1⟩)
    go_ret
    exact ⟨by simp [sEq, h], ((Below.refl _ _).alloc (Nat.le_refl _) _).trans (hb1.mono (by simp))⟩
theorem first_any (v : Value) (xs : List Ent) (F : Nat) (caps : Array Value) (AR : Value → Array Value) (hAR : ∀ x, #[x] ++ caps = AR x) (p : Ent → Bool) (w : World) (hw : Sat σ w Hs) (hH : H ∈ Hs) (hs : kEnt.IsSl H v xs) (hE : ∀ (args : Array Value) (w : World), (callFunc F args).run Try.prog w = .ok (.enter F args) w)
    (hf : ∀ (i : Nat) (x : Ent), xs[i]? = some x → ∀ u, kAd.IsSl H u x.addrs → ∀ w', Sat σ w' Hs → Calls Try.prog F (AR (.agg #[.string x.name, u, .int .i64 x.till])) w' fun e w2 => e = .returned (.bool (p x)) ∧ Sat σ w2 Hs) :
    Calls Try.prog 26 #[v, .func (.func F) #[] caps] w fun e w' => e = .returned (.int .i64 (idxI p xs)) ∧ Sat σ w' Hs := by
  have HC := Lib.hid (index_any v xs F caps AR hAR p w hw hH hs hE hf)
  clear hf hE hAR
  go_enter Try.func26, Try.ntmps26
  go_wp2_with fail
  refine HC.out.mono ?_
  rintro e w2 ⟨rfl, hw2⟩
  go_wp2
  go_ret
  exact ⟨rfl, hw2⟩
end
end Go.Proofs.Ythofnhmehpdnbaa
