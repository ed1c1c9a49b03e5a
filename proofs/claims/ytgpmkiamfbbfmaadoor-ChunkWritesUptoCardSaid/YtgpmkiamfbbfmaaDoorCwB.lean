/- strconv.Itoa and strconv.Atoi, met on pieces of the heap. -/
import Derived.Test.YtgpmkiamfbbfmaaDoorCwA
import Derived.Test.YtgpmkiamfbbfmaaDoorCwL
import Derived.Test.YtgpmkiamfbbfmaaDoorTz
set_option linter.unusedVariables false
set_option linter.unusedSimpArgs false
namespace Go.Proofs.YtgpmkiamfbbfmaaDoor
open Go Go.RowKit
section
variable {σ w w' : World} {Hs : List Hp} {H H1 H2 M N Y : Hp}
def powV : Array Value := (Lib.pow10Tab.map fun z => Value.int .u64 z).toArray
theorem gPow : Tryd.prog.globalNamed "internal/strconv.uint64pow10" = some 2 := by kernel_rfl
theorem tabis_of {t : TypeId} {fr : Nat × Nat} (hw : Sat σ w Hs) (hH : H ∈ Hs) (hk : H 2 = some (.cells powV t fr)) : Lib.TabIs Tryd.prog w "internal/strconv.uint64pow10" .u64 Lib.pow10Tab := by
  have h := hw.blk hH hk
  simp only [Lib.TabIs, World.var?, gPow, Option.bind_some, h]
  rfl
theorem Sat.grown {k : Nat} {os : Array Obj} (h : Sat σ w Hs) : Sat σ (Go.Sort.grow (w.drewN k) os) Hs :=
  h.to rfl rfl rfl (by show _ ≤ (w.heap ++ os).size; rw [Array.size_append]; omega) fun H hH b o e => by
    show (w.heap ++ os)[b]? = _
    exact Array.getElem?_append_left (h.lt hH e)
theorem itoaS (n : Int) (h0 : -9223372036854775808 ≤ n) (h1 : n ≤ 9223372036854775807) (w : World) (hw : Sat σ w Hs) (hH : H ∈ Hs) {t : TypeId} {fr : Nat × Nat} (hk : H 2 = some (.cells powV t fr)) :
    Calls Tryd.prog 21 #[.int .i64 n] w fun e w' => e = .returned (.string ⟨(Lib.itoa n).toArray⟩) ∧ Sat σ w' Hs :=
  (Any.strconv_Itoa layItoa n h0 h1 w (tabis_of hw hH hk)).mono fun e w' ⟨he, k, os, hw'⟩ => ⟨he, by rw [hw']; exact hw.grown⟩
/-- A variable that holds an error, or none. -/
def ErrIn (H : Hp) (g : Nat) : Prop := ∃ ev t fr, H g = some (.cells #[ev] t fr) ∧ (ev = .nilIface ∨ ∃ te pe, ev = .iface te pe)
/-- strconv.Atoi: a number and no error, or an error. -/
theorem atoiS (s : ByteArray) (hs : s.size ≤ 281474976710656) (w : World) (hw : Sat σ w Hs) (hH : H ∈ Hs) (hS : ErrIn H 0) (hR : ErrIn H 1) :
    Calls Tryd.prog 20 #[.string s] w fun e w' => ∃ (z : Int) (ve : Value), e = .returned (.tuple #[.int .i64 z, ve]) ∧ Sat σ w' Hs ∧ Eager ((∃ v, Lib.atoiAll s.data.toList = .ok v ∧ z = v ∧ ve = .nilIface) ∨ ((∀ v, Lib.atoiAll s.data.toList ≠ .ok v) ∧ ∃ te pe, ve = .iface te pe)) := by
  cases ha : Lib.atoiAll s.data.toList with
  | ok v =>
    refine (Any.strconv_Atoi_ok layAtoi s (by omega) v ha w).mono ?_
    rintro e w' ⟨rfl, hw'⟩
    refine ⟨v, .nilIface, rfl, ?_, ⟨.inl ⟨v, rfl, rfl, rfl⟩⟩⟩
    rcases hw' with rfl | ⟨t, rfl⟩
    · exact hw
    · exact hw.below (Lib.bytesWorld_below _ _ _)
  | «syntax» =>
    obtain ⟨ev, t, fr, hc, hev⟩ := hS
    refine (Any.strconv_Atoi_syntax layAtoi s hs ha ev w (hw.cellAt hH (Hp.cell_of hc rfl)) hev).mono ?_
    rintro e w' ⟨N, rfl, _, _, hb⟩
    exact ⟨0, _, rfl, hw.below hb, ⟨.inr ⟨(fun v h => nomatch h), _, _, rfl⟩⟩⟩
  | range =>
    obtain ⟨ev, t, fr, hc, hev⟩ := hR
    refine (Any.strconv_Atoi_range layAtoi s hs ha ev w (hw.cellAt hH (Hp.cell_of hc rfl)) hev).mono ?_
    rintro e w' ⟨N, rfl, _, _, hb⟩
    exact ⟨_, _, rfl, hw.below hb, ⟨.inr ⟨(fun v h => nomatch h), _, _, rfl⟩⟩⟩
/-- What a length's reading tells. -/
def lenV (o : Option Nat) : Value := match o with | some n => .tuple #[.int .i64 n, .int .i64 0] | none => .tuple #[.int .i64 0, .int .i64 2]
end
end Go.Proofs.YtgpmkiamfbbfmaaDoor
