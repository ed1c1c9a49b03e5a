/- Walks: Put whole; the chapter's example. -/
import Derived.Test.YtfieipigbdopaaaU1
import Derived.Test.YtfieipigbdopaaaS4
set_option linter.unusedVariables false
set_option linter.unusedSimpArgs false
namespace Go.Proofs.Ytfieipigbdopaaa
open Go.RowKit
set_option maxHeartbeats 4000000
/-- What Put leaves. -/
def putR (keep : Int) (xs : List SE) (hand : Nat) (now : Int) (k : ByteArray) (bs : List Int) (age : Int) : List SE × Nat := if putE keep xs now k bs.length age = 0 then putS xs hand now k bs age else (xs, hand)
section
variable {σ : World} {Hs : List Hp} {H H1 H2 M N Ha : Hp}
theorem put_any (b : Nat) (keep : Int) (hand : Nat) (xs : List SE) (now age : Int) (k : ByteArray) (v : Value) (bs : List Int) (w : World) (hw : Sat σ w (M :: Hs)) (hS : Sto M b keep hand xs) (hHa : Ha ∈ Hs) (hv : kB.IsSl Ha v bs) (hs : k.size ≤ 9223372036854775807) :
    Calls Try.prog 12 #[.pointer (some ⟨b, 0, none⟩), .int .i64 now, .string k, v, .int .i64 age] w (PutP σ Hs M b keep (putE keep xs now k bs.length age) (putR keep xs hand now k bs age)) := by
  by_cases hE : putE keep xs now k bs.length age = 0
  · have := put_ok b keep hand xs now age k v bs w hw hS hHa hv hs hE
    unfold putR
    rw [if_pos hE, hE]
    exact this
  · obtain ⟨A, c, rfl, hc1, hc2, _⟩ := hv.form
    unfold putR
    rw [if_neg hE]
    exact (put_bad b keep hand xs now age k A bs.length c w hw hS hs (by omega) hE).mono fun e w' ⟨he, h⟩ => ⟨he, M, h, hS, keep_refl _ _⟩
theorem lit1_sl (b : Nat) (z : Int) (t : TypeId) (fr : Nat × Nat) : kB.IsSl (Hp.one b (.cells #[.int .u8 z] t fr)) (.slice (some ⟨b, 0, none⟩) 1 1) [z] :=
  ⟨⟨_, 1, rfl, by simp, by omega, fun _ => ⟨b, 0, [.int .u8 z], rfl, ⟨_, [], rfl, rfl, rfl⟩, fun j u hu => by
    rw [Nat.zero_add]
    unfold Hp.cell Hp.one
    simpa using hu⟩⟩⟩
def kA : ByteArray := ⟨#[97]⟩
def kC : ByteArray := ⟨#[99]⟩
def l0 : List SE := [se0, se0]
def l1 : List SE := [⟨⟨#[97]⟩, [49], 0, 9, false⟩, se0]
def l2 : List SE := [⟨⟨#[97]⟩, [49], 0, 9, false⟩, ⟨⟨#[98]⟩, [50], 0, 9, false⟩]
def l3 : List SE := [⟨⟨#[97]⟩, [49], 0, 9, true⟩, ⟨⟨#[98]⟩, [50], 0, 9, false⟩]
def l4 : List SE := [⟨⟨#[97]⟩, [49], 0, 9, false⟩, ⟨⟨#[99]⟩, [51], 2, 9, false⟩]
theorem ev1 : putR 9 l0 0 0 ⟨#[97]⟩ [49] 9 = (l1, 0) := by
  simp [putR, putE, askE, momB, putS, placeS, idxI, List.findIdx?_cons, List.find?_cons, keyP, sEq, l0, l1, se0, ByteArray.toList_eq, ByteArray.size]
theorem ev2 : putR 9 l1 0 0 ⟨#[98]⟩ [50] 9 = (l2, 0) := by
  simp [putR, putE, askE, momB, putS, placeS, idxI, List.findIdx?_cons, List.find?_cons, keyP, sEq, l1, l2, se0, ByteArray.toList_eq, ByteArray.size]
theorem ev3 : getS l2 1 ⟨#[97]⟩ = (([49], 1, 0), l3) := by
  simp [getS, askE, momB, idxI, List.findIdx?_cons, List.find?_cons, keyP, sEq, l2, l3, ask1, freshB, ByteArray.toList_eq, ByteArray.size]
theorem ev4 : putR 9 l3 0 2 ⟨#[99]⟩ [51] 9 = (l4, 0) := by
  simp [putR, putE, askE, momB, putS, placeS, idxI, List.findIdx?_cons, List.find?_cons, keyP, sEq, l3, l4, turnS, hotB, freshB, clr, askedN, ByteArray.toList_eq, ByteArray.size]
theorem ev5 : getS l4 9 ⟨#[97]⟩ = (([], 0, 5), l4) := by
  simp [getS, askE, momB, idxI, List.findIdx?_cons, List.find?_cons, keyP, sEq, l4, freshB, ByteArray.toList_eq, ByteArray.size]
end
end Go.Proofs.Ytfieipigbdopaaa
