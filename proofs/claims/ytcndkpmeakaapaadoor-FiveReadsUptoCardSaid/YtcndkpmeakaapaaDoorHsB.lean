/- Split and ToLower, met on pieces; wrong. -/
import Derived.Test.YtcndkpmeakaapaaDoorHsA
import Derived.Test.YtcndkpmeakaapaaDoorSplL
set_option linter.unusedVariables false
set_option linter.unusedSimpArgs false
namespace Go.Proofs.YtcndkpmeakaapaaDoor
open Go Go.RowKit Go.Shelf
def dotB : ByteArray := ⟨#[46]⟩
/-- A text's pieces between points. -/
def piecesB (s : ByteArray) : List ByteArray := Lib.splitB dotB 0 (Lib.countB s dotB) s
def lowB (s : ByteArray) : ByteArray := ⟨(Lib.toLowerA s.data.toList).toArray⟩
def hostB : ByteArray := ⟨#[104, 111, 115, 116]⟩
theorem lower_extra : Builder.Extra Tryd.prog layLower_ren := {
    sizeBuilder := by kernel_rfl
    liesBuilder := by kernel_rfl
    t5 := Tryd.underlying5
    a5 := Tryd.isAgg5
    z5 := Tryd.sizeOf5
    v5 := Tryd.zeroValue5
    infoByte := by kernel_rfl
    cellsByte := by kernel_rfl
    sizeByte := by kernel_rfl
    neB5 := by decide }
theorem pieces_len (s : ByteArray) : (piecesB s).length = Lib.countB s dotB + 1 := Lib.splitB_all dotB (by decide) 0 _ s rfl
section
variable {σ w w' : World} {Hs : List Hp} {H H1 H2 M N Y : Hp}
theorem texts_reps {H : Hp} : ∀ (l : List ByteArray), Kd.str.reps H l (l.map Value.string)
  | [] => rfl
  | x :: l => ⟨[.string x], _, rfl, rfl, texts_reps l⟩
theorem texts_sl (b : Nat) (l : List ByteArray) (hl : l.length ≤ 9223372036854775807) (t : TypeId) : Kd.str.IsSl (Hp.one b (.cells (l.map Value.string).toArray t (0, 0))) (.slice (some ⟨b, 0, none⟩) l.length l.length) l :=
  ⟨⟨_, _, rfl, Nat.le_refl _, hl, fun _ => ⟨b, 0, l.map Value.string, rfl, texts_reps l, fun j u hu => by
    rw [Hp.one_cell, Nat.zero_add]; simpa using hu⟩⟩⟩
theorem splitS (s : ByteArray) (hs : s.size < 4294967281) (m : Int) (w : World) (hw : Sat σ w Hs) (hH : H ∈ Hs) (hm : Hp.cell H 1 0 = some (.int .i64 m)) :
    Calls Tryd.prog 63 #[.string s, .string ⟨#[46]⟩] w fun e w' => ∃ v N, e = .returned v ∧ Sat σ w' (N :: Hs) ∧ Kd.str.IsSl N v (piecesB s) :=
  (Any.strings_Split laySplit (by kernel_rfl) s dotB m w hs (hw.cellAt hH hm) (by decide)).mono fun e w' ⟨he, h2⟩ => by
    subst h2
    rw [← pieces_len] at he
    have hlen : (piecesB s).length ≤ 9223372036854775807 := by
      rw [pieces_len]
      have := Lib.countB_le dotB (by decide) s.size s (Nat.le_refl _)
      omega
    exact ⟨_, _, he, hw.alloc _, texts_sl _ _ hlen _⟩
theorem lowerS (s : ByteArray) (hs : s.size ≤ 140737488355328) (ha : ∀ (j : Nat) (b : UInt8), s.data.toList[j]? = some b → b.toNat < 128) (w : World) (hw : Sat σ w Hs) :
    Calls Tryd.prog 65 #[.string s] w fun e w' => e = .returned (.string (lowB s)) ∧ Sat σ w' Hs :=
  (Any.strings_ToLower_ascii layLower lower_extra s w hs ha).mono fun e w' ⟨h1, h2⟩ => ⟨h1, hw.below h2⟩
theorem wrong_any (a : Int) (v : Value) (hv : v = .nilIface ∨ ∃ t x, v = .iface t x) (w : World) (hw : Sat σ w Hs) :
    Calls Tryd.prog 62 #[.int .i64 a, v] w fun e w' => ∃ b, e = .returned (.iface 100 (.pointer (some ⟨b, 0, none⟩))) ∧ Sat σ w' (Hp.one b (.cells #[.string hostB, .int .i64 a, v] 102 (0, 0)) :: Hs) := by
  rcases hv with rfl | ⟨t, x, rfl⟩
  · go_enter Tryd.func62, Tryd.ntmps62
    go_wp2
    go_ret
    exact ⟨_, rfl, hw.alloc _⟩
  · go_enter Tryd.func62, Tryd.ntmps62
    go_wp2
    go_ret
    exact ⟨_, rfl, hw.alloc _⟩
end
end Go.Proofs.YtcndkpmeakaapaaDoor
