/- Walk: Length, and the reference's. -/
import Derived.Test.YtgpmkiamfbbfmaaDoorCwB
set_option linter.unusedVariables false
set_option linter.unusedSimpArgs false
namespace Go.Proofs.YtgpmkiamfbbfmaaDoor
open Go Go.RowKit
section
variable {σ w w' : World} {Hs : List Hp} {H H1 H2 M N Y : Hp}
set_option maxHeartbeats 8000000
/-- What the library's variables hold. -/
structure LibV (H : Hp) : Prop where
  pow : ∃ t fr, H 2 = some (.cells powV t fr)
  syn : ErrIn H 0
  ran : ErrIn H 1
theorem lenV_none : lenV none = .tuple #[.int .i64 0, .int .i64 2] := rfl
theorem lenV_some (n : Nat) : lenV (some n) = .tuple #[.int .i64 n, .int .i64 0] := rfl
theorem len_any (s : ByteArray) (hs : s.size ≤ 281474976710656) (w : World) (hw : Sat σ w Hs) (hH : H ∈ Hs) (hL : LibV H) :
    Calls Tryd.prog 13 #[.string s] w fun e w' => e = .returned (lenV (lenD s.data.toList)) ∧ Sat σ w' Hs := by
  have HA := Lib.hid (atoiS s hs w hw hH hL.syn hL.ran)
  have HI := Lib.hid (fun n h0 h1 w' (h : Sat σ w' Hs) => by obtain ⟨t, fr, hk⟩ := hL.pow; exact itoaS (H := H) n h0 h1 w' h hH hk)
  obtain ⟨r, hr⟩ : ∃ r, lenV (lenD s.data.toList) = r := ⟨_, rfl⟩
  have HR := Lib.hid hr
  rw [hr]
  clear hL hw hr
  go_enter Tryd.func13, Tryd.ntmps13
  go_wp2_with fail
  refine HA.out.mono ?_
  rintro e w1 ⟨z, ve, rfl, hw1, hc⟩
  rcases hc.out with ⟨v, ha, rfl, rfl⟩ | ⟨ha, te, pe, rfl⟩
  · obtain ⟨b0, b1⟩ := Lib.atoiAll_bounds ha
    by_cases h0 : z < 0
    · have hD : Hid (r = .tuple #[.int .i64 0, .int .i64 2]) := Lib.hid (by rw [← HR.out]; unfold lenD; rw [ha]; simp only; rw [if_neg (by omega)]; rfl)
      clear hc ha HR
      go_wp2_with fail
      go_ret2
      exact ⟨by rw [hD.out]; rfl, hw1⟩
    · by_cases h1 : 1048576 < z
      · have hD : Hid (r = .tuple #[.int .i64 0, .int .i64 2]) := Lib.hid (by rw [← HR.out]; unfold lenD; rw [ha]; simp only; rw [if_neg (by omega)]; rfl)
        clear hc ha HR
        go_wp2_with fail
        go_ret2
        exact ⟨by rw [hD.out]; rfl, hw1⟩
      · have HI2 := Lib.hid (HI.out z b0 b1 w1 hw1)
        by_cases hi : Lib.itoa z = s.data.toList
        · have hD : Hid (r = .tuple #[.int .i64 z, .int .i64 0]) := Lib.hid (by rw [← HR.out]; unfold lenD; rw [ha]; simp only; rw [if_pos ⟨by omega, by omega, hi⟩, lenV_some, Int.toNat_of_nonneg (by omega)])
          have hb : (⟨(Lib.itoa z).toArray⟩ : ByteArray) = s := by rw [hi]
          rw [hb] at HI2
          clear hc ha HR hi hb HI
          go_wp2_with (go_at_call 21; refine HI2.out.mono ?_; rintro e w2 ⟨rfl, hw2⟩)
          go_ret2
          exact ⟨by rw [hD.out]; rfl, hw2⟩
        · have hD : Hid (r = .tuple #[.int .i64 0, .int .i64 2]) := Lib.hid (by rw [← HR.out]; unfold lenD; rw [ha]; simp only; rw [if_neg (fun h => hi h.2.2)]; rfl)
          have hb : (⟨(Lib.itoa z).toArray⟩ : ByteArray) ≠ s := fun h => hi (by rw [← h])
          generalize (⟨(Lib.itoa z).toArray⟩ : ByteArray) = b at *
          have hbs : (b.toList == s.toList) = false := by
            cases h : (b.toList == s.toList) with
            | false => rfl
            | true => exact absurd (sEq_iff.1 h) hb
          clear hc ha HR hi HI
          go_wp2_with (go_at_call 21; refine HI2.out.mono ?_; rintro e w2 ⟨rfl, hw2⟩)
          go_ret2
          exact ⟨by rw [hD.out]; rfl, hw2⟩
  · have hD : Hid (r = .tuple #[.int .i64 0, .int .i64 2]) := Lib.hid (by
      rw [← HR.out]; unfold lenD
      cases h : Lib.atoiAll s.data.toList with
      | ok v => exact absurd h (ha v)
      | «syntax» => rfl
      | range => rfl)
    clear hc ha HR HI HA
    go_wp2_with fail
    go_ret2
    exact ⟨by rw [hD.out]; rfl, hw1⟩
end
end Go.Proofs.YtgpmkiamfbbfmaaDoor
