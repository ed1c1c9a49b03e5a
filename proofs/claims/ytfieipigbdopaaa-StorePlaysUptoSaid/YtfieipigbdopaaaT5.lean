/- Walks: the reference's Put, where nothing is kept. -/
import Derived.Test.YtfieipigbdopaaaT4
import Derived.Test.YtfieipigbdopaaaS4
set_option linter.unusedVariables false
set_option linter.unusedSimpArgs false
namespace Go.Proofs.Ytfieipigbdopaaa
open Go.RowKit
set_option maxHeartbeats 2000000
section
variable {σ : World} {Hs : List Hp} {H M N Ha : Hp}
theorem rput_bad (b : Nat) (keep : Int) (hand : Nat) (xs : List SE) (now age : Int) (k : ByteArray) (A : Option Addr) (m c : Nat) (w : World) (hw : Sat σ w (M :: Hs)) (hS : RSto M b keep hand xs) (hs : k.size ≤ 9223372036854775807) (hm : m ≤ 9223372036854775807) (hE : putE keep xs now k m age ≠ 0) :
    Calls Try.prog 23 #[.pointer (some ⟨b, 0, none⟩), .int .i64 now, .string k, .slice A m c, .int .i64 age] w fun e w' => e = .returned (.int .i64 (putE keep xs now k m age)) ∧ Sat σ w' (M :: Hs) := by
  obtain ⟨A', c', hb, hsl⟩ := hS.cells
  have hkp := hS.ok.kp
  have hlen := hS.ok.len
  have cb0 : w.cell? ⟨b, 2, none⟩ = some (.slice A' xs.length c') := hw.m_cell hb rfl
  have cb1 : w.cell? ⟨b, 0, none⟩ = some (.int .i64 keep) := hw.m_cell hb rfl
  have HE := Lib.hid hE
  clear hb hsl hS hE
  cases g2 : momB now
  · have H1 : Hid (putE keep xs now k m age = 2) := Lib.hid (by unfold putE; rw [askE_key, g2]; rfl)
    go_enter Try.func23, Try.ntmps23
    go_wp2_with (first | (go_at_call 35; refine (when_any _ _).mono ?_; rintro e w3 ⟨rfl, rfl⟩) | (go_at_call 36; refine (key_any _ hs _).mono ?_; rintro e w3 ⟨rfl, rfl⟩))
    go_ret
    exact ⟨by rw [H1.out]; rfl, hw⟩
  cases g3 : keyB k
  · have H1 : Hid (putE keep xs now k m age = 2) := Lib.hid (by unfold putE; rw [askE_key, g3, Bool.and_false]; rfl)
    go_enter Try.func23, Try.ntmps23
    go_wp2_with (first | (go_at_call 35; refine (when_any _ _).mono ?_; rintro e w3 ⟨rfl, rfl⟩) | (go_at_call 36; refine (key_any _ hs _).mono ?_; rintro e w3 ⟨rfl, rfl⟩))
    go_ret
    exact ⟨by rw [H1.out]; rfl, hw⟩
  have H1 : Hid (askE true now k = 0) := Lib.hid (by rw [askE_key, g2, g3]; rfl)
  by_cases h2 : age < 1
  · go_enter Try.func23, Try.ntmps23
    go_wp2_with (first | (go_at_call 35; refine (when_any _ _).mono ?_; rintro e w3 ⟨rfl, rfl⟩) | (go_at_call 36; refine (key_any _ hs _).mono ?_; rintro e w3 ⟨rfl, rfl⟩))
    go_ret
    exact ⟨by unfold putE; rw [if_neg (by rw [H1.out]; simp), if_pos (.inl h2)]; rfl, hw⟩
  by_cases h3 : 1048576 < age
  · go_enter Try.func23, Try.ntmps23
    go_wp2_with (first | (go_at_call 35; refine (when_any _ _).mono ?_; rintro e w3 ⟨rfl, rfl⟩) | (go_at_call 36; refine (key_any _ hs _).mono ?_; rintro e w3 ⟨rfl, rfl⟩))
    go_ret
    exact ⟨by unfold putE; rw [if_neg (by rw [H1.out]; simp), if_pos (.inr h3)]; rfl, hw⟩
  by_cases h4 : keep < m
  · go_enter Try.func23, Try.ntmps23
    go_wp2_with (first | (go_at_call 35; refine (when_any _ _).mono ?_; rintro e w3 ⟨rfl, rfl⟩) | (go_at_call 36; refine (key_any _ hs _).mono ?_; rintro e w3 ⟨rfl, rfl⟩))
    go_ret
    exact ⟨by unfold putE; rw [if_neg (by rw [H1.out]; simp), if_neg (by omega), if_pos h4]; rfl, hw⟩
  by_cases h5 : xs.length = 0
  · rw [h5] at cb0
    go_enter Try.func23, Try.ntmps23
    go_wp2_with (first | (go_at_call 35; refine (when_any _ _).mono ?_; rintro e w3 ⟨rfl, rfl⟩) | (go_at_call 36; refine (key_any _ hs _).mono ?_; rintro e w3 ⟨rfl, rfl⟩))
    go_ret
    exact ⟨by unfold putE; rw [if_neg (by rw [H1.out]; simp), if_neg (by omega), if_neg (by omega), if_pos h5]; rfl, hw⟩
  · exfalso
    apply HE.out
    unfold putE
    rw [if_neg (by rw [H1.out]; simp), if_neg (by omega), if_neg h4, if_neg h5]
end
end Go.Proofs.Ytfieipigbdopaaa
