/- Walk: Itoa of small numbers. -/
import Derived.Test.YtfieipigbdopaaaL5
import Derived.Test.YtfieipigbdopaaaW2
set_option linter.unusedVariables false
set_option linter.unusedSimpArgs false
namespace Go.Proofs.Ytfieipigbdopaaa
open Go.RowKit
set_option maxHeartbeats 4000000
section
variable {σ : World} {Hs : List Hp} {H M N : Hp}
/-- string([]byte{z}) -/
theorem conv1 (w : World) (z : Int) : (convert 23 9 (.slice (some ⟨w.heap.size, 0, none⟩) 1 1)).run Try.prog (w.alloc (.cells #[.int .u8 z] 5)) = .ok (.string (strOfNums [z])) (w.alloc (.cells #[.int .u8 z] 5)) :=
  (bytes_rd (lit1_sl _ z _ _) ((Sat.start w).alloc (.cells #[.int .u8 z] 5)) List.mem_cons_self).conv (P := Try.prog) (src := 23) (dst := 9) Try.underlying23 Try.underlying5 Try.underlying9
theorem small_mod {k d : Nat} (h : k % 10 = d) : (k : Int).tmod 10 = (d : Int) := by
  rw [Int.tmod_eq_emod_of_nonneg (by omega)]; omega
theorem small_div {k d : Nat} (h : k / 10 = d) : (k : Int).tdiv 10 = (d : Int) := by
  rw [Int.tdiv_eq_ediv_of_nonneg (by omega)]; omega
theorem small_neg (d : Nat) : decide ((d : Int) < 0) = false := decide_eq_false (by omega)
theorem small_add {d : Nat} (h : d ≤ 9) : IntKind.i64.wrap (48 + (d : Int)) = 48 + (d : Int) := IntWalk.i64_in _ (by omega)
theorem small_u8 {d : Nat} (h : d ≤ 9) : IntKind.u8.wrap (48 + (d : Int)) = 48 + (d : Int) := by simp only [IntKind.wrap_u8]; omega
theorem small_wrap {d : Nat} (h : d ≤ 9) : wrap64 (d : Int) = d := by unfold wrap64; omega
theorem small_wrap' {d : Nat} (h : d ≤ 9) : IntKind.i64.wrap (d : Int) = d := IntWalk.i64_in _ (by omega)
theorem small_size (d : Nat) {b : ByteArray} (h : b.size ≤ 1) : ¬ (9223372036854775807 < (strOfNums [48 + (d : Int)]).size + b.size) := by rw [strOfNums_size]; simp; omega
theorem itoa_any (n : Nat) (hn : n < 100) (w : World) (hw : Sat σ w Hs) : Calls Try.prog 20 #[.int .i64 n] w fun e w' => e = .returned (.string (itoaB n)) ∧ Sat σ w' Hs := by
  have kc := conv1
  by_cases h0 : n = 0
  · subst h0
    go_enter Try.func20, Try.ntmps20
    go_wp2
    go_ret
    exact ⟨rfl, hw⟩
  have hq : ((n : Int) == 0) = false := beq_eq_false_iff_ne.2 (by omega)
  have hneg : decide ((n : Int) < 0) = false := decide_eq_false (by omega)
  have HE1 : Hid (n < 10 → itoaB n = strOfNums [48 + (n : Int)] ++ ⟨#[]⟩) := Lib.hid (fun h => by unfold itoaB; rw [if_neg h0, if_pos h])
  have HE2 : Hid (¬ n < 10 → itoaB n = strOfNums [48 + ((n / 10 : Nat) : Int)] ++ (strOfNums [48 + ((n % 10 : Nat) : Int)] ++ ⟨#[]⟩)) := Lib.hid (fun h => by unfold itoaB; rw [if_neg h0, if_neg h])
  go_enter Try.func20, Try.ntmps20
  go_wp2
  go_loopw [0, 3, 5] (fun v s _ wr => ∃ (k : Nat) (b : ByteArray), v = .int .i64 k ∧ s = .string b ∧ Sat σ wr Hs ∧ Eager ((k = n ∧ b = ⟨#[]⟩) ∨ (k = n / 10 ∧ b = strOfNums [48 + ((n % 10 : Nat) : Int)] ++ ⟨#[]⟩) ∨ (k = 0 ∧ b = itoaB n))) (fun v _ _ _ => (intOf v).toNat)
  case atStart => exact ⟨n, _, rfl, rfl, hw, ⟨.inl ⟨rfl, rfl⟩⟩⟩
  case round =>
    obtain ⟨k, b, rfl, rfl, hwr, hE⟩ := hrel
    clear hw hq
    by_cases hk : k = 0
    · subst hk
      have hb : b = itoaB n := by
        rcases hE.out with ⟨h1, h2⟩ | ⟨h1, h2⟩ | ⟨h1, h2⟩
        · omega
        · rw [HE1.out (by omega), h2, show ((n % 10 : Nat) : Int) = (n : Int) by omega]
        · exact h2
      subst hb
      go_wp2
      go_ret
      exact ⟨rfl, hwr⟩
    · have hkq : ((k : Int) == 0) = false := beq_eq_false_iff_ne.2 (by omega)
      obtain ⟨d, hd⟩ : ∃ d, k % 10 = d := ⟨_, rfl⟩
      obtain ⟨q, hqd⟩ : ∃ q, k / 10 = q := ⟨_, rfl⟩
      have hd9 : d ≤ 9 := by omega
      have hkn : k ≤ n := by rcases hE.out with ⟨h1, h2⟩ | ⟨h1, h2⟩ | ⟨h1, h2⟩ <;> omega
      have hq9 : q ≤ 9 := by omega
      have hqk : q < k := by omega
      have hbs : b.size ≤ 1 := by
        rcases hE.out with ⟨h1, h2⟩ | ⟨h1, h2⟩ | ⟨h1, h2⟩
        · rw [h2]; exact Nat.zero_le 1
        · rw [h2, ByteArray.size_append, strOfNums_size]; exact Nat.le_refl 1
        · exact absurd h1 hk
      have HNX : Hid ((q = n ∧ strOfNums [48 + (d : Int)] ++ b = ⟨#[]⟩) ∨ (q = n / 10 ∧ strOfNums [48 + (d : Int)] ++ b = strOfNums [48 + ((n % 10 : Nat) : Int)] ++ ⟨#[]⟩) ∨ (q = 0 ∧ strOfNums [48 + (d : Int)] ++ b = itoaB n)) := Lib.hid (by
        rcases hE.out with ⟨h1, h2⟩ | ⟨h1, h2⟩ | ⟨h1, h2⟩
        · subst h1; subst h2
          by_cases h : k < 10
          · exact .inr (.inr ⟨by omega, by rw [HE1.out h, show d = k by omega]⟩)
          · exact .inr (.inl ⟨by omega, by rw [hd]⟩)
        · exact .inr (.inr ⟨by omega, by rw [HE2.out (by omega), h2, show d = n / 10 by omega]⟩)
        · exact absurd h1 hk)
      have hmod : (k : Int).tmod 10 = (d : Int) := small_mod hd
      have hdiv : (k : Int).tdiv 10 = (q : Int) := small_div hqd
      have hdn := small_neg d
      have m1 := small_add hd9
      have m2 := small_u8 hd9
      have hsz := small_size d hbs
      have m3 := small_wrap hq9
      have m4 := small_wrap' hq9
      have kc2 := fun w => conv1 w (48 + (d : Int))
      obtain ⟨ds, hds⟩ : ∃ ds, strOfNums [48 + (d : Int)] = ds := ⟨_, rfl⟩
      rw [hds] at HNX hsz
      simp only [hds] at kc2
      clear hd hqd hE hd9 hbs hq9 hds kc
      go_wp2
      go_roundw
      case measure => simp [intOf]; omega
      case rel => exact ⟨q, _, rfl, rfl, hwr.alloc' _, ⟨HNX.out⟩⟩
end
end Go.Proofs.Ytfieipigbdopaaa
