/- Walk: the reference's Length, and its hex. -/
import Derived.Test.YtgpmkiamfbbfmaaDoorCwD
import Derived.Test.YtgpmkiamfbbfmaaDoorCbC
set_option linter.unusedVariables false
set_option linter.unusedSimpArgs false
namespace Go.Proofs.YtgpmkiamfbbfmaaDoor
open Go Go.RowKit
section
variable {σ w w' : World} {Hs : List Hp} {H H1 H2 M N Y : Hp}
set_option maxHeartbeats 8000000
theorem rlen_any (s : ByteArray) (hs : s.size ≤ 281474976710656) (w : World) :
    Calls Tryd.prog 14 #[.string s] w fun e w' => e = .returned (lenV (lenD s.data.toList)) ∧ w' = w := by
  have HA := Lib.hid (whole_any s hs w)
  rw [len_whole]
  cases hw : wholeD 7 s.data.toList with
  | none =>
    have HA2 : Hid (Calls Tryd.prog 22 #[.string s, .int .i64 7] w fun e w' => e = .returned (.tuple #[.int .i64 0, .bool false]) ∧ w' = w) := Lib.hid (by have := HA.out; rw [hw] at this; exact this)
    show Calls Tryd.prog 14 #[.string s] w fun e w' => e = .returned (.tuple #[.int .i64 0, .int .i64 2]) ∧ w' = w
    clear HA hw
    go_enter Tryd.func14, Tryd.ntmps14
    go_wp2_with (go_at_call 22; refine HA2.out.mono ?_; rintro e w1 ⟨rfl, rfl⟩)
    go_ret2
    exact ⟨rfl, rfl⟩
  | some n =>
    have HA2 : Hid (Calls Tryd.prog 22 #[.string s, .int .i64 7] w fun e w' => e = .returned (.tuple #[.int .i64 n, .bool true]) ∧ w' = w) := Lib.hid (by have := HA.out; rw [hw] at this; exact this)
    by_cases hn : n ≤ 1048576
    · have hni : ¬ (1048576 : Int) < n := by omega
      have HV : Hid (lenV ((some n).bind fun n => if n ≤ 1048576 then some n else none) = .tuple #[.int .i64 n, .int .i64 0]) := Lib.hid (by show lenV (if n ≤ 1048576 then some n else none) = _; rw [if_pos hn]; rfl)
      rw [HV.out]
      clear HA hw HV
      go_enter Tryd.func14, Tryd.ntmps14
      go_wp2_with (go_at_call 22; refine HA2.out.mono ?_; rintro e w1 ⟨rfl, rfl⟩)
      go_ret2
      exact ⟨rfl, rfl⟩
    · have hni : (1048576 : Int) < n := by omega
      have HV : Hid (lenV ((some n).bind fun n => if n ≤ 1048576 then some n else none) = .tuple #[.int .i64 0, .int .i64 2]) := Lib.hid (by show lenV (if n ≤ 1048576 then some n else none) = _; rw [if_neg hn]; rfl)
      rw [HV.out]
      clear HA hw HV
      go_enter Tryd.func14, Tryd.ntmps14
      go_wp2_with (go_at_call 22; refine HA2.out.mono ?_; rintro e w1 ⟨rfl, rfl⟩)
      go_ret2
      exact ⟨rfl, rfl⟩
theorem hexmod {k d : Nat} (h : k % 16 = d) : (k : Int).tmod 16 = (d : Int) := by
  rw [Int.tmod_eq_emod_of_nonneg (by omega)]; omega
theorem hexdiv {k d : Nat} (h : k / 16 = d) : (k : Int).tdiv 16 = (d : Int) := by
  rw [Int.tdiv_eq_ediv_of_nonneg (by omega)]; omega
def digL : ByteArray := ⟨#[48, 49, 50, 51, 52, 53, 54, 55, 56, 57, 97, 98, 99, 100, 101, 102]⟩
theorem digL_at {d : Nat} (h : d < 16) : digL.extract d (d + 1) = strOfNums [hexD d] := by
  have h16 : ∀ m : Fin 16, digL.extract m.val (m.val + 1) = strOfNums [hexD m.val] := by decide +kernel
  exact h16 ⟨d, h⟩
theorem str_append (xs ys : List Int) : strOfNums xs ++ strOfNums ys = strOfNums (xs ++ ys) := by
  apply toList_inj
  rw [ByteArray.toList_eq, ByteArray.toList_eq]
  simp [strOfNums]
theorem rhex_any (n : Nat) (h0 : 0 < n) (hn : n ≤ 65536) (w : World) :
    Calls Tryd.prog 19 #[.int .i64 n] w fun e w' => e = .returned (.string (strOfNums (hexL n))) ∧ w' = w := by
  go_enter Tryd.func19, Tryd.ntmps19
  go_wp2_with fail
  go_loopw [0, 3] (fun v sv wr => ∃ (x : Nat) (b : ByteArray) (ds : List Int), v = .int .i64 x ∧ sv = .string b ∧ wr = w ∧ x ≤ n ∧ Eager (b = strOfNums ds ∧ ((0 < x ∧ hexL n = hexL x ++ ds) ∨ (x = 0 ∧ hexL n = ds)))) (fun v _ _ => (intOf v).toNat)
  case atStart => exact ⟨n, ⟨#[]⟩, [], rfl, rfl, rfl, Nat.le_refl _, ⟨rfl, .inl ⟨h0, (List.append_nil _).symm⟩⟩⟩
  case round =>
    obtain ⟨x, b, ds, rfl, rfl, rfl, hxn, hst⟩ := hrel
    by_cases hx : x = 0
    · subst hx
      obtain ⟨hb, he⟩ := hst.out
      have HE : Hid (b = strOfNums (hexL n)) := Lib.hid (by rcases he with ⟨h, _⟩ | ⟨_, h⟩; omega; rw [h]; exact hb)
      clear hst hb he
      go_wp2
      go_ret
      exact ⟨by rw [← HE.out]; rfl, rfl⟩
    · have hx0 : (0 : Int) < x := by omega
      obtain ⟨d, hd⟩ : ∃ d, x % 16 = d := ⟨_, rfl⟩
      obtain ⟨q, hq⟩ : ∃ q, x / 16 = q := ⟨_, rfl⟩
      have hmod := hexmod hd
      have hdiv := hexdiv hq
      have hd16 : d < 16 := by omega
      have hd1 : IntKind.i64.wrap ((d : Int) + 1) = (d : Int) + 1 := IntWalk.i64_in _ (by omega)
      have hd0 : (0 : Int) ≤ d := by omega
      obtain ⟨hb, he⟩ := hst.out
      obtain ⟨_, he⟩ : 0 < x ∧ hexL n = hexL x ++ ds := by rcases he with h | ⟨h, _⟩; exact h; omega
      have hdsl : ds.length ≤ 10 := by have h := congrArg List.length he; rw [List.length_append] at h; have := hexL_len 5 n (by omega); omega
      have HN : Hid ((0 < q ∧ hexL n = hexL q ++ (hexD d :: ds)) ∨ (q = 0 ∧ hexL n = hexD d :: ds)) := Lib.hid (by
        by_cases h16 : x < 16
        · refine .inr ⟨by omega, ?_⟩
          rw [he, hexL_small h16, show x = d from by omega]; rfl
        · refine .inl ⟨by omega, ?_⟩
          rw [he, hexL_step h16, hd, hq, List.append_assoc]; rfl)
      have HS : Hid (digL.extract d (d + 1) ++ b = strOfNums (hexD d :: ds)) := Lib.hid (by rw [digL_at hd16, hb, str_append]; rfl)
      have hsz : ¬ (9223372036854775807 < (digL.extract d (d + 1)).size + b.size) := by rw [digL_at hd16, hb, strOfNums_size, strOfNums_size]; simp; omega
      unfold digL at hsz
      clear hst hb he
      go_wp2
      exact ⟨⟨q, _, hexD d :: ds, rfl, rfl, trivial, by omega, ⟨HS.out, HN.out⟩⟩, by simp [intOf]; omega⟩
end
end Go.Proofs.YtgpmkiamfbbfmaaDoor
