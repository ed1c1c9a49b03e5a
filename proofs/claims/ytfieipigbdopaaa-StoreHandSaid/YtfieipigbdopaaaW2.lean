/- Walk: the chapter's example. -/
import Derived.Test.YtfieipigbdopaaaW1
import Derived.Test.YtfieipigbdopaaaS8
import Derived.Lib.SlBytesConst
set_option linter.unusedVariables false
set_option linter.unusedSimpArgs false
namespace Go.Proofs.Ytfieipigbdopaaa
open Go.RowKit
set_option maxHeartbeats 4000000
section
variable {σ : World} {Hs : List Hp} {H H1 H2 M N Ha : Hp}
theorem works_any (w : World) (hw : Sat σ w Hs) : Calls Try.prog 9 #[] w fun e w' => e = .returned (.bool true) ∧ Sat σ w' Hs := by
  have kc := fun (w : World) (C : Array Value) (n c : Nat) => Lib.run_convert_bytes_const (P := Try.prog) w 23 5 C n c Try.underlying23 Try.underlying5
  go_enter Try.func9, Try.ntmps9
  go_wp2_with fail
  refine (new_any 2 9 w hw (by decide)).mono ?_
  rintro e w1 ⟨b, M, rfl, hw1, hT⟩
  have hT : Sto M b 9 0 l0 := hT
  clear hw
  go_wp2_with fail
  have hwa := hw1.alloc (.cells #[.int .u8 49] 5 (1, 2))
  refine (put_any b 9 0 l0 0 9 _ _ [49] _ hwa.swap hT (Ha := Hp.one w1.heap.size (.cells #[.int .u8 49] 5 (1, 2))) List.mem_cons_self (lit1_sl _ 49 _ _) (by decide)).mono ?_
  rintro e w2 ⟨rfl, M2, hw2, hT2, _⟩
  rw [ev1] at hT2
  have hx2 := hw2.drop1
  clear hwa hw2 hw1 hT
  go_wp2_with fail
  have hwa := hx2.alloc (.cells #[.int .u8 50] 5 (1, 2))
  refine (put_any b 9 0 l1 0 9 _ _ [50] _ hwa.swap hT2 (Ha := Hp.one w2.heap.size (.cells #[.int .u8 50] 5 (1, 2))) List.mem_cons_self (lit1_sl _ 50 _ _) (by decide)).mono ?_
  rintro e w3 ⟨rfl, M3, hw2, hT3, _⟩
  rw [ev2] at hT3
  have hx3 := hw2.drop1
  clear hwa hw2 hx2 hT2
  go_wp2_with fail
  refine (get_any b 9 0 l2 1 ⟨#[97]⟩ w3 hx3 hT3 (by decide)).mono ?_
  rintro e w4 ⟨v4, N4, cl4, M4, rfl, hx4, ho4, hr4, hT4, _⟩
  rw [ev3] at *
  have hv4 : kB.IsSl N4 v4 [49] := ho4.isSl (d := kB) hr4 rfl (Hp.le_refl _)
  clear hx3 hT3 ho4 hr4
  have hx4 := hx4.swap
  go_wp2_with fail
  have hwa := hx4.alloc (.cells #[.int .u8 51] 5 (1, 2))
  refine (put_any b 9 0 l3 2 9 _ _ [51] _ hwa.swap hT4 (Ha := Hp.one w4.heap.size (.cells #[.int .u8 51] 5 (1, 2))) List.mem_cons_self (lit1_sl _ 51 _ _) (by decide)).mono ?_
  rintro e w5 ⟨rfl, M5, hw2, hT5, _⟩
  rw [ev4] at hT5
  have hx5 := hw2.drop1
  clear hwa hw2 hx4 hT4
  go_wp2_with fail
  refine (get_any b 9 0 l4 9 ⟨#[97]⟩ w5 hx5 hT5 (by decide)).mono ?_
  rintro e w6 ⟨v6, N6, cl6, M6, rfl, hx6, ho6, hr6, hT6, _⟩
  rw [ev5] at *
  have hx6 := hx6.drop
  clear hx5 hT5 ho6 hr6
  have c1 := (bytes_rd hv4 hx6 (by simp)).conv (P := Try.prog) (src := 23) (dst := 9) Try.underlying23 Try.underlying5 Try.underlying9
  rw [show strOfNums [49] = (⟨#[49]⟩ : ByteArray) from by rfl] at c1
  have HT6 := Lib.hid hT6
  clear hT6 hv4
  go_wp2_with fail
  refine (keys_any b 9 0 l4 HT6.out w6 _ hx6 (by simp)).mono ?_
  rintro e w7 ⟨v7, N7, rfl, hw7, hk7⟩
  go_wp2_with fail
  have hwa := hw7.alloc (.cells #[.string ⟨#[97]⟩, .string ⟨#[99]⟩] 9)
  have hsb : Kd.str.IsSl (Hp.one w7.heap.size (.cells #[.string ⟨#[97]⟩, .string ⟨#[99]⟩] 9)) (.slice (some ⟨w7.heap.size, 0, none⟩) 2 2) [⟨#[97]⟩, ⟨#[99]⟩] := (own_lit _ #[.string ⟨#[97]⟩, .string ⟨#[99]⟩] _ 1 2 (by rfl) (by omega)).isSl (d := Kd.str) (xs := [⟨#[97]⟩, ⟨#[99]⟩]) (strs_reps _ [⟨#[97]⟩, ⟨#[99]⟩]) rfl (Hp.le_refl _)
  refine (sameT_any (H1 := N7) (H2 := Hp.one w7.heap.size _) _ _ [⟨#[97]⟩, ⟨#[99]⟩] [⟨#[97]⟩, ⟨#[99]⟩] _ hwa (by simp) (List.mem_cons_self) hk7 hsb).mono ?_
  rintro e wb ⟨rfl, hwb⟩
  rw [show (decide (([⟨#[97]⟩, ⟨#[99]⟩] : List ByteArray) = [⟨#[97]⟩, ⟨#[99]⟩])) = true from by simp]
  go_wp2_with fail
  refine (hand_any b 9 0 l4 HT6.out wb _ hwb (by simp)).mono ?_
  rintro e wc ⟨rfl, hwc⟩
  go_wp2
  go_ret
  exact ⟨rfl, hwc.drop.drop.drop.drop⟩
end
end Go.Proofs.Ytfieipigbdopaaa
