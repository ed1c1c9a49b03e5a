/- Walk: works of chapter 9. -/
import Derived.Test.YtgpmkiamfbbfmaaDoorCkE
import Derived.Lib.SlBytesConst
set_option linter.unusedVariables false
set_option linter.unusedSimpArgs false
namespace Go.Proofs.YtgpmkiamfbbfmaaDoor
open Go Go.RowKit
def b1 : List Int := [51, 13, 10, 97, 98, 99, 13, 10, 48, 13, 10, 13, 10, 120]
def b2 : List Int := [48, 51]
def b3 : List Int := [51, 13, 10, 97, 98, 99, 100]
theorem run1 : ∃ s, runC cs0 b1 = (s, [97, 98, 99], 13) ∧ s.st = 6 ∧ s.err = none := ⟨_, rfl, rfl, rfl⟩
theorem run2 : ∃ s o k, runC cs0 b2 = (s, o, k) ∧ s.err = some (1, 90) := ⟨_, _, _, rfl, rfl⟩
theorem run3 : ∃ s o k, runC cs0 b3 = (s, o, k) ∧ s.err = some (6, 91) := ⟨_, _, _, rfl, rfl⟩
section
variable {σ w w' : World} {Hs : List Hp} {H H1 H2 M N Y : Hp}
theorem Sat.bring {l₁ l₂ : List Hp} {a : Hp} (h : Sat σ w (l₁ ++ a :: l₂)) : Sat σ w (a :: (l₁ ++ l₂)) := h.perm List.perm_middle
set_option maxHeartbeats 8000000
set_option maxRecDepth 10000 in
theorem works_any (w : World) (hw : Sat σ w Hs) : Calls Tryd.prog 5 #[] w fun e w' => e = .returned (.bool true) ∧ Sat σ w' Hs := by
  have kc := fun (w : World) (C : Array Value) (n c : Nat) => Lib.run_convert_bytes_const (P := Tryd.prog) w 22 5 C n c Tryd.underlying22 Tryd.underlying5
  go_enter Tryd.func5, Tryd.ntmps5
  go_wp2_with fail
  refine (new_c w hw).mono ?_
  rintro e w1 ⟨g1, M1, rfl, hw1, h1⟩
  go_wp2_with fail
  refine (new_c w1 hw1).mono ?_
  rintro e w2 ⟨g2, M2, rfl, hw2, h2⟩
  go_wp2_with fail
  refine (new_c w2 hw2).mono ?_
  rintro e w3 ⟨g3, M3, rfl, hw3, h3⟩
  clear hw hw1 hw2
  have hw4 := (hw3.alloc (.cells (ints .u8 b1).toArray 5 (14, 15))).fourth
  have hl1 := lit_sl w3.heap.size b1 5 (14, 15) (by decide)
  obtain ⟨s1, e1, e11, e12⟩ := run1
  have HA := Lib.hid (add_any (.slice (some ⟨w3.heap.size, 0, none⟩) 14 14) b1 _ hw4 (H := Hp.one w3.heap.size (.cells (ints .u8 b1).toArray 5 (14, 15))) (by simp) hl1 h1 ci0 (by decide) (by decide))
  rw [e1] at HA
  clear hw3 e1 h1
  go_wp2_with fail
  refine HA.out.mono ?_
  rintro e w5 ⟨v1, ve1, M1, N1, rfl, hw5, hr1, ho1, hev1⟩
  rw [e12] at hev1
  obtain rfl : ve1 = _ := hev1
  clear HA hw4 hl1
  generalize w3.heap.size = n1 at *
  generalize Hp.one n1 _ = L1 at *
  have hw6 := Sat.bring (l₁ := [Hp.one w5.heap.size (.cells (ints .u8 b2).toArray 5 (2, 3)), N1, M1, L1, M3]) (hw5.alloc (.cells (ints .u8 b2).toArray 5 (2, 3)))
  have hl2 := lit_sl w5.heap.size b2 5 (2, 3) (by decide)
  obtain ⟨s2, o2, k2, e2, e21⟩ := run2
  have HA := Lib.hid (add_any (.slice (some ⟨w5.heap.size, 0, none⟩) 2 2) b2 _ hw6 (H := Hp.one w5.heap.size (.cells (ints .u8 b2).toArray 5 (2, 3))) (by simp) hl2 h2 ci0 (by decide) (by decide))
  rw [e2] at HA
  clear hw5 e2 h2
  go_wp2_with fail
  refine HA.out.mono ?_
  rintro e w7 ⟨v2, ve2, M2, N2, rfl, hw7, hr2, ho2, hev2⟩
  rw [e21] at hev2
  clear HA hw6 hl2 hr2
  generalize w5.heap.size = n2 at *
  generalize Hp.one n2 _ = L2 at *
  have hw8 := Sat.bring (l₁ := [Hp.one w7.heap.size (.cells (ints .u8 b3).toArray 5 (7, 8)), N2, M2, L2, N1, M1, L1]) (hw7.alloc (.cells (ints .u8 b3).toArray 5 (7, 8)))
  have hl3 := lit_sl w7.heap.size b3 5 (7, 8) (by decide)
  obtain ⟨s3, o3, k3, e3, e31⟩ := run3
  have HA := Lib.hid (add_any (.slice (some ⟨w7.heap.size, 0, none⟩) 7 7) b3 _ hw8 (H := Hp.one w7.heap.size (.cells (ints .u8 b3).toArray 5 (7, 8))) (by simp) hl3 h3 ci0 (by decide) (by decide))
  rw [e3] at HA
  clear hw7 e3 h3
  go_wp2_with fail
  refine HA.out.mono ?_
  rintro e w9 ⟨v3, ve3, M3, N3, rfl, hw9, hr3, ho3, hev3⟩
  rw [e31] at hev3
  clear HA hw8 hl3 hr3
  generalize w7.heap.size = n3 at *
  generalize Hp.one n3 _ = L3 at *
  have hv1 : kB.IsSl N1 v1 [97, 98, 99] := ho1.isSl (d := kB) (reps_ints _) rfl (Hp.le_refl _)
  have c1 := (bytes_rd hv1 hw9 (by simp)).conv (P := Tryd.prog) (src := 22) (dst := 9) Tryd.underlying22 Tryd.underlying5 Tryd.underlying9
  have HDN := Lib.hid (done_c w9 hw9 (M := M1) (by simp) hr1)
  rw [e11] at HDN
  have HF1 := Lib.hid (fun w' Hs' (h : Sat σ w' Hs') => fail_any chunkB 1 90 w' h)
  have HF2 := Lib.hid (fun w' Hs' (h : Sat σ w' Hs') => fail_any chunkB 6 91 w' h)
  have HI1 := Lib.hid (fun w' Hs' (h : Sat σ w' Hs') (hm : M2 ∈ Hs') => isE_any ve2 _ w' h hm hev2)
  have HI2 := Lib.hid (fun w' Hs' (h : Sat σ w' Hs') (hm : M3 ∈ Hs') => isE_any ve3 _ w' h hm hev3)
  clear ho1 ho2 ho3 hev2 hev3 hr1
  obtain ⟨A1, cc1, rfl, _⟩ := hv1.form
  clear hv1
  rw [show (List.length [(97 : Int), 98, 99]) = 3 from rfl, show strOfNums [97, 98, 99] = ⟨#[97, 98, 99]⟩ from rfl] at c1
  change Sat σ w9 (N3 :: M3 :: L3 :: N2 :: M2 :: L2 :: N1 :: M1 :: L1 :: Hs) at hw9
  go_wp2_with (first
    | (go_at_call 10; refine HDN.out.mono ?_; rintro e wa ⟨rfl, rfl⟩)
    | (go_at_call 16; first | (refine (HF2.out _ _ hwc).mono ?_; rintro e wd ⟨rfl, hwd⟩) | (refine (HF1.out _ _ hw9).mono ?_; rintro e wb ⟨rfl, hwb⟩))
    | (go_at_call 15; first | (refine (HI2.out _ _ hwd (by simp)).mono ?_; rintro e we ⟨rfl, hwe⟩) | (refine (HI1.out _ _ hwb (by simp)).mono ?_; rintro e wc ⟨rfl, hwc⟩)))
  go_ret
  exact ⟨rfl, hwe.drop.drop.drop.drop.drop.drop.drop.drop.drop⟩
end
end Go.Proofs.YtgpmkiamfbbfmaaDoor
