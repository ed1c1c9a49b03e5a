/- The digest of two fixed texts, step by step: written by tools/shaeval.py. -/
import Derived.Test.YteggcfcjajpcgaaDoorDgP
import Derived.KernelRfl
set_option linter.unusedVariables false
namespace Go.Proofs.YteggcfcjajpcgaaDoor
open Go
def eL0 : List Int := [128, 0, 0, 0, 0, 0, 0, 0, 0, 0, 0, 0, 0, 0, 0, 0, 0, 0, 0, 0, 0, 0, 0, 0, 0, 0, 0, 0, 0, 0, 0, 0, 0, 0, 0, 0, 0, 0, 0, 0, 0, 0, 0, 0, 0, 0, 0, 0, 0, 0, 0, 0, 0, 0, 0, 0, 0, 0, 0, 0, 0, 0, 0, 0]
def eB0 : Nat → Int := fun i => eL0.getD i 0
theorem es0_0 : sch eB0 0 = 2147483648 := by rw [sch_lo _ _ (by decide)]; kernel_rfl
theorem es0_1 : sch eB0 1 = 0 := by rw [sch_lo _ _ (by decide)]; kernel_rfl
theorem es0_2 : sch eB0 2 = 0 := by rw [sch_lo _ _ (by decide)]; kernel_rfl
theorem es0_3 : sch eB0 3 = 0 := by rw [sch_lo _ _ (by decide)]; kernel_rfl
theorem es0_4 : sch eB0 4 = 0 := by rw [sch_lo _ _ (by decide)]; kernel_rfl
theorem es0_5 : sch eB0 5 = 0 := by rw [sch_lo _ _ (by decide)]; kernel_rfl
theorem es0_6 : sch eB0 6 = 0 := by rw [sch_lo _ _ (by decide)]; kernel_rfl
theorem es0_7 : sch eB0 7 = 0 := by rw [sch_lo _ _ (by decide)]; kernel_rfl
theorem es0_8 : sch eB0 8 = 0 := by rw [sch_lo _ _ (by decide)]; kernel_rfl
theorem es0_9 : sch eB0 9 = 0 := by rw [sch_lo _ _ (by decide)]; kernel_rfl
theorem es0_10 : sch eB0 10 = 0 := by rw [sch_lo _ _ (by decide)]; kernel_rfl
theorem es0_11 : sch eB0 11 = 0 := by rw [sch_lo _ _ (by decide)]; kernel_rfl
theorem es0_12 : sch eB0 12 = 0 := by rw [sch_lo _ _ (by decide)]; kernel_rfl
theorem es0_13 : sch eB0 13 = 0 := by rw [sch_lo _ _ (by decide)]; kernel_rfl
theorem es0_14 : sch eB0 14 = 0 := by rw [sch_lo _ _ (by decide)]; kernel_rfl
theorem es0_15 : sch eB0 15 = 0 := by rw [sch_lo _ _ (by decide)]; kernel_rfl
theorem es0_16 : sch eB0 16 = 2147483648 := by
  rw [sch_hi _ _ (by decide)]
  show u32w (sch eB0 0 + sch eB0 9 + sg0 (sch eB0 1) + sg1 (sch eB0 14)) = _
  rw [es0_0, es0_9, es0_1, es0_14]
  kernel_rfl
theorem es0_17 : sch eB0 17 = 0 := by
  rw [sch_hi _ _ (by decide)]
  show u32w (sch eB0 1 + sch eB0 10 + sg0 (sch eB0 2) + sg1 (sch eB0 15)) = _
  rw [es0_1, es0_10, es0_2, es0_15]
  kernel_rfl
theorem es0_18 : sch eB0 18 = 2117632 := by
  rw [sch_hi _ _ (by decide)]
  show u32w (sch eB0 2 + sch eB0 11 + sg0 (sch eB0 3) + sg1 (sch eB0 16)) = _
  rw [es0_2, es0_11, es0_3, es0_16]
  kernel_rfl
theorem es0_19 : sch eB0 19 = 0 := by
  rw [sch_hi _ _ (by decide)]
  show u32w (sch eB0 3 + sch eB0 12 + sg0 (sch eB0 4) + sg1 (sch eB0 17)) = _
  rw [es0_3, es0_12, es0_4, es0_17]
  kernel_rfl
theorem es0_20 : sch eB0 20 = 570427392 := by
  rw [sch_hi _ _ (by decide)]
  show u32w (sch eB0 4 + sch eB0 13 + sg0 (sch eB0 5) + sg1 (sch eB0 18)) = _
  rw [es0_4, es0_13, es0_5, es0_18]
  kernel_rfl
theorem es0_21 : sch eB0 21 = 0 := by
  rw [sch_hi _ _ (by decide)]
  show u32w (sch eB0 5 + sch eB0 14 + sg0 (sch eB0 6) + sg1 (sch eB0 19)) = _
  rw [es0_5, es0_14, es0_6, es0_19]
  kernel_rfl
theorem es0_22 : sch eB0 22 = 84448578 := by
  rw [sch_hi _ _ (by decide)]
  show u32w (sch eB0 6 + sch eB0 15 + sg0 (sch eB0 7) + sg1 (sch eB0 20)) = _
  rw [es0_6, es0_15, es0_7, es0_20]
  kernel_rfl
theorem es0_23 : sch eB0 23 = 2147483648 := by
  rw [sch_hi _ _ (by decide)]
  show u32w (sch eB0 7 + sch eB0 16 + sg0 (sch eB0 8) + sg1 (sch eB0 21)) = _
  rw [es0_7, es0_16, es0_8, es0_21]
  kernel_rfl
theorem es0_24 : sch eB0 24 = 1476919296 := by
  rw [sch_hi _ _ (by decide)]
  show u32w (sch eB0 8 + sch eB0 17 + sg0 (sch eB0 9) + sg1 (sch eB0 22)) = _
  rw [es0_8, es0_17, es0_9, es0_22]
  kernel_rfl
theorem es0_25 : sch eB0 25 = 4235264 := by
  rw [sch_hi _ _ (by decide)]
  show u32w (sch eB0 9 + sch eB0 18 + sg0 (sch eB0 10) + sg1 (sch eB0 23)) = _
  rw [es0_9, es0_18, es0_10, es0_23]
  kernel_rfl
theorem es0_26 : sch eB0 26 = 1451269 := by
  rw [sch_hi _ _ (by decide)]
  show u32w (sch eB0 10 + sch eB0 19 + sg0 (sch eB0 11) + sg1 (sch eB0 24)) = _
  rw [es0_10, es0_19, es0_11, es0_24]
  kernel_rfl
theorem es0_27 : sch eB0 27 = 1711282176 := by
  rw [sch_hi _ _ (by decide)]
  show u32w (sch eB0 11 + sch eB0 20 + sg0 (sch eB0 12) + sg1 (sch eB0 25)) = _
  rw [es0_11, es0_20, es0_12, es0_25]
  kernel_rfl
theorem es0_28 : sch eB0 28 = 3592562048 := by
  rw [sch_hi _ _ (by decide)]
  show u32w (sch eB0 12 + sch eB0 21 + sg0 (sch eB0 13) + sg1 (sch eB0 26)) = _
  rw [es0_12, es0_21, es0_13, es0_26]
  kernel_rfl
theorem es0_29 : sch eB0 29 = 337794312 := by
  rw [sch_hi _ _ (by decide)]
  show u32w (sch eB0 13 + sch eB0 22 + sg0 (sch eB0 14) + sg1 (sch eB0 27)) = _
  rw [es0_13, es0_22, es0_14, es0_27]
  kernel_rfl
theorem es0_30 : sch eB0 30 = 3594910044 := by
  rw [sch_hi _ _ (by decide)]
  show u32w (sch eB0 14 + sch eB0 23 + sg0 (sch eB0 15) + sg1 (sch eB0 28)) = _
  rw [es0_14, es0_23, es0_15, es0_28]
  kernel_rfl
theorem es0_31 : sch eB0 31 = 3374850048 := by
  rw [sch_hi _ _ (by decide)]
  show u32w (sch eB0 15 + sch eB0 24 + sg0 (sch eB0 16) + sg1 (sch eB0 29)) = _
  rw [es0_15, es0_24, es0_16, es0_29]
  kernel_rfl
theorem es0_32 : sch eB0 32 = 3287351444 := by
  rw [sch_hi _ _ (by decide)]
  show u32w (sch eB0 16 + sch eB0 25 + sg0 (sch eB0 17) + sg1 (sch eB0 30)) = _
  rw [es0_16, es0_25, es0_17, es0_30]
  kernel_rfl
theorem es0_33 : sch eB0 33 = 676112230 := by
  rw [sch_hi _ _ (by decide)]
  show u32w (sch eB0 17 + sch eB0 26 + sg0 (sch eB0 18) + sg1 (sch eB0 31)) = _
  rw [es0_17, es0_26, es0_18, es0_31]
  kernel_rfl
theorem es0_34 : sch eB0 34 = 109604294 := by
  rw [sch_hi _ _ (by decide)]
  show u32w (sch eB0 18 + sch eB0 27 + sg0 (sch eB0 19) + sg1 (sch eB0 32)) = _
  rw [es0_18, es0_27, es0_19, es0_32]
  kernel_rfl
theorem es0_35 : sch eB0 35 = 2742808854 := by
  rw [sch_hi _ _ (by decide)]
  show u32w (sch eB0 19 + sch eB0 28 + sg0 (sch eB0 20) + sg1 (sch eB0 33)) = _
  rw [es0_19, es0_28, es0_20, es0_33]
  kernel_rfl
theorem es0_36 : sch eB0 36 = 1904000662 := by
  rw [sch_hi _ _ (by decide)]
  show u32w (sch eB0 20 + sch eB0 29 + sg0 (sch eB0 21) + sg1 (sch eB0 34)) = _
  rw [es0_20, es0_29, es0_21, es0_34]
  kernel_rfl
theorem es0_37 : sch eB0 37 = 4274181962 := by
  rw [sch_hi _ _ (by decide)]
  show u32w (sch eB0 21 + sch eB0 30 + sg0 (sch eB0 22) + sg1 (sch eB0 35)) = _
  rw [es0_21, es0_30, es0_22, es0_35]
  kernel_rfl
theorem es0_38 : sch eB0 38 = 2813755136 := by
  rw [sch_hi _ _ (by decide)]
  show u32w (sch eB0 22 + sch eB0 31 + sg0 (sch eB0 23) + sg1 (sch eB0 36)) = _
  rw [es0_22, es0_31, es0_23, es0_36]
  kernel_rfl
theorem es0_39 : sch eB0 39 = 2165675682 := by
  rw [sch_hi _ _ (by decide)]
  show u32w (sch eB0 23 + sch eB0 32 + sg0 (sch eB0 24) + sg1 (sch eB0 37)) = _
  rw [es0_23, es0_32, es0_24, es0_37]
  kernel_rfl
theorem es0_40 : sch eB0 40 = 2561075048 := by
  rw [sch_hi _ _ (by decide)]
  show u32w (sch eB0 24 + sch eB0 33 + sg0 (sch eB0 25) + sg1 (sch eB0 38)) = _
  rw [es0_24, es0_33, es0_25, es0_38]
  kernel_rfl
theorem es0_41 : sch eB0 41 = 62000258 := by
  rw [sch_hi _ _ (by decide)]
  show u32w (sch eB0 25 + sch eB0 34 + sg0 (sch eB0 26) + sg1 (sch eB0 39)) = _
  rw [es0_25, es0_34, es0_26, es0_39]
  kernel_rfl
theorem es0_42 : sch eB0 42 = 1562224585 := by
  rw [sch_hi _ _ (by decide)]
  show u32w (sch eB0 26 + sch eB0 35 + sg0 (sch eB0 27) + sg1 (sch eB0 40)) = _
  rw [es0_26, es0_35, es0_27, es0_40]
  kernel_rfl
theorem es0_43 : sch eB0 43 = 2975250741 := by
  rw [sch_hi _ _ (by decide)]
  show u32w (sch eB0 27 + sch eB0 36 + sg0 (sch eB0 28) + sg1 (sch eB0 41)) = _
  rw [es0_27, es0_36, es0_28, es0_41]
  kernel_rfl
theorem es0_44 : sch eB0 44 = 3286092305 := by
  rw [sch_hi _ _ (by decide)]
  show u32w (sch eB0 28 + sch eB0 37 + sg0 (sch eB0 29) + sg1 (sch eB0 42)) = _
  rw [es0_28, es0_37, es0_29, es0_42]
  kernel_rfl
theorem es0_45 : sch eB0 45 = 614207615 := by
  rw [sch_hi _ _ (by decide)]
  show u32w (sch eB0 29 + sch eB0 38 + sg0 (sch eB0 30) + sg1 (sch eB0 43)) = _
  rw [es0_29, es0_38, es0_30, es0_43]
  kernel_rfl
theorem es0_46 : sch eB0 46 = 3297584367 := by
  rw [sch_hi _ _ (by decide)]
  show u32w (sch eB0 30 + sch eB0 39 + sg0 (sch eB0 31) + sg1 (sch eB0 44)) = _
  rw [es0_30, es0_39, es0_31, es0_44]
  kernel_rfl
theorem es0_47 : sch eB0 47 = 1575308336 := by
  rw [sch_hi _ _ (by decide)]
  show u32w (sch eB0 31 + sch eB0 40 + sg0 (sch eB0 32) + sg1 (sch eB0 45)) = _
  rw [es0_31, es0_40, es0_32, es0_45]
  kernel_rfl
theorem es0_48 : sch eB0 48 = 3741240933 := by
  rw [sch_hi _ _ (by decide)]
  show u32w (sch eB0 32 + sch eB0 41 + sg0 (sch eB0 33) + sg1 (sch eB0 46)) = _
  rw [es0_32, es0_41, es0_33, es0_46]
  kernel_rfl
theorem es0_49 : sch eB0 49 = 748767245 := by
  rw [sch_hi _ _ (by decide)]
  show u32w (sch eB0 33 + sch eB0 42 + sg0 (sch eB0 34) + sg1 (sch eB0 47)) = _
  rw [es0_33, es0_42, es0_34, es0_47]
  kernel_rfl
theorem es0_50 : sch eB0 50 = 1008022316 := by
  rw [sch_hi _ _ (by decide)]
  show u32w (sch eB0 34 + sch eB0 43 + sg0 (sch eB0 35) + sg1 (sch eB0 48)) = _
  rw [es0_34, es0_43, es0_35, es0_48]
  kernel_rfl
theorem es0_51 : sch eB0 51 = 30329261 := by
  rw [sch_hi _ _ (by decide)]
  show u32w (sch eB0 35 + sch eB0 44 + sg0 (sch eB0 36) + sg1 (sch eB0 49)) = _
  rw [es0_35, es0_44, es0_36, es0_49]
  kernel_rfl
theorem es0_52 : sch eB0 52 = 369937616 := by
  rw [sch_hi _ _ (by decide)]
  show u32w (sch eB0 36 + sch eB0 45 + sg0 (sch eB0 37) + sg1 (sch eB0 50)) = _
  rw [es0_36, es0_45, es0_37, es0_50]
  kernel_rfl
theorem es0_53 : sch eB0 53 = 195877528 := by
  rw [sch_hi _ _ (by decide)]
  show u32w (sch eB0 37 + sch eB0 46 + sg0 (sch eB0 38) + sg1 (sch eB0 51)) = _
  rw [es0_37, es0_46, es0_38, es0_51]
  kernel_rfl
theorem es0_54 : sch eB0 54 = 907775968 := by
  rw [sch_hi _ _ (by decide)]
  show u32w (sch eB0 38 + sch eB0 47 + sg0 (sch eB0 39) + sg1 (sch eB0 52)) = _
  rw [es0_38, es0_47, es0_39, es0_52]
  kernel_rfl
theorem es0_55 : sch eB0 55 = 3526495142 := by
  rw [sch_hi _ _ (by decide)]
  show u32w (sch eB0 39 + sch eB0 48 + sg0 (sch eB0 40) + sg1 (sch eB0 53)) = _
  rw [es0_39, es0_48, es0_40, es0_53]
  kernel_rfl
theorem es0_56 : sch eB0 56 = 43741191 := by
  rw [sch_hi _ _ (by decide)]
  show u32w (sch eB0 40 + sch eB0 49 + sg0 (sch eB0 41) + sg1 (sch eB0 54)) = _
  rw [es0_40, es0_49, es0_41, es0_54]
  kernel_rfl
theorem es0_57 : sch eB0 57 = 1967544444 := by
  rw [sch_hi _ _ (by decide)]
  show u32w (sch eB0 41 + sch eB0 50 + sg0 (sch eB0 42) + sg1 (sch eB0 55)) = _
  rw [es0_41, es0_50, es0_42, es0_55]
  kernel_rfl
theorem es0_58 : sch eB0 58 = 133517113 := by
  rw [sch_hi _ _ (by decide)]
  show u32w (sch eB0 42 + sch eB0 51 + sg0 (sch eB0 43) + sg1 (sch eB0 56)) = _
  rw [es0_42, es0_51, es0_43, es0_56]
  kernel_rfl
theorem es0_59 : sch eB0 59 = 4161330627 := by
  rw [sch_hi _ _ (by decide)]
  show u32w (sch eB0 43 + sch eB0 52 + sg0 (sch eB0 44) + sg1 (sch eB0 57)) = _
  rw [es0_43, es0_52, es0_44, es0_57]
  kernel_rfl
theorem es0_60 : sch eB0 60 = 3704256008 := by
  rw [sch_hi _ _ (by decide)]
  show u32w (sch eB0 44 + sch eB0 53 + sg0 (sch eB0 45) + sg1 (sch eB0 58)) = _
  rw [es0_44, es0_53, es0_45, es0_58]
  kernel_rfl
theorem es0_61 : sch eB0 61 = 1581412744 := by
  rw [sch_hi _ _ (by decide)]
  show u32w (sch eB0 45 + sch eB0 54 + sg0 (sch eB0 46) + sg1 (sch eB0 59)) = _
  rw [es0_45, es0_54, es0_46, es0_59]
  kernel_rfl
theorem es0_62 : sch eB0 62 = 1153231965 := by
  rw [sch_hi _ _ (by decide)]
  show u32w (sch eB0 46 + sch eB0 55 + sg0 (sch eB0 47) + sg1 (sch eB0 60)) = _
  rw [es0_46, es0_55, es0_47, es0_60]
  kernel_rfl
theorem es0_63 : sch eB0 63 = 996066459 := by
  rw [sch_hi _ _ (by decide)]
  show u32w (sch eB0 47 + sch eB0 56 + sg0 (sch eB0 48) + sg1 (sch eB0 61)) = _
  rw [es0_47, es0_56, es0_48, es0_61]
  kernel_rfl
theorem er0_0 : rnds iv0 (sch eB0) 0 = ⟨1779033703, 3144134277, 1013904242, 2773480762, 1359893119, 2600822924, 528734635, 1541459225⟩ := rfl
theorem er0_1 : rnds iv0 (sch eB0) 1 = ⟨2080933965, 1779033703, 3144134277, 1013904242, 415752866, 1359893119, 2600822924, 528734635⟩ := by
  show stepW (kAt 0) (sch eB0 0) (rnds iv0 (sch eB0) 0) = _
  rw [er0_0, es0_0]
  kernel_rfl
theorem er0_2 : rnds iv0 (sch eB0) 2 = ⟨2632279248, 2080933965, 1779033703, 3144134277, 536982102, 415752866, 1359893119, 2600822924⟩ := by
  show stepW (kAt 1) (sch eB0 1) (rnds iv0 (sch eB0) 1) = _
  rw [er0_1, es0_1]
  kernel_rfl
theorem er0_3 : rnds iv0 (sch eB0) 3 = ⟨3299628326, 2632279248, 2080933965, 1779033703, 1876632314, 536982102, 415752866, 1359893119⟩ := by
  show stepW (kAt 2) (sch eB0 2) (rnds iv0 (sch eB0) 2) = _
  rw [er0_2, es0_2]
  kernel_rfl
theorem er0_4 : rnds iv0 (sch eB0) 4 = ⟨1277422283, 3299628326, 2632279248, 2080933965, 808968629, 1876632314, 536982102, 415752866⟩ := by
  show stepW (kAt 3) (sch eB0 3) (rnds iv0 (sch eB0) 3) = _
  rw [er0_3, es0_3]
  kernel_rfl
theorem er0_5 : rnds iv0 (sch eB0) 5 = ⟨1130821424, 1277422283, 3299628326, 2632279248, 3889194014, 808968629, 1876632314, 536982102⟩ := by
  show stepW (kAt 4) (sch eB0 4) (rnds iv0 (sch eB0) 4) = _
  rw [er0_4, es0_4]
  kernel_rfl
theorem er0_6 : rnds iv0 (sch eB0) 6 = ⟨690895682, 1130821424, 1277422283, 3299628326, 1332035834, 3889194014, 808968629, 1876632314⟩ := by
  show stepW (kAt 5) (sch eB0 5) (rnds iv0 (sch eB0) 5) = _
  rw [er0_5, es0_5]
  kernel_rfl
theorem er0_7 : rnds iv0 (sch eB0) 7 = ⟨4028650896, 690895682, 1130821424, 1277422283, 2196627567, 1332035834, 3889194014, 808968629⟩ := by
  show stepW (kAt 6) (sch eB0 6) (rnds iv0 (sch eB0) 6) = _
  rw [er0_6, es0_6]
  kernel_rfl
theorem er0_8 : rnds iv0 (sch eB0) 8 = ⟨2060825014, 4028650896, 690895682, 1130821424, 1408847307, 2196627567, 1332035834, 3889194014⟩ := by
  show stepW (kAt 7) (sch eB0 7) (rnds iv0 (sch eB0) 7) = _
  rw [er0_7, es0_7]
  kernel_rfl
theorem er0_9 : rnds iv0 (sch eB0) 9 = ⟨4113392549, 2060825014, 4028650896, 690895682, 2058339864, 1408847307, 2196627567, 1332035834⟩ := by
  show stepW (kAt 8) (sch eB0 8) (rnds iv0 (sch eB0) 8) = _
  rw [er0_8, es0_8]
  kernel_rfl
theorem er0_10 : rnds iv0 (sch eB0) 10 = ⟨4025007953, 4113392549, 2060825014, 4028650896, 1392976521, 2058339864, 1408847307, 2196627567⟩ := by
  show stepW (kAt 9) (sch eB0 9) (rnds iv0 (sch eB0) 9) = _
  rw [er0_9, es0_9]
  kernel_rfl
theorem er0_11 : rnds iv0 (sch eB0) 11 = ⟨361478433, 4025007953, 4113392549, 2060825014, 3795207118, 1392976521, 2058339864, 1408847307⟩ := by
  show stepW (kAt 10) (sch eB0 10) (rnds iv0 (sch eB0) 10) = _
  rw [er0_10, es0_10]
  kernel_rfl
theorem er0_12 : rnds iv0 (sch eB0) 12 = ⟨4114828352, 361478433, 4025007953, 4113392549, 3621813394, 3795207118, 1392976521, 2058339864⟩ := by
  show stepW (kAt 11) (sch eB0 11) (rnds iv0 (sch eB0) 11) = _
  rw [er0_11, es0_11]
  kernel_rfl
theorem er0_13 : rnds iv0 (sch eB0) 13 = ⟨553833165, 4114828352, 361478433, 4025007953, 3455974994, 3621813394, 3795207118, 1392976521⟩ := by
  show stepW (kAt 12) (sch eB0 12) (rnds iv0 (sch eB0) 12) = _
  rw [er0_12, es0_12]
  kernel_rfl
theorem er0_14 : rnds iv0 (sch eB0) 14 = ⟨1170215847, 553833165, 4114828352, 361478433, 725774998, 3455974994, 3621813394, 3795207118⟩ := by
  show stepW (kAt 13) (sch eB0 13) (rnds iv0 (sch eB0) 13) = _
  rw [er0_13, es0_13]
  kernel_rfl
theorem er0_15 : rnds iv0 (sch eB0) 15 = ⟨3096116699, 1170215847, 553833165, 4114828352, 483372089, 725774998, 3455974994, 3621813394⟩ := by
  show stepW (kAt 14) (sch eB0 14) (rnds iv0 (sch eB0) 14) = _
  rw [er0_14, es0_14]
  kernel_rfl
theorem er0_16 : rnds iv0 (sch eB0) 16 = ⟨3019933109, 3096116699, 1170215847, 553833165, 1555621987, 483372089, 725774998, 3455974994⟩ := by
  show stepW (kAt 15) (sch eB0 15) (rnds iv0 (sch eB0) 15) = _
  rw [er0_15, es0_15]
  kernel_rfl
theorem er0_17 : rnds iv0 (sch eB0) 17 = ⟨1192056138, 3019933109, 3096116699, 1170215847, 1892956839, 1555621987, 483372089, 725774998⟩ := by
  show stepW (kAt 16) (sch eB0 16) (rnds iv0 (sch eB0) 16) = _
  rw [er0_16, es0_16]
  kernel_rfl
theorem er0_18 : rnds iv0 (sch eB0) 18 = ⟨3717831211, 1192056138, 3019933109, 3096116699, 1619825619, 1892956839, 1555621987, 483372089⟩ := by
  show stepW (kAt 17) (sch eB0 17) (rnds iv0 (sch eB0) 17) = _
  rw [er0_17, es0_17]
  kernel_rfl
theorem er0_19 : rnds iv0 (sch eB0) 19 = ⟨812095850, 3717831211, 1192056138, 3019933109, 3550010602, 1619825619, 1892956839, 1555621987⟩ := by
  show stepW (kAt 18) (sch eB0 18) (rnds iv0 (sch eB0) 18) = _
  rw [er0_18, es0_18]
  kernel_rfl
theorem er0_20 : rnds iv0 (sch eB0) 20 = ⟨172493064, 812095850, 3717831211, 1192056138, 2416781228, 3550010602, 1619825619, 1892956839⟩ := by
  show stepW (kAt 19) (sch eB0 19) (rnds iv0 (sch eB0) 19) = _
  rw [er0_19, es0_19]
  kernel_rfl
theorem er0_21 : rnds iv0 (sch eB0) 21 = ⟨1976037592, 172493064, 812095850, 3717831211, 966081741, 2416781228, 3550010602, 1619825619⟩ := by
  show stepW (kAt 20) (sch eB0 20) (rnds iv0 (sch eB0) 20) = _
  rw [er0_20, es0_20]
  kernel_rfl
theorem er0_22 : rnds iv0 (sch eB0) 22 = ⟨2577845017, 1976037592, 172493064, 812095850, 3263666206, 966081741, 2416781228, 3550010602⟩ := by
  show stepW (kAt 21) (sch eB0 21) (rnds iv0 (sch eB0) 21) = _
  rw [er0_21, es0_21]
  kernel_rfl
theorem er0_23 : rnds iv0 (sch eB0) 23 = ⟨1078820948, 2577845017, 1976037592, 172493064, 2976200464, 3263666206, 966081741, 2416781228⟩ := by
  show stepW (kAt 22) (sch eB0 22) (rnds iv0 (sch eB0) 22) = _
  rw [er0_22, es0_22]
  kernel_rfl
theorem er0_24 : rnds iv0 (sch eB0) 24 = ⟨2556161365, 1078820948, 2577845017, 1976037592, 741081741, 2976200464, 3263666206, 966081741⟩ := by
  show stepW (kAt 23) (sch eB0 23) (rnds iv0 (sch eB0) 23) = _
  rw [er0_23, es0_23]
  kernel_rfl
theorem er0_25 : rnds iv0 (sch eB0) 25 = ⟨2062996621, 2556161365, 1078820948, 2577845017, 4116679717, 741081741, 2976200464, 3263666206⟩ := by
  show stepW (kAt 24) (sch eB0 24) (rnds iv0 (sch eB0) 24) = _
  rw [er0_24, es0_24]
  kernel_rfl
theorem er0_26 : rnds iv0 (sch eB0) 26 = ⟨3317175470, 2062996621, 2556161365, 1078820948, 3850028020, 4116679717, 741081741, 2976200464⟩ := by
  show stepW (kAt 25) (sch eB0 25) (rnds iv0 (sch eB0) 25) = _
  rw [er0_25, es0_25]
  kernel_rfl
theorem er0_27 : rnds iv0 (sch eB0) 27 = ⟨747317945, 3317175470, 2062996621, 2556161365, 2677228163, 3850028020, 4116679717, 741081741⟩ := by
  show stepW (kAt 26) (sch eB0 26) (rnds iv0 (sch eB0) 26) = _
  rw [er0_26, es0_26]
  kernel_rfl
theorem er0_28 : rnds iv0 (sch eB0) 28 = ⟨1837942423, 747317945, 3317175470, 2062996621, 1726829818, 2677228163, 3850028020, 4116679717⟩ := by
  show stepW (kAt 27) (sch eB0 27) (rnds iv0 (sch eB0) 27) = _
  rw [er0_27, es0_27]
  kernel_rfl
theorem er0_29 : rnds iv0 (sch eB0) 29 = ⟨1690082844, 1837942423, 747317945, 3317175470, 2506713973, 1726829818, 2677228163, 3850028020⟩ := by
  show stepW (kAt 28) (sch eB0 28) (rnds iv0 (sch eB0) 28) = _
  rw [er0_28, es0_28]
  kernel_rfl
theorem er0_30 : rnds iv0 (sch eB0) 30 = ⟨1926471693, 1690082844, 1837942423, 747317945, 2957685293, 2506713973, 1726829818, 2677228163⟩ := by
  show stepW (kAt 29) (sch eB0 29) (rnds iv0 (sch eB0) 29) = _
  rw [er0_29, es0_29]
  kernel_rfl
theorem er0_31 : rnds iv0 (sch eB0) 31 = ⟨2696613087, 1926471693, 1690082844, 1837942423, 1447716390, 2957685293, 2506713973, 1726829818⟩ := by
  show stepW (kAt 30) (sch eB0 30) (rnds iv0 (sch eB0) 30) = _
  rw [er0_30, es0_30]
  kernel_rfl
theorem er0_32 : rnds iv0 (sch eB0) 32 = ⟨300352095, 2696613087, 1926471693, 1690082844, 3151463532, 1447716390, 2957685293, 2506713973⟩ := by
  show stepW (kAt 31) (sch eB0 31) (rnds iv0 (sch eB0) 31) = _
  rw [er0_31, es0_31]
  kernel_rfl
theorem er0_33 : rnds iv0 (sch eB0) 33 = ⟨3817927606, 300352095, 2696613087, 1926471693, 3436338571, 3151463532, 1447716390, 2957685293⟩ := by
  show stepW (kAt 32) (sch eB0 32) (rnds iv0 (sch eB0) 32) = _
  rw [er0_32, es0_32]
  kernel_rfl
theorem er0_34 : rnds iv0 (sch eB0) 34 = ⟨2705438357, 3817927606, 300352095, 2696613087, 197416927, 3436338571, 3151463532, 1447716390⟩ := by
  show stepW (kAt 33) (sch eB0 33) (rnds iv0 (sch eB0) 33) = _
  rw [er0_33, es0_33]
  kernel_rfl
theorem er0_35 : rnds iv0 (sch eB0) 35 = ⟨1151435175, 2705438357, 3817927606, 300352095, 1769188034, 197416927, 3436338571, 3151463532⟩ := by
  show stepW (kAt 34) (sch eB0 34) (rnds iv0 (sch eB0) 34) = _
  rw [er0_34, es0_34]
  kernel_rfl
theorem er0_36 : rnds iv0 (sch eB0) 36 = ⟨1679812728, 1151435175, 2705438357, 3817927606, 980442793, 1769188034, 197416927, 3436338571⟩ := by
  show stepW (kAt 35) (sch eB0 35) (rnds iv0 (sch eB0) 35) = _
  rw [er0_35, es0_35]
  kernel_rfl
theorem er0_37 : rnds iv0 (sch eB0) 37 = ⟨2694206301, 1679812728, 1151435175, 2705438357, 4206914285, 980442793, 1769188034, 197416927⟩ := by
  show stepW (kAt 36) (sch eB0 36) (rnds iv0 (sch eB0) 36) = _
  rw [er0_36, es0_36]
  kernel_rfl
theorem er0_38 : rnds iv0 (sch eB0) 38 = ⟨1457773646, 2694206301, 1679812728, 1151435175, 3892832895, 4206914285, 980442793, 1769188034⟩ := by
  show stepW (kAt 37) (sch eB0 37) (rnds iv0 (sch eB0) 37) = _
  rw [er0_37, es0_37]
  kernel_rfl
theorem er0_39 : rnds iv0 (sch eB0) 39 = ⟨2656625711, 1457773646, 2694206301, 1679812728, 2242319396, 3892832895, 4206914285, 980442793⟩ := by
  show stepW (kAt 38) (sch eB0 38) (rnds iv0 (sch eB0) 38) = _
  rw [er0_38, es0_38]
  kernel_rfl
theorem er0_40 : rnds iv0 (sch eB0) 40 = ⟨1234768305, 2656625711, 1457773646, 2694206301, 1902882853, 2242319396, 3892832895, 4206914285⟩ := by
  show stepW (kAt 39) (sch eB0 39) (rnds iv0 (sch eB0) 39) = _
  rw [er0_39, es0_39]
  kernel_rfl
theorem er0_41 : rnds iv0 (sch eB0) 41 = ⟨4270245939, 1234768305, 2656625711, 1457773646, 2224585183, 1902882853, 2242319396, 3892832895⟩ := by
  show stepW (kAt 40) (sch eB0 40) (rnds iv0 (sch eB0) 40) = _
  rw [er0_40, es0_40]
  kernel_rfl
theorem er0_42 : rnds iv0 (sch eB0) 42 = ⟨580450446, 4270245939, 1234768305, 2656625711, 4123364073, 2224585183, 1902882853, 2242319396⟩ := by
  show stepW (kAt 41) (sch eB0 41) (rnds iv0 (sch eB0) 41) = _
  rw [er0_41, es0_41]
  kernel_rfl
theorem er0_43 : rnds iv0 (sch eB0) 43 = ⟨3686090155, 580450446, 4270245939, 1234768305, 3762306745, 4123364073, 2224585183, 1902882853⟩ := by
  show stepW (kAt 42) (sch eB0 42) (rnds iv0 (sch eB0) 42) = _
  rw [er0_42, es0_42]
  kernel_rfl
theorem er0_44 : rnds iv0 (sch eB0) 44 = ⟨3907209042, 3686090155, 580450446, 4270245939, 692219050, 3762306745, 4123364073, 2224585183⟩ := by
  show stepW (kAt 43) (sch eB0 43) (rnds iv0 (sch eB0) 43) = _
  rw [er0_43, es0_43]
  kernel_rfl
theorem er0_45 : rnds iv0 (sch eB0) 45 = ⟨2752082644, 3907209042, 3686090155, 580450446, 2855016464, 692219050, 3762306745, 4123364073⟩ := by
  show stepW (kAt 44) (sch eB0 44) (rnds iv0 (sch eB0) 44) = _
  rw [er0_44, es0_44]
  kernel_rfl
theorem er0_46 : rnds iv0 (sch eB0) 46 = ⟨855262251, 2752082644, 3907209042, 3686090155, 3531982457, 2855016464, 692219050, 3762306745⟩ := by
  show stepW (kAt 45) (sch eB0 45) (rnds iv0 (sch eB0) 45) = _
  rw [er0_45, es0_45]
  kernel_rfl
theorem er0_47 : rnds iv0 (sch eB0) 47 = ⟨1419259244, 855262251, 2752082644, 3907209042, 2322236082, 3531982457, 2855016464, 692219050⟩ := by
  show stepW (kAt 46) (sch eB0 46) (rnds iv0 (sch eB0) 46) = _
  rw [er0_46, es0_46]
  kernel_rfl
theorem er0_48 : rnds iv0 (sch eB0) 48 = ⟨911881421, 1419259244, 855262251, 2752082644, 3417569515, 2322236082, 3531982457, 2855016464⟩ := by
  show stepW (kAt 47) (sch eB0 47) (rnds iv0 (sch eB0) 47) = _
  rw [er0_47, es0_47]
  kernel_rfl
theorem er0_49 : rnds iv0 (sch eB0) 49 = ⟨1655188062, 911881421, 1419259244, 855262251, 1286303114, 3417569515, 2322236082, 3531982457⟩ := by
  show stepW (kAt 48) (sch eB0 48) (rnds iv0 (sch eB0) 48) = _
  rw [er0_48, es0_48]
  kernel_rfl
theorem er0_50 : rnds iv0 (sch eB0) 50 = ⟨2543384045, 1655188062, 911881421, 1419259244, 3909789552, 1286303114, 3417569515, 2322236082⟩ := by
  show stepW (kAt 49) (sch eB0 49) (rnds iv0 (sch eB0) 49) = _
  rw [er0_49, es0_49]
  kernel_rfl
theorem er0_51 : rnds iv0 (sch eB0) 51 = ⟨3244542753, 2543384045, 1655188062, 911881421, 906398686, 3909789552, 1286303114, 3417569515⟩ := by
  show stepW (kAt 50) (sch eB0 50) (rnds iv0 (sch eB0) 50) = _
  rw [er0_50, es0_50]
  kernel_rfl
theorem er0_52 : rnds iv0 (sch eB0) 52 = ⟨3579709122, 3244542753, 2543384045, 1655188062, 2710884687, 906398686, 3909789552, 1286303114⟩ := by
  show stepW (kAt 51) (sch eB0 51) (rnds iv0 (sch eB0) 51) = _
  rw [er0_51, es0_51]
  kernel_rfl
theorem er0_53 : rnds iv0 (sch eB0) 53 = ⟨2981272720, 3579709122, 3244542753, 2543384045, 1134943992, 2710884687, 906398686, 3909789552⟩ := by
  show stepW (kAt 52) (sch eB0 52) (rnds iv0 (sch eB0) 52) = _
  rw [er0_52, es0_52]
  kernel_rfl
theorem er0_54 : rnds iv0 (sch eB0) 54 = ⟨974034039, 2981272720, 3579709122, 3244542753, 4254700398, 1134943992, 2710884687, 906398686⟩ := by
  show stepW (kAt 53) (sch eB0 53) (rnds iv0 (sch eB0) 53) = _
  rw [er0_53, es0_53]
  kernel_rfl
theorem er0_55 : rnds iv0 (sch eB0) 55 = ⟨749689034, 974034039, 2981272720, 3579709122, 3850954136, 4254700398, 1134943992, 2710884687⟩ := by
  show stepW (kAt 54) (sch eB0 54) (rnds iv0 (sch eB0) 54) = _
  rw [er0_54, es0_54]
  kernel_rfl
theorem er0_56 : rnds iv0 (sch eB0) 56 = ⟨23298068, 749689034, 974034039, 2981272720, 2918796810, 3850954136, 4254700398, 1134943992⟩ := by
  show stepW (kAt 55) (sch eB0 55) (rnds iv0 (sch eB0) 55) = _
  rw [er0_55, es0_55]
  kernel_rfl
theorem er0_57 : rnds iv0 (sch eB0) 57 = ⟨2126991890, 23298068, 749689034, 974034039, 2035393328, 2918796810, 3850954136, 4254700398⟩ := by
  show stepW (kAt 56) (sch eB0 56) (rnds iv0 (sch eB0) 56) = _
  rw [er0_56, es0_56]
  kernel_rfl
theorem er0_58 : rnds iv0 (sch eB0) 58 = ⟨3891021244, 2126991890, 23298068, 749689034, 3802734300, 2035393328, 2918796810, 3850954136⟩ := by
  show stepW (kAt 57) (sch eB0 57) (rnds iv0 (sch eB0) 57) = _
  rw [er0_57, es0_57]
  kernel_rfl
theorem er0_59 : rnds iv0 (sch eB0) 59 = ⟨3911429062, 3891021244, 2126991890, 23298068, 148956906, 3802734300, 2035393328, 2918796810⟩ := by
  show stepW (kAt 58) (sch eB0 58) (rnds iv0 (sch eB0) 58) = _
  rw [er0_58, es0_58]
  kernel_rfl
theorem er0_60 : rnds iv0 (sch eB0) 60 = ⟨71572494, 3911429062, 3891021244, 2126991890, 2867830852, 148956906, 3802734300, 2035393328⟩ := by
  show stepW (kAt 59) (sch eB0 59) (rnds iv0 (sch eB0) 59) = _
  rw [er0_59, es0_59]
  kernel_rfl
theorem er0_61 : rnds iv0 (sch eB0) 61 = ⟨4095722474, 71572494, 3911429062, 3891021244, 477227836, 2867830852, 148956906, 3802734300⟩ := by
  show stepW (kAt 60) (sch eB0 60) (rnds iv0 (sch eB0) 60) = _
  rw [er0_60, es0_60]
  kernel_rfl
theorem er0_62 : rnds iv0 (sch eB0) 62 = ⟨1586299222, 4095722474, 71572494, 3911429062, 2232532848, 477227836, 2867830852, 148956906⟩ := by
  show stepW (kAt 61) (sch eB0 61) (rnds iv0 (sch eB0) 61) = _
  rw [er0_61, es0_61]
  kernel_rfl
theorem er0_63 : rnds iv0 (sch eB0) 63 = ⟨3717492111, 1586299222, 4095722474, 71572494, 3382061760, 2232532848, 477227836, 2867830852⟩ := by
  show stepW (kAt 62) (sch eB0 62) (rnds iv0 (sch eB0) 62) = _
  rw [er0_62, es0_62]
  kernel_rfl
theorem er0_64 : rnds iv0 (sch eB0) 64 = ⟨2040978907, 3717492111, 1586299222, 4095722474, 3600805733, 3382061760, 2232532848, 477227836⟩ := by
  show stepW (kAt 63) (sch eB0 63) (rnds iv0 (sch eB0) 63) = _
  rw [er0_63, es0_63]
  kernel_rfl
theorem ec0 : comp iv0 eB0 = ⟨3820012610, 2566659092, 2600203464, 2574235940, 665731556, 1687917388, 2761267483, 2018687061⟩ := by
  unfold comp
  rw [er0_64]
  kernel_rfl
theorem ep0 : padded [] 0 = eL0 := by kernel_rfl
theorem sha0 : sha [] = [227, 176, 196, 66, 152, 252, 28, 20, 154, 251, 244, 200, 153, 111, 185, 36, 39, 174, 65, 228, 100, 155, 147, 76, 164, 149, 153, 27, 120, 82, 184, 85] := by
  unfold sha
  show outL (feed iv0 (padded [] 0)).1 = _
  rw [ep0, feed_big iv0 eL0 (by decide)]
  show outL (feed (comp iv0 eB0) []).1 = _
  rw [ec0, feed_small _ _ (by decide)]
  kernel_rfl
def eL1 : List Int := [97, 98, 99, 128, 0, 0, 0, 0, 0, 0, 0, 0, 0, 0, 0, 0, 0, 0, 0, 0, 0, 0, 0, 0, 0, 0, 0, 0, 0, 0, 0, 0, 0, 0, 0, 0, 0, 0, 0, 0, 0, 0, 0, 0, 0, 0, 0, 0, 0, 0, 0, 0, 0, 0, 0, 0, 0, 0, 0, 0, 0, 0, 0, 24]
def eB1 : Nat → Int := fun i => eL1.getD i 0
theorem es1_0 : sch eB1 0 = 1633837952 := by rw [sch_lo _ _ (by decide)]; kernel_rfl
theorem es1_1 : sch eB1 1 = 0 := by rw [sch_lo _ _ (by decide)]; kernel_rfl
theorem es1_2 : sch eB1 2 = 0 := by rw [sch_lo _ _ (by decide)]; kernel_rfl
theorem es1_3 : sch eB1 3 = 0 := by rw [sch_lo _ _ (by decide)]; kernel_rfl
theorem es1_4 : sch eB1 4 = 0 := by rw [sch_lo _ _ (by decide)]; kernel_rfl
theorem es1_5 : sch eB1 5 = 0 := by rw [sch_lo _ _ (by decide)]; kernel_rfl
theorem es1_6 : sch eB1 6 = 0 := by rw [sch_lo _ _ (by decide)]; kernel_rfl
theorem es1_7 : sch eB1 7 = 0 := by rw [sch_lo _ _ (by decide)]; kernel_rfl
theorem es1_8 : sch eB1 8 = 0 := by rw [sch_lo _ _ (by decide)]; kernel_rfl
theorem es1_9 : sch eB1 9 = 0 := by rw [sch_lo _ _ (by decide)]; kernel_rfl
theorem es1_10 : sch eB1 10 = 0 := by rw [sch_lo _ _ (by decide)]; kernel_rfl
theorem es1_11 : sch eB1 11 = 0 := by rw [sch_lo _ _ (by decide)]; kernel_rfl
theorem es1_12 : sch eB1 12 = 0 := by rw [sch_lo _ _ (by decide)]; kernel_rfl
theorem es1_13 : sch eB1 13 = 0 := by rw [sch_lo _ _ (by decide)]; kernel_rfl
theorem es1_14 : sch eB1 14 = 0 := by rw [sch_lo _ _ (by decide)]; kernel_rfl
theorem es1_15 : sch eB1 15 = 24 := by rw [sch_lo _ _ (by decide)]; kernel_rfl
theorem es1_16 : sch eB1 16 = 1633837952 := by
  rw [sch_hi _ _ (by decide)]
  show u32w (sch eB1 0 + sch eB1 9 + sg0 (sch eB1 1) + sg1 (sch eB1 14)) = _
  rw [es1_0, es1_9, es1_1, es1_14]
  kernel_rfl
theorem es1_17 : sch eB1 17 = 983040 := by
  rw [sch_hi _ _ (by decide)]
  show u32w (sch eB1 1 + sch eB1 10 + sg0 (sch eB1 2) + sg1 (sch eB1 15)) = _
  rw [es1_1, es1_10, es1_2, es1_15]
  kernel_rfl
theorem es1_18 : sch eB1 18 = 2108187653 := by
  rw [sch_hi _ _ (by decide)]
  show u32w (sch eB1 2 + sch eB1 11 + sg0 (sch eB1 3) + sg1 (sch eB1 16)) = _
  rw [es1_2, es1_11, es1_3, es1_16]
  kernel_rfl
theorem es1_19 : sch eB1 19 = 1610613702 := by
  rw [sch_hi _ _ (by decide)]
  show u32w (sch eB1 3 + sch eB1 12 + sg0 (sch eB1 4) + sg1 (sch eB1 17)) = _
  rw [es1_3, es1_12, es1_4, es1_17]
  kernel_rfl
theorem es1_20 : sch eB1 20 = 1050508152 := by
  rw [sch_hi _ _ (by decide)]
  show u32w (sch eB1 4 + sch eB1 13 + sg0 (sch eB1 5) + sg1 (sch eB1 18)) = _
  rw [es1_4, es1_13, es1_5, es1_18]
  kernel_rfl
theorem es1_21 : sch eB1 21 = 25426944 := by
  rw [sch_hi _ _ (by decide)]
  show u32w (sch eB1 5 + sch eB1 14 + sg0 (sch eB1 6) + sg1 (sch eB1 19)) = _
  rw [es1_5, es1_14, es1_6, es1_19]
  kernel_rfl
theorem es1_22 : sch eB1 22 = 316456923 := by
  rw [sch_hi _ _ (by decide)]
  show u32w (sch eB1 6 + sch eB1 15 + sg0 (sch eB1 7) + sg1 (sch eB1 20)) = _
  rw [es1_6, es1_15, es1_7, es1_20]
  kernel_rfl
theorem es1_23 : sch eB1 23 = 3806512014 := by
  rw [sch_hi _ _ (by decide)]
  show u32w (sch eB1 7 + sch eB1 16 + sg0 (sch eB1 8) + sg1 (sch eB1 21)) = _
  rw [es1_7, es1_16, es1_8, es1_21]
  kernel_rfl
theorem es1_24 : sch eB1 24 = 3357629466 := by
  rw [sch_hi _ _ (by decide)]
  show u32w (sch eB1 8 + sch eB1 17 + sg0 (sch eB1 9) + sg1 (sch eB1 22)) = _
  rw [es1_8, es1_17, es1_9, es1_22]
  kernel_rfl
theorem es1_25 : sch eB1 25 = 3073800610 := by
  rw [sch_hi _ _ (by decide)]
  show u32w (sch eB1 9 + sch eB1 18 + sg0 (sch eB1 10) + sg1 (sch eB1 23)) = _
  rw [es1_9, es1_18, es1_10, es1_23]
  kernel_rfl
theorem es1_26 : sch eB1 26 = 3854317833 := by
  rw [sch_hi _ _ (by decide)]
  show u32w (sch eB1 10 + sch eB1 19 + sg0 (sch eB1 11) + sg1 (sch eB1 24)) = _
  rw [es1_10, es1_19, es1_11, es1_24]
  kernel_rfl
theorem es1_27 : sch eB1 27 = 845560923 := by
  rw [sch_hi _ _ (by decide)]
  show u32w (sch eB1 11 + sch eB1 20 + sg0 (sch eB1 12) + sg1 (sch eB1 25)) = _
  rw [es1_11, es1_20, es1_12, es1_25]
  kernel_rfl
theorem es1_28 : sch eB1 28 = 2636160359 := by
  rw [sch_hi _ _ (by decide)]
  show u32w (sch eB1 12 + sch eB1 21 + sg0 (sch eB1 13) + sg1 (sch eB1 26)) = _
  rw [es1_12, es1_21, es1_13, es1_26]
  kernel_rfl
theorem es1_29 : sch eB1 29 = 3968280267 := by
  rw [sch_hi _ _ (by decide)]
  show u32w (sch eB1 13 + sch eB1 22 + sg0 (sch eB1 14) + sg1 (sch eB1 27)) = _
  rw [es1_13, es1_22, es1_14, es1_27]
  kernel_rfl
theorem es1_30 : sch eB1 30 = 1881225380 := by
  rw [sch_hi _ _ (by decide)]
  show u32w (sch eB1 14 + sch eB1 23 + sg0 (sch eB1 15) + sg1 (sch eB1 28)) = _
  rw [es1_14, es1_23, es1_15, es1_28]
  kernel_rfl
theorem es1_31 : sch eB1 31 = 3552024379 := by
  rw [sch_hi _ _ (by decide)]
  show u32w (sch eB1 15 + sch eB1 24 + sg0 (sch eB1 16) + sg1 (sch eB1 29)) = _
  rw [es1_15, es1_24, es1_16, es1_29]
  kernel_rfl
theorem es1_32 : sch eB1 32 = 2482346367 := by
  rw [sch_hi _ _ (by decide)]
  show u32w (sch eB1 16 + sch eB1 25 + sg0 (sch eB1 17) + sg1 (sch eB1 30)) = _
  rw [es1_16, es1_25, es1_17, es1_30]
  kernel_rfl
theorem es1_33 : sch eB1 33 = 996719219 := by
  rw [sch_hi _ _ (by decide)]
  show u32w (sch eB1 17 + sch eB1 26 + sg0 (sch eB1 18) + sg1 (sch eB1 31)) = _
  rw [es1_17, es1_26, es1_18, es1_31]
  kernel_rfl
theorem es1_34 : sch eB1 34 = 2952069057 := by
  rw [sch_hi _ _ (by decide)]
  show u32w (sch eB1 18 + sch eB1 27 + sg0 (sch eB1 19) + sg1 (sch eB1 32)) = _
  rw [es1_18, es1_27, es1_19, es1_32]
  kernel_rfl
theorem es1_35 : sch eB1 35 = 4043988066 := by
  rw [sch_hi _ _ (by decide)]
  show u32w (sch eB1 19 + sch eB1 28 + sg0 (sch eB1 20) + sg1 (sch eB1 33)) = _
  rw [es1_19, es1_28, es1_20, es1_33]
  kernel_rfl
theorem es1_36 : sch eB1 36 = 176896406 := by
  rw [sch_hi _ _ (by decide)]
  show u32w (sch eB1 20 + sch eB1 29 + sg0 (sch eB1 21) + sg1 (sch eB1 34)) = _
  rw [es1_20, es1_29, es1_21, es1_34]
  kernel_rfl
theorem es1_37 : sch eB1 37 = 1924104970 := by
  rw [sch_hi _ _ (by decide)]
  show u32w (sch eB1 21 + sch eB1 30 + sg0 (sch eB1 22) + sg1 (sch eB1 35)) = _
  rw [es1_21, es1_30, es1_22, es1_35]
  kernel_rfl
theorem es1_38 : sch eB1 38 = 2483675966 := by
  rw [sch_hi _ _ (by decide)]
  show u32w (sch eB1 22 + sch eB1 31 + sg0 (sch eB1 23) + sg1 (sch eB1 36)) = _
  rw [es1_22, es1_31, es1_23, es1_36]
  kernel_rfl
theorem es1_39 : sch eB1 39 = 610538786 := by
  rw [sch_hi _ _ (by decide)]
  show u32w (sch eB1 23 + sch eB1 32 + sg0 (sch eB1 24) + sg1 (sch eB1 37)) = _
  rw [es1_23, es1_32, es1_24, es1_37]
  kernel_rfl
theorem es1_40 : sch eB1 40 = 2672279444 := by
  rw [sch_hi _ _ (by decide)]
  show u32w (sch eB1 24 + sch eB1 33 + sg0 (sch eB1 25) + sg1 (sch eB1 38)) = _
  rw [es1_24, es1_33, es1_25, es1_38]
  kernel_rfl
theorem es1_41 : sch eB1 41 = 4037431130 := by
  rw [sch_hi _ _ (by decide)]
  show u32w (sch eB1 25 + sch eB1 34 + sg0 (sch eB1 26) + sg1 (sch eB1 39)) = _
  rw [es1_25, es1_34, es1_26, es1_39]
  kernel_rfl
theorem es1_42 : sch eB1 42 = 1042573945 := by
  rw [sch_hi _ _ (by decide)]
  show u32w (sch eB1 26 + sch eB1 35 + sg0 (sch eB1 27) + sg1 (sch eB1 40)) = _
  rw [es1_26, es1_35, es1_27, es1_40]
  kernel_rfl
theorem es1_43 : sch eB1 43 = 657669027 := by
  rw [sch_hi _ _ (by decide)]
  show u32w (sch eB1 27 + sch eB1 36 + sg0 (sch eB1 28) + sg1 (sch eB1 41)) = _
  rw [es1_27, es1_36, es1_28, es1_41]
  kernel_rfl
theorem es1_44 : sch eB1 44 = 206005234 := by
  rw [sch_hi _ _ (by decide)]
  show u32w (sch eB1 28 + sch eB1 37 + sg0 (sch eB1 29) + sg1 (sch eB1 42)) = _
  rw [es1_28, es1_37, es1_29, es1_42]
  kernel_rfl
theorem es1_45 : sch eB1 45 = 2215296807 := by
  rw [sch_hi _ _ (by decide)]
  show u32w (sch eB1 29 + sch eB1 38 + sg0 (sch eB1 30) + sg1 (sch eB1 43)) = _
  rw [es1_29, es1_38, es1_30, es1_43]
  kernel_rfl
theorem es1_46 : sch eB1 46 = 2049510749 := by
  rw [sch_hi _ _ (by decide)]
  show u32w (sch eB1 30 + sch eB1 39 + sg0 (sch eB1 31) + sg1 (sch eB1 44)) = _
  rw [es1_30, es1_39, es1_31, es1_44]
  kernel_rfl
theorem es1_47 : sch eB1 47 = 106709978 := by
  rw [sch_hi _ _ (by decide)]
  show u32w (sch eB1 31 + sch eB1 40 + sg0 (sch eB1 32) + sg1 (sch eB1 45)) = _
  rw [es1_31, es1_40, es1_32, es1_45]
  kernel_rfl
theorem es1_48 : sch eB1 48 = 4215179723 := by
  rw [sch_hi _ _ (by decide)]
  show u32w (sch eB1 32 + sch eB1 41 + sg0 (sch eB1 33) + sg1 (sch eB1 46)) = _
  rw [es1_32, es1_41, es1_33, es1_46]
  kernel_rfl
theorem es1_49 : sch eB1 49 = 3430291419 := by
  rw [sch_hi _ _ (by decide)]
  show u32w (sch eB1 33 + sch eB1 42 + sg0 (sch eB1 34) + sg1 (sch eB1 47)) = _
  rw [es1_33, es1_42, es1_34, es1_47]
  kernel_rfl
theorem es1_50 : sch eB1 50 = 3118885940 := by
  rw [sch_hi _ _ (by decide)]
  show u32w (sch eB1 34 + sch eB1 43 + sg0 (sch eB1 35) + sg1 (sch eB1 48)) = _
  rw [es1_34, es1_43, es1_35, es1_48]
  kernel_rfl
theorem es1_51 : sch eB1 51 = 2845390439 := by
  rw [sch_hi _ _ (by decide)]
  show u32w (sch eB1 35 + sch eB1 44 + sg0 (sch eB1 36) + sg1 (sch eB1 49)) = _
  rw [es1_35, es1_44, es1_36, es1_49]
  kernel_rfl
theorem es1_52 : sch eB1 52 = 2226839261 := by
  rw [sch_hi _ _ (by decide)]
  show u32w (sch eB1 36 + sch eB1 45 + sg0 (sch eB1 37) + sg1 (sch eB1 50)) = _
  rw [es1_36, es1_45, es1_37, es1_50]
  kernel_rfl
theorem es1_53 : sch eB1 53 = 3256115900 := by
  rw [sch_hi _ _ (by decide)]
  show u32w (sch eB1 37 + sch eB1 46 + sg0 (sch eB1 38) + sg1 (sch eB1 51)) = _
  rw [es1_37, es1_46, es1_38, es1_51]
  kernel_rfl
theorem es1_54 : sch eB1 54 = 344409900 := by
  rw [sch_hi _ _ (by decide)]
  show u32w (sch eB1 38 + sch eB1 47 + sg0 (sch eB1 39) + sg1 (sch eB1 52)) = _
  rw [es1_38, es1_47, es1_39, es1_52]
  kernel_rfl
theorem es1_55 : sch eB1 55 = 2987358873 := by
  rw [sch_hi _ _ (by decide)]
  show u32w (sch eB1 39 + sch eB1 48 + sg0 (sch eB1 40) + sg1 (sch eB1 53)) = _
  rw [es1_39, es1_48, es1_40, es1_53]
  kernel_rfl
theorem es1_56 : sch eB1 56 = 4015503821 := by
  rw [sch_hi _ _ (by decide)]
  show u32w (sch eB1 40 + sch eB1 49 + sg0 (sch eB1 41) + sg1 (sch eB1 54)) = _
  rw [es1_40, es1_49, es1_41, es1_54]
  kernel_rfl
theorem es1_57 : sch eB1 57 = 3957764664 := by
  rw [sch_hi _ _ (by decide)]
  show u32w (sch eB1 41 + sch eB1 50 + sg0 (sch eB1 42) + sg1 (sch eB1 55)) = _
  rw [es1_41, es1_50, es1_42, es1_55]
  kernel_rfl
theorem es1_58 : sch eB1 58 = 2682456414 := by
  rw [sch_hi _ _ (by decide)]
  show u32w (sch eB1 42 + sch eB1 51 + sg0 (sch eB1 43) + sg1 (sch eB1 56)) = _
  rw [es1_42, es1_51, es1_43, es1_56]
  kernel_rfl
theorem es1_59 : sch eB1 59 = 2025622859 := by
  rw [sch_hi _ _ (by decide)]
  show u32w (sch eB1 43 + sch eB1 52 + sg0 (sch eB1 44) + sg1 (sch eB1 57)) = _
  rw [es1_43, es1_52, es1_44, es1_57]
  kernel_rfl
theorem es1_60 : sch eB1 60 = 2755645205 := by
  rw [sch_hi _ _ (by decide)]
  show u32w (sch eB1 44 + sch eB1 53 + sg0 (sch eB1 45) + sg1 (sch eB1 58)) = _
  rw [es1_44, es1_53, es1_45, es1_58]
  kernel_rfl
theorem es1_61 : sch eB1 61 = 1720397816 := by
  rw [sch_hi _ _ (by decide)]
  show u32w (sch eB1 45 + sch eB1 54 + sg0 (sch eB1 46) + sg1 (sch eB1 59)) = _
  rw [es1_45, es1_54, es1_46, es1_59]
  kernel_rfl
theorem es1_62 : sch eB1 62 = 4004225740 := by
  rw [sch_hi _ _ (by decide)]
  show u32w (sch eB1 46 + sch eB1 55 + sg0 (sch eB1 47) + sg1 (sch eB1 60)) = _
  rw [es1_46, es1_55, es1_47, es1_60]
  kernel_rfl
theorem es1_63 : sch eB1 63 = 313650667 := by
  rw [sch_hi _ _ (by decide)]
  show u32w (sch eB1 47 + sch eB1 56 + sg0 (sch eB1 48) + sg1 (sch eB1 61)) = _
  rw [es1_47, es1_56, es1_48, es1_61]
  kernel_rfl
theorem er1_0 : rnds iv0 (sch eB1) 0 = ⟨1779033703, 3144134277, 1013904242, 2773480762, 1359893119, 2600822924, 528734635, 1541459225⟩ := rfl
theorem er1_1 : rnds iv0 (sch eB1) 1 = ⟨1567288269, 1779033703, 3144134277, 1013904242, 4197074466, 1359893119, 2600822924, 528734635⟩ := by
  show stepW (kAt 0) (sch eB1 0) (rnds iv0 (sch eB1) 0) = _
  rw [er1_0, es1_0]
  kernel_rfl
theorem er1_2 : rnds iv0 (sch eB1) 2 = ⟨1516951981, 1567288269, 1779033703, 3144134277, 2026797449, 4197074466, 1359893119, 2600822924⟩ := by
  show stepW (kAt 1) (sch eB1 1) (rnds iv0 (sch eB1) 1) = _
  rw [er1_1, es1_1]
  kernel_rfl
theorem er1_3 : rnds iv0 (sch eB1) 3 = ⟨3368241063, 1516951981, 1567288269, 1779033703, 4180228587, 2026797449, 4197074466, 1359893119⟩ := by
  show stepW (kAt 2) (sch eB1 2) (rnds iv0 (sch eB1) 2) = _
  rw [er1_2, es1_2]
  kernel_rfl
theorem er1_4 : rnds iv0 (sch eB1) 4 = ⟨3578852966, 3368241063, 1516951981, 1567288269, 618661968, 4180228587, 2026797449, 4197074466⟩ := by
  show stepW (kAt 3) (sch eB1 3) (rnds iv0 (sch eB1) 3) = _
  rw [er1_3, es1_3]
  kernel_rfl
theorem er1_5 : rnds iv0 (sch eB1) 5 = ⟨71342698, 3578852966, 3368241063, 1516951981, 1135452741, 618661968, 4180228587, 2026797449⟩ := by
  show stepW (kAt 4) (sch eB1 4) (rnds iv0 (sch eB1) 4) = _
  rw [er1_4, es1_4]
  kernel_rfl
theorem er1_6 : rnds iv0 (sch eB1) 6 = ⟨725748213, 71342698, 3578852966, 3368241063, 1900175533, 1135452741, 618661968, 4180228587⟩ := by
  show stepW (kAt 5) (sch eB1 5) (rnds iv0 (sch eB1) 5) = _
  rw [er1_5, es1_5]
  kernel_rfl
theorem er1_7 : rnds iv0 (sch eB1) 7 = ⟨3842179968, 725748213, 71342698, 3578852966, 2603066369, 1900175533, 1135452741, 618661968⟩ := by
  show stepW (kAt 6) (sch eB1 6) (rnds iv0 (sch eB1) 6) = _
  rw [er1_6, es1_6]
  kernel_rfl
theorem er1_8 : rnds iv0 (sch eB1) 8 = ⟨2241887071, 3842179968, 725748213, 71342698, 207977081, 2603066369, 1900175533, 1135452741⟩ := by
  show stepW (kAt 7) (sch eB1 7) (rnds iv0 (sch eB1) 7) = _
  rw [er1_7, es1_7]
  kernel_rfl
theorem er1_9 : rnds iv0 (sch eB1) 9 = ⟨2382687417, 2241887071, 3842179968, 725748213, 852110732, 207977081, 2603066369, 1900175533⟩ := by
  show stepW (kAt 8) (sch eB1 8) (rnds iv0 (sch eB1) 8) = _
  rw [er1_8, es1_8]
  kernel_rfl
theorem er1_10 : rnds iv0 (sch eB1) 10 = ⟨2357671019, 2382687417, 2241887071, 3842179968, 482944406, 852110732, 207977081, 2603066369⟩ := by
  show stepW (kAt 9) (sch eB1 9) (rnds iv0 (sch eB1) 9) = _
  rw [er1_9, es1_9]
  kernel_rfl
theorem er1_11 : rnds iv0 (sch eB1) 11 = ⟨1201185780, 2357671019, 2382687417, 2241887071, 1131095016, 482944406, 852110732, 207977081⟩ := by
  show stepW (kAt 10) (sch eB1 10) (rnds iv0 (sch eB1) 10) = _
  rw [er1_10, es1_10]
  kernel_rfl
theorem er1_12 : rnds iv0 (sch eB1) 12 = ⟨4146054569, 1201185780, 2357671019, 2382687417, 2171590377, 1131095016, 482944406, 852110732⟩ := by
  show stepW (kAt 11) (sch eB1 11) (rnds iv0 (sch eB1) 11) = _
  rw [er1_11, es1_11]
  kernel_rfl
theorem er1_13 : rnds iv0 (sch eB1) 13 = ⟨2274437520, 4146054569, 1201185780, 2357671019, 509051416, 2171590377, 1131095016, 482944406⟩ := by
  show stepW (kAt 12) (sch eB1 12) (rnds iv0 (sch eB1) 12) = _
  rw [er1_12, es1_12]
  kernel_rfl
theorem er1_14 : rnds iv0 (sch eB1) 14 = ⟨3643992854, 2274437520, 4146054569, 1201185780, 1952073950, 509051416, 2171590377, 1131095016⟩ := by
  show stepW (kAt 13) (sch eB1 13) (rnds iv0 (sch eB1) 13) = _
  rw [er1_13, es1_13]
  kernel_rfl
theorem er1_15 : rnds iv0 (sch eB1) 15 = ⟨3227803614, 3643992854, 2274437520, 4146054569, 194179596, 1952073950, 509051416, 2171590377⟩ := by
  show stepW (kAt 14) (sch eB1 14) (rnds iv0 (sch eB1) 14) = _
  rw [er1_14, es1_14]
  kernel_rfl
theorem er1_16 : rnds iv0 (sch eB1) 16 = ⟨2969183118, 3227803614, 3643992854, 2274437520, 123276749, 194179596, 1952073950, 509051416⟩ := by
  show stepW (kAt 15) (sch eB1 15) (rnds iv0 (sch eB1) 15) = _
  rw [er1_15, es1_15]
  kernel_rfl
theorem er1_17 : rnds iv0 (sch eB1) 17 = ⟨567974555, 2969183118, 3227803614, 3643992854, 2150900380, 123276749, 194179596, 1952073950⟩ := by
  show stepW (kAt 16) (sch eB1 16) (rnds iv0 (sch eB1) 16) = _
  rw [er1_16, es1_16]
  kernel_rfl
theorem er1_18 : rnds iv0 (sch eB1) 18 = ⟨3271285201, 567974555, 2969183118, 3227803614, 2221859924, 2150900380, 123276749, 194179596⟩ := by
  show stepW (kAt 17) (sch eB1 17) (rnds iv0 (sch eB1) 17) = _
  rw [er1_17, es1_17]
  kernel_rfl
theorem er1_19 : rnds iv0 (sch eB1) 19 = ⟨4269243327, 3271285201, 567974555, 2969183118, 3431569761, 2221859924, 2150900380, 123276749⟩ := by
  show stepW (kAt 18) (sch eB1 18) (rnds iv0 (sch eB1) 18) = _
  rw [er1_18, es1_18]
  kernel_rfl
theorem er1_20 : rnds iv0 (sch eB1) 20 = ⟨3790736435, 4269243327, 3271285201, 567974555, 2959311225, 3431569761, 2221859924, 2150900380⟩ := by
  show stepW (kAt 19) (sch eB1 19) (rnds iv0 (sch eB1) 19) = _
  rw [er1_19, es1_19]
  kernel_rfl
theorem er1_21 : rnds iv0 (sch eB1) 21 = ⟨2647034723, 3790736435, 4269243327, 3271285201, 2329577776, 2959311225, 3431569761, 2221859924⟩ := by
  show stepW (kAt 20) (sch eB1 20) (rnds iv0 (sch eB1) 20) = _
  rw [er1_20, es1_20]
  kernel_rfl
theorem er1_22 : rnds iv0 (sch eB1) 22 = ⟨3261099373, 2647034723, 3790736435, 4269243327, 3777329520, 2329577776, 2959311225, 3431569761⟩ := by
  show stepW (kAt 21) (sch eB1 21) (rnds iv0 (sch eB1) 21) = _
  rw [er1_21, es1_21]
  kernel_rfl
theorem er1_23 : rnds iv0 (sch eB1) 23 = ⟨2812502591, 3261099373, 2647034723, 3790736435, 1240797514, 3777329520, 2329577776, 2959311225⟩ := by
  show stepW (kAt 22) (sch eB1 22) (rnds iv0 (sch eB1) 22) = _
  rw [er1_22, es1_22]
  kernel_rfl
theorem er1_24 : rnds iv0 (sch eB1) 24 = ⟨3319086477, 2812502591, 3261099373, 2647034723, 2856829767, 1240797514, 3777329520, 2329577776⟩ := by
  show stepW (kAt 23) (sch eB1 23) (rnds iv0 (sch eB1) 23) = _
  rw [er1_23, es1_23]
  kernel_rfl
theorem er1_25 : rnds iv0 (sch eB1) 25 = ⟨472655928, 3319086477, 2812502591, 3261099373, 673443729, 2856829767, 1240797514, 3777329520⟩ := by
  show stepW (kAt 24) (sch eB1 24) (rnds iv0 (sch eB1) 24) = _
  rw [er1_24, es1_24]
  kernel_rfl
theorem er1_26 : rnds iv0 (sch eB1) 26 = ⟨3454534525, 472655928, 3319086477, 2812502591, 339230094, 673443729, 2856829767, 1240797514⟩ := by
  show stepW (kAt 25) (sch eB1 25) (rnds iv0 (sch eB1) 25) = _
  rw [er1_25, es1_25]
  kernel_rfl
theorem er1_27 : rnds iv0 (sch eB1) 27 = ⟨3056518332, 3454534525, 472655928, 3319086477, 3343672598, 339230094, 673443729, 2856829767⟩ := by
  show stepW (kAt 26) (sch eB1 26) (rnds iv0 (sch eB1) 26) = _
  rw [er1_26, es1_26]
  kernel_rfl
theorem er1_28 : rnds iv0 (sch eB1) 28 = ⟨2010346792, 3056518332, 3454534525, 472655928, 3992961016, 3343672598, 339230094, 673443729⟩ := by
  show stepW (kAt 27) (sch eB1 27) (rnds iv0 (sch eB1) 27) = _
  rw [er1_27, es1_27]
  kernel_rfl
theorem er1_29 : rnds iv0 (sch eB1) 29 = ⟨909411017, 2010346792, 3056518332, 3454534525, 1628611511, 3992961016, 3343672598, 339230094⟩ := by
  show stepW (kAt 28) (sch eB1 28) (rnds iv0 (sch eB1) 28) = _
  rw [er1_28, es1_28]
  kernel_rfl
theorem er1_30 : rnds iv0 (sch eB1) 30 = ⟨2684750640, 909411017, 2010346792, 3056518332, 2917635127, 1628611511, 3992961016, 3343672598⟩ := by
  show stepW (kAt 29) (sch eB1 29) (rnds iv0 (sch eB1) 29) = _
  rw [er1_29, es1_29]
  kernel_rfl
theorem er1_31 : rnds iv0 (sch eB1) 31 = ⟨3935906338, 2684750640, 909411017, 2010346792, 17410874, 2917635127, 1628611511, 3992961016⟩ := by
  show stepW (kAt 30) (sch eB1 30) (rnds iv0 (sch eB1) 30) = _
  rw [er1_30, es1_30]
  kernel_rfl
theorem er1_32 : rnds iv0 (sch eB1) 32 = ⟨1941126133, 3935906338, 2684750640, 909411017, 3126399250, 17410874, 2917635127, 1628611511⟩ := by
  show stepW (kAt 31) (sch eB1 31) (rnds iv0 (sch eB1) 31) = _
  rw [er1_31, es1_31]
  kernel_rfl
theorem er1_33 : rnds iv0 (sch eB1) 33 = ⟨2564891911, 1941126133, 3935906338, 2684750640, 2631529974, 3126399250, 17410874, 2917635127⟩ := by
  show stepW (kAt 32) (sch eB1 32) (rnds iv0 (sch eB1) 32) = _
  rw [er1_32, es1_32]
  kernel_rfl
theorem er1_34 : rnds iv0 (sch eB1) 34 = ⟨4267724277, 2564891911, 1941126133, 3935906338, 1495571923, 2631529974, 3126399250, 17410874⟩ := by
  show stepW (kAt 33) (sch eB1 33) (rnds iv0 (sch eB1) 33) = _
  rw [er1_33, es1_33]
  kernel_rfl
theorem er1_35 : rnds iv0 (sch eB1) 35 = ⟨2846323596, 4267724277, 2564891911, 1941126133, 140458035, 1495571923, 2631529974, 3126399250⟩ := by
  show stepW (kAt 34) (sch eB1 34) (rnds iv0 (sch eB1) 34) = _
  rw [er1_34, es1_34]
  kernel_rfl
theorem er1_36 : rnds iv0 (sch eB1) 36 = ⟨1705037796, 2846323596, 4267724277, 2564891911, 4105175766, 140458035, 1495571923, 2631529974⟩ := by
  show stepW (kAt 35) (sch eB1 35) (rnds iv0 (sch eB1) 35) = _
  rw [er1_35, es1_35]
  kernel_rfl
theorem er1_37 : rnds iv0 (sch eB1) 37 = ⟨1101421745, 1705037796, 2846323596, 4267724277, 124953195, 4105175766, 140458035, 1495571923⟩ := by
  show stepW (kAt 36) (sch eB1 36) (rnds iv0 (sch eB1) 36) = _
  rw [er1_36, es1_36]
  kernel_rfl
theorem er1_38 : rnds iv0 (sch eB1) 38 = ⟨887035396, 1101421745, 1705037796, 2846323596, 2768741693, 124953195, 4105175766, 140458035⟩ := by
  show stepW (kAt 37) (sch eB1 37) (rnds iv0 (sch eB1) 37) = _
  rw [er1_37, es1_37]
  kernel_rfl
theorem er1_39 : rnds iv0 (sch eB1) 39 = ⟨1841658506, 887035396, 1101421745, 1705037796, 4034403272, 2768741693, 124953195, 4105175766⟩ := by
  show stepW (kAt 38) (sch eB1 38) (rnds iv0 (sch eB1) 38) = _
  rw [er1_38, es1_38]
  kernel_rfl
theorem er1_40 : rnds iv0 (sch eB1) 40 = ⟨2045405306, 1841658506, 887035396, 1101421745, 519815328, 4034403272, 2768741693, 124953195⟩ := by
  show stepW (kAt 39) (sch eB1 39) (rnds iv0 (sch eB1) 39) = _
  rw [er1_39, es1_39]
  kernel_rfl
theorem er1_41 : rnds iv0 (sch eB1) 41 = ⟨3597076326, 2045405306, 1841658506, 887035396, 641019235, 519815328, 4034403272, 2768741693⟩ := by
  show stepW (kAt 40) (sch eB1 40) (rnds iv0 (sch eB1) 40) = _
  rw [er1_40, es1_40]
  kernel_rfl
theorem er1_42 : rnds iv0 (sch eB1) 42 = ⟨3745932591, 3597076326, 2045405306, 1841658506, 2206934801, 641019235, 519815328, 4034403272⟩ := by
  show stepW (kAt 41) (sch eB1 41) (rnds iv0 (sch eB1) 41) = _
  rw [er1_41, es1_41]
  kernel_rfl
theorem er1_43 : rnds iv0 (sch eB1) 43 = ⟨397020670, 3745932591, 3597076326, 2045405306, 3737995029, 2206934801, 641019235, 519815328⟩ := by
  show stepW (kAt 42) (sch eB1 42) (rnds iv0 (sch eB1) 42) = _
  rw [er1_42, es1_42]
  kernel_rfl
theorem er1_44 : rnds iv0 (sch eB1) 44 = ⟨2638983059, 397020670, 3745932591, 3597076326, 4255271982, 3737995029, 2206934801, 641019235⟩ := by
  show stepW (kAt 43) (sch eB1 43) (rnds iv0 (sch eB1) 43) = _
  rw [er1_43, es1_43]
  kernel_rfl
theorem er1_45 : rnds iv0 (sch eB1) 45 = ⟨643991573, 2638983059, 397020670, 3745932591, 2819559920, 4255271982, 3737995029, 2206934801⟩ := by
  show stepW (kAt 44) (sch eB1 44) (rnds iv0 (sch eB1) 44) = _
  rw [er1_44, es1_44]
  kernel_rfl
theorem er1_46 : rnds iv0 (sch eB1) 46 = ⟨1923828625, 643991573, 2638983059, 397020670, 3077922209, 2819559920, 4255271982, 3737995029⟩ := by
  show stepW (kAt 45) (sch eB1 45) (rnds iv0 (sch eB1) 45) = _
  rw [er1_45, es1_45]
  kernel_rfl
theorem er1_47 : rnds iv0 (sch eB1) 47 = ⟨2706117808, 1923828625, 643991573, 2638983059, 3581645993, 3077922209, 2819559920, 4255271982⟩ := by
  show stepW (kAt 46) (sch eB1 46) (rnds iv0 (sch eB1) 46) = _
  rw [er1_46, es1_46]
  kernel_rfl
theorem er1_48 : rnds iv0 (sch eB1) 48 = ⟨1098003085, 2706117808, 1923828625, 643991573, 4274981830, 3581645993, 3077922209, 2819559920⟩ := by
  show stepW (kAt 47) (sch eB1 47) (rnds iv0 (sch eB1) 47) = _
  rw [er1_47, es1_47]
  kernel_rfl
theorem er1_49 : rnds iv0 (sch eB1) 49 = ⟨91585771, 1098003085, 2706117808, 1923828625, 3178315832, 4274981830, 3581645993, 3077922209⟩ := by
  show stepW (kAt 48) (sch eB1 48) (rnds iv0 (sch eB1) 48) = _
  rw [er1_48, es1_48]
  kernel_rfl
theorem er1_50 : rnds iv0 (sch eB1) 50 = ⟨4045142696, 91585771, 1098003085, 2706117808, 1851537676, 3178315832, 4274981830, 3581645993⟩ := by
  show stepW (kAt 49) (sch eB1 49) (rnds iv0 (sch eB1) 49) = _
  rw [er1_49, es1_49]
  kernel_rfl
theorem er1_51 : rnds iv0 (sch eB1) 51 = ⟨2047150241, 4045142696, 91585771, 1098003085, 1391578359, 1851537676, 3178315832, 4274981830⟩ := by
  show stepW (kAt 50) (sch eB1 50) (rnds iv0 (sch eB1) 50) = _
  rw [er1_50, es1_50]
  kernel_rfl
theorem er1_52 : rnds iv0 (sch eB1) 52 = ⟨2288941602, 2047150241, 4045142696, 91585771, 1227037726, 1391578359, 1851537676, 3178315832⟩ := by
  show stepW (kAt 51) (sch eB1 51) (rnds iv0 (sch eB1) 51) = _
  rw [er1_51, es1_51]
  kernel_rfl
theorem er1_53 : rnds iv0 (sch eB1) 53 = ⟨270520975, 2288941602, 2047150241, 4045142696, 1386118400, 1227037726, 1391578359, 1851537676⟩ := by
  show stepW (kAt 52) (sch eB1 52) (rnds iv0 (sch eB1) 52) = _
  rw [er1_52, es1_52]
  kernel_rfl
theorem er1_54 : rnds iv0 (sch eB1) 54 = ⟨4117770203, 270520975, 2288941602, 2047150241, 2672265155, 1386118400, 1227037726, 1391578359⟩ := by
  show stepW (kAt 53) (sch eB1 53) (rnds iv0 (sch eB1) 53) = _
  rw [er1_53, es1_53]
  kernel_rfl
theorem er1_55 : rnds iv0 (sch eB1) 55 = ⟨1053056219, 4117770203, 270520975, 2288941602, 3842906959, 2672265155, 1386118400, 1227037726⟩ := by
  show stepW (kAt 54) (sch eB1 54) (rnds iv0 (sch eB1) 54) = _
  rw [er1_54, es1_54]
  kernel_rfl
theorem er1_56 : rnds iv0 (sch eB1) 56 = ⟨952932627, 1053056219, 4117770203, 270520975, 1422599787, 3842906959, 2672265155, 1386118400⟩ := by
  show stepW (kAt 55) (sch eB1 55) (rnds iv0 (sch eB1) 55) = _
  rw [er1_55, es1_55]
  kernel_rfl
theorem er1_57 : rnds iv0 (sch eB1) 57 = ⟨4241590395, 952932627, 1053056219, 4117770203, 2606665836, 1422599787, 3842906959, 2672265155⟩ := by
  show stepW (kAt 56) (sch eB1 56) (rnds iv0 (sch eB1) 56) = _
  rw [er1_56, es1_56]
  kernel_rfl
theorem er1_58 : rnds iv0 (sch eB1) 58 = ⟨3227702383, 4241590395, 952932627, 1053056219, 2118385806, 2606665836, 1422599787, 3842906959⟩ := by
  show stepW (kAt 57) (sch eB1 57) (rnds iv0 (sch eB1) 57) = _
  rw [er1_57, es1_57]
  kernel_rfl
theorem er1_59 : rnds iv0 (sch eB1) 59 = ⟨4290184306, 3227702383, 4241590395, 952932627, 1837350854, 2118385806, 2606665836, 1422599787⟩ := by
  show stepW (kAt 58) (sch eB1 58) (rnds iv0 (sch eB1) 58) = _
  rw [er1_58, es1_58]
  kernel_rfl
theorem er1_60 : rnds iv0 (sch eB1) 60 = ⟨3064893439, 4290184306, 3227702383, 4241590395, 2988158269, 1837350854, 2118385806, 2606665836⟩ := by
  show stepW (kAt 59) (sch eB1 59) (rnds iv0 (sch eB1) 59) = _
  rw [er1_59, es1_59]
  kernel_rfl
theorem er1_61 : rnds iv0 (sch eB1) 61 = ⟨3093179625, 3064893439, 4290184306, 3227702383, 2518632596, 2988158269, 1837350854, 2118385806⟩ := by
  show stepW (kAt 60) (sch eB1 60) (rnds iv0 (sch eB1) 60) = _
  rw [er1_60, es1_60]
  kernel_rfl
theorem er1_62 : rnds iv0 (sch eB1) 62 = ⟨80891244, 3093179625, 3064893439, 4290184306, 2492278198, 2518632596, 2988158269, 1837350854⟩ := by
  show stepW (kAt 61) (sch eB1 61) (rnds iv0 (sch eB1) 61) = _
  rw [er1_61, es1_61]
  kernel_rfl
theorem er1_63 : rnds iv0 (sch eB1) 63 = ⟨3550093669, 80891244, 3093179625, 3064893439, 4212265488, 2492278198, 2518632596, 2988158269⟩ := by
  show stepW (kAt 62) (sch eB1 62) (rnds iv0 (sch eB1) 62) = _
  rw [er1_62, es1_62]
  kernel_rfl
theorem er1_64 : rnds iv0 (sch eB1) 64 = ⟨1349398616, 3550093669, 80891244, 3093179625, 1593118500, 4212265488, 2492278198, 2518632596⟩ := by
  show stepW (kAt 63) (sch eB1 63) (rnds iv0 (sch eB1) 63) = _
  rw [er1_63, es1_63]
  kernel_rfl
theorem ec1 : comp iv0 eB1 = ⟨3128432319, 2399260650, 1094795486, 1571693091, 2953011619, 2518121116, 3021012833, 4060091821⟩ := by
  unfold comp
  rw [er1_64]
  kernel_rfl
theorem ep1 : padded [97, 98, 99] 3 = eL1 := by kernel_rfl
theorem sha1 : sha [97, 98, 99] = [186, 120, 22, 191, 143, 1, 207, 234, 65, 65, 64, 222, 93, 174, 34, 35, 176, 3, 97, 163, 150, 23, 122, 156, 180, 16, 255, 97, 242, 0, 21, 173] := by
  unfold sha
  show outL (feed iv0 (padded [97, 98, 99] 3)).1 = _
  rw [ep1, feed_big iv0 eL1 (by decide)]
  show outL (feed (comp iv0 eB1) []).1 = _
  rw [ec1, feed_small _ _ (by decide)]
  kernel_rfl
end Go.Proofs.YteggcfcjajpcgaaDoor
