/- Walk: DigestPieces. -/
import Derived.Test.YtbjgidgohekaaaaDoorDgPb
import Derived.Lib.SlBytesConst
set_option linter.unusedVariables false
set_option linter.unusedSimpArgs false
namespace Go.Proofs.YtbjgidgohekaaaaDoor
open Go Go.RowKit
section
variable {σ w w' : World} {Hs : List Hp} {H M N : Hp}
theorem sl_get {A : Option Addr} {n c : Nat} {ls : List (List Int)} (hs : (Kd.sl kB).IsSl H (.slice A n c) ls) {j : Nat} (hj : j < ls.length) : ∃ b off A' c', A = some ⟨b, off, none⟩ ∧ Hp.cell H b (off + j) = some (.slice A' ls[j].length c') ∧ kB.IsSl H (.slice A' ls[j].length c') ls[j] := by
  obtain ⟨b', off', cs', e, hcs, hcell⟩ := hs.get j _ (List.getElem?_eq_getElem hj)
  obtain ⟨rv, rfl, hrv⟩ := hcs
  obtain ⟨A', c', rfl, _⟩ := id hrv.form
  exact ⟨b', off', A', c', e, by simpa [Kd.sl] using hcell 0 _ rfl, hrv⟩
theorem lit_a (b : Nat) (x : Int) (t : TypeId) (fr : Nat × Nat) : kB.IsSl (Hp.one b (.cells #[.int .u8 x] t fr)) (.slice (some ⟨b, 0, none⟩) 1 1) [x] :=
  ⟨_, _, rfl, by simp, by omega, fun _ => ⟨b, 0, _, rfl, ⟨_, _, rfl, rfl, rfl⟩, fun j v hv => by unfold Hp.cell Hp.one; rw [if_pos rfl]; match j with | 0 => simpa using hv | j + 1 => simp [Kd.int] at hv⟩⟩
theorem take_flat {ls : List (List Int)} {k : Nat} (hk : k < ls.length) : (ls.take (k + 1)).flatten = (ls.take k).flatten ++ ls[k] := by
  rw [List.take_succ_eq_append_getElem hk, List.flatten_append]; simp
theorem take_flat_le (ls : List (List Int)) (k : Nat) : (ls.take k).flatten.length ≤ ls.flatten.length := by
  have h : (ls.take k).flatten.length + (ls.drop k).flatten.length = ls.flatten.length := by
    rw [← List.length_append, ← List.flatten_append, List.take_append_drop]
  omega
theorem get_flat_le {ls : List (List Int)} {k : Nat} (hk : k < ls.length) : ls[k].length ≤ ls.flatten.length := by
  have h := take_flat_le ls (k + 1)
  rw [take_flat hk, List.length_append] at h
  omega
set_option maxRecDepth 100000 in
set_option maxHeartbeats 4000000 in
theorem pieces_any (v : Value) (ls : List (List Int)) (w : World) (hw : Sat σ w Hs) (hH : H ∈ Hs) (hs : (Kd.sl kB).IsSl H v ls) (hl : ls.flatten.length ≤ 1000000000) (hn : ls.length ≤ 1000000000)
    (hk0 : H 0 = some (.cells kV 58 (0, 0))) :
    Calls Tryd.prog 4 #[v] w fun e w' => e = .returned (.bool true) ∧ Sat σ w' Hs := by
  obtain ⟨A, c, rfl, hc1, hc2, _⟩ := id hs.form
  have HK := Lib.hid hk0; have HSL := Lib.hid hs; have HL := Lib.hid hl
  have heq : ∀ (l : List Int) (w : World), (Op.equalIn 10000 24 (.agg (outV (sha l))) (.agg (outV (sha l)))).run Tryd.prog w = .ok true w := fun l w =>
    run_eq_arr 24 5 32 9998 _ w Tryd.underlying24 Tryd.underlying5 (by kernel_rfl) (fun i hi => ⟨_, outV_get _ i (by rw [sha_length]; exact hi)⟩)
  have HEQ := Lib.hid heq
  clear hk0 hl hs heq
  have kc := fun (w : World) (C : Array Value) (n c : Nat) => Lib.run_convert_bytes_const (P := Tryd.prog) w 28 5 C n c Tryd.underlying28 Tryd.underlying5
  go_enter Tryd.func4, Tryd.ntmps4
  go_wp2_with fail
  refine (works_any w (hw.blk (H := H) hH HK.out)).mono ?_
  rintro e w1 ⟨rfl, hb1⟩
  have hw1 := hw.below hb1
  clear hw hb1
  go_wp2_with fail
  refine (dig_new w1 hw1).mono ?_
  rintro e w2 ⟨g, M, rfl, hw2, hD⟩
  clear hw1 w1
  go_wp2
  go_loopw [4, 5, 6] (fun i _ _ wr => ∃ (k : Nat) (M : Hp), k ≤ ls.length ∧ i = .int .i64 k ∧ Sat σ wr (M :: Hs) ∧ DigP M g (ls.take k).flatten) (fun i _ _ _ => ls.length - (intOf i).toNat)
  case atStart => exact ⟨0, M, by omega, rfl, hw2, hD⟩
  case round =>
    obtain ⟨k, M1, hk, rfl, hwr, hD1⟩ := hrel
    clear hw2 hD
    by_cases hlt : k < ls.length
    · obtain ⟨b, off, A', c', rfl, hce, hsk⟩ := sl_get HSL.out hlt
      have hcell := hwr.cellAt (List.mem_cons_of_mem _ hH) hce
      have hki : (k : Int) < ls.length := by omega
      have hlen := get_flat_le hlt
      generalize hxe : ls[k] = x at *
      have hl2 := HL.out
      go_wp2_with fail
      refine (bytes_piece hsk hwr (List.mem_cons_of_mem _ hH) (by omega)).mono ?_
      rintro e w3 ⟨Ab, cb, N, rfl, hw3, hO⟩
      clear hcell hwr hce hsk
      have HO := Lib.hid hO
      have hsl : kB.IsSl N (.slice Ab x.length cb) x := hO.isSl (d := kB) (reps_ints x) rfl (Hp.le_refl _)
      clear hO
      go_wp2_with fail
      refine (hD1.add hw3.swap (by simp) hsl (by omega) (H := H) (by simp [hH]) HK.out).mono ?_
      rintro e w4 ⟨rfl, M2, hw4, hD2⟩
      have HD2 := Lib.hid hD2
      clear hD1 hw3 hsl hD2
      go_wp2
      go_loopw [6] (fun j wr => ∃ (q : Nat) (N' : Hp), q ≤ x.length ∧ j = .int .i64 q ∧ Sat σ wr (N' :: M2 :: Hs) ∧ Eager (0 < x.length → ∃ g, Ab = some ⟨g, 0, none⟩ ∧ Bytes1 N' g 5 x.length)) (fun j _ => x.length - (intOf j).toNat)
      case atStart => exact ⟨0, N, by omega, rfl, hw4.swap, ⟨fun h0 => by obtain ⟨g, c, e, hB⟩ := own_bytes1 HO.out h0; injection e with e; exact ⟨g, e, hB⟩⟩⟩
      case round =>
        obtain ⟨j, G1, hj, rfl, hwl, hb⟩ := hrel
        clear hw4
        by_cases hjl : j < x.length
        · obtain ⟨g2, rfl, hB⟩ := hb.out (by omega)
          obtain ⟨z, hc, hset⟩ := bytes1_set hB hwl j (by omega)
          obtain ⟨cs, hg, _⟩ := hB.out
          have f0 := heap_free (hwl.le g2 _ hg) j
          have HSET := Lib.hid hset
          have hji : (j : Int) < x.length := by omega
          clear hset hg hB hb
          go_wp2
          obtain ⟨G2, h1, h2⟩ := HSET.out 77
          exact ⟨⟨j + 1, G2, by omega, by go_num, h1, ⟨fun _ => ⟨g2, rfl, h2⟩⟩⟩, by simp [intOf]; omega⟩
        · obtain rfl : j = x.length := by omega
          have hL := hwl.drop
          clear hwl hb
          generalize hw7 : wr = w7 at *
          clear hw7
          have hki1 : (0 : Int) ≤ (k : Int) + 1 := by omega
          have hki2 : (k : Int) + 1 ≤ ls.length := by omega
          have hkc : (k : Int) + 1 ≤ c := by omega
          have hkw : IntKind.i64.wrap ((k : Int) + 1) = (k : Int) + 1 := by simp [IntKind.wrap, IntKind.bits, IntKind.signed]; omega
          have HS1 : Hid (∀ w', Sat σ w' (M2 :: Hs) → Calls Tryd.prog 16 #[.pointer (some ⟨g, 0, none⟩)] w' fun e w2 => e = .returned (.agg (outV (sha ((ls.take k).flatten ++ x)))) ∧ Sat σ w2 (M2 :: Hs)) := Lib.hid (fun w' h => HD2.out.sum (H := H) h (by simp) (by simp [hH]) HK.out)
          have HR1 : Hid (∀ w' A' n' c', (Kd.sl kB).IsSl H (.slice A' n' c') (ls.take (k + 1)) → Sat σ w' (M2 :: Hs) → Calls Tryd.prog 10 #[.slice A' n' c'] w' fun e w2 => e = .returned (.agg (outV (sha ((ls.take k).flatten ++ x)))) ∧ Sat σ w2 (M2 :: Hs)) :=
            Lib.hid (fun w' A' n' c' hs h => by
              have hfl := take_flat hlt
              rw [hxe] at hfl
              rw [← hfl]
              exact rsum_sat hs h (by simp [hH]) (Nat.le_trans (take_flat_le _ _) HL.out))
          have HCUT : Hid ((Kd.sl kB).IsSl H (.slice (some ⟨b, off, none⟩) (k + 1) c) (ls.take (k + 1))) := Lib.hid (by
            have h := HSL.out.cut 0 (k + 1) (by omega) (by omega) c (by omega) hc2 (some ⟨b, off, none⟩) (fun _ => by simp [Addr.add])
            simpa using h)
          have heq := HEQ.out ((ls.take k).flatten ++ x)
          generalize outV (sha ((ls.take k).flatten ++ x)) = d1 at *
          go_wp2
          go_region_held3 (fun w' => True)
            (first | exact trivial)
            (first
              | (go_at_call 16; refine (HS1.out _ hw4).mono ?_; rintro e w5 ⟨rfl, hw5⟩)
              | (go_at_call 16; refine (HS1.out _ hw3).mono ?_; rintro e w4 ⟨rfl, hw4⟩)
              | (go_at_call 10; refine (HR1.out _ _ _ _ HCUT.out hw2).mono ?_; rintro e w3 ⟨rfl, hw3⟩)
              | (go_at_call 16; refine (HS1.out _ hL.drew).mono ?_; rintro e w2 ⟨rfl, hw2⟩)
              | (go_at_call 10; refine (HR1.out _ _ _ _ HCUT.out hL.drew).mono ?_; rintro e w2 ⟨rfl, hw2⟩))
          all_goals (
            go_wp2
            go_roundw
            case measure => simp [intOf]; omega
            case rel => exact ⟨k + 1, M2, by omega, by go_num, hw5, by rw [take_flat hlt, hxe]; exact HD2.out⟩)
    · obtain rfl : k = ls.length := by omega
      rw [List.take_length] at hD1
      have HS1 : Hid (∀ w' Hs', Sat σ w' Hs' → M1 ∈ Hs' → H ∈ Hs' → Calls Tryd.prog 16 #[.pointer (some ⟨g, 0, none⟩)] w' fun e w2 => e = .returned (.agg (outV (sha ls.flatten))) ∧ Sat σ w2 Hs') := Lib.hid (fun w' Hs' h hm hh => hD1.sum (H := H) h hm hh HK.out)
      have HR1 : Hid (∀ w' Hs', Sat σ w' Hs' → H ∈ Hs' → Calls Tryd.prog 10 #[.slice A ls.length c] w' fun e w2 => e = .returned (.agg (outV (sha ls.flatten))) ∧ Sat σ w2 Hs') := Lib.hid (fun w' Hs' h hh => rsum_sat HSL.out h hh HL.out)
      have heq := HEQ.out ls.flatten
      have hz0 : outV (List.replicate 32 0) = #[.int .u8 0, .int .u8 0, .int .u8 0, .int .u8 0, .int .u8 0, .int .u8 0, .int .u8 0, .int .u8 0, .int .u8 0, .int .u8 0, .int .u8 0, .int .u8 0, .int .u8 0, .int .u8 0, .int .u8 0, .int .u8 0, .int .u8 0, .int .u8 0, .int .u8 0, .int .u8 0, .int .u8 0, .int .u8 0, .int .u8 0, .int .u8 0, .int .u8 0, .int .u8 0, .int .u8 0, .int .u8 0, .int .u8 0, .int .u8 0, .int .u8 0, .int .u8 0] := by rfl
      have hez : ∀ w : World, (Op.equalIn 10000 24 (.agg #[.int .u8 0, .int .u8 0, .int .u8 0, .int .u8 0, .int .u8 0, .int .u8 0, .int .u8 0, .int .u8 0, .int .u8 0, .int .u8 0, .int .u8 0, .int .u8 0, .int .u8 0, .int .u8 0, .int .u8 0, .int .u8 0, .int .u8 0, .int .u8 0, .int .u8 0, .int .u8 0, .int .u8 0, .int .u8 0, .int .u8 0, .int .u8 0, .int .u8 0, .int .u8 0, .int .u8 0, .int .u8 0, .int .u8 0, .int .u8 0, .int .u8 0, .int .u8 0]) (.agg #[.int .u8 0, .int .u8 0, .int .u8 0, .int .u8 0, .int .u8 0, .int .u8 0, .int .u8 0, .int .u8 0, .int .u8 0, .int .u8 0, .int .u8 0, .int .u8 0, .int .u8 0, .int .u8 0, .int .u8 0, .int .u8 0, .int .u8 0, .int .u8 0, .int .u8 0, .int .u8 0, .int .u8 0, .int .u8 0, .int .u8 0, .int .u8 0, .int .u8 0, .int .u8 0, .int .u8 0, .int .u8 0, .int .u8 0, .int .u8 0, .int .u8 0, .int .u8 0])).run Tryd.prog w = .ok true w := fun w =>
        run_eq_arr 24 5 32 9998 #[.int .u8 0, .int .u8 0, .int .u8 0, .int .u8 0, .int .u8 0, .int .u8 0, .int .u8 0, .int .u8 0, .int .u8 0, .int .u8 0, .int .u8 0, .int .u8 0, .int .u8 0, .int .u8 0, .int .u8 0, .int .u8 0, .int .u8 0, .int .u8 0, .int .u8 0, .int .u8 0, .int .u8 0, .int .u8 0, .int .u8 0, .int .u8 0, .int .u8 0, .int .u8 0, .int .u8 0, .int .u8 0, .int .u8 0, .int .u8 0, .int .u8 0, .int .u8 0] w Tryd.underlying24 Tryd.underlying5 (by kernel_rfl) (fun i hi => ⟨_, hz0 ▸ zeros_at i hi⟩)
      have HZ0 := Lib.hid hz0
      clear hz0
      generalize outV (sha ls.flatten) = d1 at *
      have hw1 := hwr.alloc (.cells #[.int .u32 0, .int .u32 0, .int .u32 0, .int .u32 0, .int .u32 0, .int .u32 0, .int .u32 0, .int .u32 0, .slice none 0 0, .int .u64 0, .bool false] 41)
      have hsz : (wr.alloc (.cells #[.int .u32 0, .int .u32 0, .int .u32 0, .int .u32 0, .int .u32 0, .int .u32 0, .int .u32 0, .int .u32 0, .slice none 0 0, .int .u64 0, .bool false] 41)).heap.size = wr.heap.size + 1 := by simp
      have kc2 := kc (wr.alloc (.cells #[.int .u32 0, .int .u32 0, .int .u32 0, .int .u32 0, .int .u32 0, .int .u32 0, .int .u32 0, .int .u32 0, .slice none 0 0, .int .u64 0, .bool false] 41))
      simp only [hsz] at kc2
      clear hsz
      clear hD1 hwr
      go_wp2_with fail
      have hwa := hw1.alloc (.cells #[.int .u8 97] 5 (1, 2))
      refine (add_zero _ _ _ _ _ (hwa.drop.one_cell rfl)).mono ?_
      rintro e w3 ⟨rfl, rfl⟩
      have hwb := hwa.drop
      generalize hW : World.alloc (World.alloc _ _) _ = w4 at *
      clear hW hw1 hwa kc2
      generalize wr.heap.size = zb at *
      go_wp2_with fail
      refine (add_nil _ _ _ _).mono ?_
      rintro e w3 ⟨rfl, rfl⟩
      have hwc := (hwb.alloc (.cells #[.int .u8 97] 5 (1, 2))).drop
      generalize hW : World.alloc _ _ = w5 at *
      clear hW hwb
      go_wp2_with fail
      refine (HS1.out _ _ hwc (by simp) (by simp [hH])).mono ?_
      rintro e w6 ⟨rfl, hwd⟩
      clear hwc
      go_wp2_with fail
      refine (HR1.out _ _ hwd (by simp [hH])).mono ?_
      rintro e w7 ⟨rfl, hwe⟩
      clear hwd
      go_wp2_with fail
      refine (sum_zero _ _ hwe (hwe.one_cell rfl)).mono ?_
      rintro e w8 ⟨he, hwf⟩
      rw [HZ0.out] at he
      subst he
      clear hwe
      go_wp2_with fail
      refine (sum_nil _ hwf).mono ?_
      rintro e w9 ⟨he, hwg⟩
      rw [HZ0.out] at he
      subst he
      clear hwf
      go_wp2
      go_ret
      exact ⟨rfl, hwg.drop.drop⟩
end
end Go.Proofs.YtbjgidgohekaaaaDoor
