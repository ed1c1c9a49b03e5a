/- Walk: NamesKeeps. -/
import Derived.Test.YthofnhmehpdnbaaNL2
set_option linter.unusedVariables false
namespace Go.Proofs.Ythofnhmehpdnbaa
open Go.RowKit
set_option maxHeartbeats 4000000
theorem valid_cases (s : ByteArray) : (validB s = true ∧ s.toList.isEmpty = false ∧ s.size ≤ 253) ∨ (validB s = false ∧ s.toList.isEmpty = true) ∨ (validB s = false ∧ s.toList.isEmpty = false ∧ 253 < s.size) := by
  unfold validB
  cases h : s.toList.isEmpty
  · by_cases h2 : s.size ≤ 253
    · exact .inl ⟨by simp [h2], rfl, h2⟩
    · exact .inr (.inr ⟨by simp [h2], rfl, by omega⟩)
  · exact .inr (.inl ⟨by simp, rfl⟩)
section
variable {σ : World} {Hs : List Hp} {H M N : Hp}
set_option maxRecDepth 100000 in
theorem keeps_any (now0 ttl0 later0 : Int) (v : Value) (xs : List ByteArray) (w : World) (hw : Sat σ w Hs) (hH : H ∈ Hs) (hs : Kd.str.IsSl H v xs) (hok : ∀ a ∈ xs, a.size ≤ 9223372036854775807) :
    Calls Try.prog 4 #[v, .int .i64 now0, .int .i64 ttl0, .int .i64 later0] w fun e w' => e = .returned (.bool true) ∧ Sat σ w' Hs := by
  obtain ⟨A, c, rfl, hc1, hc2, _⟩ := hs.form
  have hr1 := amongI_range now0 1000 (by omega)
  have hr2 := amongI_range ttl0 1000 (by omega)
  have hr3 := amongI_range later0 2000 (by omega)
  go_enter Try.func4, Try.ntmps4
  go_wp2_with fail
  refine (works_any w hw).mono ?_
  rintro e w1 ⟨rfl, hw1⟩
  go_wp2_with (go_at_call 10; refine (among_any _ _ _ (by omega) (by omega)).mono ?_; rintro e w2 ⟨rfl, rfl⟩)
  all_goals generalize amongI now0 1000 = nw at *
  all_goals generalize amongI ttl0 1000 = q at *
  all_goals generalize amongI later0 2000 = q2 at *
  all_goals have hr1' := hr1
  · obtain ⟨ys, hys0⟩ : ∃ ys, ys = xs.take 30 := ⟨_, rfl⟩
    have h30 : 30 < xs.length := by omega
    have HN : Hid (30 = ys.length) := Lib.hid (by rw [hys0, List.length_take]; omega)
    have hys : Kd.str.IsSl H (.slice A 30 c) ys := by
      have := hs.cut 0 30 (by omega) (by omega) c (by omega) hc2 A (fun _ => by cases A <;> simp [Addr.add])
      rw [hys0]; simpa using this
    have HOK : Hid (∀ a ∈ ys, a.size ≤ 9223372036854775807) := Lib.hid (fun a ha => hok a (by rw [hys0] at ha; exact List.mem_of_mem_take ha))
    clear hys0 hs hok
    clear hr1
    have hnw : 0 ≤ nw ∧ nw < 1000 := hr1'
    have ht : 1 ≤ 1 + q ∧ 1 + q ≤ 1000 := by omega
    refine (new_any _ w1 hw1 (by omega) (by omega)).mono ?_
    rintro e w2 ⟨b, M, rfl, hw2, hT⟩
    have hT0 : TabRep M b (kpF ys nw (1 + q) 0) := by
      have : ((30 : Int) : Int).toNat = ys.length := by have := HN.out; omega
      rw [this] at hT
      exact hT
    clear hw hw1 hT
    go_wp2
    go_loopw [11, 12] (fun i _ wr => ∃ (k : Nat) (M : Hp), k ≤ 30 ∧ i = .int .i64 k ∧ Sat σ wr (M :: Hs) ∧ TabRep M b (kpF ys nw (1 + q) k)) (fun i _ _ => 30 - (intOf i).toNat)
    case atStart => exact ⟨0, M, by omega, rfl, hw2, hT0⟩
    case round =>
      obtain ⟨k, M1, hk, rfl, hwr, hTr⟩ := hrel
      clear hw2 hT0
      by_cases hlt : k < 30
      · obtain ⟨gb, off, c', s, hs, hv, e0⟩ := str_get hys (k := k) (by have := HN.out; omega)
        injection hv with hv1 hv2 hv3
        subst hv1; subst hv3; clear hv2
        have hHM : H ∈ M1 :: Hs := by simp [hH]
        have c0 := hwr.cellAt hHM e0
        have hgl : gb < wr.heap.size := World.block_lt_of_cell? wr _ c0
        have hss := HOK.out s (List.mem_of_getElem? hs)
        have HSTEP : Hid (kpF ys nw (1 + q) (k + 1) = putR (kpF ys nw (1 + q) k) nw s [⟨0, 0, 0, (k : Int)⟩] (1 + q)) := Lib.hid (by simp only [kpF, hs]; rw [show (k : Int) % 256 = k by omega])
        have hcode := keeps_code (now := nw) (ttl := 1 + q) hnw ht (kpF ys nw (1 + q) k) s (by rw [kpF_len]; have := HN.out; omega)
        have HPUT : Hid (∀ w' Hs' Ha v, Sat σ w' (M1 :: Hs') → Ha ∈ Hs' → kAd.IsSl Ha v [⟨0, 0, 0, (k : Int)⟩] → Calls Try.prog 11 #[.pointer (some ⟨b, 0, none⟩), .int .i64 nw, .string s, v, .int .i64 (1 + q)] w' (PutP σ Hs' b (if validB s then 0 else 2) (kpF ys nw (1 + q) (k + 1)))) :=
          Lib.hid (fun w' Hs' Ha v h hm hv => by
            have := put_any b _ nw (1 + q) s v _ w' h hTr hm hv (by omega)
            rw [show ([⟨0, 0, 0, (k : Int)⟩] : List Ad).length = 1 from rfl, hcode, ← HSTEP.out] at this
            exact this)
        have HE0 := Lib.hid e0
        clear e0 hs hTr hcode HSTEP hys
        have hki : (k : Int) < (30 : Int) := by omega
        go_wp2_with fail
        have hwa := hwr.alloc (.cells #[.int .u8 0, .int .u8 0, .int .u8 0, .int .u8 ((k : Int))] 39)
        refine (HPUT.out _ _ (Hp.one wr.heap.size _) _ hwa.swap (by exact List.mem_cons_self) ((own_lit _ _ _ 4 1 (by rfl) (by omega)).isSl (d := kAd) (xs := [⟨0, 0, 0, (k : Int)⟩]) ⟨_, [], rfl, ⟨_, _, rfl, rfl, _, _, rfl, rfl, _, _, rfl, rfl, rfl⟩, rfl⟩ rfl (Hp.le_refl _))).mono ?_
        rintro e w3 ⟨rfl, M3, hw3, hT3⟩
        have d0 := hw3.cellAt (H := H) (by simp [hH]) HE0.out
        have hsat := hw3.drop1
        clear hwr c0 hgl HPUT hHM hwa hw3
        rcases valid_cases s with ⟨hvb, hs1, hs2⟩ | ⟨hvb, hs1⟩ | ⟨hvb, hs1, hs2⟩
        · rw [hvb, if_pos rfl]
          have hd1 : decide ((s.size : Int) ≤ 253) = true := by simp; omega
          clear hvb
          go_wp2
          exact ⟨⟨k + 1, M3, by omega, by go_num, hsat, hT3⟩, by simp [intOf]; omega⟩
        · rw [hvb, if_neg (by simp)]
          clear hvb
          go_wp2
          go_roundw
          case measure => simp [intOf]; omega
          case rel => exact ⟨k + 1, M3, by omega, by go_num, hsat, hT3⟩
        · rw [hvb, if_neg (by simp)]
          clear hvb
          go_wp2
          go_roundw
          case measure => simp [intOf]; omega
          case rel => exact ⟨k + 1, M3, by omega, by go_num, hsat, hT3⟩
      · have hkn : k = ys.length := by have := HN.out; omega
        subst hkn
        have HG : Hid (∀ w' Hs' s, Sat σ w' (M1 :: Hs') → Calls Try.prog 12 #[.pointer (some ⟨b, 0, none⟩), .int .i64 (nw + q2), .string s] w' (GetPost σ Hs' M1 (getT (kpF ys nw (1 + q) ys.length) (nw + q2) s))) :=
          Lib.hid (fun w' Hs' s h => get_any b _ _ s w' h hTr)
        have HTELL := Lib.hid (fun j s hs => keeps_tells hnw ht ys (nw + q2) (by omega) j s hs)
        clear hTr
        go_wp2
        go_loopw [13, 14, 15, 16, 17] (fun i _ _ _ _ wr => ∃ (k : Nat), k ≤ 30 ∧ i = .int .i64 k ∧ Sat σ wr (M1 :: Hs)) (fun i _ _ _ _ _ => 30 - (intOf i).toNat)
        case atStart => exact ⟨0, by omega, rfl, hwr⟩
        case round =>
          obtain ⟨k, hk, rfl, hwr⟩ := hrel
          by_cases hlt : k < 30
          · obtain ⟨gb, off, c', s, hs, hv, e0⟩ := str_get hys (k := k) (by have := HN.out; omega)
            injection hv with hv1 hv2 hv3
            subst hv1; subst hv3; clear hv2
            have c0 := hwr.cellAt (H := H) (by simp [hH]) e0
            have hss := HOK.out s (List.mem_of_getElem? hs)
            have HT := Lib.hid (HTELL.out k s hs)
            have HE0 := Lib.hid e0
            have hki : (k : Int) < (30 : Int) := by omega
            clear e0 hs hys
            go_wp2_with fail
            refine (HG.out _ _ _ hwr).mono ?_
            rintro e w3 ⟨gv, N, rfl, hw3, hgv⟩
            have d0 := hw3.cellAt (H := H) (by simp [hH]) HE0.out
            have hsat := hw3.drop
            clear hwr c0 hw3
            have w1' : IntKind.i64.wrap (nw + (1 + q)) = nw + (1 + q) := IntWalk.i64_in _ (by omega)
            have w2' : IntKind.i64.wrap (nw + (1 + q) - (nw + q2)) = nw + (1 + q) - (nw + q2) := IntWalk.i64_in _ (by omega)
            rcases HT.out with ⟨⟨hvb, hlat⟩, a, hgt⟩ | ⟨hno, hgt⟩
            · rw [hgt]
              obtain ⟨hs1, hs2⟩ : s.toList.isEmpty = false ∧ s.size ≤ 253 := by
                rcases valid_cases s with ⟨h1, h2, h3⟩ | ⟨h1, h2⟩ | ⟨h1, h2, h3⟩
                · exact ⟨h2, h3⟩
                · rw [hvb] at h1; cases h1
                · rw [hvb] at h1; cases h1
              have hd1 : decide ((s.size : Int) ≤ 253) = true := by simp; omega
              have hz1 : ((nw + (1 + q) - (nw + q2)) != (nw + (1 + q) - (nw + q2))) = false := by simp
              clear hgt hvb hgv
              go_wp2
              go_roundw
              case measure => simp [intOf]; omega
              case rel => exact ⟨k + 1, by omega, by go_num, hsat⟩
            · rw [hgt]
              clear hgt hgv
              by_cases hlat : nw + q2 < nw + (1 + q)
              · rcases valid_cases s with ⟨h1, h2, h3⟩ | ⟨h1, h2⟩ | ⟨h1, h2, h3⟩
                · exact absurd ⟨h1, hlat⟩ hno
                · clear hno h1
                  go_wp2
                  go_roundw
                  case measure => simp [intOf]; omega
                  case rel => exact ⟨k + 1, by omega, by go_num, hsat⟩
                · clear hno h1
                  go_wp2
                  go_roundw
                  case measure => simp [intOf]; omega
                  case rel => exact ⟨k + 1, by omega, by go_num, hsat⟩
              · clear hno
                go_wp2
                go_roundw
                case measure => simp [intOf]; omega
                case rel => exact ⟨k + 1, by omega, by go_num, hsat⟩
          · go_wp2
            go_ret
            exact ⟨rfl, hwr.drop⟩
  · obtain ⟨ys, rfl⟩ : ∃ ys, ys = xs := ⟨_, rfl⟩
    have h30 : ys.length ≤ 30 := by omega
    have HN : Hid (ys.length = ys.length) := Lib.hid rfl
    have hys := hs
    have HOK := Lib.hid hok
    clear hs hok
    clear hr1
    have hnw : 0 ≤ nw ∧ nw < 1000 := hr1'
    have ht : 1 ≤ 1 + q ∧ 1 + q ≤ 1000 := by omega
    refine (new_any _ w1 hw1 (by omega) (by omega)).mono ?_
    rintro e w2 ⟨b, M, rfl, hw2, hT⟩
    have hT0 : TabRep M b (kpF ys nw (1 + q) 0) := by
      have : ((ys.length : Int) : Int).toNat = ys.length := by have := HN.out; omega
      rw [this] at hT
      exact hT
    clear hw hw1 hT
    go_wp2
    go_loopw [11, 12] (fun i _ wr => ∃ (k : Nat) (M : Hp), k ≤ ys.length ∧ i = .int .i64 k ∧ Sat σ wr (M :: Hs) ∧ TabRep M b (kpF ys nw (1 + q) k)) (fun i _ _ => ys.length - (intOf i).toNat)
    case atStart => exact ⟨0, M, by omega, rfl, hw2, hT0⟩
    case round =>
      obtain ⟨k, M1, hk, rfl, hwr, hTr⟩ := hrel
      clear hw2 hT0
      by_cases hlt : k < ys.length
      · obtain ⟨gb, off, c', s, hs, hv, e0⟩ := str_get hys (k := k) (by have := HN.out; omega)
        injection hv with hv1 hv2 hv3
        subst hv1; subst hv3; clear hv2
        have hHM : H ∈ M1 :: Hs := by simp [hH]
        have c0 := hwr.cellAt hHM e0
        have hgl : gb < wr.heap.size := World.block_lt_of_cell? wr _ c0
        have hss := HOK.out s (List.mem_of_getElem? hs)
        have HSTEP : Hid (kpF ys nw (1 + q) (k + 1) = putR (kpF ys nw (1 + q) k) nw s [⟨0, 0, 0, (k : Int)⟩] (1 + q)) := Lib.hid (by simp only [kpF, hs]; rw [show (k : Int) % 256 = k by omega])
        have hcode := keeps_code (now := nw) (ttl := 1 + q) hnw ht (kpF ys nw (1 + q) k) s (by rw [kpF_len]; have := HN.out; omega)
        have HPUT : Hid (∀ w' Hs' Ha v, Sat σ w' (M1 :: Hs') → Ha ∈ Hs' → kAd.IsSl Ha v [⟨0, 0, 0, (k : Int)⟩] → Calls Try.prog 11 #[.pointer (some ⟨b, 0, none⟩), .int .i64 nw, .string s, v, .int .i64 (1 + q)] w' (PutP σ Hs' b (if validB s then 0 else 2) (kpF ys nw (1 + q) (k + 1)))) :=
          Lib.hid (fun w' Hs' Ha v h hm hv => by
            have := put_any b _ nw (1 + q) s v _ w' h hTr hm hv (by omega)
            rw [show ([⟨0, 0, 0, (k : Int)⟩] : List Ad).length = 1 from rfl, hcode, ← HSTEP.out] at this
            exact this)
        have HE0 := Lib.hid e0
        clear e0 hs hTr hcode HSTEP hys
        have hki : (k : Int) < (ys.length : Int) := by omega
        go_wp2_with fail
        have hwa := hwr.alloc (.cells #[.int .u8 0, .int .u8 0, .int .u8 0, .int .u8 ((k : Int))] 39)
        refine (HPUT.out _ _ (Hp.one wr.heap.size _) _ hwa.swap (by exact List.mem_cons_self) ((own_lit _ _ _ 4 1 (by rfl) (by omega)).isSl (d := kAd) (xs := [⟨0, 0, 0, (k : Int)⟩]) ⟨_, [], rfl, ⟨_, _, rfl, rfl, _, _, rfl, rfl, _, _, rfl, rfl, rfl⟩, rfl⟩ rfl (Hp.le_refl _))).mono ?_
        rintro e w3 ⟨rfl, M3, hw3, hT3⟩
        have d0 := hw3.cellAt (H := H) (by simp [hH]) HE0.out
        have hsat := hw3.drop1
        clear hwr c0 hgl HPUT hHM hwa hw3
        rcases valid_cases s with ⟨hvb, hs1, hs2⟩ | ⟨hvb, hs1⟩ | ⟨hvb, hs1, hs2⟩
        · rw [hvb, if_pos rfl]
          have hd1 : decide ((s.size : Int) ≤ 253) = true := by simp; omega
          clear hvb
          go_wp2
          exact ⟨⟨k + 1, M3, by omega, by go_num, hsat, hT3⟩, by simp [intOf]; omega⟩
        · rw [hvb, if_neg (by simp)]
          clear hvb
          go_wp2
          go_roundw
          case measure => simp [intOf]; omega
          case rel => exact ⟨k + 1, M3, by omega, by go_num, hsat, hT3⟩
        · rw [hvb, if_neg (by simp)]
          clear hvb
          go_wp2
          go_roundw
          case measure => simp [intOf]; omega
          case rel => exact ⟨k + 1, M3, by omega, by go_num, hsat, hT3⟩
      · have hkn : k = ys.length := by have := HN.out; omega
        subst hkn
        have HG : Hid (∀ w' Hs' s, Sat σ w' (M1 :: Hs') → Calls Try.prog 12 #[.pointer (some ⟨b, 0, none⟩), .int .i64 (nw + q2), .string s] w' (GetPost σ Hs' M1 (getT (kpF ys nw (1 + q) ys.length) (nw + q2) s))) :=
          Lib.hid (fun w' Hs' s h => get_any b _ _ s w' h hTr)
        have HTELL := Lib.hid (fun j s hs => keeps_tells hnw ht ys (nw + q2) (by omega) j s hs)
        clear hTr
        go_wp2
        go_loopw [13, 14, 15, 16, 17] (fun i _ _ _ _ wr => ∃ (k : Nat), k ≤ ys.length ∧ i = .int .i64 k ∧ Sat σ wr (M1 :: Hs)) (fun i _ _ _ _ _ => ys.length - (intOf i).toNat)
        case atStart => exact ⟨0, by omega, rfl, hwr⟩
        case round =>
          obtain ⟨k, hk, rfl, hwr⟩ := hrel
          by_cases hlt : k < ys.length
          · obtain ⟨gb, off, c', s, hs, hv, e0⟩ := str_get hys (k := k) (by have := HN.out; omega)
            injection hv with hv1 hv2 hv3
            subst hv1; subst hv3; clear hv2
            have c0 := hwr.cellAt (H := H) (by simp [hH]) e0
            have hss := HOK.out s (List.mem_of_getElem? hs)
            have HT := Lib.hid (HTELL.out k s hs)
            have HE0 := Lib.hid e0
            have hki : (k : Int) < (ys.length : Int) := by omega
            clear e0 hs hys
            go_wp2_with fail
            refine (HG.out _ _ _ hwr).mono ?_
            rintro e w3 ⟨gv, N, rfl, hw3, hgv⟩
            have d0 := hw3.cellAt (H := H) (by simp [hH]) HE0.out
            have hsat := hw3.drop
            clear hwr c0 hw3
            have w1' : IntKind.i64.wrap (nw + (1 + q)) = nw + (1 + q) := IntWalk.i64_in _ (by omega)
            have w2' : IntKind.i64.wrap (nw + (1 + q) - (nw + q2)) = nw + (1 + q) - (nw + q2) := IntWalk.i64_in _ (by omega)
            rcases HT.out with ⟨⟨hvb, hlat⟩, a, hgt⟩ | ⟨hno, hgt⟩
            · rw [hgt]
              obtain ⟨hs1, hs2⟩ : s.toList.isEmpty = false ∧ s.size ≤ 253 := by
                rcases valid_cases s with ⟨h1, h2, h3⟩ | ⟨h1, h2⟩ | ⟨h1, h2, h3⟩
                · exact ⟨h2, h3⟩
                · rw [hvb] at h1; cases h1
                · rw [hvb] at h1; cases h1
              have hd1 : decide ((s.size : Int) ≤ 253) = true := by simp; omega
              have hz1 : ((nw + (1 + q) - (nw + q2)) != (nw + (1 + q) - (nw + q2))) = false := by simp
              clear hgt hvb hgv
              go_wp2
              go_roundw
              case measure => simp [intOf]; omega
              case rel => exact ⟨k + 1, by omega, by go_num, hsat⟩
            · rw [hgt]
              clear hgt hgv
              by_cases hlat : nw + q2 < nw + (1 + q)
              · rcases valid_cases s with ⟨h1, h2, h3⟩ | ⟨h1, h2⟩ | ⟨h1, h2, h3⟩
                · exact absurd ⟨h1, hlat⟩ hno
                · clear hno h1
                  go_wp2
                  go_roundw
                  case measure => simp [intOf]; omega
                  case rel => exact ⟨k + 1, by omega, by go_num, hsat⟩
                · clear hno h1
                  go_wp2
                  go_roundw
                  case measure => simp [intOf]; omega
                  case rel => exact ⟨k + 1, by omega, by go_num, hsat⟩
              · clear hno
                go_wp2
                go_roundw
                case measure => simp [intOf]; omega
                case rel => exact ⟨k + 1, by omega, by go_num, hsat⟩
          · go_wp2
            go_ret
            exact ⟨rfl, hwr.drop⟩
end
end Go.Proofs.Ythofnhmehpdnbaa
