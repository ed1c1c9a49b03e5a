/- Walk: StoreHand. -/
import Derived.Test.YtfieipigbdopaaaH1
import Derived.Test.YtfieipigbdopaaaF1
set_option linter.unusedVariables false
set_option linter.unusedSimpArgs false
namespace Go.Proofs.Ytfieipigbdopaaa
open Go.RowKit
set_option maxHeartbeats 8000000
section
variable {σ : World} {Hs : List Hp} {H M N : Hp}
theorem bool_get {v : Value} {xs : List Bool} (hs : Kd.bool.IsSl H v xs) {k : Nat} (hk : k < xs.length) : ∃ b off c, v = .slice (some ⟨b, off, none⟩) xs.length c ∧ Hp.cell H b (off + k) = some (.bool (asB xs k)) := by
  obtain ⟨A, c, rfl, _⟩ := hs.form
  obtain ⟨b, off, cs, rfl, hcs, hcell⟩ := hs.get k _ (List.getElem?_eq_getElem hk)
  obtain rfl : cs = _ := hcs
  refine ⟨b, off, c, rfl, ?_⟩
  have h := hcell 0 _ rfl
  have e : asB xs k = xs[k] := by unfold asB; rw [List.getD_eq_getElem?_getD, List.getElem?_eq_getElem hk]; rfl
  rw [e]
  simpa [Kd.bool] using h
theorem sat3 {w : World} (h : Sat σ w Hs) (a b c : Obj) : Sat σ (((w.alloc a).alloc b).alloc c) (Hp.one (w.heap.size + 2) c :: Hp.one (w.heap.size + 1) b :: Hp.one w.heap.size a :: Hs) := by
  have := ((h.alloc a).alloc b).alloc c
  simpa using this
theorem one_str (b : Nat) (s : ByteArray) : Kd.str.IsSl (Hp.one b (.cells #[.string s] 9)) (.slice (some ⟨b, 0, none⟩) 1 1) [s] := (own_lit b #[.string s] 9 1 1 (by rfl) (by omega)).isSl (d := Kd.str) (xs := [s]) (strs_reps _ [s]) rfl (Hp.le_refl _)
theorem newBad_hand (m : Nat) (h : m ≤ 25) : newBad m 1 = false := by
  unfold newBad
  simp
  omega
theorem init_all (m : Nat) (aa : List Bool) : mk m (fI m) = mk m (fG aa 0) := by
  unfold mk
  refine List.map_congr_left fun j hj => ?_
  have := List.mem_range.1 hj
  unfold fI fG
  rw [if_pos this]
  simp
theorem sat2 {w : World} (h : Sat σ w Hs) (a b : Obj) : Sat σ ((w.alloc a).alloc b) (Hp.one (w.heap.size + 1) b :: Hp.one w.heap.size a :: Hs) := by
  have := (h.alloc a).alloc b
  simpa using this
theorem convS {w : World} {b : Nat} {z : Int} {t : TypeId} {fr : Nat × Nat} (h : Sat σ w Hs) (hm : Hp.one b (.cells #[.int .u8 z] t fr) ∈ Hs) : (convert 23 9 (.slice (some ⟨b, 0, none⟩) 1 1)).run Try.prog w = .ok (.string (strOfNums [z])) w :=
  (bytes_rd (lit1_sl _ z _ _) h hm).conv (P := Try.prog) (src := 23) (dst := 9) Try.underlying23 Try.underlying5 Try.underlying9
set_option maxRecDepth 10000 in
theorem hand_law (v : Value) (xs : List Bool) (n : Int) (w : World) (hw : Sat σ w Hs) (hH : H ∈ Hs) (hs : Kd.bool.IsSl H v xs) :
    Calls Try.prog 6 #[v, .int .i64 n] w fun e w' => e = .returned (.bool true) ∧ Sat σ w' Hs := by
  obtain ⟨A, c, rfl, hc1, hc2, _⟩ := hs.form
  by_cases h25 : 25 < xs.length
  · have h25' : (25 : Int) < xs.length := by omega
    have hs' : Kd.bool.IsSl H (.slice A 25 c) (xs.take 25) := by
      have := hs.cut 0 25 (by omega) (by omega) c (by omega) hc2 A (fun _ => by cases A <;> simp [Addr.add])
      simpa using this
    go_enter Try.func6, Try.ntmps6
    go_wp2_with fail
    refine (works_any w hw).mono ?_
    rintro e w1 ⟨rfl, hw1⟩
    go_wp2_with fail
    generalize hasd : xs.take 25 = aa at *
    have hal : aa.length = 25 := by rw [← hasd, List.length_take]; omega
    have hc1' : aa.length ≤ c := by omega
    have hm : aa.length ≤ 25 := by omega
    rw [← hal] at hs'
    rw [show (25 : Int) = ((aa.length : Nat) : Int) by rw [hal]; rfl]
    rw [← hal]
    clear hasd hs hc1 h25 h25' hal
    have hs := hs'
    have hc1 := hc1'
    clear hs' hc1'
    obtain ⟨m, hmd⟩ : ∃ m, aa.length = m := ⟨_, rfl⟩
    rw [hmd] at hc1 hm hs ⊢
    have HMD := Lib.hid hmd
    have HB : Hid (∀ k, k < m → ∃ b off c', Value.slice A m c = .slice (some ⟨b, off, none⟩) m c' ∧ Hp.cell H b (off + k) = some (.bool (asB aa k))) := Lib.hid (fun k hk => by
      have h := bool_get hs (by rw [HMD.out]; exact hk)
      rwa [HMD.out] at h)
    clear hs hmd
    refine (new_any m 1 w1 hw1 (newBad_hand m hm)).mono ?_
    rintro e w2 ⟨b, M, rfl, hw2, hT⟩
    clear hw1
    by_cases hm0 : m = 0
    · subst hm0
      have HP := Lib.hid (put_any b 1 0 _ 0 9 ⟨#[122]⟩ (.slice none 0 0) [] w2 hw2 hT hH Kd.IsSl.nil (by decide))
      rw [show putE 1 (List.replicate 0 se0) 0 ⟨#[122]⟩ ([] : List Int).length 9 = 4 by
        unfold putE
        rw [if_neg (by rw [ask_ok (by omega) (by omega) (by decide) (by decide)]; simp), if_neg (by omega), if_neg (by simp), if_pos (by simp)]] at HP
      clear hT
      go_wp2_with fail
      refine HP.out.mono ?_
      rintro e w3 ⟨rfl, M3, hw3, _, _⟩
      go_wp2
      go_ret
      exact ⟨rfl, hw3.drop⟩
    have hm0' : ((m : Int) == 0) = false := beq_eq_false_iff_ne.2 (by omega)
    have hT0 : Sto M b 1 0 (mk m (fI 0)) := by
      have e : mk m (fI 0) = List.replicate m se0 := by
        unfold mk
        rw [show (fI 0) = fun _ => se0 from rfl, List.map_const', List.length_range]
      rw [e]
      exact hT
    clear hT
    obtain ⟨gb, off, c', hv, _⟩ := HB.out 0 (by omega)
    injection hv with hv1 hv2 hv3
    subst hv1; clear hv2 hv3
    have HBC : Hid (∀ k, k < m → Hp.cell H gb (off + k) = some (.bool (asB aa k))) := Lib.hid (fun k hk => by
      obtain ⟨b2, o2, c2, hv, e⟩ := HB.out k hk
      injection hv with h1
      injection h1 with h1
      injection h1 with h1 h2 h3
      subst h1; subst h2
      exact e)
    clear HB
    have HKC : Hid (∀ (i : Nat) (w : World), (convert 23 9 (.slice (some ⟨w.heap.size, 0, none⟩) 1 1)).run Try.prog (w.alloc (.cells #[.int .u8 (97 + (i : Int))] 5)) = .ok (.string (keyL i)) (w.alloc (.cells #[.int .u8 (97 + (i : Int))] 5))) := Lib.hid (fun i w => conv1 w _)
    go_wp2
    go_loopw [8, 7] (fun i o wr => ∃ (k : Nat) (M : Hp), k ≤ m ∧ i = .int .i64 k ∧ o = .int .i64 (cntA aa k : Nat) ∧ Sat σ wr (M :: Hs) ∧ Sto M b 1 0 (mk m (fI k))) (fun i _ _ => m - (intOf i).toNat)
    case atStart => exact ⟨0, M, by omega, rfl, rfl, hw2, hT0⟩
    case round =>
      obtain ⟨k, M1, hk, rfl, rfl, hwr, hTr⟩ := hrel
      clear hw2 hT0
      have hcn := cntA_le aa k
      by_cases hlt : k < m
      · have e0 := HBC.out k hlt
        have HPI := Lib.hid (put_init (m := m) (i := k) hm hlt)
        have kc2 := HKC.out k
        have hks := (keyL_ok k (by omega)).1
        have HCS := Lib.hid (cntA_succ aa k)
        have HPUT := Lib.hid (fun w' Hs' (h : Sat σ w' (M1 :: Hs')) (hm' : H ∈ Hs') => put_any b 1 0 (mk m (fI k)) 0 99 (keyL k) (.slice none 0 0) [] w' h hTr hm' Kd.IsSl.nil (by omega))
        rw [show ([] : List Int).length = 0 from rfl, HPI.out.1, HPI.out.2] at HPUT
        clear hTr HPI
        generalize keyL k = ky at *
        have m1 : IntKind.u8.wrap (k : Int) = k := by simp only [IntKind.wrap_u8]; omega
        have m2 : IntKind.u8.wrap (97 + (k : Int)) = 97 + (k : Int) := by simp only [IntKind.wrap_u8]; omega
        have hki : (k : Int) < m := by omega
        generalize cntA aa k = cn at *
        have m3 : IntKind.i64.wrap ((cn : Int) + 1) = (cn : Int) + 1 := IntWalk.i64_in _ (by omega)
        go_wp2_with fail
        refine (HPUT.out _ _ (hwr.alloc (.cells #[.int .u8 (97 + (k : Int))] 5)).swap (by simp [hH])).mono ?_
        rintro e w3 ⟨rfl, M3, hw3, hT3, _⟩
        have hT3 : Sto M3 b 1 0 (mk m (fI (k + 1))) := hT3
        have c0 := hw3.cellAt (H := H) (by simp [hH]) e0
        clear hwr HPUT kc2 e0
        cases ha : asB aa k
        · rw [ha] at c0 HCS
          clear ha
          go_wp2
          go_roundw
          case measure => simp [intOf]; omega
          case rel => exact ⟨k + 1, M3, by omega, by go_num, by rw [HCS.out]; rfl, hw3.drop1, hT3⟩
        · rw [ha] at c0 HCS
          clear ha
          go_wp2
          go_roundw
          case measure => simp [intOf]; omega
          case rel => exact ⟨k + 1, M3, by omega, by go_num, by rw [HCS.out]; rfl, hw3.drop1, hT3⟩
      · obtain rfl : k = m := by omega
        rw [init_all k aa] at hTr
        go_wp2
        go_loopw [9] (fun i wi => ∃ (q : Nat) (M : Hp), q ≤ k ∧ i = .int .i64 q ∧ Sat σ wi (M :: Hs) ∧ Sto M b 1 0 (mk k (fG aa q))) (fun i _ => k - (intOf i).toNat)
        case atStart => exact ⟨0, M1, by omega, rfl, hwr, hTr⟩
        case round =>
          obtain ⟨q, M2, hq, rfl, hwi, hTi⟩ := hrel
          clear hwr hTr
          obtain ⟨wo, rfl⟩ : ∃ wo : World, wo = wr := ⟨_, rfl⟩
          by_cases hlt : q < k
          · have e0 := HBC.out q hlt
            have c0 := hwi.cellAt (H := H) (by simp [hH]) e0
            have hqi : (q : Int) < k := by omega
            clear e0
            cases ha : asB aa q
            · rw [ha] at c0
              rw [← get_skip (m := k) ha] at hTi
              clear ha
              go_wp2
              go_roundw
              case measure => simp [intOf]; omega
              case rel => exact ⟨q + 1, M2, by omega, by go_num, hwi, hTi⟩
            · rw [ha] at c0
              have HGS := Lib.hid (get_step (m := k) hm hlt ha)
              have kc2 := HKC.out q
              have hks := (keyL_ok q (by omega)).1
              have HGET := Lib.hid (fun w' Hs' (h : Sat σ w' (M2 :: Hs')) => get_any b 1 0 _ 1 (keyL q) w' h hTi (by omega))
              have m1 : IntKind.u8.wrap (q : Int) = q := by simp only [IntKind.wrap_u8]; omega
              have m2 : IntKind.u8.wrap (97 + (q : Int)) = 97 + (q : Int) := by simp only [IntKind.wrap_u8]; omega
              clear ha hTi
              generalize keyL q = ky at *
              go_wp2_with fail
              refine (HGET.out _ _ (hwi.alloc (.cells #[.int .u8 (97 + (q : Int))] 5)).swap).mono ?_
              rintro e w3 ⟨gv, N, gcl, M3, rfl, hw3, hgo, hgr, hT3, _⟩
              rw [HGS.out] at hT3
              clear hgo hgr c0 kc2 HGET
              go_wp2
              go_roundw
              case measure => simp [intOf]; omega
              case rel => exact ⟨q + 1, M3, by omega, by go_num, hw3.drop.drop1, hT3⟩
          · obtain rfl : q = k := by omega
            rw [get_all] at hTi
            have hcm := cntA_le aa q
            obtain ⟨cm, hcmd⟩ : ∃ cm, cntA aa q = cm := ⟨_, rfl⟩
            rw [hcmd] at hcm ⊢
            have HCM := Lib.hid hcmd
            clear hcmd
            have m3 : IntKind.i64.wrap ((cm : Int) + 1) = (cm : Int) + 1 := IntWalk.i64_in _ (by omega)
            go_wp2_with fail
            refine (among_any n ((cm : Int) + 1) wo (by omega) (by omega)).mono ?_
            rintro e w3 ⟨rfl, rfl⟩
            have hr := amongI_range n ((cm : Int) + 1) (by omega)
            obtain ⟨mo, hmo⟩ : ∃ mo : Nat, amongI n ((cm : Int) + 1) = mo := ⟨(amongI n ((cm : Int) + 1)).toNat, by omega⟩
            rw [hmo] at hr ⊢
            clear hmo
            go_wp2
            obtain ⟨m, rfl⟩ : ∃ m, m = q := ⟨_, rfl⟩
            clear hk hq hlt
            go_loopw [10] (fun i wi => ∃ (j p : Nat) (M : Hp), j ≤ mo ∧ p ≤ m ∧ cntA aa p = j ∧ i = .int .i64 j ∧ Sat σ wi (M :: Hs) ∧ Sto M b 1 (p % m) (mk m (fN aa p))) (fun i _ => mo - (intOf i).toNat)
            case atStart => exact ⟨0, 0, M2, by omega, by omega, rfl, rfl, hwi, by rw [Nat.zero_mod]; exact hTi⟩
            case round =>
              obtain ⟨j, p, M3, hj, hpm, hcj, rfl, hwj, hTj⟩ := hrel
              clear hwi hTi
              obtain ⟨wo2, rfl⟩ : ∃ wo2 : World, wo2 = wr := ⟨_, rfl⟩
              by_cases hlt : j < mo
              · obtain ⟨hPE, p', hp1, hp2, hPR⟩ := put_new (m := m) hm hcj (by rw [HCM.out]; omega) hpm
                have hks := (newK_ok j (by omega)).1
                have HPUT := Lib.hid (fun w' Hs' (h : Sat σ w' (M3 :: Hs')) (hm' : H ∈ Hs') => put_any b 1 (p % m) (mk m (fN aa p)) 1 99 (newK j) (.slice none 0 0) [] w' h hTj hm' Kd.IsSl.nil (by omega))
                rw [show ([] : List Int).length = 0 from rfl, hPE, hPR] at HPUT
                have HNK : Hid (newK j = ⟨#[110, 101, 119]⟩ ++ itoaB j) := Lib.hid rfl
                have hib : (itoaB j).size ≤ 4096 := by
                  have := hks
                  rw [HNK.out, ByteArray.size_append] at this
                  omega
                have HIT := Lib.hid (itoa_any j (by omega) wo2 hwj)
                rw [HNK.out] at HPUT
                clear hPE hPR hTj hks HNK
                generalize itoaB j = ib at *
                have hsz : ¬ (9223372036854775807 < (⟨#[110, 101, 119]⟩ : ByteArray).size + ib.size) := by rw [show (⟨#[110, 101, 119]⟩ : ByteArray).size = 3 from rfl]; omega
                have hsz2 : ¬ (9223372036854775807 < 3 + ib.size) := by omega
                have hji : (j : Int) < mo := by omega
                go_wp2_with fail
                refine HIT.out.mono ?_
                rintro e w3 ⟨rfl, hw3⟩
                go_wp2_with fail
                refine (HPUT.out w3 _ hw3 hH).mono ?_
                rintro e w4 ⟨rfl, M4, hw4, hT4, _⟩
                go_wp2
                go_roundw
                case measure => simp [intOf]; omega
                case rel => exact ⟨j + 1, p', M4, by omega, hp1, hp2, by go_num, hw4, hT4⟩
              · obtain rfl : j = mo := by omega
                obtain ⟨ks, hks⟩ : ∃ ks, (mk m (fN aa p)).map SE.key = ks := ⟨_, rfl⟩
                have HKE := Lib.hid (keys_any (σ := σ) b 1 _ _ hTj)
                have HUS := Lib.hid (used_any (σ := σ) b 1 _ _ hTj)
                rw [used_all hm] at HUS
                have HEK := Lib.hid (fun i (hi : i < m) => end_key (aa := aa) hm hpm hi)
                have hkl : ks.length = m := by rw [← hks, List.length_map, mk_len]
                rw [hks] at HKE HEK
                have HKL := Lib.hid hkl
                clear hks hTj hkl
                go_wp2_with fail
                refine (HKE.out wo2 _ hwj (by simp)).mono ?_
                rintro e w3 ⟨kv, K, rfl, hw3, hkv⟩
                have hkv' := Lib.hid hkv
                obtain ⟨Ak, ck, rfl, _⟩ := hkv.form
                rw [HKL.out] at hkv' ⊢
                obtain ⟨gk, ok, _, _, _, hv, _⟩ := str_get hkv'.out (k := 0) (by have := HKL.out; omega)
                injection hv with hv1 hv2 hv3
                subst hv1; clear hv2 hv3
                clear hkv hwj HKE
                go_wp2
                go_loopw [13, 12, 14] (fun i o _ wi => ∃ (k : Nat), k ≤ m ∧ i = .int .i64 k ∧ o = .int .i64 (goneN aa p k : Nat) ∧ Sat σ wi (K :: M3 :: Hs)) (fun i _ _ _ => m - (intOf i).toNat)
                case atStart => exact ⟨0, by omega, rfl, by unfold goneN; rw [Nat.zero_min]; rfl, hw3⟩
                case round =>
                  obtain ⟨k, hk, rfl, rfl, hwq⟩ := hrel
                  clear hw3
                  obtain ⟨wo3, rfl⟩ : ∃ wo3 : World, wo3 = wr := ⟨_, rfl⟩
                  by_cases hlk : k < m
                  · obtain ⟨hsk, hdec⟩ := HEK.out k hlk
                    obtain ⟨gk2, ok2, _, s, hs2, hv, ek⟩ := str_get hkv'.out (k := k) (by have := HKL.out; omega)
                    injection hv with hv1 hv2 hv3
                    injection hv1 with hv1
                    injection hv1 with hv1 hv4 hv5
                    subst hv1; subst hv4; clear hv2 hv3 hv5
                    obtain rfl : (fN aa p k).key = s := by rw [hsk] at hs2; exact Option.some.inj hs2
                    have hgs := gone_succ (aa := aa) (p := p) (i := k)
                    rw [← hdec] at hgs
                    have hgl : goneN aa p k ≤ 25 := by unfold goneN; have := cntA_le aa (min k p); omega
                    have e0 := HBC.out k hlk
                    have hth : decide ([(fN aa p k).key] = [keyL k]) = false → asB aa k = false := fun h => by
                      rw [hdec] at h
                      cases ha : asB aa k
                      · rfl
                      · rw [ha] at h; simp at h
                    clear hdec hsk hs2
                    obtain ⟨s, hsd⟩ : ∃ s, (fN aa p k).key = s := ⟨_, rfl⟩
                    obtain ⟨ky, hky⟩ : ∃ ky, keyL k = ky := ⟨_, rfl⟩
                    have kcA : (convert 23 9 (.slice (some ⟨wo3.heap.size, 0, none⟩) 1 1)).run Try.prog ((wo3.alloc (.cells #[.int .u8 (97 + (k : Int))] 5)).drew) = .ok (.string (keyL k)) ((wo3.alloc (.cells #[.int .u8 (97 + (k : Int))] 5)).drew) := convS (hwq.drew.alloc (.cells #[.int .u8 (97 + (k : Int))] 5)) List.mem_cons_self
                    have kcB : (convert 23 9 (.slice (some ⟨wo3.heap.size + 1, 0, none⟩) 1 1)).run Try.prog (((wo3.alloc (.cells #[.string s] 9)).alloc (.cells #[.int .u8 (97 + (k : Int))] 5)).drew) = .ok (.string (keyL k)) (((wo3.alloc (.cells #[.string s] 9)).alloc (.cells #[.int .u8 (97 + (k : Int))] 5)).drew) := convS (sat2 hwq.drew (.cells #[.string s] 9) (.cells #[.int .u8 (97 + (k : Int))] 5)) List.mem_cons_self
                    have kcC : (convert 23 9 (.slice (some ⟨wo3.heap.size, 0, none⟩) 1 1)).run Try.prog (((wo3.alloc (.cells #[.int .u8 (97 + (k : Int))] 5)).alloc (.cells #[.string s] 9)).drew) = .ok (.string (keyL k)) (((wo3.alloc (.cells #[.int .u8 (97 + (k : Int))] 5)).alloc (.cells #[.string s] 9)).drew) := convS (sat2 hwq.drew (.cells #[.int .u8 (97 + (k : Int))] 5) (.cells #[.string s] 9)) (List.mem_cons_of_mem _ List.mem_cons_self)
                    rw [hky] at kcA kcB kcC hgs hth
                    rw [hsd] at hgs hth ek
                    clear hsd hky
                    have hki : (k : Int) < m := by omega
                    have m1 : IntKind.u8.wrap (k : Int) = k := by simp only [IntKind.wrap_u8]; omega
                    have m2 : IntKind.u8.wrap (97 + (k : Int)) = 97 + (k : Int) := by simp only [IntKind.wrap_u8]; omega
                    have HSS : Hid (∀ w' Hs', Sat σ w' Hs' → K ∈ Hs' → (w'.cell? ⟨gk, ok + k, none⟩ = some (.string s))) := Lib.hid (fun w' Hs' h hm => h.cellAt hm ek)
                    have HGS := Lib.hid hgs; have HTH := Lib.hid hth; have HE0 := Lib.hid e0
                    obtain ⟨th, hthd⟩ : ∃ th, decide ([s] = [ky]) = th := ⟨_, rfl⟩
                    have HDC := Lib.hid hthd
                    rw [hthd] at HGS HTH
                    clear hgs hth e0 ek hthd
                    generalize goneN aa p k = gn at *
                    have m4 : IntKind.i64.wrap ((gn : Int) + 1) = (gn : Int) + 1 := IntWalk.i64_in _ (by omega)
                    go_wp2
                    have hsABC : Sat σ (((wo3.alloc (.cells #[.string s] 9)).alloc (.cells #[.int .u8 (97 + (k : Int))] 5)).alloc (.cells #[.string ky] 9)).drew _ := sat3 hwq.drew (.cells #[.string s] 9) (.cells #[.int .u8 (97 + (k : Int))] 5) (.cells #[.string ky] 9)
                    have hsBAC : Sat σ (((wo3.alloc (.cells #[.int .u8 (97 + (k : Int))] 5)).alloc (.cells #[.string s] 9)).alloc (.cells #[.string ky] 9)).drew _ := sat3 hwq.drew (.cells #[.int .u8 (97 + (k : Int))] 5) (.cells #[.string s] 9) (.cells #[.string ky] 9)
                    have hsBCA : Sat σ (((wo3.alloc (.cells #[.int .u8 (97 + (k : Int))] 5)).alloc (.cells #[.string ky] 9)).alloc (.cells #[.string s] 9)).drew _ := sat3 hwq.drew (.cells #[.int .u8 (97 + (k : Int))] 5) (.cells #[.string ky] 9) (.cells #[.string s] 9)
                    refine wp_region_noPanic ?_
                    refine wp_region_held_drew (S := fun w' => w'.cell? ⟨gk, ok + k, none⟩ = some (.string s)) (by kernel_rfl) (HSS.out _ _ hwq.drew (by simp)) (fun hS0 => ?_)
                    refine wpAnyH_take (i := 0) (v := ?_) rfl (by kernel_rfl) (by kernel_rfl) (by kernel_rfl) (fun _ _ _ h => h) (Or.inl ⟨by rfl, ?_⟩) hS0 ?_
                    rotate_left
                    · intro w hSw; go_simp; (try with_reducible rfl)
                    (try simp only [Act.put, List.getElem_toArray, List.getElem_cons_succ, List.getElem_cons_zero, List.setIfInBounds_toArray, List.set_cons_zero, List.set_cons_succ])
                    refine wpAnyH_take (i := 1) (v := ?_) rfl (by kernel_rfl) (by kernel_rfl) (by kernel_rfl) (fun _ _ _ h => h) (Or.inl ⟨by rfl, ?_⟩) hS0 ?_
                    rotate_left
                    · intro w hSw; go_simp; (try with_reducible rfl)
                    (try simp only [Act.put, List.getElem_toArray, List.getElem_cons_succ, List.getElem_cons_zero, List.setIfInBounds_toArray, List.set_cons_zero, List.set_cons_succ])
                    refine wpAnyH_take (i := 2) (v := ?_) rfl (by kernel_rfl) (by kernel_rfl) (by kernel_rfl) (fun _ _ _ h => h) (Or.inl ⟨by rfl, ?_⟩) hS0 ?_
                    rotate_left
                    · intro w hSw; go_simp; (try with_reducible rfl)
                    (try simp only [Act.put, List.getElem_toArray, List.getElem_cons_succ, List.getElem_cons_zero, List.setIfInBounds_toArray, List.set_cons_zero, List.set_cons_succ])
                    refine wpAnyH_take (i := 3) (v := ?_) rfl (by kernel_rfl) (by kernel_rfl) (by kernel_rfl) (fun _ _ _ h => h) (Or.inl ⟨by rfl, ?_⟩) hS0 ?_
                    rotate_left
                    · intro w hSw; go_simp; (try with_reducible rfl)
                    (try simp only [Act.put, List.getElem_toArray, List.getElem_cons_succ, List.getElem_cons_zero, List.setIfInBounds_toArray, List.set_cons_zero, List.set_cons_succ])
                    refine wpAnyH_take (i := 5) (v := ?_) rfl (by kernel_rfl) (by kernel_rfl) (by kernel_rfl) (fun _ _ _ h => h) (Or.inl ⟨by rfl, ?_⟩) hS0 ?_
                    rotate_left
                    · intro w hSw; go_simp; (try with_reducible rfl)
                    (try simp only [Act.put, List.getElem_toArray, List.getElem_cons_succ, List.getElem_cons_zero, List.setIfInBounds_toArray, List.set_cons_zero, List.set_cons_succ])
                    refine wpAnyH_take (i := 6) (v := ?_) rfl (by kernel_rfl) (by kernel_rfl) (by kernel_rfl) (fun _ _ _ h => h) (Or.inl ⟨by rfl, ?_⟩) hS0 ?_
                    rotate_left
                    · intro w hSw; go_simp; (try with_reducible rfl)
                    (try simp only [Act.put, List.getElem_toArray, List.getElem_cons_succ, List.getElem_cons_zero, List.setIfInBounds_toArray, List.set_cons_zero, List.set_cons_succ])
                    refine wpAnyH_take (i := 7) (v := ?_) rfl (by kernel_rfl) (by kernel_rfl) (by kernel_rfl) (fun _ _ _ h => h) (Or.inl ⟨by rfl, ?_⟩) hS0 ?_
                    rotate_left
                    · intro w hSw; go_simp; (try with_reducible rfl)
                    (try simp only [Act.put, List.getElem_toArray, List.getElem_cons_succ, List.getElem_cons_zero, List.setIfInBounds_toArray, List.set_cons_zero, List.set_cons_succ])
                    refine wpAnyH_ready (rs := [4, 8]) (by kernel_rfl) (by simp) ?_
                    refine AllReadyH.cons rfl (fun K hK => ?_) (AllReadyH.cons rfl (fun K hK => ?_) AllReadyH.nil)
                    · -- 4
                      go_simp
                      refine hK.out _ _ (HSS.out _ _ (hwq.drew.alloc _) (by simp)) (fun hS1 => ?_)
                      clear hK K
                      (try simp only [Act.put, List.getElem_toArray, List.getElem_cons_succ, List.getElem_cons_zero, List.setIfInBounds_toArray, List.set_cons_zero, List.set_cons_succ])
                      refine wpAnyH_ready (rs := [8]) (by kernel_rfl) (by simp) ?_
                      refine AllReadyH.cons rfl (fun K hK => ?_) AllReadyH.nil
                      go_simp
                      refine hK.out _ _ (HSS.out _ _ ((hwq.drew.alloc _).alloc _) (by simp)) (fun hS2 => ?_)
                      clear hK K
                      (try simp only [Act.put, List.getElem_toArray, List.getElem_cons_succ, List.getElem_cons_zero, List.setIfInBounds_toArray, List.set_cons_zero, List.set_cons_succ])
                      refine wpAnyH_ready (rs := [9]) (by kernel_rfl) (by simp) ?_
                      refine AllReadyH.cons rfl (fun K hK => ?_) AllReadyH.nil
                      go_simp
                      refine hK.out _ _ (HSS.out _ _ ((hwq.drew.alloc _).alloc _) (by simp)) (fun hS3 => ?_)
                      clear hK K
                      (try simp only [Act.put, List.getElem_toArray, List.getElem_cons_succ, List.getElem_cons_zero, List.setIfInBounds_toArray, List.set_cons_zero, List.set_cons_succ])
                      refine wpAnyH_ready (rs := [10]) (by kernel_rfl) (by simp) ?_
                      refine AllReadyH.cons rfl (fun K hK => ?_) AllReadyH.nil
                      go_simp
                      refine hK.out _ _ (HSS.out _ _ (((hwq.drew.alloc _).alloc _).alloc _) (by simp)) (fun hS4 => ?_)
                      clear hK K
                      (try simp only [Act.put, List.getElem_toArray, List.getElem_cons_succ, List.getElem_cons_zero, List.setIfInBounds_toArray, List.set_cons_zero, List.set_cons_succ])
                      refine wpAnyH_ready (rs := [11]) (by kernel_rfl) (by simp) ?_
                      refine AllReadyH.cons rfl (fun K hK => ?_) AllReadyH.nil
                      go_simp
                      refine (sameT_any (H1 := Hp.one (wo3.heap.size) (.cells #[.string s] 9)) (H2 := Hp.one (wo3.heap.size + 2) (.cells #[.string ky] 9)) _ _ [s] [ky] _ hsABC (by simp) (by simp) (one_str _ _) (one_str _ _)).mono ?_
                      rintro e wt ⟨rfl, hwt⟩
                      rw [HDC.out]
                      (try go_wp2_with fail)
                      refine hK.out _ _ (HSS.out _ _ hwt (by simp)) (fun hS5 => ?_)
                      clear hK K
                      (try simp only [Act.put, List.getElem_toArray, List.getElem_cons_succ, List.getElem_cons_zero, List.setIfInBounds_toArray, List.set_cons_zero, List.set_cons_succ])
                      refine wpAnyH_take (i := 12) (v := ?_) rfl (by kernel_rfl) (by kernel_rfl) (by kernel_rfl) (fun _ _ _ h => h) (Or.inl ⟨by rfl, ?_⟩) hS5 ?_
                      rotate_left
                      · intro w hSw; go_simp; (try with_reducible rfl)
                      (try simp only [Act.put, List.getElem_toArray, List.getElem_cons_succ, List.getElem_cons_zero, List.setIfInBounds_toArray, List.set_cons_zero, List.set_cons_succ])
                      refine wpAnyH_done (by kernel_rfl) ?_ _
                      refine NoPanic.normal ?_
                      have hwu := hwt.drop.drop.drop
                      have c0 := hwu.cellAt (H := H) (by simp [hH]) HE0.out
                      cases th
                      · rw [HTH.out rfl] at c0
                        go_wp2
                        go_roundw
                        case measure => simp [intOf]; omega
                        case rel => exact ⟨k + 1, by omega, by go_num, by rw [HGS.out]; rfl, hwu⟩
                      · go_wp2
                        go_roundw
                        case measure => simp [intOf]; omega
                        case rel => exact ⟨k + 1, by omega, by go_num, by rw [HGS.out]; rfl, hwu⟩
                    · -- 8
                      go_simp
                      refine hK.out _ _ (HSS.out _ _ (hwq.drew.alloc _) (by simp)) (fun hS6 => ?_)
                      clear hK K
                      (try simp only [Act.put, List.getElem_toArray, List.getElem_cons_succ, List.getElem_cons_zero, List.setIfInBounds_toArray, List.set_cons_zero, List.set_cons_succ])
                      refine wpAnyH_ready (rs := [4, 9]) (by kernel_rfl) (by simp) ?_
                      refine AllReadyH.cons rfl (fun K hK => ?_) (AllReadyH.cons rfl (fun K hK => ?_) AllReadyH.nil)
                      · -- 4
                        go_simp
                        refine hK.out _ _ (HSS.out _ _ ((hwq.drew.alloc _).alloc _) (by simp)) (fun hS7 => ?_)
                        clear hK K
                        (try simp only [Act.put, List.getElem_toArray, List.getElem_cons_succ, List.getElem_cons_zero, List.setIfInBounds_toArray, List.set_cons_zero, List.set_cons_succ])
                        refine wpAnyH_ready (rs := [9]) (by kernel_rfl) (by simp) ?_
                        refine AllReadyH.cons rfl (fun K hK => ?_) AllReadyH.nil
                        go_simp
                        refine hK.out _ _ (HSS.out _ _ ((hwq.drew.alloc _).alloc _) (by simp)) (fun hS8 => ?_)
                        clear hK K
                        (try simp only [Act.put, List.getElem_toArray, List.getElem_cons_succ, List.getElem_cons_zero, List.setIfInBounds_toArray, List.set_cons_zero, List.set_cons_succ])
                        refine wpAnyH_ready (rs := [10]) (by kernel_rfl) (by simp) ?_
                        refine AllReadyH.cons rfl (fun K hK => ?_) AllReadyH.nil
                        go_simp
                        refine hK.out _ _ (HSS.out _ _ (((hwq.drew.alloc _).alloc _).alloc _) (by simp)) (fun hS9 => ?_)
                        clear hK K
                        (try simp only [Act.put, List.getElem_toArray, List.getElem_cons_succ, List.getElem_cons_zero, List.setIfInBounds_toArray, List.set_cons_zero, List.set_cons_succ])
                        refine wpAnyH_ready (rs := [11]) (by kernel_rfl) (by simp) ?_
                        refine AllReadyH.cons rfl (fun K hK => ?_) AllReadyH.nil
                        go_simp
                        refine (sameT_any (H1 := Hp.one (wo3.heap.size + 1) (.cells #[.string s] 9)) (H2 := Hp.one (wo3.heap.size + 2) (.cells #[.string ky] 9)) _ _ [s] [ky] _ hsBAC (by simp) (by simp) (one_str _ _) (one_str _ _)).mono ?_
                        rintro e wt ⟨rfl, hwt⟩
                        rw [HDC.out]
                        (try go_wp2_with fail)
                        refine hK.out _ _ (HSS.out _ _ hwt (by simp)) (fun hS10 => ?_)
                        clear hK K
                        (try simp only [Act.put, List.getElem_toArray, List.getElem_cons_succ, List.getElem_cons_zero, List.setIfInBounds_toArray, List.set_cons_zero, List.set_cons_succ])
                        refine wpAnyH_take (i := 12) (v := ?_) rfl (by kernel_rfl) (by kernel_rfl) (by kernel_rfl) (fun _ _ _ h => h) (Or.inl ⟨by rfl, ?_⟩) hS10 ?_
                        rotate_left
                        · intro w hSw; go_simp; (try with_reducible rfl)
                        (try simp only [Act.put, List.getElem_toArray, List.getElem_cons_succ, List.getElem_cons_zero, List.setIfInBounds_toArray, List.set_cons_zero, List.set_cons_succ])
                        refine wpAnyH_done (by kernel_rfl) ?_ _
                        refine NoPanic.normal ?_
                        have hwu := hwt.drop.drop.drop
                        have c0 := hwu.cellAt (H := H) (by simp [hH]) HE0.out
                        cases th
                        · rw [HTH.out rfl] at c0
                          go_wp2
                          go_roundw
                          case measure => simp [intOf]; omega
                          case rel => exact ⟨k + 1, by omega, by go_num, by rw [HGS.out]; rfl, hwu⟩
                        · go_wp2
                          go_roundw
                          case measure => simp [intOf]; omega
                          case rel => exact ⟨k + 1, by omega, by go_num, by rw [HGS.out]; rfl, hwu⟩
                      · -- 9
                        go_simp
                        refine hK.out _ _ (HSS.out _ _ (hwq.drew.alloc _) (by simp)) (fun hS11 => ?_)
                        clear hK K
                        (try simp only [Act.put, List.getElem_toArray, List.getElem_cons_succ, List.getElem_cons_zero, List.setIfInBounds_toArray, List.set_cons_zero, List.set_cons_succ])
                        refine wpAnyH_ready (rs := [4, 10]) (by kernel_rfl) (by simp) ?_
                        refine AllReadyH.cons rfl (fun K hK => ?_) (AllReadyH.cons rfl (fun K hK => ?_) AllReadyH.nil)
                        · -- 4
                          go_simp
                          refine hK.out _ _ (HSS.out _ _ ((hwq.drew.alloc _).alloc _) (by simp)) (fun hS12 => ?_)
                          clear hK K
                          (try simp only [Act.put, List.getElem_toArray, List.getElem_cons_succ, List.getElem_cons_zero, List.setIfInBounds_toArray, List.set_cons_zero, List.set_cons_succ])
                          refine wpAnyH_ready (rs := [10]) (by kernel_rfl) (by simp) ?_
                          refine AllReadyH.cons rfl (fun K hK => ?_) AllReadyH.nil
                          go_simp
                          refine hK.out _ _ (HSS.out _ _ (((hwq.drew.alloc _).alloc _).alloc _) (by simp)) (fun hS13 => ?_)
                          clear hK K
                          (try simp only [Act.put, List.getElem_toArray, List.getElem_cons_succ, List.getElem_cons_zero, List.setIfInBounds_toArray, List.set_cons_zero, List.set_cons_succ])
                          refine wpAnyH_ready (rs := [11]) (by kernel_rfl) (by simp) ?_
                          refine AllReadyH.cons rfl (fun K hK => ?_) AllReadyH.nil
                          go_simp
                          refine (sameT_any (H1 := Hp.one (wo3.heap.size + 1) (.cells #[.string s] 9)) (H2 := Hp.one (wo3.heap.size + 2) (.cells #[.string ky] 9)) _ _ [s] [ky] _ hsBAC (by simp) (by simp) (one_str _ _) (one_str _ _)).mono ?_
                          rintro e wt ⟨rfl, hwt⟩
                          rw [HDC.out]
                          (try go_wp2_with fail)
                          refine hK.out _ _ (HSS.out _ _ hwt (by simp)) (fun hS14 => ?_)
                          clear hK K
                          (try simp only [Act.put, List.getElem_toArray, List.getElem_cons_succ, List.getElem_cons_zero, List.setIfInBounds_toArray, List.set_cons_zero, List.set_cons_succ])
                          refine wpAnyH_take (i := 12) (v := ?_) rfl (by kernel_rfl) (by kernel_rfl) (by kernel_rfl) (fun _ _ _ h => h) (Or.inl ⟨by rfl, ?_⟩) hS14 ?_
                          rotate_left
                          · intro w hSw; go_simp; (try with_reducible rfl)
                          (try simp only [Act.put, List.getElem_toArray, List.getElem_cons_succ, List.getElem_cons_zero, List.setIfInBounds_toArray, List.set_cons_zero, List.set_cons_succ])
                          refine wpAnyH_done (by kernel_rfl) ?_ _
                          refine NoPanic.normal ?_
                          have hwu := hwt.drop.drop.drop
                          have c0 := hwu.cellAt (H := H) (by simp [hH]) HE0.out
                          cases th
                          · rw [HTH.out rfl] at c0
                            go_wp2
                            go_roundw
                            case measure => simp [intOf]; omega
                            case rel => exact ⟨k + 1, by omega, by go_num, by rw [HGS.out]; rfl, hwu⟩
                          · go_wp2
                            go_roundw
                            case measure => simp [intOf]; omega
                            case rel => exact ⟨k + 1, by omega, by go_num, by rw [HGS.out]; rfl, hwu⟩
                        · -- 10
                          go_simp
                          refine hK.out _ _ (HSS.out _ _ ((hwq.drew.alloc _).alloc _) (by simp)) (fun hS15 => ?_)
                          clear hK K
                          (try simp only [Act.put, List.getElem_toArray, List.getElem_cons_succ, List.getElem_cons_zero, List.setIfInBounds_toArray, List.set_cons_zero, List.set_cons_succ])
                          refine wpAnyH_ready (rs := [4]) (by kernel_rfl) (by simp) ?_
                          refine AllReadyH.cons rfl (fun K hK => ?_) AllReadyH.nil
                          go_simp
                          refine hK.out _ _ (HSS.out _ _ (((hwq.drew.alloc _).alloc _).alloc _) (by simp)) (fun hS16 => ?_)
                          clear hK K
                          (try simp only [Act.put, List.getElem_toArray, List.getElem_cons_succ, List.getElem_cons_zero, List.setIfInBounds_toArray, List.set_cons_zero, List.set_cons_succ])
                          refine wpAnyH_ready (rs := [11]) (by kernel_rfl) (by simp) ?_
                          refine AllReadyH.cons rfl (fun K hK => ?_) AllReadyH.nil
                          go_simp
                          refine (sameT_any (H1 := Hp.one (wo3.heap.size + 2) (.cells #[.string s] 9)) (H2 := Hp.one (wo3.heap.size + 1) (.cells #[.string ky] 9)) _ _ [s] [ky] _ hsBCA (by simp) (by simp) (one_str _ _) (one_str _ _)).mono ?_
                          rintro e wt ⟨rfl, hwt⟩
                          rw [HDC.out]
                          (try go_wp2_with fail)
                          refine hK.out _ _ (HSS.out _ _ hwt (by simp)) (fun hS17 => ?_)
                          clear hK K
                          (try simp only [Act.put, List.getElem_toArray, List.getElem_cons_succ, List.getElem_cons_zero, List.setIfInBounds_toArray, List.set_cons_zero, List.set_cons_succ])
                          refine wpAnyH_take (i := 12) (v := ?_) rfl (by kernel_rfl) (by kernel_rfl) (by kernel_rfl) (fun _ _ _ h => h) (Or.inl ⟨by rfl, ?_⟩) hS17 ?_
                          rotate_left
                          · intro w hSw; go_simp; (try with_reducible rfl)
                          (try simp only [Act.put, List.getElem_toArray, List.getElem_cons_succ, List.getElem_cons_zero, List.setIfInBounds_toArray, List.set_cons_zero, List.set_cons_succ])
                          refine wpAnyH_done (by kernel_rfl) ?_ _
                          refine NoPanic.normal ?_
                          have hwu := hwt.drop.drop.drop
                          have c0 := hwu.cellAt (H := H) (by simp [hH]) HE0.out
                          cases th
                          · rw [HTH.out rfl] at c0
                            go_wp2
                            go_roundw
                            case measure => simp [intOf]; omega
                            case rel => exact ⟨k + 1, by omega, by go_num, by rw [HGS.out]; rfl, hwu⟩
                          · go_wp2
                            go_roundw
                            case measure => simp [intOf]; omega
                            case rel => exact ⟨k + 1, by omega, by go_num, by rw [HGS.out]; rfl, hwu⟩
                  · obtain rfl : k = m := by omega
                    have hgj : goneN aa p k = j := by unfold goneN; rw [show min k p = p by omega]; exact hcj
                    rw [hgj]
                    clear hgj
                    go_wp2_with fail
                    refine (HUS.out wo3 _ hwq (by simp)).mono ?_
                    rintro e w5 ⟨rfl, hw5⟩
                    go_wp2
                    go_ret
                    exact ⟨rfl, hw5.drop.drop⟩
  · have h25' : ¬ ((25 : Int) < xs.length) := by omega
    have hm : xs.length ≤ 25 := by omega
    go_enter Try.func6, Try.ntmps6
    go_wp2_with fail
    refine (works_any w hw).mono ?_
    rintro e w1 ⟨rfl, hw1⟩
    go_wp2_with fail
    generalize hasd : xs = aa at *
    clear hasd h25 h25'
    obtain ⟨m, hmd⟩ : ∃ m, aa.length = m := ⟨_, rfl⟩
    rw [hmd] at hc1 hm hs ⊢
    have HMD := Lib.hid hmd
    have HB : Hid (∀ k, k < m → ∃ b off c', Value.slice A m c = .slice (some ⟨b, off, none⟩) m c' ∧ Hp.cell H b (off + k) = some (.bool (asB aa k))) := Lib.hid (fun k hk => by
      have h := bool_get hs (by rw [HMD.out]; exact hk)
      rwa [HMD.out] at h)
    clear hs hmd
    refine (new_any m 1 w1 hw1 (newBad_hand m hm)).mono ?_
    rintro e w2 ⟨b, M, rfl, hw2, hT⟩
    clear hw1
    by_cases hm0 : m = 0
    · subst hm0
      have HP := Lib.hid (put_any b 1 0 _ 0 9 ⟨#[122]⟩ (.slice none 0 0) [] w2 hw2 hT hH Kd.IsSl.nil (by decide))
      rw [show putE 1 (List.replicate 0 se0) 0 ⟨#[122]⟩ ([] : List Int).length 9 = 4 by
        unfold putE
        rw [if_neg (by rw [ask_ok (by omega) (by omega) (by decide) (by decide)]; simp), if_neg (by omega), if_neg (by simp), if_pos (by simp)]] at HP
      clear hT
      go_wp2_with fail
      refine HP.out.mono ?_
      rintro e w3 ⟨rfl, M3, hw3, _, _⟩
      go_wp2
      go_ret
      exact ⟨rfl, hw3.drop⟩
    have hm0' : ((m : Int) == 0) = false := beq_eq_false_iff_ne.2 (by omega)
    have hT0 : Sto M b 1 0 (mk m (fI 0)) := by
      have e : mk m (fI 0) = List.replicate m se0 := by
        unfold mk
        rw [show (fI 0) = fun _ => se0 from rfl, List.map_const', List.length_range]
      rw [e]
      exact hT
    clear hT
    obtain ⟨gb, off, c', hv, _⟩ := HB.out 0 (by omega)
    injection hv with hv1 hv2 hv3
    subst hv1; clear hv2 hv3
    have HBC : Hid (∀ k, k < m → Hp.cell H gb (off + k) = some (.bool (asB aa k))) := Lib.hid (fun k hk => by
      obtain ⟨b2, o2, c2, hv, e⟩ := HB.out k hk
      injection hv with h1
      injection h1 with h1
      injection h1 with h1 h2 h3
      subst h1; subst h2
      exact e)
    clear HB
    have HKC : Hid (∀ (i : Nat) (w : World), (convert 23 9 (.slice (some ⟨w.heap.size, 0, none⟩) 1 1)).run Try.prog (w.alloc (.cells #[.int .u8 (97 + (i : Int))] 5)) = .ok (.string (keyL i)) (w.alloc (.cells #[.int .u8 (97 + (i : Int))] 5))) := Lib.hid (fun i w => conv1 w _)
    go_wp2
    go_loopw [8, 7] (fun i o wr => ∃ (k : Nat) (M : Hp), k ≤ m ∧ i = .int .i64 k ∧ o = .int .i64 (cntA aa k : Nat) ∧ Sat σ wr (M :: Hs) ∧ Sto M b 1 0 (mk m (fI k))) (fun i _ _ => m - (intOf i).toNat)
    case atStart => exact ⟨0, M, by omega, rfl, rfl, hw2, hT0⟩
    case round =>
      obtain ⟨k, M1, hk, rfl, rfl, hwr, hTr⟩ := hrel
      clear hw2 hT0
      have hcn := cntA_le aa k
      by_cases hlt : k < m
      · have e0 := HBC.out k hlt
        have HPI := Lib.hid (put_init (m := m) (i := k) hm hlt)
        have kc2 := HKC.out k
        have hks := (keyL_ok k (by omega)).1
        have HCS := Lib.hid (cntA_succ aa k)
        have HPUT := Lib.hid (fun w' Hs' (h : Sat σ w' (M1 :: Hs')) (hm' : H ∈ Hs') => put_any b 1 0 (mk m (fI k)) 0 99 (keyL k) (.slice none 0 0) [] w' h hTr hm' Kd.IsSl.nil (by omega))
        rw [show ([] : List Int).length = 0 from rfl, HPI.out.1, HPI.out.2] at HPUT
        clear hTr HPI
        generalize keyL k = ky at *
        have m1 : IntKind.u8.wrap (k : Int) = k := by simp only [IntKind.wrap_u8]; omega
        have m2 : IntKind.u8.wrap (97 + (k : Int)) = 97 + (k : Int) := by simp only [IntKind.wrap_u8]; omega
        have hki : (k : Int) < m := by omega
        generalize cntA aa k = cn at *
        have m3 : IntKind.i64.wrap ((cn : Int) + 1) = (cn : Int) + 1 := IntWalk.i64_in _ (by omega)
        go_wp2_with fail
        refine (HPUT.out _ _ (hwr.alloc (.cells #[.int .u8 (97 + (k : Int))] 5)).swap (by simp [hH])).mono ?_
        rintro e w3 ⟨rfl, M3, hw3, hT3, _⟩
        have hT3 : Sto M3 b 1 0 (mk m (fI (k + 1))) := hT3
        have c0 := hw3.cellAt (H := H) (by simp [hH]) e0
        clear hwr HPUT kc2 e0
        cases ha : asB aa k
        · rw [ha] at c0 HCS
          clear ha
          go_wp2
          go_roundw
          case measure => simp [intOf]; omega
          case rel => exact ⟨k + 1, M3, by omega, by go_num, by rw [HCS.out]; rfl, hw3.drop1, hT3⟩
        · rw [ha] at c0 HCS
          clear ha
          go_wp2
          go_roundw
          case measure => simp [intOf]; omega
          case rel => exact ⟨k + 1, M3, by omega, by go_num, by rw [HCS.out]; rfl, hw3.drop1, hT3⟩
      · obtain rfl : k = m := by omega
        rw [init_all k aa] at hTr
        go_wp2
        go_loopw [9] (fun i wi => ∃ (q : Nat) (M : Hp), q ≤ k ∧ i = .int .i64 q ∧ Sat σ wi (M :: Hs) ∧ Sto M b 1 0 (mk k (fG aa q))) (fun i _ => k - (intOf i).toNat)
        case atStart => exact ⟨0, M1, by omega, rfl, hwr, hTr⟩
        case round =>
          obtain ⟨q, M2, hq, rfl, hwi, hTi⟩ := hrel
          clear hwr hTr
          obtain ⟨wo, rfl⟩ : ∃ wo : World, wo = wr := ⟨_, rfl⟩
          by_cases hlt : q < k
          · have e0 := HBC.out q hlt
            have c0 := hwi.cellAt (H := H) (by simp [hH]) e0
            have hqi : (q : Int) < k := by omega
            clear e0
            cases ha : asB aa q
            · rw [ha] at c0
              rw [← get_skip (m := k) ha] at hTi
              clear ha
              go_wp2
              go_roundw
              case measure => simp [intOf]; omega
              case rel => exact ⟨q + 1, M2, by omega, by go_num, hwi, hTi⟩
            · rw [ha] at c0
              have HGS := Lib.hid (get_step (m := k) hm hlt ha)
              have kc2 := HKC.out q
              have hks := (keyL_ok q (by omega)).1
              have HGET := Lib.hid (fun w' Hs' (h : Sat σ w' (M2 :: Hs')) => get_any b 1 0 _ 1 (keyL q) w' h hTi (by omega))
              have m1 : IntKind.u8.wrap (q : Int) = q := by simp only [IntKind.wrap_u8]; omega
              have m2 : IntKind.u8.wrap (97 + (q : Int)) = 97 + (q : Int) := by simp only [IntKind.wrap_u8]; omega
              clear ha hTi
              generalize keyL q = ky at *
              go_wp2_with fail
              refine (HGET.out _ _ (hwi.alloc (.cells #[.int .u8 (97 + (q : Int))] 5)).swap).mono ?_
              rintro e w3 ⟨gv, N, gcl, M3, rfl, hw3, hgo, hgr, hT3, _⟩
              rw [HGS.out] at hT3
              clear hgo hgr c0 kc2 HGET
              go_wp2
              go_roundw
              case measure => simp [intOf]; omega
              case rel => exact ⟨q + 1, M3, by omega, by go_num, hw3.drop.drop1, hT3⟩
          · obtain rfl : q = k := by omega
            rw [get_all] at hTi
            have hcm := cntA_le aa q
            obtain ⟨cm, hcmd⟩ : ∃ cm, cntA aa q = cm := ⟨_, rfl⟩
            rw [hcmd] at hcm ⊢
            have HCM := Lib.hid hcmd
            clear hcmd
            have m3 : IntKind.i64.wrap ((cm : Int) + 1) = (cm : Int) + 1 := IntWalk.i64_in _ (by omega)
            go_wp2_with fail
            refine (among_any n ((cm : Int) + 1) wo (by omega) (by omega)).mono ?_
            rintro e w3 ⟨rfl, rfl⟩
            have hr := amongI_range n ((cm : Int) + 1) (by omega)
            obtain ⟨mo, hmo⟩ : ∃ mo : Nat, amongI n ((cm : Int) + 1) = mo := ⟨(amongI n ((cm : Int) + 1)).toNat, by omega⟩
            rw [hmo] at hr ⊢
            clear hmo
            go_wp2
            obtain ⟨m, rfl⟩ : ∃ m, m = q := ⟨_, rfl⟩
            clear hk hq hlt
            go_loopw [10] (fun i wi => ∃ (j p : Nat) (M : Hp), j ≤ mo ∧ p ≤ m ∧ cntA aa p = j ∧ i = .int .i64 j ∧ Sat σ wi (M :: Hs) ∧ Sto M b 1 (p % m) (mk m (fN aa p))) (fun i _ => mo - (intOf i).toNat)
            case atStart => exact ⟨0, 0, M2, by omega, by omega, rfl, rfl, hwi, by rw [Nat.zero_mod]; exact hTi⟩
            case round =>
              obtain ⟨j, p, M3, hj, hpm, hcj, rfl, hwj, hTj⟩ := hrel
              clear hwi hTi
              obtain ⟨wo2, rfl⟩ : ∃ wo2 : World, wo2 = wr := ⟨_, rfl⟩
              by_cases hlt : j < mo
              · obtain ⟨hPE, p', hp1, hp2, hPR⟩ := put_new (m := m) hm hcj (by rw [HCM.out]; omega) hpm
                have hks := (newK_ok j (by omega)).1
                have HPUT := Lib.hid (fun w' Hs' (h : Sat σ w' (M3 :: Hs')) (hm' : H ∈ Hs') => put_any b 1 (p % m) (mk m (fN aa p)) 1 99 (newK j) (.slice none 0 0) [] w' h hTj hm' Kd.IsSl.nil (by omega))
                rw [show ([] : List Int).length = 0 from rfl, hPE, hPR] at HPUT
                have HNK : Hid (newK j = ⟨#[110, 101, 119]⟩ ++ itoaB j) := Lib.hid rfl
                have hib : (itoaB j).size ≤ 4096 := by
                  have := hks
                  rw [HNK.out, ByteArray.size_append] at this
                  omega
                have HIT := Lib.hid (itoa_any j (by omega) wo2 hwj)
                rw [HNK.out] at HPUT
                clear hPE hPR hTj hks HNK
                generalize itoaB j = ib at *
                have hsz : ¬ (9223372036854775807 < (⟨#[110, 101, 119]⟩ : ByteArray).size + ib.size) := by rw [show (⟨#[110, 101, 119]⟩ : ByteArray).size = 3 from rfl]; omega
                have hsz2 : ¬ (9223372036854775807 < 3 + ib.size) := by omega
                have hji : (j : Int) < mo := by omega
                go_wp2_with fail
                refine HIT.out.mono ?_
                rintro e w3 ⟨rfl, hw3⟩
                go_wp2_with fail
                refine (HPUT.out w3 _ hw3 hH).mono ?_
                rintro e w4 ⟨rfl, M4, hw4, hT4, _⟩
                go_wp2
                go_roundw
                case measure => simp [intOf]; omega
                case rel => exact ⟨j + 1, p', M4, by omega, hp1, hp2, by go_num, hw4, hT4⟩
              · obtain rfl : j = mo := by omega
                obtain ⟨ks, hks⟩ : ∃ ks, (mk m (fN aa p)).map SE.key = ks := ⟨_, rfl⟩
                have HKE := Lib.hid (keys_any (σ := σ) b 1 _ _ hTj)
                have HUS := Lib.hid (used_any (σ := σ) b 1 _ _ hTj)
                rw [used_all hm] at HUS
                have HEK := Lib.hid (fun i (hi : i < m) => end_key (aa := aa) hm hpm hi)
                have hkl : ks.length = m := by rw [← hks, List.length_map, mk_len]
                rw [hks] at HKE HEK
                have HKL := Lib.hid hkl
                clear hks hTj hkl
                go_wp2_with fail
                refine (HKE.out wo2 _ hwj (by simp)).mono ?_
                rintro e w3 ⟨kv, K, rfl, hw3, hkv⟩
                have hkv' := Lib.hid hkv
                obtain ⟨Ak, ck, rfl, _⟩ := hkv.form
                rw [HKL.out] at hkv' ⊢
                obtain ⟨gk, ok, _, _, _, hv, _⟩ := str_get hkv'.out (k := 0) (by have := HKL.out; omega)
                injection hv with hv1 hv2 hv3
                subst hv1; clear hv2 hv3
                clear hkv hwj HKE
                go_wp2
                go_loopw [13, 12, 14] (fun i o _ wi => ∃ (k : Nat), k ≤ m ∧ i = .int .i64 k ∧ o = .int .i64 (goneN aa p k : Nat) ∧ Sat σ wi (K :: M3 :: Hs)) (fun i _ _ _ => m - (intOf i).toNat)
                case atStart => exact ⟨0, by omega, rfl, by unfold goneN; rw [Nat.zero_min]; rfl, hw3⟩
                case round =>
                  obtain ⟨k, hk, rfl, rfl, hwq⟩ := hrel
                  clear hw3
                  obtain ⟨wo3, rfl⟩ : ∃ wo3 : World, wo3 = wr := ⟨_, rfl⟩
                  by_cases hlk : k < m
                  · obtain ⟨hsk, hdec⟩ := HEK.out k hlk
                    obtain ⟨gk2, ok2, _, s, hs2, hv, ek⟩ := str_get hkv'.out (k := k) (by have := HKL.out; omega)
                    injection hv with hv1 hv2 hv3
                    injection hv1 with hv1
                    injection hv1 with hv1 hv4 hv5
                    subst hv1; subst hv4; clear hv2 hv3 hv5
                    obtain rfl : (fN aa p k).key = s := by rw [hsk] at hs2; exact Option.some.inj hs2
                    have hgs := gone_succ (aa := aa) (p := p) (i := k)
                    rw [← hdec] at hgs
                    have hgl : goneN aa p k ≤ 25 := by unfold goneN; have := cntA_le aa (min k p); omega
                    have e0 := HBC.out k hlk
                    have hth : decide ([(fN aa p k).key] = [keyL k]) = false → asB aa k = false := fun h => by
                      rw [hdec] at h
                      cases ha : asB aa k
                      · rfl
                      · rw [ha] at h; simp at h
                    clear hdec hsk hs2
                    obtain ⟨s, hsd⟩ : ∃ s, (fN aa p k).key = s := ⟨_, rfl⟩
                    obtain ⟨ky, hky⟩ : ∃ ky, keyL k = ky := ⟨_, rfl⟩
                    have kcA : (convert 23 9 (.slice (some ⟨wo3.heap.size, 0, none⟩) 1 1)).run Try.prog ((wo3.alloc (.cells #[.int .u8 (97 + (k : Int))] 5)).drew) = .ok (.string (keyL k)) ((wo3.alloc (.cells #[.int .u8 (97 + (k : Int))] 5)).drew) := convS (hwq.drew.alloc (.cells #[.int .u8 (97 + (k : Int))] 5)) List.mem_cons_self
                    have kcB : (convert 23 9 (.slice (some ⟨wo3.heap.size + 1, 0, none⟩) 1 1)).run Try.prog (((wo3.alloc (.cells #[.string s] 9)).alloc (.cells #[.int .u8 (97 + (k : Int))] 5)).drew) = .ok (.string (keyL k)) (((wo3.alloc (.cells #[.string s] 9)).alloc (.cells #[.int .u8 (97 + (k : Int))] 5)).drew) := convS (sat2 hwq.drew (.cells #[.string s] 9) (.cells #[.int .u8 (97 + (k : Int))] 5)) List.mem_cons_self
                    have kcC : (convert 23 9 (.slice (some ⟨wo3.heap.size, 0, none⟩) 1 1)).run Try.prog (((wo3.alloc (.cells #[.int .u8 (97 + (k : Int))] 5)).alloc (.cells #[.string s] 9)).drew) = .ok (.string (keyL k)) (((wo3.alloc (.cells #[.int .u8 (97 + (k : Int))] 5)).alloc (.cells #[.string s] 9)).drew) := convS (sat2 hwq.drew (.cells #[.int .u8 (97 + (k : Int))] 5) (.cells #[.string s] 9)) (List.mem_cons_of_mem _ List.mem_cons_self)
                    rw [hky] at kcA kcB kcC hgs hth
                    rw [hsd] at hgs hth ek
                    clear hsd hky
                    have hki : (k : Int) < m := by omega
                    have m1 : IntKind.u8.wrap (k : Int) = k := by simp only [IntKind.wrap_u8]; omega
                    have m2 : IntKind.u8.wrap (97 + (k : Int)) = 97 + (k : Int) := by simp only [IntKind.wrap_u8]; omega
                    have HSS : Hid (∀ w' Hs', Sat σ w' Hs' → K ∈ Hs' → (w'.cell? ⟨gk, ok + k, none⟩ = some (.string s))) := Lib.hid (fun w' Hs' h hm => h.cellAt hm ek)
                    have HGS := Lib.hid hgs; have HTH := Lib.hid hth; have HE0 := Lib.hid e0
                    obtain ⟨th, hthd⟩ : ∃ th, decide ([s] = [ky]) = th := ⟨_, rfl⟩
                    have HDC := Lib.hid hthd
                    rw [hthd] at HGS HTH
                    clear hgs hth e0 ek hthd
                    generalize goneN aa p k = gn at *
                    have m4 : IntKind.i64.wrap ((gn : Int) + 1) = (gn : Int) + 1 := IntWalk.i64_in _ (by omega)
                    go_wp2
                    have hsABC : Sat σ (((wo3.alloc (.cells #[.string s] 9)).alloc (.cells #[.int .u8 (97 + (k : Int))] 5)).alloc (.cells #[.string ky] 9)).drew _ := sat3 hwq.drew (.cells #[.string s] 9) (.cells #[.int .u8 (97 + (k : Int))] 5) (.cells #[.string ky] 9)
                    have hsBAC : Sat σ (((wo3.alloc (.cells #[.int .u8 (97 + (k : Int))] 5)).alloc (.cells #[.string s] 9)).alloc (.cells #[.string ky] 9)).drew _ := sat3 hwq.drew (.cells #[.int .u8 (97 + (k : Int))] 5) (.cells #[.string s] 9) (.cells #[.string ky] 9)
                    have hsBCA : Sat σ (((wo3.alloc (.cells #[.int .u8 (97 + (k : Int))] 5)).alloc (.cells #[.string ky] 9)).alloc (.cells #[.string s] 9)).drew _ := sat3 hwq.drew (.cells #[.int .u8 (97 + (k : Int))] 5) (.cells #[.string ky] 9) (.cells #[.string s] 9)
                    refine wp_region_noPanic ?_
                    refine wp_region_held_drew (S := fun w' => w'.cell? ⟨gk, ok + k, none⟩ = some (.string s)) (by kernel_rfl) (HSS.out _ _ hwq.drew (by simp)) (fun hS0 => ?_)
                    refine wpAnyH_take (i := 0) (v := ?_) rfl (by kernel_rfl) (by kernel_rfl) (by kernel_rfl) (fun _ _ _ h => h) (Or.inl ⟨by rfl, ?_⟩) hS0 ?_
                    rotate_left
                    · intro w hSw; go_simp; (try with_reducible rfl)
                    (try simp only [Act.put, List.getElem_toArray, List.getElem_cons_succ, List.getElem_cons_zero, List.setIfInBounds_toArray, List.set_cons_zero, List.set_cons_succ])
                    refine wpAnyH_take (i := 1) (v := ?_) rfl (by kernel_rfl) (by kernel_rfl) (by kernel_rfl) (fun _ _ _ h => h) (Or.inl ⟨by rfl, ?_⟩) hS0 ?_
                    rotate_left
                    · intro w hSw; go_simp; (try with_reducible rfl)
                    (try simp only [Act.put, List.getElem_toArray, List.getElem_cons_succ, List.getElem_cons_zero, List.setIfInBounds_toArray, List.set_cons_zero, List.set_cons_succ])
                    refine wpAnyH_take (i := 2) (v := ?_) rfl (by kernel_rfl) (by kernel_rfl) (by kernel_rfl) (fun _ _ _ h => h) (Or.inl ⟨by rfl, ?_⟩) hS0 ?_
                    rotate_left
                    · intro w hSw; go_simp; (try with_reducible rfl)
                    (try simp only [Act.put, List.getElem_toArray, List.getElem_cons_succ, List.getElem_cons_zero, List.setIfInBounds_toArray, List.set_cons_zero, List.set_cons_succ])
                    refine wpAnyH_take (i := 3) (v := ?_) rfl (by kernel_rfl) (by kernel_rfl) (by kernel_rfl) (fun _ _ _ h => h) (Or.inl ⟨by rfl, ?_⟩) hS0 ?_
                    rotate_left
                    · intro w hSw; go_simp; (try with_reducible rfl)
                    (try simp only [Act.put, List.getElem_toArray, List.getElem_cons_succ, List.getElem_cons_zero, List.setIfInBounds_toArray, List.set_cons_zero, List.set_cons_succ])
                    refine wpAnyH_take (i := 5) (v := ?_) rfl (by kernel_rfl) (by kernel_rfl) (by kernel_rfl) (fun _ _ _ h => h) (Or.inl ⟨by rfl, ?_⟩) hS0 ?_
                    rotate_left
                    · intro w hSw; go_simp; (try with_reducible rfl)
                    (try simp only [Act.put, List.getElem_toArray, List.getElem_cons_succ, List.getElem_cons_zero, List.setIfInBounds_toArray, List.set_cons_zero, List.set_cons_succ])
                    refine wpAnyH_take (i := 6) (v := ?_) rfl (by kernel_rfl) (by kernel_rfl) (by kernel_rfl) (fun _ _ _ h => h) (Or.inl ⟨by rfl, ?_⟩) hS0 ?_
                    rotate_left
                    · intro w hSw; go_simp; (try with_reducible rfl)
                    (try simp only [Act.put, List.getElem_toArray, List.getElem_cons_succ, List.getElem_cons_zero, List.setIfInBounds_toArray, List.set_cons_zero, List.set_cons_succ])
                    refine wpAnyH_take (i := 7) (v := ?_) rfl (by kernel_rfl) (by kernel_rfl) (by kernel_rfl) (fun _ _ _ h => h) (Or.inl ⟨by rfl, ?_⟩) hS0 ?_
                    rotate_left
                    · intro w hSw; go_simp; (try with_reducible rfl)
                    (try simp only [Act.put, List.getElem_toArray, List.getElem_cons_succ, List.getElem_cons_zero, List.setIfInBounds_toArray, List.set_cons_zero, List.set_cons_succ])
                    refine wpAnyH_ready (rs := [4, 8]) (by kernel_rfl) (by simp) ?_
                    refine AllReadyH.cons rfl (fun K hK => ?_) (AllReadyH.cons rfl (fun K hK => ?_) AllReadyH.nil)
                    · -- 4
                      go_simp
                      refine hK.out _ _ (HSS.out _ _ (hwq.drew.alloc _) (by simp)) (fun hS1 => ?_)
                      clear hK K
                      (try simp only [Act.put, List.getElem_toArray, List.getElem_cons_succ, List.getElem_cons_zero, List.setIfInBounds_toArray, List.set_cons_zero, List.set_cons_succ])
                      refine wpAnyH_ready (rs := [8]) (by kernel_rfl) (by simp) ?_
                      refine AllReadyH.cons rfl (fun K hK => ?_) AllReadyH.nil
                      go_simp
                      refine hK.out _ _ (HSS.out _ _ ((hwq.drew.alloc _).alloc _) (by simp)) (fun hS2 => ?_)
                      clear hK K
                      (try simp only [Act.put, List.getElem_toArray, List.getElem_cons_succ, List.getElem_cons_zero, List.setIfInBounds_toArray, List.set_cons_zero, List.set_cons_succ])
                      refine wpAnyH_ready (rs := [9]) (by kernel_rfl) (by simp) ?_
                      refine AllReadyH.cons rfl (fun K hK => ?_) AllReadyH.nil
                      go_simp
                      refine hK.out _ _ (HSS.out _ _ ((hwq.drew.alloc _).alloc _) (by simp)) (fun hS3 => ?_)
                      clear hK K
                      (try simp only [Act.put, List.getElem_toArray, List.getElem_cons_succ, List.getElem_cons_zero, List.setIfInBounds_toArray, List.set_cons_zero, List.set_cons_succ])
                      refine wpAnyH_ready (rs := [10]) (by kernel_rfl) (by simp) ?_
                      refine AllReadyH.cons rfl (fun K hK => ?_) AllReadyH.nil
                      go_simp
                      refine hK.out _ _ (HSS.out _ _ (((hwq.drew.alloc _).alloc _).alloc _) (by simp)) (fun hS4 => ?_)
                      clear hK K
                      (try simp only [Act.put, List.getElem_toArray, List.getElem_cons_succ, List.getElem_cons_zero, List.setIfInBounds_toArray, List.set_cons_zero, List.set_cons_succ])
                      refine wpAnyH_ready (rs := [11]) (by kernel_rfl) (by simp) ?_
                      refine AllReadyH.cons rfl (fun K hK => ?_) AllReadyH.nil
                      go_simp
                      refine (sameT_any (H1 := Hp.one (wo3.heap.size) (.cells #[.string s] 9)) (H2 := Hp.one (wo3.heap.size + 2) (.cells #[.string ky] 9)) _ _ [s] [ky] _ hsABC (by simp) (by simp) (one_str _ _) (one_str _ _)).mono ?_
                      rintro e wt ⟨rfl, hwt⟩
                      rw [HDC.out]
                      (try go_wp2_with fail)
                      refine hK.out _ _ (HSS.out _ _ hwt (by simp)) (fun hS5 => ?_)
                      clear hK K
                      (try simp only [Act.put, List.getElem_toArray, List.getElem_cons_succ, List.getElem_cons_zero, List.setIfInBounds_toArray, List.set_cons_zero, List.set_cons_succ])
                      refine wpAnyH_take (i := 12) (v := ?_) rfl (by kernel_rfl) (by kernel_rfl) (by kernel_rfl) (fun _ _ _ h => h) (Or.inl ⟨by rfl, ?_⟩) hS5 ?_
                      rotate_left
                      · intro w hSw; go_simp; (try with_reducible rfl)
                      (try simp only [Act.put, List.getElem_toArray, List.getElem_cons_succ, List.getElem_cons_zero, List.setIfInBounds_toArray, List.set_cons_zero, List.set_cons_succ])
                      refine wpAnyH_done (by kernel_rfl) ?_ _
                      refine NoPanic.normal ?_
                      have hwu := hwt.drop.drop.drop
                      have c0 := hwu.cellAt (H := H) (by simp [hH]) HE0.out
                      cases th
                      · rw [HTH.out rfl] at c0
                        go_wp2
                        go_roundw
                        case measure => simp [intOf]; omega
                        case rel => exact ⟨k + 1, by omega, by go_num, by rw [HGS.out]; rfl, hwu⟩
                      · go_wp2
                        go_roundw
                        case measure => simp [intOf]; omega
                        case rel => exact ⟨k + 1, by omega, by go_num, by rw [HGS.out]; rfl, hwu⟩
                    · -- 8
                      go_simp
                      refine hK.out _ _ (HSS.out _ _ (hwq.drew.alloc _) (by simp)) (fun hS6 => ?_)
                      clear hK K
                      (try simp only [Act.put, List.getElem_toArray, List.getElem_cons_succ, List.getElem_cons_zero, List.setIfInBounds_toArray, List.set_cons_zero, List.set_cons_succ])
                      refine wpAnyH_ready (rs := [4, 9]) (by kernel_rfl) (by simp) ?_
                      refine AllReadyH.cons rfl (fun K hK => ?_) (AllReadyH.cons rfl (fun K hK => ?_) AllReadyH.nil)
                      · -- 4
                        go_simp
                        refine hK.out _ _ (HSS.out _ _ ((hwq.drew.alloc _).alloc _) (by simp)) (fun hS7 => ?_)
                        clear hK K
                        (try simp only [Act.put, List.getElem_toArray, List.getElem_cons_succ, List.getElem_cons_zero, List.setIfInBounds_toArray, List.set_cons_zero, List.set_cons_succ])
                        refine wpAnyH_ready (rs := [9]) (by kernel_rfl) (by simp) ?_
                        refine AllReadyH.cons rfl (fun K hK => ?_) AllReadyH.nil
                        go_simp
                        refine hK.out _ _ (HSS.out _ _ ((hwq.drew.alloc _).alloc _) (by simp)) (fun hS8 => ?_)
                        clear hK K
                        (try simp only [Act.put, List.getElem_toArray, List.getElem_cons_succ, List.getElem_cons_zero, List.setIfInBounds_toArray, List.set_cons_zero, List.set_cons_succ])
                        refine wpAnyH_ready (rs := [10]) (by kernel_rfl) (by simp) ?_
                        refine AllReadyH.cons rfl (fun K hK => ?_) AllReadyH.nil
                        go_simp
                        refine hK.out _ _ (HSS.out _ _ (((hwq.drew.alloc _).alloc _).alloc _) (by simp)) (fun hS9 => ?_)
                        clear hK K
                        (try simp only [Act.put, List.getElem_toArray, List.getElem_cons_succ, List.getElem_cons_zero, List.setIfInBounds_toArray, List.set_cons_zero, List.set_cons_succ])
                        refine wpAnyH_ready (rs := [11]) (by kernel_rfl) (by simp) ?_
                        refine AllReadyH.cons rfl (fun K hK => ?_) AllReadyH.nil
                        go_simp
                        refine (sameT_any (H1 := Hp.one (wo3.heap.size + 1) (.cells #[.string s] 9)) (H2 := Hp.one (wo3.heap.size + 2) (.cells #[.string ky] 9)) _ _ [s] [ky] _ hsBAC (by simp) (by simp) (one_str _ _) (one_str _ _)).mono ?_
                        rintro e wt ⟨rfl, hwt⟩
                        rw [HDC.out]
                        (try go_wp2_with fail)
                        refine hK.out _ _ (HSS.out _ _ hwt (by simp)) (fun hS10 => ?_)
                        clear hK K
                        (try simp only [Act.put, List.getElem_toArray, List.getElem_cons_succ, List.getElem_cons_zero, List.setIfInBounds_toArray, List.set_cons_zero, List.set_cons_succ])
                        refine wpAnyH_take (i := 12) (v := ?_) rfl (by kernel_rfl) (by kernel_rfl) (by kernel_rfl) (fun _ _ _ h => h) (Or.inl ⟨by rfl, ?_⟩) hS10 ?_
                        rotate_left
                        · intro w hSw; go_simp; (try with_reducible rfl)
                        (try simp only [Act.put, List.getElem_toArray, List.getElem_cons_succ, List.getElem_cons_zero, List.setIfInBounds_toArray, List.set_cons_zero, List.set_cons_succ])
                        refine wpAnyH_done (by kernel_rfl) ?_ _
                        refine NoPanic.normal ?_
                        have hwu := hwt.drop.drop.drop
                        have c0 := hwu.cellAt (H := H) (by simp [hH]) HE0.out
                        cases th
                        · rw [HTH.out rfl] at c0
                          go_wp2
                          go_roundw
                          case measure => simp [intOf]; omega
                          case rel => exact ⟨k + 1, by omega, by go_num, by rw [HGS.out]; rfl, hwu⟩
                        · go_wp2
                          go_roundw
                          case measure => simp [intOf]; omega
                          case rel => exact ⟨k + 1, by omega, by go_num, by rw [HGS.out]; rfl, hwu⟩
                      · -- 9
                        go_simp
                        refine hK.out _ _ (HSS.out _ _ (hwq.drew.alloc _) (by simp)) (fun hS11 => ?_)
                        clear hK K
                        (try simp only [Act.put, List.getElem_toArray, List.getElem_cons_succ, List.getElem_cons_zero, List.setIfInBounds_toArray, List.set_cons_zero, List.set_cons_succ])
                        refine wpAnyH_ready (rs := [4, 10]) (by kernel_rfl) (by simp) ?_
                        refine AllReadyH.cons rfl (fun K hK => ?_) (AllReadyH.cons rfl (fun K hK => ?_) AllReadyH.nil)
                        · -- 4
                          go_simp
                          refine hK.out _ _ (HSS.out _ _ ((hwq.drew.alloc _).alloc _) (by simp)) (fun hS12 => ?_)
                          clear hK K
                          (try simp only [Act.put, List.getElem_toArray, List.getElem_cons_succ, List.getElem_cons_zero, List.setIfInBounds_toArray, List.set_cons_zero, List.set_cons_succ])
                          refine wpAnyH_ready (rs := [10]) (by kernel_rfl) (by simp) ?_
                          refine AllReadyH.cons rfl (fun K hK => ?_) AllReadyH.nil
                          go_simp
                          refine hK.out _ _ (HSS.out _ _ (((hwq.drew.alloc _).alloc _).alloc _) (by simp)) (fun hS13 => ?_)
                          clear hK K
                          (try simp only [Act.put, List.getElem_toArray, List.getElem_cons_succ, List.getElem_cons_zero, List.setIfInBounds_toArray, List.set_cons_zero, List.set_cons_succ])
                          refine wpAnyH_ready (rs := [11]) (by kernel_rfl) (by simp) ?_
                          refine AllReadyH.cons rfl (fun K hK => ?_) AllReadyH.nil
                          go_simp
                          refine (sameT_any (H1 := Hp.one (wo3.heap.size + 1) (.cells #[.string s] 9)) (H2 := Hp.one (wo3.heap.size + 2) (.cells #[.string ky] 9)) _ _ [s] [ky] _ hsBAC (by simp) (by simp) (one_str _ _) (one_str _ _)).mono ?_
                          rintro e wt ⟨rfl, hwt⟩
                          rw [HDC.out]
                          (try go_wp2_with fail)
                          refine hK.out _ _ (HSS.out _ _ hwt (by simp)) (fun hS14 => ?_)
                          clear hK K
                          (try simp only [Act.put, List.getElem_toArray, List.getElem_cons_succ, List.getElem_cons_zero, List.setIfInBounds_toArray, List.set_cons_zero, List.set_cons_succ])
                          refine wpAnyH_take (i := 12) (v := ?_) rfl (by kernel_rfl) (by kernel_rfl) (by kernel_rfl) (fun _ _ _ h => h) (Or.inl ⟨by rfl, ?_⟩) hS14 ?_
                          rotate_left
                          · intro w hSw; go_simp; (try with_reducible rfl)
                          (try simp only [Act.put, List.getElem_toArray, List.getElem_cons_succ, List.getElem_cons_zero, List.setIfInBounds_toArray, List.set_cons_zero, List.set_cons_succ])
                          refine wpAnyH_done (by kernel_rfl) ?_ _
                          refine NoPanic.normal ?_
                          have hwu := hwt.drop.drop.drop
                          have c0 := hwu.cellAt (H := H) (by simp [hH]) HE0.out
                          cases th
                          · rw [HTH.out rfl] at c0
                            go_wp2
                            go_roundw
                            case measure => simp [intOf]; omega
                            case rel => exact ⟨k + 1, by omega, by go_num, by rw [HGS.out]; rfl, hwu⟩
                          · go_wp2
                            go_roundw
                            case measure => simp [intOf]; omega
                            case rel => exact ⟨k + 1, by omega, by go_num, by rw [HGS.out]; rfl, hwu⟩
                        · -- 10
                          go_simp
                          refine hK.out _ _ (HSS.out _ _ ((hwq.drew.alloc _).alloc _) (by simp)) (fun hS15 => ?_)
                          clear hK K
                          (try simp only [Act.put, List.getElem_toArray, List.getElem_cons_succ, List.getElem_cons_zero, List.setIfInBounds_toArray, List.set_cons_zero, List.set_cons_succ])
                          refine wpAnyH_ready (rs := [4]) (by kernel_rfl) (by simp) ?_
                          refine AllReadyH.cons rfl (fun K hK => ?_) AllReadyH.nil
                          go_simp
                          refine hK.out _ _ (HSS.out _ _ (((hwq.drew.alloc _).alloc _).alloc _) (by simp)) (fun hS16 => ?_)
                          clear hK K
                          (try simp only [Act.put, List.getElem_toArray, List.getElem_cons_succ, List.getElem_cons_zero, List.setIfInBounds_toArray, List.set_cons_zero, List.set_cons_succ])
                          refine wpAnyH_ready (rs := [11]) (by kernel_rfl) (by simp) ?_
                          refine AllReadyH.cons rfl (fun K hK => ?_) AllReadyH.nil
                          go_simp
                          refine (sameT_any (H1 := Hp.one (wo3.heap.size + 2) (.cells #[.string s] 9)) (H2 := Hp.one (wo3.heap.size + 1) (.cells #[.string ky] 9)) _ _ [s] [ky] _ hsBCA (by simp) (by simp) (one_str _ _) (one_str _ _)).mono ?_
                          rintro e wt ⟨rfl, hwt⟩
                          rw [HDC.out]
                          (try go_wp2_with fail)
                          refine hK.out _ _ (HSS.out _ _ hwt (by simp)) (fun hS17 => ?_)
                          clear hK K
                          (try simp only [Act.put, List.getElem_toArray, List.getElem_cons_succ, List.getElem_cons_zero, List.setIfInBounds_toArray, List.set_cons_zero, List.set_cons_succ])
                          refine wpAnyH_take (i := 12) (v := ?_) rfl (by kernel_rfl) (by kernel_rfl) (by kernel_rfl) (fun _ _ _ h => h) (Or.inl ⟨by rfl, ?_⟩) hS17 ?_
                          rotate_left
                          · intro w hSw; go_simp; (try with_reducible rfl)
                          (try simp only [Act.put, List.getElem_toArray, List.getElem_cons_succ, List.getElem_cons_zero, List.setIfInBounds_toArray, List.set_cons_zero, List.set_cons_succ])
                          refine wpAnyH_done (by kernel_rfl) ?_ _
                          refine NoPanic.normal ?_
                          have hwu := hwt.drop.drop.drop
                          have c0 := hwu.cellAt (H := H) (by simp [hH]) HE0.out
                          cases th
                          · rw [HTH.out rfl] at c0
                            go_wp2
                            go_roundw
                            case measure => simp [intOf]; omega
                            case rel => exact ⟨k + 1, by omega, by go_num, by rw [HGS.out]; rfl, hwu⟩
                          · go_wp2
                            go_roundw
                            case measure => simp [intOf]; omega
                            case rel => exact ⟨k + 1, by omega, by go_num, by rw [HGS.out]; rfl, hwu⟩
                  · obtain rfl : k = m := by omega
                    have hgj : goneN aa p k = j := by unfold goneN; rw [show min k p = p by omega]; exact hcj
                    rw [hgj]
                    clear hgj
                    go_wp2_with fail
                    refine (HUS.out wo3 _ hwq (by simp)).mono ?_
                    rintro e w5 ⟨rfl, hw5⟩
                    go_wp2
                    go_ret
                    exact ⟨rfl, hw5.drop.drop⟩
end
end Go.Proofs.Ytfieipigbdopaaa
