/- Walk: StoreOnce. -/
import Derived.Test.YtfieipigbdopaaaL4
import Derived.Test.YtfieipigbdopaaaF1
set_option linter.unusedVariables false
set_option linter.unusedSimpArgs false
namespace Go.Proofs.Ytfieipigbdopaaa
open Go.RowKit
set_option maxHeartbeats 8000000
section
variable {σ : World} {Hs : List Hp} {H Hb M N : Hp}
set_option maxRecDepth 10000 in
theorem once_law (n kp : Int) (v : Value) (acts : List ActT) (w : World) (hw : Sat σ w Hs) (hH : H ∈ Hs) (hs : kAct.IsSl H v acts) (hok : ∀ a ∈ acts, a.key.size ≤ 9223372036854775807) :
    Calls Try.prog 5 #[.int .i64 n, .int .i64 kp, v] w fun e w' => e = .returned (.bool true) ∧ Sat σ w' Hs := by
  obtain ⟨A, c, rfl, hc1, hc2, _⟩ := hs.form
  have hr := amongI_range n 20 (by omega)
  have hr2 := amongI_range kp 64 (by omega)
  have HOK := Lib.hid hok; clear hok
  go_enter Try.func5, Try.ntmps5
  go_wp2_with fail
  refine (works_any w hw).mono ?_
  rintro e w1 ⟨rfl, hw1⟩
  go_wp2_with (go_at_call 11; refine (among_any _ _ w1 (by omega) (by omega)).mono ?_; rintro e w2 ⟨rfl, rfl⟩)
  obtain ⟨n0, hn0⟩ : ∃ n0 : Nat, amongI n 20 = n0 := ⟨(amongI n 20).toNat, by omega⟩
  obtain ⟨keep, hkp⟩ : ∃ keep : Nat, amongI kp 64 = keep := ⟨(amongI kp 64).toNat, by omega⟩
  rw [hn0] at hr ⊢
  rw [hkp] at hr2 ⊢
  clear hn0 hkp
  refine (new_any n0 keep w1 hw1 (newBad_keep n0 keep (by omega) (by omega))).mono ?_
  rintro e w2 ⟨b, M, rfl, hw2, hT⟩
  clear hw hw1 w1
  obtain ⟨k0, hk0⟩ : ∃ k0 : ByteArray, ∀ x0, acts[0]? = some x0 → x0.key = k0 := by
    cases h : acts[0]? with
    | none => exact ⟨⟨#[]⟩, fun x0 hx => by cases hx⟩
    | some y => exact ⟨y.key, fun x0 hx => by cases hx; rfl⟩
  have HK0 := Lib.hid hk0; clear hk0
  go_wp2
  go_loopw [9, 10, 11, 12, 13, 14] (fun i _ _ _ _ _ wr => ∃ (k : Nat) (M : Hp), k ≤ acts.length ∧ i = .int .i64 k ∧ Sat σ wr (M :: Hs) ∧ Sto M b keep (stO acts k0 n0 keep k).2 (stO acts k0 n0 keep k).1) (fun i _ _ _ _ _ _ => acts.length - (intOf i).toNat)
  case atStart => exact ⟨0, M, by omega, rfl, hw2, hT⟩
  case round =>
    obtain ⟨k, M1, hk, rfl, hwr, hTr⟩ := hrel
    clear hw2 hT
    by_cases hlt : k < acts.length
    · obtain ⟨gb0, off0, c0', Au0, cu0, x0, hx0, hv0, _, _, _, z3, _, _⟩ := act_get hs (k := 0) (by omega)
      obtain ⟨gb, off, c', Au, cu, x, hx, hv, e0, e1, e2, e3, e4, hu⟩ := act_get hs hlt
      injection hv with hv1 hv2 hv3
      subst hv1; subst hv3; clear hv2
      injection hv0 with hv1 hv2 hv3
      injection hv1 with hv1
      injection hv1 with hv1 hv4 hv5
      subst hv1; subst hv3; subst hv4; clear hv2 hv5
      rw [Nat.zero_mul, Nat.add_zero] at z3
      have hx0k := HK0.out x0 hx0
      have hHM : H ∈ M1 :: Hs := by simp [hH]
      have c0 := hwr.cellAt hHM e0; have c1 := hwr.cellAt hHM e1; have c2 := hwr.cellAt hHM e2; have c3 := hwr.cellAt hHM e3; have c4 := hwr.cellAt hHM e4
      have hgl : gb < wr.heap.size := World.block_lt_of_cell? wr _ c0
      have hxs := HOK.out x (List.mem_of_getElem? hx)
      have hx0s := HOK.out x0 (List.mem_of_getElem? hx0)
      have HINV := Lib.hid (stO_inv acts k0 n0 keep (k + 1))
      have HSTEP : Hid (stO acts k0 n0 keep (k + 1) = ((getS (putR keep (stO acts k0 n0 keep k).1 (stO acts k0 n0 keep k).2 x.now x.key x.bytes x.age).1 x.now x0.key).2, (putR keep (stO acts k0 n0 keep k).1 (stO acts k0 n0 keep k).2 x.now x.key x.bytes x.age).2)) := Lib.hid (by simp only [stO, hx, hx0k])
      have HPE := Lib.hid (fun h0 => putE_ok (keep := keep) (xs := (stO acts k0 n0 keep k).1) (now := x.now) (k := x.key) (n := x.bytes.length) (age := x.age) h0)
      have HPUT : Hid (∀ w' Hs', Sat σ w' (M1 :: Hs') → H ∈ Hs' → Calls Try.prog 12 #[.pointer (some ⟨b, 0, none⟩), .int .i64 x.now, .string x.key, .slice Au x.bytes.length cu, .int .i64 x.age] w' (PutP σ Hs' M1 b keep (putE keep (stO acts k0 n0 keep k).1 x.now x.key x.bytes.length x.age) (putR keep (stO acts k0 n0 keep k).1 (stO acts k0 n0 keep k).2 x.now x.key x.bytes x.age))) :=
        Lib.hid (fun w' Hs' h hm => put_any b keep _ _ x.now x.age x.key _ x.bytes w' h hTr hm hu (by omega))
      have HZ3 := Lib.hid z3
      clear e0 e1 e2 e3 e4 hx hs hu hTr hx0 hx0k z3
      generalize (stO acts k0 n0 keep k).1 = xs at *
      generalize (stO acts k0 n0 keep k).2 = hand at *
      generalize putE keep xs x.now x.key x.bytes.length x.age = code at *
      generalize putR keep xs hand x.now x.key x.bytes x.age = xs' at *
      have HGET : Hid (∀ w' Hs' M', Sat σ w' (M' :: Hs') → Sto M' b keep xs'.2 xs'.1 → Calls Try.prog 13 #[.pointer (some ⟨b, 0, none⟩), .int .i64 x.now, .string x0.key] w' (GetP σ Hs' M' b keep xs'.2 (getS xs'.1 x.now x0.key))) := Lib.hid (fun w' Hs' M' h hT => get_any b keep _ _ x.now x0.key w' h hT (by omega))
      obtain ⟨ys, hys⟩ : ∃ ys, (getS xs'.1 x.now x0.key).2 = ys := ⟨_, rfl⟩
      obtain ⟨hand', hhd⟩ : ∃ hand', xs'.2 = hand' := ⟨_, rfl⟩
      rw [hys, hhd] at HSTEP
      rw [HSTEP.out] at HINV
      have HF := Lib.hid (keys_facts HINV.out.1 HINV.out.2.2)
      have hhn : hand' < n0 ∨ hand' = 0 := by have h1 := HINV.out.2.1; have h2 := HINV.out.2.2; simp only at h1 h2; omega
      have HXS := Lib.hid hys
      have hki : (k : Int) < acts.length := by omega
      have h0i : (0 : Int) < acts.length := by omega
      have h0n : 0 < acts.length := by omega
      clear hys HINV
      go_wp2_with fail
      have hwa := (hwr.alloc (.cells #[.int .i64 x.kind, .int .i64 x.now, .int .i64 x.age, .string x.key, .slice Au x.bytes.length cu] 32)).swap
      refine (HPUT.out _ _ hwa (by simp [hH])).mono ?_
      rintro e w3 ⟨rfl, M3, hw3, hT3, _⟩
      have HT3 := Lib.hid hT3
      clear c0 c1 c2 c3 c4 hgl hwr HPUT hwa hT3 hHM
      generalize wr.heap.size = nb at *
      have HSS : Hid (∀ w' Hs', Sat σ w' Hs' → H ∈ Hs' → Hp.one nb (.cells #[.int .i64 x.kind, .int .i64 x.now, .int .i64 x.age, .string x.key, .slice Au x.bytes.length cu] 32 (0, 0)) ∈ Hs' → (w'.cell? ⟨nb, 1, none⟩ = some (.int .i64 x.now) ∧ w'.cell? ⟨gb, off + 3, none⟩ = some (.string x0.key))) := Lib.hid (fun w' Hs' h hm hm2 => ⟨h.cellAt hm2 ((Hp.one_cell _ _ _ _).trans rfl), h.cellAt hm HZ3.out⟩)
      by_cases hcode : code = 0
      · have hbk : ¬ ((keep : Int) < x.bytes.length) := by have := HPE.out hcode; omega
        have d4 : w3.cell? ⟨nb, 4, none⟩ = some (.slice Au x.bytes.length cu) := hw3.drop.one_cell rfl
        subst hcode
        clear HPE
        go_wp2
        go_region_held3 (fun w' => w'.cell? ⟨nb, 1, none⟩ = some (.int .i64 x.now) ∧ w'.cell? ⟨gb, off + 3, none⟩ = some (.string x0.key))
          (first | exact HSS.out _ _ hw3.drew (by simp [hH]) (by simp) | exact HSS.out _ _ hw4 (by simp [hH]) (by simp))
          (first | (go_at_call 13; refine (HGET.out _ _ _ hw3.drew HT3.out).mono ?_; rintro e w4 ⟨gv, N, gcl, M4, rfl, hw4, hgo, hgr, hT4, _⟩))
        rw [HXS.out, hhd] at hT4
        have HT4 := Lib.hid hT4
        have HSTEP := HSTEP
        have hw5 := hw4.drop
        clear hw3 hw4 hT4 hgo hgr
        go_wp2_with fail
        refine (keys_any b _ _ _ HT4.out w4 _ hw5 (by simp)).mono ?_
        rintro e w5 ⟨kv, K, rfl, hw6, hkv⟩
        have HUSED := Lib.hid (used_any (σ := σ) b _ _ _ HT4.out)
        have HHAND := Lib.hid (hand_any (σ := σ) b _ _ _ HT4.out)
        obtain ⟨hkl, hul, HUY, cnt, hcnt0, hcntn, hcntl, hcnts⟩ := HF.out
        rw [← hcntn] at hul HUSED
        obtain ⟨ks, hks⟩ : ∃ ks, ys.map SE.key = ks := ⟨_, rfl⟩
        rw [hks] at hkv hkl HUY hcnts
        clear hks hcntn
        have HUY := Lib.hid HUY; have HCS := Lib.hid hcnts; have HC0 := Lib.hid hcnt0
        have hcn0 := hcntl n0
        have HCL := Lib.hid hcntl
        clear hcnts hcnt0 hcntl hw5
        obtain ⟨Ak, ck, rfl, hck1, hck2, _⟩ := hkv.form
        rw [hkl] at hkv hck1 ⊢
        have HKL := Lib.hid hkl
        clear hkl
        have hnn : ((n0 : Int) != n0) = false := by simp
        obtain ⟨u, hu⟩ : ∃ u : Int, (cnt n0 : Int) = u := ⟨_, rfl⟩
        rw [hu] at HUSED
        have hul' : 0 ≤ u ∧ u ≤ n0 := by omega
        have hd1 : decide ((n0 : Int) < u) = false := decide_eq_false (by omega)
        have hd2 : decide ((hand' : Int) < 0) = false := decide_eq_false (by omega)
        have HCN := Lib.hid hu
        clear hu hul hcn0
        have hmx : ¬ (max 0 ((n0 : Int) - 1) < (hand' : Int)) := by omega
        have mw : IntKind.i64.wrap ((n0 : Int) - 1) = (n0 : Int) - 1 := IntWalk.i64_in _ (by omega)
        have HHN := Lib.hid hhn
        clear hmx
        by_cases hz : n0 ≤ 1
        · have hh0 : hand' = 0 := by omega
          have hz' : (n0 : Int) - 1 ≤ 0 := by omega
          clear hhn hz
          subst hh0
          go_wp2_with (first | (go_at_call 18; refine (HUSED.out _ _ (by assumption) (by simp)).mono ?_; rintro e w6 ⟨rfl, hw7⟩) | (go_at_call 19; refine (HHAND.out _ _ (by assumption) (by simp)).mono ?_; rintro e w6 ⟨rfl, hw7⟩))
          go_loopw [12, 13, 14] (fun n j _ wi => ∃ (p : Nat), p ≤ n0 ∧ j = .int .i64 p ∧ n = .int .i64 (cnt p) ∧ Sat σ wi (K :: M4 :: Hp.one nb (.cells #[.int .i64 x.kind, .int .i64 x.now, .int .i64 x.age, .string x.key, .slice Au x.bytes.length cu] 32 (0, 0)) :: Hs)) (fun _ j _ _ => n0 - (intOf j).toNat)
          case atStart => exact ⟨0, by omega, rfl, by rw [HC0.out]; rfl, by assumption⟩
          case round =>
            obtain ⟨p, hp, rfl, rfl, hwi⟩ := hrel
            obtain ⟨wo, rfl⟩ : ∃ wo : World, wo = wr := ⟨_, rfl⟩
            have hcp := HCL.out p
            clear hw6 hw7
            by_cases hpl : p < n0
            · obtain ⟨g1, o1, d1, s1, hs1, hv, e1⟩ := str_get hkv (k := p) (by have := HKL.out; omega)
              injection hv with hv1 hv2 hv3
              subst hv1; subst hv3
              clear hv2
              have i1 := hwi.cellAt List.mem_cons_self e1
              have hki1 : (p : Int) < n0 := by omega
              have HS1 := Lib.hid hs1; have HE1 := Lib.hid e1
              have hcs := HCS.out p s1 hs1
              clear hs1 e1
              generalize cnt p = cp at *
              have mc : IntKind.i64.wrap ((cp : Int) + 1) = (cp : Int) + 1 := IntWalk.i64_in _ (by omega)
              cases hse : s1.toList.isEmpty
              · rw [hse] at hcs
                have hcs' : cnt (p + 1) = cp + 1 := by simpa using hcs
                have HCC := Lib.hid hcs'
                clear hcs hcs'
                go_wp2
                go_loopw [14] (fun j wi => ∃ (q : Nat), q ≤ p ∧ j = .int .i64 q ∧ Sat σ wi (K :: M4 :: Hp.one nb (.cells #[.int .i64 x.kind, .int .i64 x.now, .int .i64 x.age, .string x.key, .slice Au x.bytes.length cu] 32 (0, 0)) :: Hs)) (fun j _ => p - (intOf j).toNat)
                case atStart => exact ⟨0, by omega, rfl, hwi⟩
                case round =>
                  obtain ⟨q, hq, rfl, hwj⟩ := hrel
                  clear i1
                  by_cases hql : q < p
                  · obtain ⟨g2, o2, d2, s2, hs2, hv', e2⟩ := str_get hkv (k := q) (by have := HKL.out; omega)
                    injection hv' with hv4 hv5 hv6
                    injection hv4 with hv4
                    injection hv4 with hv4 hv7
                    subst hv4; subst hv7
                    clear hv5 hv6
                    have i1 := hwj.cellAt List.mem_cons_self HE1.out
                    have i2 := hwj.cellAt List.mem_cons_self e2
                    have hneq : s1.toList.isEmpty = false → (s1.toList == s2.toList) = false := fun h => by
                      rw [beq_eq_false_iff_ne]
                      intro he
                      have := toList_inj he
                      subst this
                      have := HUY.out p q s1 HS1.out hs2 h
                      omega
                    have hki2 : (q : Int) < n0 := by omega
                    clear e2 hs2 hkv
                    try have hq0 := hneq hse
                    clear hneq
                    go_wp2
                    go_quiet (fail)
                    all_goals go_wp2
                    exact ⟨⟨q + 1, by omega, by go_num, hwj.drewN _⟩, by simp [intOf]; omega⟩
                  · go_wp2
                    exact ⟨⟨p + 1, by omega, by go_num, by first | (rw [HCC.out]; done) | (rw [HCC.out]; rfl), hwj⟩, by simp [intOf]; omega⟩
              · rw [hse] at hcs
                have hcs' : cnt (p + 1) = cp := by simpa using hcs
                have HCC := Lib.hid hcs'
                clear hcs hcs'
                go_wp2
                go_loopw [14] (fun j wi => ∃ (q : Nat), q ≤ p ∧ j = .int .i64 q ∧ Sat σ wi (K :: M4 :: Hp.one nb (.cells #[.int .i64 x.kind, .int .i64 x.now, .int .i64 x.age, .string x.key, .slice Au x.bytes.length cu] 32 (0, 0)) :: Hs)) (fun j _ => p - (intOf j).toNat)
                case atStart => exact ⟨0, by omega, rfl, hwi⟩
                case round =>
                  obtain ⟨q, hq, rfl, hwj⟩ := hrel
                  clear i1
                  by_cases hql : q < p
                  · obtain ⟨g2, o2, d2, s2, hs2, hv', e2⟩ := str_get hkv (k := q) (by have := HKL.out; omega)
                    injection hv' with hv4 hv5 hv6
                    injection hv4 with hv4
                    injection hv4 with hv4 hv7
                    subst hv4; subst hv7
                    clear hv5 hv6
                    have i1 := hwj.cellAt List.mem_cons_self HE1.out
                    have i2 := hwj.cellAt List.mem_cons_self e2
                    have hneq : s1.toList.isEmpty = false → (s1.toList == s2.toList) = false := fun h => by
                      rw [beq_eq_false_iff_ne]
                      intro he
                      have := toList_inj he
                      subst this
                      have := HUY.out p q s1 HS1.out hs2 h
                      omega
                    have hki2 : (q : Int) < n0 := by omega
                    clear e2 hs2 hkv
                    try have hq0 := hneq hse
                    clear hneq
                    go_wp2
                    go_quiet (fail)
                    all_goals go_wp2
                    exact ⟨⟨q + 1, by omega, by go_num, hwj.drewN _⟩, by simp [intOf]; omega⟩
                  · go_wp2
                    exact ⟨⟨p + 1, by omega, by go_num, by first | (rw [HCC.out]; done) | (rw [HCC.out]; rfl), hwj⟩, by simp [intOf]; omega⟩
            · obtain rfl : p = n0 := by omega
              have hcu := HCN.out
              have huu : (u != u) = false := by simp
              go_wp2_with (go_at_call 18; refine (HUSED.out _ _ hwi (by simp)).mono ?_; rintro e w6 ⟨rfl, hw7⟩)
              exact ⟨⟨k + 1, M4, by omega, by go_num, hw7.drop.drop1, by rw [HSTEP.out]; exact HT4.out⟩, by simp [intOf]; omega⟩
        · have hd3 : decide ((n0 : Int) - 1 < (hand' : Int)) = false := decide_eq_false (by omega)
          have hz' : (0 : Int) < (n0 : Int) - 1 := by omega
          clear hhn hz
          go_wp2_with (first | (go_at_call 18; refine (HUSED.out _ _ (by assumption) (by simp)).mono ?_; rintro e w6 ⟨rfl, hw7⟩) | (go_at_call 19; refine (HHAND.out _ _ (by assumption) (by simp)).mono ?_; rintro e w6 ⟨rfl, hw7⟩))
          go_loopw [12, 13, 14] (fun n j _ wi => ∃ (p : Nat), p ≤ n0 ∧ j = .int .i64 p ∧ n = .int .i64 (cnt p) ∧ Sat σ wi (K :: M4 :: Hp.one nb (.cells #[.int .i64 x.kind, .int .i64 x.now, .int .i64 x.age, .string x.key, .slice Au x.bytes.length cu] 32 (0, 0)) :: Hs)) (fun _ j _ _ => n0 - (intOf j).toNat)
          case atStart => exact ⟨0, by omega, rfl, by rw [HC0.out]; rfl, by assumption⟩
          case round =>
            obtain ⟨p, hp, rfl, rfl, hwi⟩ := hrel
            obtain ⟨wo, rfl⟩ : ∃ wo : World, wo = wr := ⟨_, rfl⟩
            have hcp := HCL.out p
            clear hw6 hw7
            by_cases hpl : p < n0
            · obtain ⟨g1, o1, d1, s1, hs1, hv, e1⟩ := str_get hkv (k := p) (by have := HKL.out; omega)
              injection hv with hv1 hv2 hv3
              subst hv1; subst hv3
              clear hv2
              have i1 := hwi.cellAt List.mem_cons_self e1
              have hki1 : (p : Int) < n0 := by omega
              have HS1 := Lib.hid hs1; have HE1 := Lib.hid e1
              have hcs := HCS.out p s1 hs1
              clear hs1 e1
              generalize cnt p = cp at *
              have mc : IntKind.i64.wrap ((cp : Int) + 1) = (cp : Int) + 1 := IntWalk.i64_in _ (by omega)
              cases hse : s1.toList.isEmpty
              · rw [hse] at hcs
                have hcs' : cnt (p + 1) = cp + 1 := by simpa using hcs
                have HCC := Lib.hid hcs'
                clear hcs hcs'
                go_wp2
                go_loopw [14] (fun j wi => ∃ (q : Nat), q ≤ p ∧ j = .int .i64 q ∧ Sat σ wi (K :: M4 :: Hp.one nb (.cells #[.int .i64 x.kind, .int .i64 x.now, .int .i64 x.age, .string x.key, .slice Au x.bytes.length cu] 32 (0, 0)) :: Hs)) (fun j _ => p - (intOf j).toNat)
                case atStart => exact ⟨0, by omega, rfl, hwi⟩
                case round =>
                  obtain ⟨q, hq, rfl, hwj⟩ := hrel
                  clear i1
                  by_cases hql : q < p
                  · obtain ⟨g2, o2, d2, s2, hs2, hv', e2⟩ := str_get hkv (k := q) (by have := HKL.out; omega)
                    injection hv' with hv4 hv5 hv6
                    injection hv4 with hv4
                    injection hv4 with hv4 hv7
                    subst hv4; subst hv7
                    clear hv5 hv6
                    have i1 := hwj.cellAt List.mem_cons_self HE1.out
                    have i2 := hwj.cellAt List.mem_cons_self e2
                    have hneq : s1.toList.isEmpty = false → (s1.toList == s2.toList) = false := fun h => by
                      rw [beq_eq_false_iff_ne]
                      intro he
                      have := toList_inj he
                      subst this
                      have := HUY.out p q s1 HS1.out hs2 h
                      omega
                    have hki2 : (q : Int) < n0 := by omega
                    clear e2 hs2 hkv
                    try have hq0 := hneq hse
                    clear hneq
                    go_wp2
                    go_quiet (fail)
                    all_goals go_wp2
                    exact ⟨⟨q + 1, by omega, by go_num, hwj.drewN _⟩, by simp [intOf]; omega⟩
                  · go_wp2
                    exact ⟨⟨p + 1, by omega, by go_num, by first | (rw [HCC.out]; done) | (rw [HCC.out]; rfl), hwj⟩, by simp [intOf]; omega⟩
              · rw [hse] at hcs
                have hcs' : cnt (p + 1) = cp := by simpa using hcs
                have HCC := Lib.hid hcs'
                clear hcs hcs'
                go_wp2
                go_loopw [14] (fun j wi => ∃ (q : Nat), q ≤ p ∧ j = .int .i64 q ∧ Sat σ wi (K :: M4 :: Hp.one nb (.cells #[.int .i64 x.kind, .int .i64 x.now, .int .i64 x.age, .string x.key, .slice Au x.bytes.length cu] 32 (0, 0)) :: Hs)) (fun j _ => p - (intOf j).toNat)
                case atStart => exact ⟨0, by omega, rfl, hwi⟩
                case round =>
                  obtain ⟨q, hq, rfl, hwj⟩ := hrel
                  clear i1
                  by_cases hql : q < p
                  · obtain ⟨g2, o2, d2, s2, hs2, hv', e2⟩ := str_get hkv (k := q) (by have := HKL.out; omega)
                    injection hv' with hv4 hv5 hv6
                    injection hv4 with hv4
                    injection hv4 with hv4 hv7
                    subst hv4; subst hv7
                    clear hv5 hv6
                    have i1 := hwj.cellAt List.mem_cons_self HE1.out
                    have i2 := hwj.cellAt List.mem_cons_self e2
                    have hneq : s1.toList.isEmpty = false → (s1.toList == s2.toList) = false := fun h => by
                      rw [beq_eq_false_iff_ne]
                      intro he
                      have := toList_inj he
                      subst this
                      have := HUY.out p q s1 HS1.out hs2 h
                      omega
                    have hki2 : (q : Int) < n0 := by omega
                    clear e2 hs2 hkv
                    try have hq0 := hneq hse
                    clear hneq
                    go_wp2
                    go_quiet (fail)
                    all_goals go_wp2
                    exact ⟨⟨q + 1, by omega, by go_num, hwj.drewN _⟩, by simp [intOf]; omega⟩
                  · go_wp2
                    exact ⟨⟨p + 1, by omega, by go_num, by first | (rw [HCC.out]; done) | (rw [HCC.out]; rfl), hwj⟩, by simp [intOf]; omega⟩
            · obtain rfl : p = n0 := by omega
              have hcu := HCN.out
              have huu : (u != u) = false := by simp
              go_wp2_with (go_at_call 18; refine (HUSED.out _ _ hwi (by simp)).mono ?_; rintro e w6 ⟨rfl, hw7⟩)
              exact ⟨⟨k + 1, M4, by omega, by go_num, hw7.drop.drop1, by rw [HSTEP.out]; exact HT4.out⟩, by simp [intOf]; omega⟩
      · have hcz : (code == 0) = false := beq_eq_false_iff_ne.2 hcode
        clear HPE hcode
        go_wp2
        go_region_held3 (fun w' => w'.cell? ⟨nb, 1, none⟩ = some (.int .i64 x.now) ∧ w'.cell? ⟨gb, off + 3, none⟩ = some (.string x0.key))
          (first | exact HSS.out _ _ hw3.drew (by simp [hH]) (by simp) | exact HSS.out _ _ hw4 (by simp [hH]) (by simp))
          (first | (go_at_call 13; refine (HGET.out _ _ _ hw3.drew HT3.out).mono ?_; rintro e w4 ⟨gv, N, gcl, M4, rfl, hw4, hgo, hgr, hT4, _⟩))
        rw [HXS.out, hhd] at hT4
        have HT4 := Lib.hid hT4
        have HSTEP := HSTEP
        have hw5 := hw4.drop
        clear hw3 hw4 hT4 hgo hgr
        go_wp2_with fail
        refine (keys_any b _ _ _ HT4.out w4 _ hw5 (by simp)).mono ?_
        rintro e w5 ⟨kv, K, rfl, hw6, hkv⟩
        have HUSED := Lib.hid (used_any (σ := σ) b _ _ _ HT4.out)
        have HHAND := Lib.hid (hand_any (σ := σ) b _ _ _ HT4.out)
        obtain ⟨hkl, hul, HUY, cnt, hcnt0, hcntn, hcntl, hcnts⟩ := HF.out
        rw [← hcntn] at hul HUSED
        obtain ⟨ks, hks⟩ : ∃ ks, ys.map SE.key = ks := ⟨_, rfl⟩
        rw [hks] at hkv hkl HUY hcnts
        clear hks hcntn
        have HUY := Lib.hid HUY; have HCS := Lib.hid hcnts; have HC0 := Lib.hid hcnt0
        have hcn0 := hcntl n0
        have HCL := Lib.hid hcntl
        clear hcnts hcnt0 hcntl hw5
        obtain ⟨Ak, ck, rfl, hck1, hck2, _⟩ := hkv.form
        rw [hkl] at hkv hck1 ⊢
        have HKL := Lib.hid hkl
        clear hkl
        have hnn : ((n0 : Int) != n0) = false := by simp
        obtain ⟨u, hu⟩ : ∃ u : Int, (cnt n0 : Int) = u := ⟨_, rfl⟩
        rw [hu] at HUSED
        have hul' : 0 ≤ u ∧ u ≤ n0 := by omega
        have hd1 : decide ((n0 : Int) < u) = false := decide_eq_false (by omega)
        have hd2 : decide ((hand' : Int) < 0) = false := decide_eq_false (by omega)
        have HCN := Lib.hid hu
        clear hu hul hcn0
        have hmx : ¬ (max 0 ((n0 : Int) - 1) < (hand' : Int)) := by omega
        have mw : IntKind.i64.wrap ((n0 : Int) - 1) = (n0 : Int) - 1 := IntWalk.i64_in _ (by omega)
        have HHN := Lib.hid hhn
        clear hmx
        by_cases hz : n0 ≤ 1
        · have hh0 : hand' = 0 := by omega
          have hz' : (n0 : Int) - 1 ≤ 0 := by omega
          clear hhn hz
          subst hh0
          go_wp2_with (first | (go_at_call 18; refine (HUSED.out _ _ (by assumption) (by simp)).mono ?_; rintro e w6 ⟨rfl, hw7⟩) | (go_at_call 19; refine (HHAND.out _ _ (by assumption) (by simp)).mono ?_; rintro e w6 ⟨rfl, hw7⟩))
          go_loopw [12, 13, 14] (fun n j _ wi => ∃ (p : Nat), p ≤ n0 ∧ j = .int .i64 p ∧ n = .int .i64 (cnt p) ∧ Sat σ wi (K :: M4 :: Hp.one nb (.cells #[.int .i64 x.kind, .int .i64 x.now, .int .i64 x.age, .string x.key, .slice Au x.bytes.length cu] 32 (0, 0)) :: Hs)) (fun _ j _ _ => n0 - (intOf j).toNat)
          case atStart => exact ⟨0, by omega, rfl, by rw [HC0.out]; rfl, by assumption⟩
          case round =>
            obtain ⟨p, hp, rfl, rfl, hwi⟩ := hrel
            obtain ⟨wo, rfl⟩ : ∃ wo : World, wo = wr := ⟨_, rfl⟩
            have hcp := HCL.out p
            clear hw6 hw7
            by_cases hpl : p < n0
            · obtain ⟨g1, o1, d1, s1, hs1, hv, e1⟩ := str_get hkv (k := p) (by have := HKL.out; omega)
              injection hv with hv1 hv2 hv3
              subst hv1; subst hv3
              clear hv2
              have i1 := hwi.cellAt List.mem_cons_self e1
              have hki1 : (p : Int) < n0 := by omega
              have HS1 := Lib.hid hs1; have HE1 := Lib.hid e1
              have hcs := HCS.out p s1 hs1
              clear hs1 e1
              generalize cnt p = cp at *
              have mc : IntKind.i64.wrap ((cp : Int) + 1) = (cp : Int) + 1 := IntWalk.i64_in _ (by omega)
              cases hse : s1.toList.isEmpty
              · rw [hse] at hcs
                have hcs' : cnt (p + 1) = cp + 1 := by simpa using hcs
                have HCC := Lib.hid hcs'
                clear hcs hcs'
                go_wp2
                go_loopw [14] (fun j wi => ∃ (q : Nat), q ≤ p ∧ j = .int .i64 q ∧ Sat σ wi (K :: M4 :: Hp.one nb (.cells #[.int .i64 x.kind, .int .i64 x.now, .int .i64 x.age, .string x.key, .slice Au x.bytes.length cu] 32 (0, 0)) :: Hs)) (fun j _ => p - (intOf j).toNat)
                case atStart => exact ⟨0, by omega, rfl, hwi⟩
                case round =>
                  obtain ⟨q, hq, rfl, hwj⟩ := hrel
                  clear i1
                  by_cases hql : q < p
                  · obtain ⟨g2, o2, d2, s2, hs2, hv', e2⟩ := str_get hkv (k := q) (by have := HKL.out; omega)
                    injection hv' with hv4 hv5 hv6
                    injection hv4 with hv4
                    injection hv4 with hv4 hv7
                    subst hv4; subst hv7
                    clear hv5 hv6
                    have i1 := hwj.cellAt List.mem_cons_self HE1.out
                    have i2 := hwj.cellAt List.mem_cons_self e2
                    have hneq : s1.toList.isEmpty = false → (s1.toList == s2.toList) = false := fun h => by
                      rw [beq_eq_false_iff_ne]
                      intro he
                      have := toList_inj he
                      subst this
                      have := HUY.out p q s1 HS1.out hs2 h
                      omega
                    have hki2 : (q : Int) < n0 := by omega
                    clear e2 hs2 hkv
                    try have hq0 := hneq hse
                    clear hneq
                    go_wp2
                    go_quiet (fail)
                    all_goals go_wp2
                    exact ⟨⟨q + 1, by omega, by go_num, hwj.drewN _⟩, by simp [intOf]; omega⟩
                  · go_wp2
                    exact ⟨⟨p + 1, by omega, by go_num, by first | (rw [HCC.out]; done) | (rw [HCC.out]; rfl), hwj⟩, by simp [intOf]; omega⟩
              · rw [hse] at hcs
                have hcs' : cnt (p + 1) = cp := by simpa using hcs
                have HCC := Lib.hid hcs'
                clear hcs hcs'
                go_wp2
                go_loopw [14] (fun j wi => ∃ (q : Nat), q ≤ p ∧ j = .int .i64 q ∧ Sat σ wi (K :: M4 :: Hp.one nb (.cells #[.int .i64 x.kind, .int .i64 x.now, .int .i64 x.age, .string x.key, .slice Au x.bytes.length cu] 32 (0, 0)) :: Hs)) (fun j _ => p - (intOf j).toNat)
                case atStart => exact ⟨0, by omega, rfl, hwi⟩
                case round =>
                  obtain ⟨q, hq, rfl, hwj⟩ := hrel
                  clear i1
                  by_cases hql : q < p
                  · obtain ⟨g2, o2, d2, s2, hs2, hv', e2⟩ := str_get hkv (k := q) (by have := HKL.out; omega)
                    injection hv' with hv4 hv5 hv6
                    injection hv4 with hv4
                    injection hv4 with hv4 hv7
                    subst hv4; subst hv7
                    clear hv5 hv6
                    have i1 := hwj.cellAt List.mem_cons_self HE1.out
                    have i2 := hwj.cellAt List.mem_cons_self e2
                    have hneq : s1.toList.isEmpty = false → (s1.toList == s2.toList) = false := fun h => by
                      rw [beq_eq_false_iff_ne]
                      intro he
                      have := toList_inj he
                      subst this
                      have := HUY.out p q s1 HS1.out hs2 h
                      omega
                    have hki2 : (q : Int) < n0 := by omega
                    clear e2 hs2 hkv
                    try have hq0 := hneq hse
                    clear hneq
                    go_wp2
                    go_quiet (fail)
                    all_goals go_wp2
                    exact ⟨⟨q + 1, by omega, by go_num, hwj.drewN _⟩, by simp [intOf]; omega⟩
                  · go_wp2
                    exact ⟨⟨p + 1, by omega, by go_num, by first | (rw [HCC.out]; done) | (rw [HCC.out]; rfl), hwj⟩, by simp [intOf]; omega⟩
            · obtain rfl : p = n0 := by omega
              have hcu := HCN.out
              have huu : (u != u) = false := by simp
              go_wp2_with (go_at_call 18; refine (HUSED.out _ _ hwi (by simp)).mono ?_; rintro e w6 ⟨rfl, hw7⟩)
              exact ⟨⟨k + 1, M4, by omega, by go_num, hw7.drop.drop1, by rw [HSTEP.out]; exact HT4.out⟩, by simp [intOf]; omega⟩
        · have hd3 : decide ((n0 : Int) - 1 < (hand' : Int)) = false := decide_eq_false (by omega)
          have hz' : (0 : Int) < (n0 : Int) - 1 := by omega
          clear hhn hz
          go_wp2_with (first | (go_at_call 18; refine (HUSED.out _ _ (by assumption) (by simp)).mono ?_; rintro e w6 ⟨rfl, hw7⟩) | (go_at_call 19; refine (HHAND.out _ _ (by assumption) (by simp)).mono ?_; rintro e w6 ⟨rfl, hw7⟩))
          go_loopw [12, 13, 14] (fun n j _ wi => ∃ (p : Nat), p ≤ n0 ∧ j = .int .i64 p ∧ n = .int .i64 (cnt p) ∧ Sat σ wi (K :: M4 :: Hp.one nb (.cells #[.int .i64 x.kind, .int .i64 x.now, .int .i64 x.age, .string x.key, .slice Au x.bytes.length cu] 32 (0, 0)) :: Hs)) (fun _ j _ _ => n0 - (intOf j).toNat)
          case atStart => exact ⟨0, by omega, rfl, by rw [HC0.out]; rfl, by assumption⟩
          case round =>
            obtain ⟨p, hp, rfl, rfl, hwi⟩ := hrel
            obtain ⟨wo, rfl⟩ : ∃ wo : World, wo = wr := ⟨_, rfl⟩
            have hcp := HCL.out p
            clear hw6 hw7
            by_cases hpl : p < n0
            · obtain ⟨g1, o1, d1, s1, hs1, hv, e1⟩ := str_get hkv (k := p) (by have := HKL.out; omega)
              injection hv with hv1 hv2 hv3
              subst hv1; subst hv3
              clear hv2
              have i1 := hwi.cellAt List.mem_cons_self e1
              have hki1 : (p : Int) < n0 := by omega
              have HS1 := Lib.hid hs1; have HE1 := Lib.hid e1
              have hcs := HCS.out p s1 hs1
              clear hs1 e1
              generalize cnt p = cp at *
              have mc : IntKind.i64.wrap ((cp : Int) + 1) = (cp : Int) + 1 := IntWalk.i64_in _ (by omega)
              cases hse : s1.toList.isEmpty
              · rw [hse] at hcs
                have hcs' : cnt (p + 1) = cp + 1 := by simpa using hcs
                have HCC := Lib.hid hcs'
                clear hcs hcs'
                go_wp2
                go_loopw [14] (fun j wi => ∃ (q : Nat), q ≤ p ∧ j = .int .i64 q ∧ Sat σ wi (K :: M4 :: Hp.one nb (.cells #[.int .i64 x.kind, .int .i64 x.now, .int .i64 x.age, .string x.key, .slice Au x.bytes.length cu] 32 (0, 0)) :: Hs)) (fun j _ => p - (intOf j).toNat)
                case atStart => exact ⟨0, by omega, rfl, hwi⟩
                case round =>
                  obtain ⟨q, hq, rfl, hwj⟩ := hrel
                  clear i1
                  by_cases hql : q < p
                  · obtain ⟨g2, o2, d2, s2, hs2, hv', e2⟩ := str_get hkv (k := q) (by have := HKL.out; omega)
                    injection hv' with hv4 hv5 hv6
                    injection hv4 with hv4
                    injection hv4 with hv4 hv7
                    subst hv4; subst hv7
                    clear hv5 hv6
                    have i1 := hwj.cellAt List.mem_cons_self HE1.out
                    have i2 := hwj.cellAt List.mem_cons_self e2
                    have hneq : s1.toList.isEmpty = false → (s1.toList == s2.toList) = false := fun h => by
                      rw [beq_eq_false_iff_ne]
                      intro he
                      have := toList_inj he
                      subst this
                      have := HUY.out p q s1 HS1.out hs2 h
                      omega
                    have hki2 : (q : Int) < n0 := by omega
                    clear e2 hs2 hkv
                    try have hq0 := hneq hse
                    clear hneq
                    go_wp2
                    go_quiet (fail)
                    all_goals go_wp2
                    exact ⟨⟨q + 1, by omega, by go_num, hwj.drewN _⟩, by simp [intOf]; omega⟩
                  · go_wp2
                    exact ⟨⟨p + 1, by omega, by go_num, by first | (rw [HCC.out]; done) | (rw [HCC.out]; rfl), hwj⟩, by simp [intOf]; omega⟩
              · rw [hse] at hcs
                have hcs' : cnt (p + 1) = cp := by simpa using hcs
                have HCC := Lib.hid hcs'
                clear hcs hcs'
                go_wp2
                go_loopw [14] (fun j wi => ∃ (q : Nat), q ≤ p ∧ j = .int .i64 q ∧ Sat σ wi (K :: M4 :: Hp.one nb (.cells #[.int .i64 x.kind, .int .i64 x.now, .int .i64 x.age, .string x.key, .slice Au x.bytes.length cu] 32 (0, 0)) :: Hs)) (fun j _ => p - (intOf j).toNat)
                case atStart => exact ⟨0, by omega, rfl, hwi⟩
                case round =>
                  obtain ⟨q, hq, rfl, hwj⟩ := hrel
                  clear i1
                  by_cases hql : q < p
                  · obtain ⟨g2, o2, d2, s2, hs2, hv', e2⟩ := str_get hkv (k := q) (by have := HKL.out; omega)
                    injection hv' with hv4 hv5 hv6
                    injection hv4 with hv4
                    injection hv4 with hv4 hv7
                    subst hv4; subst hv7
                    clear hv5 hv6
                    have i1 := hwj.cellAt List.mem_cons_self HE1.out
                    have i2 := hwj.cellAt List.mem_cons_self e2
                    have hneq : s1.toList.isEmpty = false → (s1.toList == s2.toList) = false := fun h => by
                      rw [beq_eq_false_iff_ne]
                      intro he
                      have := toList_inj he
                      subst this
                      have := HUY.out p q s1 HS1.out hs2 h
                      omega
                    have hki2 : (q : Int) < n0 := by omega
                    clear e2 hs2 hkv
                    try have hq0 := hneq hse
                    clear hneq
                    go_wp2
                    go_quiet (fail)
                    all_goals go_wp2
                    exact ⟨⟨q + 1, by omega, by go_num, hwj.drewN _⟩, by simp [intOf]; omega⟩
                  · go_wp2
                    exact ⟨⟨p + 1, by omega, by go_num, by first | (rw [HCC.out]; done) | (rw [HCC.out]; rfl), hwj⟩, by simp [intOf]; omega⟩
            · obtain rfl : p = n0 := by omega
              have hcu := HCN.out
              have huu : (u != u) = false := by simp
              go_wp2_with (go_at_call 18; refine (HUSED.out _ _ hwi (by simp)).mono ?_; rintro e w6 ⟨rfl, hw7⟩)
              exact ⟨⟨k + 1, M4, by omega, by go_num, hw7.drop.drop1, by rw [HSTEP.out]; exact HT4.out⟩, by simp [intOf]; omega⟩
    · go_wp2
      go_ret
      exact ⟨rfl, hwr.drop⟩
end
end Go.Proofs.Ytfieipigbdopaaa
