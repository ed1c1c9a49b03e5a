/- Walk: NamesOnce. -/
import Derived.Test.YthofnhmehpdnbaaN15
import Derived.Test.YthofnhmehpdnbaaN14
set_option linter.unusedVariables false
namespace Go.Proofs.Ythofnhmehpdnbaa
open Go.RowKit
set_option maxHeartbeats 4000000
theorem putE_zero {xs : List Ent} {now : Int} {nm : ByteArray} {n : Nat} {ttl : Int} (h : xs.length = 0) : putE xs now nm n ttl = 2 ∨ putE xs now nm n ttl = 4 := by
  unfold putE
  split
  · exact .inl rfl
  · exact .inr rfl
theorem stF_len (acts : List ActT) (nm : ByteArray) (n0 : Nat) : ∀ k, (stF acts nm n0 k).1.length = n0
  | 0 => by simp [stF]
  | k + 1 => by
    simp only [stF]
    split
    · rw [putR_length, stF_len acts nm n0 k]
    · exact stF_len acts nm n0 k
theorem strs_reps (H : Hp) : ∀ xs : List ByteArray, Kd.str.reps H xs (xs.map Value.string)
  | [] => rfl
  | x :: xs => ⟨[.string x], xs.map Value.string, rfl, rfl, strs_reps H xs⟩
section
variable {σ : World} {Hs : List Hp} {H M N : Hp}
set_option maxRecDepth 100000 in
theorem once_any (n now : Int) (v : Value) (acts : List ActT) (w : World) (hw : Sat σ w Hs) (hH : H ∈ Hs) (hs : kAct.IsSl H v acts) (hok : ∀ a ∈ acts, a.name.size ≤ 9223372036854775807) :
    Calls Try.prog 5 #[.int .i64 n, v, .int .i64 now] w fun e w' => e = .returned (.bool true) ∧ Sat σ w' Hs := by
  obtain ⟨A, c, rfl, hc1, hc2, _⟩ := hs.form
  have hr := amongI_range n 20 (by omega)
  have HOK := Lib.hid hok; clear hok
  go_enter Try.func5, Try.ntmps5
  go_wp2_with fail
  refine (works_any w hw).mono ?_
  rintro e w1 ⟨rfl, hw1⟩
  go_wp2_with fail
  refine (among_any n 20 w1 (by omega) (by omega)).mono ?_
  rintro e w2 ⟨rfl, rfl⟩
  obtain ⟨n0, hn0⟩ := Int.eq_ofNat_of_zero_le hr.1
  rw [hn0] at hr ⊢
  clear hn0
  go_wp2_with fail
  refine (new_any _ w1 hw1 (by omega) (by omega)).mono ?_
  rintro e w2 ⟨b, M, rfl, hw2, hT⟩
  rw [Int.toNat_natCast] at hT
  clear hw hw1 w1
  go_wp2
  go_loopw [9, 10, 11, 12, 13, 14] (fun i _ _ _ _ _ wr => ∃ (k : Nat) (M : Hp), k ≤ acts.length ∧ i = .int .i64 k ∧ Sat σ wr (M :: Hs) ∧ TabRep M b (stF acts ⟨#[]⟩ n0 k).1) (fun i _ _ _ _ _ _ => acts.length - (intOf i).toNat)
  case atStart => exact ⟨0, M, by omega, rfl, hw2, hT⟩
  case round =>
    obtain ⟨k, M1, hk, rfl, hwr, hTr⟩ := hrel
    clear hw2 hT
    by_cases hlt : k < acts.length
    · obtain ⟨gb, off, c', Au, cu, x, hx, hv, e0, e1, e2, e3, e4, hu⟩ := act_get hs hlt
      injection hv with hv1 hv2 hv3
      subst hv1; subst hv3; clear hv2
      have hHM : H ∈ M1 :: Hs := by simp [hH]
      have c0 := hwr.cellAt hHM e0; have c1 := hwr.cellAt hHM e1; have c2 := hwr.cellAt hHM e2; have c3 := hwr.cellAt hHM e3; have c4 := hwr.cellAt hHM e4
      have hgl : gb < wr.heap.size := World.block_lt_of_cell? wr _ c0
      have hxs := HOK.out x (List.mem_of_getElem? hx)
      have HLEN := Lib.hid (stF_len acts ⟨#[]⟩ n0 k)
      have HSTEP : Hid ((stF acts ⟨#[]⟩ n0 (k + 1)).1 = putR (stF acts ⟨#[]⟩ n0 k).1 x.now x.name x.addrs x.ttl) := Lib.hid (by simp only [stF, hx])
      have HU := Lib.hid (stF_inv acts ⟨#[]⟩ n0 (k + 1)).1
      have HLEN2 := Lib.hid (stF_len acts ⟨#[]⟩ n0 (k + 1))
      have HPUT : Hid (∀ w' Hs', Sat σ w' (M1 :: Hs') → H ∈ Hs' → Calls Try.prog 11 #[.pointer (some ⟨b, 0, none⟩), .int .i64 x.now, .string x.name, .slice Au x.addrs.length cu, .int .i64 x.ttl] w' (PutP σ Hs' b (putE (stF acts ⟨#[]⟩ n0 k).1 x.now x.name x.addrs.length x.ttl) (putR (stF acts ⟨#[]⟩ n0 k).1 x.now x.name x.addrs x.ttl))) :=
        Lib.hid (fun w' Hs' h hm => put_any b _ x.now x.ttl x.name _ x.addrs w' h hTr hm hu (by omega))
      have HZ : Hid (n0 = 0 → putE (stF acts ⟨#[]⟩ n0 k).1 x.now x.name x.addrs.length x.ttl = 2 ∨ putE (stF acts ⟨#[]⟩ n0 k).1 x.now x.name x.addrs.length x.ttl = 4) := Lib.hid (fun h => putE_zero (by rw [HLEN.out, h]))
      clear e0 e1 e2 e3 e4 hx hs hu hTr HLEN
      rw [← HSTEP.out] at HPUT
      clear HSTEP
      generalize hxs' : (stF acts ⟨#[]⟩ n0 (k + 1)).1 = xs' at *
      have HXS := Lib.hid hxs'; clear hxs'
      generalize putE (stF acts ⟨#[]⟩ n0 k).1 x.now x.name x.addrs.length x.ttl = code at *
      go_wp2_with fail
      refine (HPUT.out _ _ (hwr.alloc (.cells #[.int .i64 x.kind, .int .i64 x.now, .int .i64 x.ttl, .string x.name, .slice Au x.addrs.length cu] 31)).swap (by simp [hH])).mono ?_
      rintro e w3 ⟨rfl, M3, hw3, hT3⟩
      have hsat := hw3.drop1
      clear hwr c0 c1 c2 c3 c4 hgl HPUT hHM hw3
      have HT3 := Lib.hid hT3
      by_cases hn : n0 = 0
      · rcases HZ.out hn with rfl | rfl
        · clear HZ
          have hn' : ((n0 : Int) == 0) = true := by simp [hn]
          clear hn
          go_wp2_with fail
          refine (list_any b xs' w3 hsat HT3.out).mono ?_
          rintro e w4 ⟨A1, c1, N, rfl, hw4, ho⟩
          have hsl : Kd.str.IsSl N (.slice A1 xs'.length c1) (xs'.map Ent.name) := ho.isSl (d := Kd.str) (H := N) (xs := xs'.map Ent.name) (by have := strs_reps N (xs'.map Ent.name); rwa [List.map_map] at this) (by simp) (Hp.le_refl _)
          have HUY : Hid (∀ (i j : Nat) (s : ByteArray), (xs'.map Ent.name)[i]? = some s → (xs'.map Ent.name)[j]? = some s → s.toList.isEmpty = false → i = j) := Lib.hid (fun i j s hi hj hs => by
            rw [List.getElem?_map] at hi hj
            cases h1 : xs'[i]? with
            | none => rw [h1] at hi; cases hi
            | some x =>
              cases h2 : xs'[j]? with
              | none => rw [h2] at hj; cases hj
              | some y =>
                rw [h1] at hi; rw [h2] at hj
                simp at hi hj
                exact HU.out i j x y h1 h2 (by rw [hi, hj]) (by rw [hi]; exact hs))
          have HUSED : Hid (∀ w', Sat σ w' (M3 :: N :: Hs) → Calls Try.prog 15 #[.pointer (some ⟨b, 0, none⟩), .int .i64 now] w' fun e w2 => e = .returned (.int .i64 (if momB now then (usedL xs' now : Int) else 0)) ∧ Sat σ w2 (M3 :: N :: Hs)) := Lib.hid (fun w' h => used_any b xs' now w' h HT3.out)
          have hu1 : 0 ≤ (if momB now then (usedL xs' now : Int) else 0) ∧ (if momB now then (usedL xs' now : Int) else 0) ≤ n0 := by
            have := usedL_le xs' now
            have := HLEN2.out
            split <;> omega
          have HYL : Hid ((xs'.map Ent.name).length = n0) := Lib.hid (by rw [List.length_map]; exact HLEN2.out)
          rw [HLEN2.out] at hsl ⊢
          generalize (if momB now then (usedL xs' now : Int) else 0) = u at *
          generalize xs'.map Ent.name = ys at *
          have hcap := hsl.cap
          have hsat4 := hw4.swap
          clear hw4 ho hsat HU
          have hnn : ((n0 : Int) != n0) = false := by simp
          go_wp2_with (go_at_call 15; refine (HUSED.out _ (by assumption)).mono ?_; rintro e w5 ⟨rfl, hsat5⟩)
          go_loopw [13, 14] (fun j _ wi => ∃ (p : Nat), p ≤ n0 ∧ j = .int .i64 p ∧ Sat σ wi (M3 :: N :: Hs)) (fun j _ _ => n0 - (intOf j).toNat)
          case atStart => exact ⟨0, by omega, rfl, by assumption⟩
          case round =>
            clear hsat4
            obtain ⟨p, hp, rfl, hwi⟩ := hrel
            obtain ⟨wo, rfl⟩ : ∃ wo : World, wo = wr := ⟨_, rfl⟩
            by_cases hpl : p < n0
            · go_wp2
              go_loopw [14] (fun j wi => ∃ (q : Nat), q ≤ p ∧ j = .int .i64 q ∧ Sat σ wi (M3 :: N :: Hs)) (fun j _ => p - (intOf j).toNat)
              case atStart => exact ⟨0, by omega, rfl, hwi⟩
              case round =>
                obtain ⟨q, hq, rfl, hwj⟩ := hrel
                by_cases hql : q < p
                · obtain ⟨g1, o1, d1, s1, hs1, hv, e1⟩ := str_get hsl (k := p) (by have := HYL.out; omega)
                  obtain ⟨g2, o2, d2, s2, hs2, hv', e2⟩ := str_get hsl (k := q) (by have := HYL.out; omega)
                  injection hv with hv1 hv2 hv3
                  injection hv' with hv4 hv5 hv6
                  subst hv1; subst hv3
                  injection hv4 with hv4
                  injection hv4 with hv4 hv7
                  subst hv4; subst hv7
                  clear hv2 hv5 hv6
                  have i1 := hwj.drop.cellAt List.mem_cons_self e1
                  have i2 := hwj.drop.cellAt List.mem_cons_self e2
                  have hneq : s1.toList.isEmpty = false → (s1.toList == s2.toList) = false := fun h => by
                    rw [beq_eq_false_iff_ne]
                    intro he
                    have := toList_inj he
                    subst this
                    have := HUY.out p q s1 hs1 hs2 h
                    omega
                  have hki1 : (p : Int) < n0 := by omega
                  have hki2 : (q : Int) < n0 := by omega
                  clear e1 e2 hs1 hs2 hsl
                  cases hse : s1.toList.isEmpty
                  · have hq0 := hneq hse
                    clear hneq
                    go_wp2
                    go_quiet (fail)
                    all_goals go_wp2
                    exact ⟨⟨q + 1, by omega, by go_num, hwj.drewN _⟩, by simp [intOf]; omega⟩
                  · clear hneq
                    go_wp2
                    go_quiet (fail)
                    all_goals go_wp2
                    exact ⟨⟨q + 1, by omega, by go_num, hwj.drewN _⟩, by simp [intOf]; omega⟩
                · go_wp2
                  exact ⟨⟨p + 1, by omega, by go_num, hwj⟩, by simp [intOf]; omega⟩
            · go_wp2
              exact ⟨⟨k + 1, M3, by omega, by go_num, hwi.drop1, by rw [HXS.out]; exact HT3.out⟩, by simp [intOf]; omega⟩
        · clear HZ
          have hn' : ((n0 : Int) == 0) = true := by simp [hn]
          clear hn
          go_wp2_with fail
          refine (list_any b xs' w3 hsat HT3.out).mono ?_
          rintro e w4 ⟨A1, c1, N, rfl, hw4, ho⟩
          have hsl : Kd.str.IsSl N (.slice A1 xs'.length c1) (xs'.map Ent.name) := ho.isSl (d := Kd.str) (H := N) (xs := xs'.map Ent.name) (by have := strs_reps N (xs'.map Ent.name); rwa [List.map_map] at this) (by simp) (Hp.le_refl _)
          have HUY : Hid (∀ (i j : Nat) (s : ByteArray), (xs'.map Ent.name)[i]? = some s → (xs'.map Ent.name)[j]? = some s → s.toList.isEmpty = false → i = j) := Lib.hid (fun i j s hi hj hs => by
            rw [List.getElem?_map] at hi hj
            cases h1 : xs'[i]? with
            | none => rw [h1] at hi; cases hi
            | some x =>
              cases h2 : xs'[j]? with
              | none => rw [h2] at hj; cases hj
              | some y =>
                rw [h1] at hi; rw [h2] at hj
                simp at hi hj
                exact HU.out i j x y h1 h2 (by rw [hi, hj]) (by rw [hi]; exact hs))
          have HUSED : Hid (∀ w', Sat σ w' (M3 :: N :: Hs) → Calls Try.prog 15 #[.pointer (some ⟨b, 0, none⟩), .int .i64 now] w' fun e w2 => e = .returned (.int .i64 (if momB now then (usedL xs' now : Int) else 0)) ∧ Sat σ w2 (M3 :: N :: Hs)) := Lib.hid (fun w' h => used_any b xs' now w' h HT3.out)
          have hu1 : 0 ≤ (if momB now then (usedL xs' now : Int) else 0) ∧ (if momB now then (usedL xs' now : Int) else 0) ≤ n0 := by
            have := usedL_le xs' now
            have := HLEN2.out
            split <;> omega
          have HYL : Hid ((xs'.map Ent.name).length = n0) := Lib.hid (by rw [List.length_map]; exact HLEN2.out)
          rw [HLEN2.out] at hsl ⊢
          generalize (if momB now then (usedL xs' now : Int) else 0) = u at *
          generalize xs'.map Ent.name = ys at *
          have hcap := hsl.cap
          have hsat4 := hw4.swap
          clear hw4 ho hsat HU
          have hnn : ((n0 : Int) != n0) = false := by simp
          go_wp2_with (go_at_call 15; refine (HUSED.out _ (by assumption)).mono ?_; rintro e w5 ⟨rfl, hsat5⟩)
          go_loopw [13, 14] (fun j _ wi => ∃ (p : Nat), p ≤ n0 ∧ j = .int .i64 p ∧ Sat σ wi (M3 :: N :: Hs)) (fun j _ _ => n0 - (intOf j).toNat)
          case atStart => exact ⟨0, by omega, rfl, by assumption⟩
          case round =>
            clear hsat4
            obtain ⟨p, hp, rfl, hwi⟩ := hrel
            obtain ⟨wo, rfl⟩ : ∃ wo : World, wo = wr := ⟨_, rfl⟩
            by_cases hpl : p < n0
            · go_wp2
              go_loopw [14] (fun j wi => ∃ (q : Nat), q ≤ p ∧ j = .int .i64 q ∧ Sat σ wi (M3 :: N :: Hs)) (fun j _ => p - (intOf j).toNat)
              case atStart => exact ⟨0, by omega, rfl, hwi⟩
              case round =>
                obtain ⟨q, hq, rfl, hwj⟩ := hrel
                by_cases hql : q < p
                · obtain ⟨g1, o1, d1, s1, hs1, hv, e1⟩ := str_get hsl (k := p) (by have := HYL.out; omega)
                  obtain ⟨g2, o2, d2, s2, hs2, hv', e2⟩ := str_get hsl (k := q) (by have := HYL.out; omega)
                  injection hv with hv1 hv2 hv3
                  injection hv' with hv4 hv5 hv6
                  subst hv1; subst hv3
                  injection hv4 with hv4
                  injection hv4 with hv4 hv7
                  subst hv4; subst hv7
                  clear hv2 hv5 hv6
                  have i1 := hwj.drop.cellAt List.mem_cons_self e1
                  have i2 := hwj.drop.cellAt List.mem_cons_self e2
                  have hneq : s1.toList.isEmpty = false → (s1.toList == s2.toList) = false := fun h => by
                    rw [beq_eq_false_iff_ne]
                    intro he
                    have := toList_inj he
                    subst this
                    have := HUY.out p q s1 hs1 hs2 h
                    omega
                  have hki1 : (p : Int) < n0 := by omega
                  have hki2 : (q : Int) < n0 := by omega
                  clear e1 e2 hs1 hs2 hsl
                  cases hse : s1.toList.isEmpty
                  · have hq0 := hneq hse
                    clear hneq
                    go_wp2
                    go_quiet (fail)
                    all_goals go_wp2
                    exact ⟨⟨q + 1, by omega, by go_num, hwj.drewN _⟩, by simp [intOf]; omega⟩
                  · clear hneq
                    go_wp2
                    go_quiet (fail)
                    all_goals go_wp2
                    exact ⟨⟨q + 1, by omega, by go_num, hwj.drewN _⟩, by simp [intOf]; omega⟩
                · go_wp2
                  exact ⟨⟨p + 1, by omega, by go_num, hwj⟩, by simp [intOf]; omega⟩
            · go_wp2
              exact ⟨⟨k + 1, M3, by omega, by go_num, hwi.drop1, by rw [HXS.out]; exact HT3.out⟩, by simp [intOf]; omega⟩
      · have hn' : ((n0 : Int) == 0) = false := beq_eq_false_iff_ne.2 (by omega)
        clear HZ
        go_wp2_with fail
        refine (list_any b xs' w3 hsat HT3.out).mono ?_
        rintro e w4 ⟨A1, c1, N, rfl, hw4, ho⟩
        have hsl : Kd.str.IsSl N (.slice A1 xs'.length c1) (xs'.map Ent.name) := ho.isSl (d := Kd.str) (H := N) (xs := xs'.map Ent.name) (by have := strs_reps N (xs'.map Ent.name); rwa [List.map_map] at this) (by simp) (Hp.le_refl _)
        have HUY : Hid (∀ (i j : Nat) (s : ByteArray), (xs'.map Ent.name)[i]? = some s → (xs'.map Ent.name)[j]? = some s → s.toList.isEmpty = false → i = j) := Lib.hid (fun i j s hi hj hs => by
          rw [List.getElem?_map] at hi hj
          cases h1 : xs'[i]? with
          | none => rw [h1] at hi; cases hi
          | some x =>
            cases h2 : xs'[j]? with
            | none => rw [h2] at hj; cases hj
            | some y =>
              rw [h1] at hi; rw [h2] at hj
              simp at hi hj
              exact HU.out i j x y h1 h2 (by rw [hi, hj]) (by rw [hi]; exact hs))
        have HUSED : Hid (∀ w', Sat σ w' (M3 :: N :: Hs) → Calls Try.prog 15 #[.pointer (some ⟨b, 0, none⟩), .int .i64 now] w' fun e w2 => e = .returned (.int .i64 (if momB now then (usedL xs' now : Int) else 0)) ∧ Sat σ w2 (M3 :: N :: Hs)) := Lib.hid (fun w' h => used_any b xs' now w' h HT3.out)
        have hu1 : 0 ≤ (if momB now then (usedL xs' now : Int) else 0) ∧ (if momB now then (usedL xs' now : Int) else 0) ≤ n0 := by
          have := usedL_le xs' now
          have := HLEN2.out
          split <;> omega
        have HYL : Hid ((xs'.map Ent.name).length = n0) := Lib.hid (by rw [List.length_map]; exact HLEN2.out)
        rw [HLEN2.out] at hsl ⊢
        generalize (if momB now then (usedL xs' now : Int) else 0) = u at *
        generalize xs'.map Ent.name = ys at *
        have hcap := hsl.cap
        have hsat4 := hw4.swap
        clear hw4 ho hsat HU
        have hnn : ((n0 : Int) != n0) = false := by simp
        go_wp2_with (go_at_call 15; refine (HUSED.out _ (by assumption)).mono ?_; rintro e w5 ⟨rfl, hsat5⟩)
        go_loopw [13, 14] (fun j _ wi => ∃ (p : Nat), p ≤ n0 ∧ j = .int .i64 p ∧ Sat σ wi (M3 :: N :: Hs)) (fun j _ _ => n0 - (intOf j).toNat)
        case atStart => exact ⟨0, by omega, rfl, by assumption⟩
        case round =>
          clear hsat4
          obtain ⟨p, hp, rfl, hwi⟩ := hrel
          obtain ⟨wo, rfl⟩ : ∃ wo : World, wo = wr := ⟨_, rfl⟩
          by_cases hpl : p < n0
          · go_wp2
            go_loopw [14] (fun j wi => ∃ (q : Nat), q ≤ p ∧ j = .int .i64 q ∧ Sat σ wi (M3 :: N :: Hs)) (fun j _ => p - (intOf j).toNat)
            case atStart => exact ⟨0, by omega, rfl, hwi⟩
            case round =>
              obtain ⟨q, hq, rfl, hwj⟩ := hrel
              by_cases hql : q < p
              · obtain ⟨g1, o1, d1, s1, hs1, hv, e1⟩ := str_get hsl (k := p) (by have := HYL.out; omega)
                obtain ⟨g2, o2, d2, s2, hs2, hv', e2⟩ := str_get hsl (k := q) (by have := HYL.out; omega)
                injection hv with hv1 hv2 hv3
                injection hv' with hv4 hv5 hv6
                subst hv1; subst hv3
                injection hv4 with hv4
                injection hv4 with hv4 hv7
                subst hv4; subst hv7
                clear hv2 hv5 hv6
                have i1 := hwj.drop.cellAt List.mem_cons_self e1
                have i2 := hwj.drop.cellAt List.mem_cons_self e2
                have hneq : s1.toList.isEmpty = false → (s1.toList == s2.toList) = false := fun h => by
                  rw [beq_eq_false_iff_ne]
                  intro he
                  have := toList_inj he
                  subst this
                  have := HUY.out p q s1 hs1 hs2 h
                  omega
                have hki1 : (p : Int) < n0 := by omega
                have hki2 : (q : Int) < n0 := by omega
                clear e1 e2 hs1 hs2 hsl
                cases hse : s1.toList.isEmpty
                · have hq0 := hneq hse
                  clear hneq
                  go_wp2
                  go_quiet (fail)
                  all_goals go_wp2
                  exact ⟨⟨q + 1, by omega, by go_num, hwj.drewN _⟩, by simp [intOf]; omega⟩
                · clear hneq
                  go_wp2
                  go_quiet (fail)
                  all_goals go_wp2
                  exact ⟨⟨q + 1, by omega, by go_num, hwj.drewN _⟩, by simp [intOf]; omega⟩
              · go_wp2
                exact ⟨⟨p + 1, by omega, by go_num, hwj⟩, by simp [intOf]; omega⟩
          · go_wp2
            exact ⟨⟨k + 1, M3, by omega, by go_num, hwi.drop1, by rw [HXS.out]; exact HT3.out⟩, by simp [intOf]; omega⟩
    · go_wp2
      go_ret
      exact ⟨rfl, hwr.drop⟩
end
end Go.Proofs.Ythofnhmehpdnbaa
