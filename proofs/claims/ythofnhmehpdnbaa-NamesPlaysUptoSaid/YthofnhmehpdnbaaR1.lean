/- Walks: the reference's when, place, New. -/
import Derived.Test.YthofnhmehpdnbaaN16
set_option linter.unusedVariables false
namespace Go.Proofs.Ythofnhmehpdnbaa
open Go.RowKit
set_option maxHeartbeats 1000000
theorem when_any (n : Int) (w : World) :
    Calls Try.prog 35 #[.int .i64 n] w fun e w' => e = .returned (.bool (momB n)) ∧ w = w' := by
  by_cases h : 0 ≤ n
  · go_enter Try.func35, Try.ntmps35
    go_wp2
    go_ret
    exact ⟨by simp [momB, h], rfl⟩
  · go_enter Try.func35, Try.ntmps35
    go_wp2
    go_ret
    exact ⟨by simp [momB]; omega, rfl⟩
theorem dead_iff (now : Int) (x : Ent) : deadP now x = (x.name.toList.isEmpty || decide (x.till ≤ now)) := by
  have : decide (x.till ≤ now) = !decide (now < x.till) := by rw [Bool.eq_iff_iff]; simp
  unfold deadP holdsB
  rw [this]
  cases x.name.toList.isEmpty <;> simp
section
variable {σ : World} {Hs : List Hp} {H M N : Hp}
theorem least_idx (xs : List Ent) (q : Nat) (z : Ent) (hz : xs[q]? = some z) (hm : ∀ (j : Nat) (y : Ent), xs[j]? = some y → z.till ≤ y.till) (hl : ∀ (j : Nat) (y : Ent), j < q → xs[j]? = some y → z.till < y.till) : idxI (leastP xs) xs = q := by
  refine idxI_yes (leastP xs) xs q z hz ?_ (fun j y hj hy => ?_)
  · unfold leastP
    rw [List.all_eq_true]
    intro y hy
    obtain ⟨j, hj⟩ := List.getElem?_of_mem hy
    simpa using hm j y hj
  · have := hl j y hj hy
    unfold leastP
    rw [Bool.eq_false_iff]
    intro h
    rw [List.all_eq_true] at h
    have := h z (List.mem_of_getElem? hz)
    simp at this
    omega
set_option maxRecDepth 100000 in
theorem place_any (b : Nat) (xs : List Ent) (now : Int) (nm : ByteArray) (w : World) (hw : Sat σ w (M :: Hs)) (hT : RTab M b xs) (h0 : 0 < xs.length) :
    Calls Try.prog 36 #[.pointer (some ⟨b, 0, none⟩), .int .i64 now, .string nm] w fun e w' => e = .returned (.int .i64 (placeI xs now nm)) ∧ Sat σ w' (M :: Hs) := by
  obtain ⟨A, c, hb, hs⟩ := hT.sl
  have hlen := hT.facts.2.1
  have hcap := hs.cap
  have HB := Lib.hid hb
  have cb0 : w.cell? ⟨b, 0, none⟩ = some (.slice A xs.length c) := hw.m_cell hb rfl
  clear hb hT
  go_enter Try.func36, Try.ntmps36
  go_wp2
  go_loopw [7] (fun i wr => ∃ k : Nat, k ≤ xs.length ∧ i = .int .i64 k ∧ Sat σ wr (M :: Hs) ∧ Eager (∀ (j : Nat) (y : Ent), j < k → xs[j]? = some y → nmP nm y = false)) (fun i _ => xs.length - (intOf i).toNat)
  case atStart => exact ⟨0, by omega, rfl, hw, ⟨fun j y hj => by omega⟩⟩
  case round =>
    obtain ⟨k, hk, rfl, hwr, hn⟩ := hrel
    clear cb0 hw
    have cb0 : wr.cell? ⟨b, 0, none⟩ = some (.slice A xs.length c) := hwr.m_cell HB.out rfl
    by_cases hlt : k < xs.length
    · obtain ⟨gb, off, c', Au, cu, x, hx, hv, e0, e1, e2, hu⟩ := ent_get hs hlt
      injection hv with hv1 hv2 hv3
      subst hv1; subst hv3; clear hv2
      have c0 := hwr.cellAt List.mem_cons_self e0
      have hki : (k : Int) < xs.length := by omega
      have HX := Lib.hid hx
      clear hx e0 e1 e2 hu hs
      cases hp : x.name.toList == nm.toList
      · have HP : Hid (nmP nm x = false) := Lib.hid hp
        go_wp2
        exact ⟨⟨k + 1, by omega, by go_num, hwr, ⟨fun j y hj hy => by
          by_cases e : j = k
          · subst e; rw [HX.out] at hy; cases hy; exact HP.out
          · exact hn.out j y (by omega) hy⟩⟩, by simp [intOf]; omega⟩
      · have HP : Hid (nmP nm x = true) := Lib.hid hp
        go_wp2
        go_ret
        exact ⟨ret_int' (by unfold placeI; rw [idxI_yes (nmP nm) xs k x HX.out HP.out hn.out, if_pos (by omega)]), hwr⟩
    · obtain rfl : k = xs.length := by omega
      have HN1 : Hid (idxI (nmP nm) xs = -1) := Lib.hid (idxI_no (nmP nm) xs (fun j y hy => hn.out j y (List.getElem?_eq_some_iff.1 hy).1 hy))
      clear hn
      go_wp2
      go_loopw [8] (fun i wr => ∃ k : Nat, k ≤ xs.length ∧ i = .int .i64 k ∧ Sat σ wr (M :: Hs) ∧ Eager (∀ (j : Nat) (y : Ent), j < k → xs[j]? = some y → deadP now y = false)) (fun i _ => xs.length - (intOf i).toNat)
      case atStart => exact ⟨0, by omega, rfl, hwr, ⟨fun j y hj => by omega⟩⟩
      case round =>
        obtain ⟨k, hk, rfl, hwr, hn⟩ := hrel
        clear cb0
        have cb0 : wr.cell? ⟨b, 0, none⟩ = some (.slice A xs.length c) := hwr.m_cell HB.out rfl
        by_cases hlt : k < xs.length
        · obtain ⟨gb, off, c', Au, cu, x, hx, hv, e0, e1, e2, hu⟩ := ent_get hs hlt
          injection hv with hv1 hv2 hv3
          subst hv1; subst hv3; clear hv2
          have c0 := hwr.cellAt List.mem_cons_self e0
          have c2 := hwr.cellAt List.mem_cons_self e2
          have hki : (k : Int) < xs.length := by omega
          have HX := Lib.hid hx
          have HD := Lib.hid (dead_iff now x)
          have HREL : Hid (deadP now x = false → ∀ (j : Nat) (y : Ent), j < k + 1 → xs[j]? = some y → deadP now y = false) := Lib.hid (fun h j y hj hy => by
            by_cases e : j = k
            · subst e; rw [HX.out] at hy; cases hy; exact h
            · exact hn.out j y (by omega) hy)
          clear hx e0 e1 e2 hu hs
          cases hp : x.name.toList.isEmpty
          · by_cases ht : x.till ≤ now
            · have HP : Hid (deadP now x = true) := Lib.hid (by rw [HD.out, hp]; simp [ht])
              go_wp2
              go_ret
              exact ⟨ret_int' (by unfold placeI; rw [HN1.out, if_neg (by omega), idxI_yes (deadP now) xs k x HX.out HP.out hn.out, if_pos (by omega)]), hwr⟩
            · have HP : Hid (deadP now x = false) := Lib.hid (by rw [HD.out, hp]; simp; omega)
              go_wp2
              exact ⟨⟨k + 1, by omega, by go_num, hwr, ⟨HREL.out HP.out⟩⟩, by simp [intOf]; omega⟩
          · have HP : Hid (deadP now x = true) := Lib.hid (by rw [HD.out, hp]; simp)
            go_wp2
            go_ret
            exact ⟨ret_int' (by unfold placeI; rw [HN1.out, if_neg (by omega), idxI_yes (deadP now) xs k x HX.out HP.out hn.out, if_pos (by omega)]), hwr⟩
        · obtain rfl : k = xs.length := by omega
          have HN2 : Hid (idxI (deadP now) xs = -1) := Lib.hid (idxI_no (deadP now) xs (fun j y hy => hn.out j y (List.getElem?_eq_some_iff.1 hy).1 hy))
          clear hn
          obtain ⟨x0, hx0⟩ : ∃ x0, xs[0]? = some x0 := ⟨_, List.getElem?_eq_getElem h0⟩
          have HX0 := Lib.hid hx0; clear hx0
          go_wp2
          go_loopw [9, 10] (fun l i wr => ∃ (k q : Nat) (z : Ent), k ≤ xs.length ∧ i = .int .i64 k ∧ l = .int .i64 q ∧ q < xs.length ∧ Sat σ wr (M :: Hs) ∧ Eager (xs[q]? = some z ∧ (∀ (j : Nat) (y : Ent), j < k → xs[j]? = some y → z.till ≤ y.till) ∧ (∀ (j : Nat) (y : Ent), j < q → xs[j]? = some y → z.till < y.till))) (fun _ i _ => xs.length - (intOf i).toNat)
          case atStart => exact ⟨0, 0, x0, by omega, rfl, rfl, h0, hwr, ⟨HX0.out, fun j y hj => by omega, fun j y hj => by omega⟩⟩
          case round =>
            obtain ⟨k, q, z, hk, rfl, rfl, hq, hwr, hn⟩ := hrel
            clear cb0
            have cb0 : wr.cell? ⟨b, 0, none⟩ = some (.slice A xs.length c) := hwr.m_cell HB.out rfl
            by_cases hlt : k < xs.length
            · obtain ⟨gb, off, c', Au, cu, x, hx, hv, e0, e1, e2, hu⟩ := ent_get hs hlt
              injection hv with hv1 hv2 hv3
              subst hv1; subst hv3; clear hv2
              obtain ⟨gb2, off2, c2', Au2, cu2, z', hz', hv, e3, e4, e5, hu2⟩ := ent_get hs hq
              injection hv with hv1 hv2 hv3
              injection hv1 with hv1
              injection hv1 with hv1 hv4
              subst hv1; subst hv4; clear hv2 hv3
              obtain rfl : z = z' := by have := hn.out.1; rw [hz'] at this; exact (Option.some.inj this).symm
              have c2 := hwr.cellAt List.mem_cons_self e2
              have c5 := hwr.cellAt List.mem_cons_self e5
              have hki : (k : Int) < xs.length := by omega
              have hqi : (q : Int) < xs.length := by omega
              have HX := Lib.hid hx; have HN := Lib.hid hn.out
              clear hx hz' e0 e1 e2 e3 e4 e5 hu hu2 hs hn
              by_cases ht : x.till < z.till
              · go_wp2
                go_quiet (fail)
                all_goals go_wp2
                exact ⟨⟨k + 1, k, x, by omega, by go_num, rfl, by omega, hwr.drewN _, ⟨HX.out, fun j y hj hy => by
                  by_cases e : j = k
                  · subst e; rw [HX.out] at hy; cases hy; omega
                  · have := HN.out.2.1 j y (by omega) hy; omega, fun j y hj hy => by
                  have := HN.out.2.1 j y hj hy; omega⟩⟩, by simp [intOf]; omega⟩
              · go_wp2
                go_quiet (fail)
                all_goals go_wp2
                exact ⟨⟨k + 1, q, z, by omega, by go_num, rfl, by omega, hwr.drewN _, ⟨HN.out.1, fun j y hj hy => by
                  by_cases e : j = k
                  · subst e; rw [HX.out] at hy; cases hy; omega
                  · exact HN.out.2.1 j y (by omega) hy, HN.out.2.2⟩⟩, by simp [intOf]; omega⟩
            · obtain rfl : k = xs.length := by omega
              go_wp2
              go_ret
              exact ⟨ret_int' (by unfold placeI; rw [HN1.out, if_neg (by omega), HN2.out, if_neg (by omega), least_idx xs q z hn.out.1 (fun j y hy => hn.out.2.1 j y (List.getElem?_eq_some_iff.1 hy).1 hy) hn.out.2.2]), hwr⟩
end
end Go.Proofs.Ythofnhmehpdnbaa
