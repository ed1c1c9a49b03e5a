/- Walks: Ints, the reference's PutGreeting. -/
import Derived.Test.YtcndkpmeakaapaaDoorFvU
set_option linter.unusedVariables false
set_option linter.unusedSimpArgs false
namespace Go.Proofs.YtcndkpmeakaapaaDoor
open Go Go.RowKit
theorem ireps_is {H : Hp} : ∀ {xs : List Int} {cs : List Value}, (Kd.int .i64).reps H xs cs → cs = xs.map (Value.int .i64)
  | [], _, h => h
  | x :: xs, _, ⟨c, r, e, hc, hr⟩ => by
    obtain rfl : c = _ := hc
    rw [e, ireps_is hr]
    rfl
section
variable {σ w w' : World} {Hs : List Hp} {H H1 H2 M N Y R E X HB : Hp}
set_option maxHeartbeats 4000000
theorem ints_any (v : Value) (xs : List Int) (w : World) (hw : Sat σ w Hs) (hH : H ∈ Hs) (hs : (Kd.int .i64).IsSl H v xs) (hn : xs.length ≤ 10000000) :
    Calls Tryd.prog 28 #[v] w fun e w' => ∃ u N, e = .returned u ∧ Sat σ w' (N :: Hs) ∧ (Kd.int .i64).IsSl N u xs := by
  obtain ⟨cells, hcs, hsrc⟩ := hs.src (P := Tryd.prog) (t := 48) Tryd.underlying48
  obtain rfl := ireps_is hcs
  obtain ⟨A, c, rfl, hc1, hc2, hrow⟩ := hs.form
  have HSRC := Lib.hid hsrc
  clear hsrc hcs hrow
  go_enter Tryd.func28, Tryd.ntmps28
  go_wp2_with (at_builtin; refine wpList_app (hw.alloc _) rfl (.tmp 3) (.tmp 4) 48 48 3 (.int .i64 0) 1 8 rfl Tryd.underlying48 (by kernel_rfl) rfl (by decide) _ _ 0 xs.length [] _ rfl rfl (own_lit0 _ _ _) (HSRC.out _ ((hw.alloc _).has _ (by simp [hH]))) (by omega) ?_; intro A1 c1 w1 N1 hw1 ho1 _ _)
  go_ret
  have ho2 : Own N1 3 1 (.slice A1 xs.length c1) xs.length (xs.map (Value.int .i64)) := by
    rw [Nat.zero_add, List.nil_append] at ho1; exact ho1
  exact ⟨.slice A1 xs.length c1, N1, by simp, hw1, ho2.isSl (d := Kd.int .i64) (ints_reps _) rfl (Hp.le_refl _)⟩
set_option maxRecDepth 10000 in
theorem rputGreeting_any (v0 : Value) (ms : List Int) (w : World) (hw : Sat σ w Hs) (hB : H1 ∈ Hs) (hb : (Kd.int .i64).IsSl H1 v0 ms) :
    Calls Tryd.prog 30 #[v0] w (PutP σ Hs (putGO ms)) := by
  obtain ⟨A, c, rfl, hc1, hc2, _⟩ := id hb.form
  have HB := Lib.hid hb
  have HPV : Hid (putGV ms = (decide (1 ≤ ms.length ∧ ms.length ≤ 255) && ms.all smallB)) := Lib.hid rfl
  have HPO : Hid (putGO ms = if putGV ms = true then ([5, (ms.length : Int)] ++ ms, 0) else ([], 2)) := Lib.hid rfl
  generalize putGV ms = gv at *
  generalize putGO ms = po at *
  by_cases h1 : ms.length < 1
  · have hr : Hid (po = ([], 2)) := Lib.hid (by rw [HPO.out, HPV.out, decide_eq_false (by omega)]; rfl)
    have h1i : (ms.length : Int) < 1 := by omega
    clear HPO HPV h1 hb
    go_enter Tryd.func30, Tryd.ntmps30
    go_wp2
    go_ret2
    rw [hr.out]
    exact PutP.mk _ Hp.emp rfl hw.emp Kd.IsSl.nil
  · have h1i : ¬ (ms.length : Int) < 1 := by omega
    by_cases h2 : 255 < ms.length
    · have hr : Hid (po = ([], 2)) := Lib.hid (by rw [HPO.out, HPV.out, decide_eq_false (by omega)]; rfl)
      have h2i : (255 : Int) < ms.length := by omega
      clear HPO HPV h1 h2 hb
      go_enter Tryd.func30, Tryd.ntmps30
      go_wp2
      go_ret2
      rw [hr.out]
      exact PutP.mk _ Hp.emp rfl hw.emp Kd.IsSl.nil
    · have h2i : ¬ (255 : Int) < ms.length := by omega
      have HBAD : Hid (∀ x ∈ ms, smallB x = false → po = ([], 2)) := Lib.hid (fun x hx h => by
        rw [HPO.out, HPV.out]
        refine if_neg (fun h2 => ?_)
        have := List.all_eq_true.1 ((Bool.and_eq_true _ _).mp h2).2 x hx
        rw [h] at this; cases this)
      have HOK : Hid ((∀ x ∈ ms, smallB x = true) → po = ([5, (ms.length : Int)] ++ ms, 0)) := Lib.hid (fun h => by
        rw [HPO.out, HPV.out, List.all_eq_true.2 h, decide_eq_true (by omega)]; rfl)
      have m1 : IntKind.u8.wrap (ms.length : Int) = (ms.length : Int) := IntWalk.u8_in _ (by omega)
      have HL : Hid (ms.length ≤ 255) := Lib.hid (by omega)
      have hw2 := hw.alloc (.cells (ints .u8 [5, (ms.length : Int)]).toArray 5)
      have ho2 : Own (Hp.one w.heap.size (.cells (ints .u8 [5, (ms.length : Int)]).toArray 5 (0, 0))) 5 1 (.slice (some ⟨w.heap.size, 0, none⟩) 2 2) 2 (ints .u8 [5, (ms.length : Int)]) := own_lit w.heap.size _ _ 1 2 rfl (by decide)
      have HO2 := Lib.hid ho2
      clear hb ho2 HPO HPV h1 h2
      go_enter Tryd.func30, Tryd.ntmps30
      go_wp2
      go_loopw [5, 4] (fun i o wr => ∃ (k : Nat) (A1 : Option Addr) (c1 : Nat) (N : Hp), k ≤ ms.length ∧ i = .int .i64 k ∧ o = .slice A1 (2 + k) c1 ∧ Sat σ wr (N :: Hs) ∧ Own N 5 1 (.slice A1 (2 + k) c1) (2 + k) (ints .u8 ([5, (ms.length : Int)] ++ ms.take k)) ∧ Eager (∀ x ∈ ms.take k, smallB x = true)) (fun i _ _ => ms.length - (intOf i).toNat)
      case atStart => exact ⟨0, some ⟨w.heap.size, 0, none⟩, 2, _, by omega, rfl, rfl, hw2, HO2.out, ⟨fun x hx => by simp at hx⟩⟩
      case round =>
        obtain ⟨k, A1, c1, N, hk, rfl, rfl, hwr, ho, hsm⟩ := hrel
        have HSM := Lib.hid hsm.out
        have HO := Lib.hid ho
        clear hw hw2 hsm ho
        by_cases hlt : k < ms.length
        · obtain ⟨x, hx⟩ : ∃ x, ms[k]? = some x := ⟨_, List.getElem?_eq_getElem hlt⟩
          obtain ⟨b, off, cs, rfl, hcs, hcell⟩ := HB.out.get k x hx
          obtain rfl : cs = [.int .i64 x] := hcs
          have hki : (k : Int) < ms.length := by omega
          have hk0 : (0 : Int) ≤ k := by omega
          have hc0 := hwr.cellAt (H := H1) (List.mem_cons_of_mem _ hB) (hcell 0 _ rfl)
          simp only [show (Kd.int .i64).sz = 1 from rfl, Nat.mul_one, Nat.add_zero] at hc0
          have HTK : Hid (ms.take (k + 1) = ms.take k ++ [x]) := Lib.hid (by rw [List.take_succ_eq_append_getElem hlt]; congr 2; have := List.getElem?_eq_getElem hlt; rw [hx] at this; injection this with this; exact this.symm)
          have HMEM := Lib.hid (List.mem_of_getElem? hx)
          have hlc : ms.length ≤ c := hc1
          clear hx hcell
          cases hsx : smallB x with
          | false =>
            have hr := Lib.hid (HBAD.out x HMEM.out hsx)
            go_wp2_with (go_at_call 55; refine (rsmall_any x _).mono ?_; rw [hsx]; rintro e w2 ⟨rfl, rfl⟩)
            go_ret2
            rw [hr.out]
            exact PutP.mk _ Hp.emp rfl hwr.drop.emp Kd.IsSl.nil
          | true =>
            have HSX := Lib.hid hsx
            have hq := smallB_t hsx
            have mx : IntKind.u8.wrap x = x := IntWalk.u8_in _ (by omega)
            clear hq
            have HWR := Lib.hid (hwr.alloc' (.cells (ints .u8 [x]).toArray 5))
            clear hwr
            go_wp2_with (first
              | (go_at_call 55; refine (rsmall_any x _).mono ?_; rw [hsx]; rintro e w2 ⟨rfl, rfl⟩)
              | (at_builtin; go_must (refine wpList_app HWR.out rfl (.tmp 30) (.tmp 36) 22 22 5 (.int .u8 0) 1 1 rfl Tryd.underlying22 (by kernel_rfl) rfl (by decide) _ _ (2 + k) 1 (ints .u8 ([5, (ms.length : Int)] ++ ms.take k)) [.int .u8 x] rfl rfl HO.out (src_new Tryd.underlying22 _ [.int .u8 x] _ 1 1 1 (by simp) rfl rfl) (by have := HL.out; omega) ?_); intro A2 c2 w2 N2 hw2 ho2 _ _))
            go_roundw
            case measure => simp [intOf]; omega
            case rel =>
              refine ⟨k + 1, A2, c2, N2, by omega, by go_num, rfl, hw2, ?_, ⟨fun z hz => ?_⟩⟩
              · rw [HTK.out, ← List.append_assoc, ints_append]; exact ho2
              · rw [HTK.out] at hz
                rcases List.mem_append.1 hz with hz | hz
                · exact HSM.out z hz
                · simp at hz; subst hz; exact HSX.out
        · obtain rfl : k = ms.length := by omega
          have HSL := Lib.hid (HO.out.isSl (d := kB) (reps_ints _) (by rw [List.length_append, List.length_take]; simp) (Hp.le_refl _))
          rw [List.take_of_length_le (Nat.le_refl _)] at HSL HSM
          have hr := Lib.hid (HOK.out HSM.out)
          go_wp2
          go_ret2
          rw [hr.out]
          exact PutP.mk _ N rfl hwr HSL.out
end
end Go.Proofs.YtcndkpmeakaapaaDoor
