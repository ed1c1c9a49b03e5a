/- Walks: byteOf, host.Check, PutRequest, PutReply. -/
import Derived.Test.YtcndkpmeakaapaaDoorFvK
import Derived.Test.YtcndkpmeakaapaaDoorHsD
set_option linter.unusedVariables false
set_option linter.unusedSimpArgs false
namespace Go.Proofs.YtcndkpmeakaapaaDoor
open Go Go.RowKit
/-- Is a host right? -/
def checkB (a0 a1 a2 a3 : Int) (s : ByteArray) : Bool := decide (s.size = 0) || (decide ((nameR s).2 = none ∧ (nameR s).1 = s) && decide (a0 = 0 ∧ a1 = 0 ∧ a2 = 0 ∧ a3 = 0))
theorem sbL_byL (s : ByteArray) : sbL s = byL s := range_byL s
theorem str_empty {s : ByteArray} (h : s.size = 0) : s = ⟨#[]⟩ := by
  obtain ⟨⟨l⟩⟩ := s
  have : l = [] := List.eq_nil_of_length_eq_zero h
  rw [this]
section
variable {σ w w' : World} {Hs : List Hp} {H H1 H2 M N Y R E X HB : Hp}
set_option maxHeartbeats 4000000
def smallB (n : Int) : Bool := decide (0 ≤ n ∧ n ≤ 255)
theorem smallB_t {n : Int} (h : smallB n = true) : 0 ≤ n ∧ n ≤ 255 := of_decide_eq_true h
theorem byteOf_any (n : Int) (w : World) : Calls Tryd.prog 44 #[.int .i64 n] w fun e w' => (∃ b : Int, e = .returned (.tuple #[.int .u8 b, .bool (smallB n)]) ∧ (smallB n = true → b = n)) ∧ w = w' := by
  by_cases h1 : 0 ≤ n
  · by_cases h2 : n ≤ 255
    · have HD : Hid (smallB n = true) := Lib.hid (decide_eq_true ⟨h1, h2⟩)
      have m1 : IntKind.u8.wrap n = n := IntWalk.u8_in _ (by omega)
      generalize smallB n = q at *
      go_enter Tryd.func44, Tryd.ntmps44
      go_wp2
      go_ret2
      exact ⟨⟨n, by rw [HD.out]; rfl, fun _ => rfl⟩, rfl⟩
    · have HD : Hid (smallB n = false) := Lib.hid (decide_eq_false (fun h => h2 h.2))
      generalize smallB n = q at *
      go_enter Tryd.func44, Tryd.ntmps44
      go_wp2
      go_ret2
      exact ⟨⟨_, by rw [HD.out]; rfl, fun h => by rw [HD.out] at h; cases h⟩, rfl⟩
  · have HD : Hid (smallB n = false) := Lib.hid (decide_eq_false (fun h => h1 h.1))
    generalize smallB n = q at *
    go_enter Tryd.func44, Tryd.ntmps44
    go_wp2
    go_ret2
    exact ⟨⟨_, by rw [HD.out]; rfl, fun h => by rw [HD.out] at h; cases h⟩, rfl⟩
theorem addr_zero (W : World) (a0 a1 a2 a3 : Int) :
    (Op.equalIn 10000 25 (.agg #[.int .u8 a0, .int .u8 a1, .int .u8 a2, .int .u8 a3]) (.agg #[.int .u8 0, .int .u8 0, .int .u8 0, .int .u8 0])).run Tryd.prog W = .ok (decide (a0 = 0 ∧ a1 = 0 ∧ a2 = 0 ∧ a3 = 0)) W := by
  have eb : ∀ (w : World) (x y : Int), (Op.equalIn 9999 5 (.int .u8 x) (.int .u8 y)).run Tryd.prog w = .ok (x == y) w := fun w x y => by rw [run_equalIn_int w 9998 5 .u8 .u8 x y Tryd.underlying5]
  have hd : decide (a0 = 0 ∧ a1 = 0 ∧ a2 = 0 ∧ a3 = 0) = ((a0 == 0) && ((a1 == 0) && ((a2 == 0) && (a3 == 0)))) := by
    rw [Bool.eq_iff_iff]; simp
  rw [run_equalIn_struct W 9999 25 _ _ (by simp only [Program.fieldsOf, Tryd.underlying25]) (by kernel_rfl), hd]
  simp only [Program.fieldsOf, Tryd.underlying25]
  cases h0 : a0 == 0 <;> cases h1 : a1 == 0 <;> cases h2 : a2 == 0 <;> cases h3 : a3 == 0 <;>
  simp [Op.eqFields, part, run_underlying Tryd.underlying5, isAgg, eb, h0, h1, h2, h3]
theorem check_any (a0 a1 a2 a3 : Int) (s : ByteArray) (hs : s.size ≤ 9223372036854775807) (m : Int) (w : World) (hw : Sat σ w Hs) (hH : H ∈ Hs) (hm : Hp.cell H 1 0 = some (.int .i64 m)) :
    Calls Tryd.prog 45 #[.agg #[.int .u8 a0, .int .u8 a1, .int .u8 a2, .int .u8 a3, .string s]] w fun e w' => e = .returned (.bool (checkB a0 a1 a2 a3 s)) ∧ Sat σ w' Hs := by
  by_cases h0 : s.size = 0
  · have hr : Hid (checkB a0 a1 a2 a3 s = true) := Lib.hid (by unfold checkB; rw [decide_eq_true h0]; rfl)
    obtain rfl := str_empty h0
    go_enter Tryd.func45, Tryd.ntmps45
    go_wp2
    go_ret
    exact ⟨by rw [hr.out]; rfl, hw.alloc' _⟩
  · have hse : s.toList.isEmpty = false := ne_emp h0
    have hbx := hw.alloc (.cells #[.int .u8 a0, .int .u8 a1, .int .u8 a2, .int .u8 a3, .string s] 27)
    have HP := Lib.hid (parseName_any s hs m _ hbx (List.mem_cons_of_mem _ hH) hm)
    unfold NameP at HP
    have HR : Hid (checkB a0 a1 a2 a3 s = (decide ((nameR s).2 = none ∧ (nameR s).1 = s) && decide (a0 = 0 ∧ a1 = 0 ∧ a2 = 0 ∧ a3 = 0))) := Lib.hid (by unfold checkB; rw [decide_eq_false h0]; rfl)
    have HA := Lib.hid (fun W => addr_zero W a0 a1 a2 a3)
    clear h0 hm hs
    generalize checkB a0 a1 a2 a3 s = res at *
    generalize nameR s = r at *
    obtain ⟨n, er⟩ := r
    generalize decide (a0 = 0 ∧ a1 = 0 ∧ a2 = 0 ∧ a3 = 0) = za at *
    go_enter Tryd.func45, Tryd.ntmps45
    go_wp2_with fail
    refine HP.out.mono ?_
    rintro e w2 ⟨v, N, rfl, hw2, hN⟩
    have hw3 := hw2.swap
    generalize w.heap.size = nb at *
    have c0 : w2.cell? ⟨nb, 0, none⟩ = some (.int .u8 a0) := hw3.one_cell rfl
    have c1 : w2.cell? ⟨nb, 1, none⟩ = some (.int .u8 a1) := hw3.one_cell rfl
    have c2 : w2.cell? ⟨nb, 2, none⟩ = some (.int .u8 a2) := hw3.one_cell rfl
    have c3 : w2.cell? ⟨nb, 3, none⟩ = some (.int .u8 a3) := hw3.one_cell rfl
    have c4 : w2.cell? ⟨nb, 4, none⟩ = some (.string s) := hw3.one_cell rfl
    have hfin := hw3.drop.drop
    clear hw hbx HP hw2 hw3
    have heq := HA.out
    cases er with
    | some x =>
      obtain ⟨tv, uv, rfl⟩ := ev_form hN
      have hr : Hid (res = false) := Lib.hid (by rw [HR.out, decide_eq_false (fun h => by cases h.1)]; rfl)
      clear hN HR HA heq
      go_wp2
      go_ret
      exact ⟨by rw [hr.out]; rfl, hfin⟩
    | none =>
      obtain rfl : v = .nilIface := hN
      by_cases hn : n = s
      · subst hn
        have hr : Hid (res = za) := Lib.hid (by rw [HR.out, decide_eq_true ⟨rfl, rfl⟩]; rfl)
        clear HR HA
        go_wp2
        go_ret
        exact ⟨by rw [hr.out]; rfl, hfin⟩
      · have hne : (n.toList == s.toList) = false := by
          cases h : n.toList == s.toList with
          | false => rfl
          | true => exact absurd (toList_inj (eq_of_beq h)) hn
        have hr : Hid (res = false) := Lib.hid (by rw [HR.out, decide_eq_false (fun h => hn h.2)]; rfl)
        clear hn HR HA
        go_wp2
        go_ret
        exact ⟨by rw [hr.out]; rfl, hfin⟩
end
end Go.Proofs.YtcndkpmeakaapaaDoor
