/- Walk: Whole, and the reference's Length. -/
import Derived.Test.YtgpmkiamfbbfmaaDoorCwC
set_option linter.unusedVariables false
set_option linter.unusedSimpArgs false
namespace Go.Proofs.YtgpmkiamfbbfmaaDoor
open Go Go.RowKit
section
variable {σ w w' : World} {Hs : List Hp} {H H1 H2 M N Y : Hp}
set_option maxHeartbeats 8000000
theorem run_str {P : Program} (t : TypeId) (ht : P.underlying t = some .string) (s : ByteArray) (k : Nat) (b : UInt8) (hb : s.data.toList[k]? = some b) :
    ∀ w : World, (Instr.index t (.string s) (.int .i64 (k : Int))).run P w = .ok (.int .u8 (b.toNat : Int)) w := by
  intro w
  have h1 : s[k]? = some b := by
    have hl : k < s.data.size := by have := (List.getElem?_eq_some_iff.1 hb).1; simpa using this
    rw [getElem?_pos s k hl]
    congr 1
    have := (List.getElem?_eq_some_iff.1 hb).2
    rw [← this]; simp; rfl
  simp [Instr.index, asIntOf, run_underlying ht, h1]
def wholeV (o : Option Nat) : Value := match o with | some n => .tuple #[.int .i64 n, .bool true] | none => .tuple #[.int .i64 0, .bool false]
set_option maxRecDepth 10000 in
theorem whole_any (s : ByteArray) (hs : s.size ≤ 281474976710656) (w : World) :
    Calls Tryd.prog 22 #[.string s, .int .i64 7] w fun e w' => e = .returned (wholeV (wholeD 7 s.data.toList)) ∧ w' = w := by
  obtain ⟨r, hr⟩ : ∃ r, wholeV (wholeD 7 s.data.toList) = r := ⟨_, rfl⟩
  have HR := Lib.hid hr
  have hsz : s.size = s.data.toList.length := by rw [Array.length_toList]; rfl
  rw [hr]
  clear hr
  go_enter Tryd.func22, Tryd.ntmps22
  by_cases h0 : s.size = 0
  · obtain rfl : s = ⟨#[]⟩ := by
      cases s with
      | mk d => simp [ByteArray.size] at h0; rw [h0]
    have hD : Hid (r = .tuple #[.int .i64 0, .bool false]) := Lib.hid (by rw [← HR.out]; rfl)
    clear HR h0 hs hsz
    go_wp2
    go_ret2
    exact ⟨by rw [hD.out]; rfl, rfl⟩
  · have hne : s.toList.isEmpty = false := by
      rw [ByteArray.toList_eq]
      cases h : s.data.toList with
      | nil => rw [h] at hsz; exact absurd hsz h0
      | cons a t => rfl
    by_cases h7 : 7 < s.size
    · have hD : Hid (r = .tuple #[.int .i64 0, .bool false]) := Lib.hid (by rw [← HR.out]; unfold wholeD; rw [if_pos (.inr (.inl (by omega)))]; rfl)
      have h7i : (7 : Int) < s.size := by omega
      clear HR hsz
      go_wp2
      go_ret2
      exact ⟨by rw [hD.out]; rfl, rfl⟩
    · have h7i : ¬ (7 : Int) < s.size := by omega
      obtain ⟨b, hb⟩ : ∃ b, s.data.toList[0]? = some b := ⟨_, List.getElem?_eq_getElem (by omega)⟩
      have hix : ∀ w : World, (Instr.index 9 (.string s) (.int .i64 0)).run Tryd.prog w = .ok (.int .u8 (b.toNat : Int)) w := run_str (P := Tryd.prog) 9 Tryd.underlying9 s 0 b hb
      have hdn : s.data.toList ≠ [] := fun h => by rw [h] at hsz; exact h0 hsz
      by_cases h1 : 1 < s.size
      · have h1i : (1 : Int) < s.size := by omega
        by_cases h48 : b = 48
        · subst h48
          have hD : Hid (r = .tuple #[.int .i64 0, .bool false]) := Lib.hid (by rw [← HR.out]; unfold wholeD; rw [if_pos (.inr (.inr ⟨by omega, by rw [List.head?_eq_getElem?]; exact hb⟩))]; rfl)
          have hix2 : ∀ w : World, (Instr.index 9 (.string s) (.int .i64 0)).run Tryd.prog w = .ok (.int .u8 48) w := hix
          clear HR hsz hb hix
          go_wp2
          go_ret2
          exact ⟨by rw [hD.out]; rfl, rfl⟩
        · have hb48 : ((b.toNat : Int) == 48) = false := by
            rw [beq_eq_false_iff_ne]; intro h; exact h48 (UInt8.toNat_inj.1 (by show b.toNat = 48; omega))
          have HW : Hid (wholeD 7 s.data.toList = Lib.decFrom 0 s.data.toList) := Lib.hid (by unfold wholeD; rw [if_neg]; rintro (h | h | ⟨h, h'⟩); exact hdn h; omega; exact (h48 (by rw [List.head?_eq_getElem?, hb] at h'; exact Option.some.inj h')))
          have HSZ := Lib.hid hsz
          have HNO := Lib.hid hne
          clear hdn hsz hb
          go_wp2_with fail
          clear hne hix
          go_loopw [6, 7] (fun nv i wr => ∃ k m : Nat, k ≤ s.size ∧ nv = .int .i64 m ∧ i = .int .i64 k ∧ wr = w ∧ Eager (Lib.decFrom 0 (s.data.toList.take k) = some m)) (fun _ i _ => s.size - (intOf i).toNat)
          case atStart => exact ⟨0, 0, by omega, rfl, rfl, rfl, ⟨rfl⟩⟩
          case round =>
            obtain ⟨k, m, hk, rfl, rfl, rfl, hst⟩ := hrel
            have HST := Lib.hid hst.out
            have hm : m < 100000000000000000 := Lib.decFrom_take_lt hst.out (by omega)
            clear hst
            by_cases hlt : k < s.size
            · have hlti : (k : Int) < s.size := by omega
              obtain ⟨b, hb⟩ : ∃ b, s.data.toList[k]? = some b := ⟨_, List.getElem?_eq_getElem (by have := HSZ.out; omega)⟩
              have hix := run_str (P := Tryd.prog) 9 Tryd.underlying9 s k b hb
              have HBB := Lib.hid hb
              cases hd : Lib.digitVal b with
              | some d =>
                obtain ⟨d1, d2, d3⟩ := Lib.digitVal_eq hd
                have HN := Lib.hid (Lib.decFrom_take s.data.toList k 0 m b d HST.out hb hd)
                have e1 : ¬ (b.toNat : Int) < 48 := by omega
                have e2 : ¬ (57 : Int) < b.toNat := by omega
                have e3 : IntKind.u8.wrap ((b.toNat : Int) - 48) = (d : Int) := by simp only [IntKind.wrap_u8]; omega
                have e4 : IntKind.i64.wrap (d : Int) = (d : Int) := IntWalk.i64_in _ (by omega)
                have e5 : IntKind.i64.wrap ((m : Int) * 10) = (m : Int) * 10 := IntWalk.i64_in _ (by omega)
                have e6 : IntKind.i64.wrap ((m : Int) * 10 + d) = (m : Int) * 10 + d := IntWalk.i64_in _ (by omega)
                clear hb hd d1 d2 d3
                go_wp2
                exact ⟨⟨k + 1, m * 10 + d, by omega, by go_num, by go_num, (by first | rfl | trivial), ⟨HN.out⟩⟩, by simp [intOf]; omega⟩
              | none =>
                have hD : Hid (r = .tuple #[.int .i64 0, .bool false]) := Lib.hid (by
                  rw [← HR.out, HW.out]
                  cases h : Lib.decFrom 0 s.data.toList with
                  | none => rfl
                  | some n => obtain ⟨d, hd'⟩ := Lib.digit_of_decFrom _ _ _ h k b hb; rw [hd] at hd'; cases hd')
                have hr2 : ¬ (48 ≤ b.toNat ∧ b.toNat ≤ 57) := fun h => by unfold Lib.digitVal at hd; rw [if_pos h] at hd; cases hd
                clear hb hd HR HW
                by_cases e1 : b.toNat < 48
                · have e1' : (b.toNat : Int) < 48 := by omega
                  clear hr2
                  go_wp2
                  go_ret2
                  exact ⟨by rw [hD.out]; rfl, rfl⟩
                · have e1' : ¬ (b.toNat : Int) < 48 := by omega
                  have e2' : (57 : Int) < b.toNat := by omega
                  clear hr2
                  go_wp2
                  go_ret2
                  exact ⟨by rw [hD.out]; rfl, rfl⟩
            · obtain rfl : k = s.size := by omega
              have hD : Hid (r = .tuple #[.int .i64 m, .bool true]) := Lib.hid (by
                have := HST.out
                rw [HSZ.out, List.take_length] at this
                rw [← HR.out, HW.out, this]; rfl)
              clear HR HW
              go_wp2
              go_ret2
              exact ⟨by rw [hD.out]; rfl, rfl⟩
      · have h1i : ¬ (1 : Int) < s.size := by omega
        have HW : Hid (wholeD 7 s.data.toList = Lib.decFrom 0 s.data.toList) := Lib.hid (by unfold wholeD; rw [if_neg]; rintro (h | h | ⟨h, h'⟩); exact hdn h; omega; exact (absurd h (by omega)))
        have HSZ := Lib.hid hsz
        have HNO := Lib.hid hne
        clear hdn hsz hb
        go_wp2_with fail
        clear hne hix
        go_loopw [6, 7] (fun nv i wr => ∃ k m : Nat, k ≤ s.size ∧ nv = .int .i64 m ∧ i = .int .i64 k ∧ wr = w ∧ Eager (Lib.decFrom 0 (s.data.toList.take k) = some m)) (fun _ i _ => s.size - (intOf i).toNat)
        case atStart => exact ⟨0, 0, by omega, rfl, rfl, rfl, ⟨rfl⟩⟩
        case round =>
          obtain ⟨k, m, hk, rfl, rfl, rfl, hst⟩ := hrel
          have HST := Lib.hid hst.out
          have hm : m < 100000000000000000 := Lib.decFrom_take_lt hst.out (by omega)
          clear hst
          by_cases hlt : k < s.size
          · have hlti : (k : Int) < s.size := by omega
            obtain ⟨b, hb⟩ : ∃ b, s.data.toList[k]? = some b := ⟨_, List.getElem?_eq_getElem (by have := HSZ.out; omega)⟩
            have hix := run_str (P := Tryd.prog) 9 Tryd.underlying9 s k b hb
            have HBB := Lib.hid hb
            cases hd : Lib.digitVal b with
            | some d =>
              obtain ⟨d1, d2, d3⟩ := Lib.digitVal_eq hd
              have HN := Lib.hid (Lib.decFrom_take s.data.toList k 0 m b d HST.out hb hd)
              have e1 : ¬ (b.toNat : Int) < 48 := by omega
              have e2 : ¬ (57 : Int) < b.toNat := by omega
              have e3 : IntKind.u8.wrap ((b.toNat : Int) - 48) = (d : Int) := by simp only [IntKind.wrap_u8]; omega
              have e4 : IntKind.i64.wrap (d : Int) = (d : Int) := IntWalk.i64_in _ (by omega)
              have e5 : IntKind.i64.wrap ((m : Int) * 10) = (m : Int) * 10 := IntWalk.i64_in _ (by omega)
              have e6 : IntKind.i64.wrap ((m : Int) * 10 + d) = (m : Int) * 10 + d := IntWalk.i64_in _ (by omega)
              clear hb hd d1 d2 d3
              go_wp2
              exact ⟨⟨k + 1, m * 10 + d, by omega, by go_num, by go_num, (by first | rfl | trivial), ⟨HN.out⟩⟩, by simp [intOf]; omega⟩
            | none =>
              have hD : Hid (r = .tuple #[.int .i64 0, .bool false]) := Lib.hid (by
                rw [← HR.out, HW.out]
                cases h : Lib.decFrom 0 s.data.toList with
                | none => rfl
                | some n => obtain ⟨d, hd'⟩ := Lib.digit_of_decFrom _ _ _ h k b hb; rw [hd] at hd'; cases hd')
              have hr2 : ¬ (48 ≤ b.toNat ∧ b.toNat ≤ 57) := fun h => by unfold Lib.digitVal at hd; rw [if_pos h] at hd; cases hd
              clear hb hd HR HW
              by_cases e1 : b.toNat < 48
              · have e1' : (b.toNat : Int) < 48 := by omega
                clear hr2
                go_wp2
                go_ret2
                exact ⟨by rw [hD.out]; rfl, rfl⟩
              · have e1' : ¬ (b.toNat : Int) < 48 := by omega
                have e2' : (57 : Int) < b.toNat := by omega
                clear hr2
                go_wp2
                go_ret2
                exact ⟨by rw [hD.out]; rfl, rfl⟩
          · obtain rfl : k = s.size := by omega
            have hD : Hid (r = .tuple #[.int .i64 m, .bool true]) := Lib.hid (by
              have := HST.out
              rw [HSZ.out, List.take_length] at this
              rw [← HR.out, HW.out, this]; rfl)
            clear HR HW
            go_wp2
            go_ret2
            exact ⟨by rw [hD.out]; rfl, rfl⟩
end
end Go.Proofs.YtgpmkiamfbbfmaaDoor
