/- Walks of the reference of layer 6: digit, label. -/
import Derived.Test.YtcndkpmeakaapaaDoorHsD
set_option linter.unusedVariables false
set_option linter.unusedSimpArgs false
namespace Go.Proofs.YtcndkpmeakaapaaDoor
open Go Go.RowKit
def digB (c : Int) : Bool := decide (48 ≤ c ∧ c ≤ 57)
def okcB (c : Int) : Bool := decide (c = 45) || (digB c || decide (97 ≤ c ∧ c ≤ 122))
def labS (s : ByteArray) : Bool := !(decide (s.size = 0) || (decide (63 < s.size) || (decide (chS s 0 = 45) || decide (chS s (s.size - 1) = 45)))) && (List.range s.size).all (fun i => okcB (chS s i))
section
variable {σ w w' : World} {Hs : List Hp} {H H1 H2 M N Y R E X HB : Hp}
set_option maxHeartbeats 4000000
theorem rdig_any (c : Int) (w : World) : Calls Tryd.prog 70 #[.int .u8 c] w fun e w' => e = .returned (.bool (digB c)) ∧ w = w' := by
  by_cases h1 : 48 ≤ c
  · by_cases h2 : c ≤ 57
    · have HD : Hid (digB c = true) := Lib.hid (decide_eq_true ⟨h1, h2⟩)
      generalize digB c = q at *
      go_enter Tryd.func70, Tryd.ntmps70
      go_wp2
      go_ret
      exact ⟨by rw [HD.out]; rfl, rfl⟩
    · have HD : Hid (digB c = false) := Lib.hid (decide_eq_false (fun h => h2 h.2))
      generalize digB c = q at *
      go_enter Tryd.func70, Tryd.ntmps70
      go_wp2
      go_ret
      exact ⟨by rw [HD.out]; rfl, rfl⟩
  · have HD : Hid (digB c = false) := Lib.hid (decide_eq_false (fun h => h1 h.1))
    generalize digB c = q at *
    go_enter Tryd.func70, Tryd.ntmps70
    go_wp2
    go_ret
    exact ⟨by rw [HD.out]; rfl, rfl⟩
theorem okc_dig {c : Int} (h : digB c = true) : okcB c = true := by unfold okcB; rw [h]; simp
theorem rlabel_any (s : ByteArray) (hs : s.size ≤ 9223372036854775807) (w : World) : Calls Tryd.prog 69 #[.string s] w fun e w' => e = .returned (.bool (labS s)) ∧ w = w' := by
  have HLS : Hid (labS s = (!(decide (s.size = 0) || (decide (63 < s.size) || (decide (chS s 0 = 45) || decide (chS s (s.size - 1) = 45)))) && (List.range s.size).all (fun i => okcB (chS s i)))) := Lib.hid rfl
  have HALL : Hid ((∀ j, j < s.size → okcB (chS s j) = true) → (List.range s.size).all (fun i => okcB (chS s i)) = true) := Lib.hid (fun h => List.all_eq_true.2 fun j hj => h j (List.mem_range.1 hj))
  have HBAD : Hid (∀ j, j < s.size → okcB (chS s j) = false → (List.range s.size).all (fun i => okcB (chS s i)) = false) := Lib.hid (fun j h1 h2 => all_range_false h1 h2)
  generalize labS s = res at *
  generalize (List.range s.size).all (fun i => okcB (chS s i)) = al at *
  by_cases h0 : s.size = 0
  · have hr : Hid (res = false) := Lib.hid (by rw [HLS.out, decide_eq_true h0]; rfl)
    obtain rfl : s = ⟨#[]⟩ := by obtain ⟨⟨l⟩⟩ := s; have : l = [] := List.eq_nil_of_length_eq_zero h0; rw [this]
    clear HLS HALL HBAD
    go_enter Tryd.func69, Tryd.ntmps69
    go_wp2
    go_ret
    exact ⟨by rw [hr.out]; rfl, rfl⟩
  · have he := ne_emp h0
    by_cases h63 : 63 < s.size
    · have hr : Hid (res = false) := Lib.hid (by rw [HLS.out, decide_eq_true h63]; simp)
      have h63i : (63 : Int) < s.size := by omega
      clear HLS HALL HBAD h0 h63
      go_enter Tryd.func69, Tryd.ntmps69
      go_wp2
      go_ret
      exact ⟨by rw [hr.out]; rfl, rfl⟩
    · have h63i : ¬ (63 : Int) < s.size := by omega
      have hi0 := index_str (P := Tryd.prog) 9 Tryd.underlying9 s 0 (by omega) 0 rfl
      have hil := index_str (P := Tryd.prog) 9 Tryd.underlying9 s (s.size - 1) (by omega) ((s.size : Int) - 1) (by omega)
      have m1 : IntKind.i64.wrap ((s.size : Int) - 1) = (s.size : Int) - 1 := IntWalk.i64_in _ (by omega)
      have HDE : Hid (res = (!(decide (chS s 0 = 45) || decide (chS s (s.size - 1) = 45)) && al)) := Lib.hid (by rw [HLS.out, decide_eq_false h0, decide_eq_false h63]; rfl)
      clear HLS
      obtain ⟨x0, hx0⟩ : ∃ x, chS s 0 = x := ⟨_, rfl⟩
      obtain ⟨xl, hxl⟩ : ∃ x, chS s (s.size - 1) = x := ⟨_, rfl⟩
      rw [hx0] at hi0 HDE
      rw [hxl] at hil HDE
      clear hx0 hxl h0 h63
      by_cases c0 : x0 = 45
      · have hc0 : (x0 == 45) = true := beq_iff_eq.2 c0
        have hr : Hid (res = false) := Lib.hid (by rw [HDE.out, decide_eq_true c0]; rfl)
        clear HDE HALL HBAD c0
        go_enter Tryd.func69, Tryd.ntmps69
        go_wp2
        go_ret
        exact ⟨by rw [hr.out]; rfl, rfl⟩
      · have hc0 : (x0 == 45) = false := beq_eq_false_iff_ne.2 c0
        by_cases cl : xl = 45
        · have hcl : (xl == 45) = true := beq_iff_eq.2 cl
          have hr : Hid (res = false) := Lib.hid (by rw [HDE.out, decide_eq_true cl]; simp)
          clear HDE HALL HBAD c0 cl
          go_enter Tryd.func69, Tryd.ntmps69
          go_wp2
          go_ret
          exact ⟨by rw [hr.out]; rfl, rfl⟩
        · have hcl : (xl == 45) = false := beq_eq_false_iff_ne.2 cl
          have HR : Hid (res = al) := Lib.hid (by rw [HDE.out, decide_eq_false c0, decide_eq_false cl]; rfl)
          clear HDE c0 cl
          go_enter Tryd.func69, Tryd.ntmps69
          go_wp2
          clear hi0 hil m1 hc0 hcl
          go_loopw [3] (fun i wr => ∃ k : Nat, k ≤ s.size ∧ i = .int .i64 k ∧ w = wr ∧ Eager (∀ j, j < k → okcB (chS s j) = true)) (fun i _ => s.size - (intOf i).toNat)
          case atStart => exact ⟨0, by omega, rfl, rfl, ⟨fun j hj => absurd hj (Nat.not_lt_zero _)⟩⟩
          case round =>
            obtain ⟨k, hk, rfl, rfl, hst⟩ := hrel
            have HST := Lib.hid hst.out
            clear hst
            by_cases hlt : k < s.size
            · have hki : (k : Int) < s.size := by omega
              have hk0 : (0 : Int) ≤ k := by omega
              have hch := index_str (P := Tryd.prog) 9 Tryd.underlying9 s k hlt k rfl
              obtain ⟨g0, g1⟩ := chS_range s k
              have HB := Lib.hid (HBAD.out k hlt)
              obtain ⟨ch, hce⟩ : ∃ ch, chS s k = ch := ⟨_, rfl⟩
              rw [hce] at hch g0 g1 HB
              have HCE := Lib.hid hce
              have HKL := Lib.hid hlt
              clear hce
              by_cases e45 : ch = 45
              · have hb : (ch != 45) = false := by simp [e45]
                have HOK : Hid (okcB ch = true) := Lib.hid (by unfold okcB; rw [decide_eq_true e45]; rfl)
                clear e45
                go_wp2
                go_roundw
                case measure => simp [intOf]; omega
                case rel =>
                  refine ⟨k + 1, by omega, by go_num, by trivial, ⟨fun j hj => ?_⟩⟩
                  rcases Nat.lt_or_ge j k with h | h
                  · exact HST.out j h
                  · obtain rfl : j = k := by omega
                    rw [HCE.out]; exact HOK.out
              · have hb : (ch != 45) = true := by simpa using e45
                cases hd : digB ch with
                | true =>
                  have HOK := Lib.hid (okc_dig hd)
                  clear e45
                  go_wp2_with (go_at_call 70; refine (rdig_any ch _).mono ?_; rw [hd]; rintro e w2 ⟨rfl, rfl⟩)
                  go_roundw
                  case measure => simp [intOf]; omega
                  case rel =>
                    refine ⟨k + 1, by omega, by go_num, by trivial, ⟨fun j hj => ?_⟩⟩
                    rcases Nat.lt_or_ge j k with h | h
                    · exact HST.out j h
                    · obtain rfl : j = k := by omega
                      rw [HCE.out]; exact HOK.out
                | false =>
                  by_cases q1 : ch < 97
                  · have HOK : Hid (okcB ch = false) := Lib.hid (by unfold okcB; rw [decide_eq_false e45, hd, decide_eq_false (by omega)]; rfl)
                    have hr := Lib.hid (HR.out.trans (HB.out HOK.out))
                    clear e45
                    go_wp2_with (go_at_call 70; refine (rdig_any ch _).mono ?_; rw [hd]; rintro e w2 ⟨rfl, rfl⟩)
                    go_ret
                    exact ⟨by rw [hr.out]; rfl, rfl⟩
                  · by_cases q2 : 122 < ch
                    · have HOK : Hid (okcB ch = false) := Lib.hid (by unfold okcB; rw [decide_eq_false e45, hd, decide_eq_false (by omega)]; rfl)
                      have hr := Lib.hid (HR.out.trans (HB.out HOK.out))
                      clear e45
                      go_wp2_with (go_at_call 70; refine (rdig_any ch _).mono ?_; rw [hd]; rintro e w2 ⟨rfl, rfl⟩)
                      go_ret
                      exact ⟨by rw [hr.out]; rfl, rfl⟩
                    · have HOK : Hid (okcB ch = true) := Lib.hid (by unfold okcB; rw [hd, decide_eq_true (show 97 ≤ ch ∧ ch ≤ 122 by omega)]; simp)
                      clear e45
                      go_wp2_with (go_at_call 70; refine (rdig_any ch _).mono ?_; rw [hd]; rintro e w2 ⟨rfl, rfl⟩)
                      go_roundw
                      case measure => simp [intOf]; omega
                      case rel =>
                        refine ⟨k + 1, by omega, by go_num, by trivial, ⟨fun j hj => ?_⟩⟩
                        rcases Nat.lt_or_ge j k with h | h
                        · exact HST.out j h
                        · obtain rfl : j = k := by omega
                          rw [HCE.out]; exact HOK.out
            · obtain rfl : k = s.size := by omega
              have hr := Lib.hid (HR.out.trans (HALL.out HST.out))
              go_wp2
              go_ret
              exact ⟨by rw [hr.out]; rfl, rfl⟩
end
end Go.Proofs.YtcndkpmeakaapaaDoor
