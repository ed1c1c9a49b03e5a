/- Walks: a chunk's reader: digit, step. -/
import Derived.Test.YtgpmkiamfbbfmaaDoorCkB
import Derived.Laws.BitsLemmas
set_option linter.unusedVariables false
set_option linter.unusedSimpArgs false
namespace Go.Proofs.YtgpmkiamfbbfmaaDoor
open Go Go.RowKit
section
variable {σ w w' : World} {Hs : List Hp} {H H1 H2 M N Y : Hp}
set_option maxHeartbeats 4000000
theorem wrap_in (x : Int) (h0 : 0 ≤ x) (h1 : x ≤ 4294967296) : IntKind.i64.wrap x = x := by simp [IntKind.wrap, IntKind.bits, IntKind.signed]; omega
theorem or_join (a b : Nat) (ha : a < 268435456) (hb : b < 16) : bits .or .i64 ((a : Int) * 16) (b : Int) = ((a * 16 + b : Nat) : Int) := by
  rw [bits_join .i64 32 (by decide) (fun n h0 h1 => wrap_in n h0 (by omega)) 4 _ _ (by omega) (by omega) (by omega) (by omega) (by omega) (by omega)]
  omega
theorem rdA_dig (s : CS) (pe : Value) (a b c : Int) : (((rdA s pe).setIfInBounds 1 (.int .i64 a)).setIfInBounds 3 (.int .i64 b)).setIfInBounds 0 (.int .i64 c) = #[.int .i64 c, .int .i64 a, .int .i64 s.left, .int .i64 b, .int .i64 s.pos, .int .i64 s.body, pe, .bool true] := by
  apply Array.ext'
  simp only [Array.toList_setIfInBounds, rdA, List.set_cons_zero, List.set_cons_succ]
theorem digit_c {g : Nat} {s : CS} (c : Int) (w : World) (hw : Sat σ w (M :: Hs)) (h : Rdr M g s) (he : s.err = none) (hc : 0 ≤ c ∧ c ≤ 255) (hI : CI s) :
    Calls Tryd.prog 25 #[.pointer (some ⟨g, 0, none⟩), .int .u8 c] w fun e w' => e = .returned (.bool (decide ((digC s c).err = none))) ∧ ∃ M', Sat σ w' (M' :: Hs) ∧ Rdr M' g (digC s c) := by
  obtain ⟨pe, h1, h2⟩ := id h.ex
  have HV := Lib.hid (value_c c w hc)
  have hv16 := valC_lt c
  have hmany := hI.many
  have hbig := hI.big
  have c3 : w.cell? ⟨g, 3, none⟩ = some (.int .i64 s.many) := hw.m_cell h1 (o := 3) rfl
  have c4 : w.cell? ⟨g, 4, none⟩ = some (.int .i64 s.pos) := hw.m_cell h1 (o := 4) rfl
  have c1 : w.cell? ⟨g, 1, none⟩ = some (.int .i64 s.size) := hw.m_cell h1 (o := 1) rfl
  have em : digC s c = if valC c < 0 ∧ 0 < s.many then failC s 91 else if valC c < 0 ∨ s.many = 7 ∨ (s.many = 1 ∧ s.size = 0) then failC s 90 else { s with size := s.size * 16 + (valC c).toNat, many := s.many + 1, st := 1 } := rfl
  generalize valC c = v at *
  by_cases hv : v < 0
  · by_cases hm : 0 < s.many
    · rw [if_pos ⟨hv, hm⟩] at em
      have hmi : (0 : Int) < s.many := by omega
      rw [em, show decide ((failC s 91).err = none) = false from by simp [failC]]
      have HF := Lib.hid (fail_c s.pos 91 w hw h s.pos rfl)
      clear em
      go_enter Tryd.func25, Tryd.ntmps25
      go_wp2_with fail
      refine HV.out.mono ?_
      rintro e w1 ⟨rfl, rfl⟩
      go_wp2_with fail
      refine HF.out.mono ?_
      rintro e w1 ⟨rfl, M1, hw1, hR1⟩
      have HR := Lib.hid hR1
      clear hR1
      go_wp2
      go_ret
      exact ⟨rfl, M1, hw1, HR.out⟩
    · rw [if_neg (fun h => hm h.2), if_pos (.inl hv)] at em
      have hm0 : s.many = 0 := by omega
      rw [hm0] at c3
      rw [em, show decide ((failC s 90).err = none) = false from by simp [failC]]
      have HF := Lib.hid (fail_c s.pos 90 w hw h s.pos rfl)
      clear em
      go_enter Tryd.func25, Tryd.ntmps25
      go_wp2_with fail
      refine HV.out.mono ?_
      rintro e w1 ⟨rfl, rfl⟩
      go_wp2_with fail
      refine HF.out.mono ?_
      rintro e w1 ⟨rfl, M1, hw1, hR1⟩
      have HR := Lib.hid hR1
      clear hR1
      go_wp2
      go_ret
      exact ⟨rfl, M1, hw1, HR.out⟩
  · by_cases h7 : s.many = 7
    · rw [if_neg (fun h => hv h.1), if_pos (.inr (.inl h7))] at em
      rw [h7] at c3
      rw [em, show decide ((failC s 90).err = none) = false from by simp [failC]]
      have HF := Lib.hid (fail_c s.pos 90 w hw h s.pos rfl)
      clear em
      go_enter Tryd.func25, Tryd.ntmps25
      go_wp2_with fail
      refine HV.out.mono ?_
      rintro e w1 ⟨rfl, rfl⟩
      go_wp2_with fail
      refine HF.out.mono ?_
      rintro e w1 ⟨rfl, M1, hw1, hR1⟩
      have HR := Lib.hid hR1
      clear hR1
      go_wp2
      go_ret
      exact ⟨rfl, M1, hw1, HR.out⟩
    · by_cases h10 : s.many = 1 ∧ s.size = 0
      · rw [if_neg (fun h => hv h.1), if_pos (.inr (.inr h10))] at em
        rw [h10.1] at c3
        rw [h10.2] at c1
        clear h10
        rw [em, show decide ((failC s 90).err = none) = false from by simp [failC]]
        have HF := Lib.hid (fail_c s.pos 90 w hw h s.pos rfl)
        clear em
        go_enter Tryd.func25, Tryd.ntmps25
        go_wp2_with fail
        refine HV.out.mono ?_
        rintro e w1 ⟨rfl, rfl⟩
        go_wp2_with fail
        refine HF.out.mono ?_
        rintro e w1 ⟨rfl, M1, hw1, hR1⟩
        have HR := Lib.hid hR1
        clear hR1
        go_wp2
        go_ret
        exact ⟨rfl, M1, hw1, HR.out⟩
      · rw [if_neg (fun h => hv h.1), if_neg (fun h => h.elim hv (fun h => h.elim h7 h10))] at em
        rw [em, show decide (({ s with size := s.size * 16 + v.toNat, many := s.many + 1, st := 1 } : CS).err = none) = true from by simp [he]]
        obtain ⟨v, rfl⟩ : ∃ n : Nat, v = n := ⟨v.toNat, by omega⟩
        rw [show ((v : Int)).toNat = v from rfl]
        have f0 := heap_free (hw.le _ _ h1) 0; have f1 := heap_free (hw.le _ _ h1) 1; have f3 := heap_free (hw.le _ _ h1) 3
        have c0 := hw.m_cell h1 (o := 0) rfl
        have b7 : ((s.many : Int) == 7) = false := by simp; omega
        have HNE := Lib.hid h10
        have hor := or_join s.size v hbig (by omega)
        have hU1 := hw.upd h1 (o := 1) (.int .i64 ((s.size * 16 + v : Nat) : Int))
        have hU2 := hU1.upd (Hp.upd_self _ _ _) (o := 3) (.int .i64 ((s.many : Int) + 1))
        have hU3 := hU2.upd (Hp.upd_self _ _ _) (o := 0) (.int .i64 1)
        rw [Hp.upd_upd, Hp.upd_upd, rdA_dig] at hU3
        have HU := Lib.hid hU3
        have HRD : Hid (Rdr (Hp.upd M g (.cells #[.int .i64 1, .int .i64 ((s.size * 16 + v : Nat) : Int), .int .i64 s.left, .int .i64 ((s.many : Int) + 1), .int .i64 s.pos, .int .i64 s.body, pe, .bool true] 48 (0, 0))) g { s with size := s.size * 16 + v, many := s.many + 1, st := 1 }) := Lib.hid (Rdr.to (s' := { s with size := s.size * 16 + v, many := s.many + 1, st := 1 }) h1 h2 rfl)
        clear hU1 hU2 hU3
        clear h10 em
        go_enter Tryd.func25, Tryd.ntmps25
        go_wp2_with fail
        refine HV.out.mono ?_
        rintro e w1 ⟨rfl, rfl⟩
        by_cases hm1 : s.many = 1
        · have hs0 : ¬ s.size = 0 := fun h => HNE.out ⟨hm1, h⟩
          have bs0 : ((s.size : Int) == 0) = false := by simp; omega
          rw [hm1] at c3
          rw [hm1] at HU
          go_wp2
          go_ret
          exact ⟨rfl, _, HU.out, by have := HRD.out; rw [hm1, he] at this; exact this⟩
        · have bm1 : ((s.many : Int) == 1) = false := by simp; omega
          go_wp2
          go_ret
          exact ⟨rfl, _, HU.out, by have := HRD.out; rw [he] at this; exact this⟩
theorem step_zero (s : CS) (pe : Value) : (((rdA s pe).setIfInBounds 1 (.int .i64 0)).setIfInBounds 3 (.int .i64 0)) = rdA (zeroC s) pe := by
  apply Array.ext'
  simp only [Array.toList_setIfInBounds, rdA, zeroC, List.set_cons_zero, List.set_cons_succ]
  rfl
theorem step_left (s : CS) (pe : Value) : ((rdA s pe).setIfInBounds 2 (.int .i64 s.size)) = rdA (leftC s) pe := by
  apply Array.ext'
  simp only [Array.toList_setIfInBounds, rdA, leftC, List.set_cons_zero, List.set_cons_succ]
def StepP (σ : World) (Hs : List Hp) (g : Nat) (r : CS) (e : Ending) (w' : World) : Prop := e = .returned (.bool (decide (r.err = none))) ∧ ∃ M', Sat σ w' (M' :: Hs) ∧ Rdr M' g r
theorem step_c0 {g : Nat} {s : CS} (c : Int) (w : World) (hw : Sat σ w (M :: Hs)) (h : Rdr M g s) (he : s.err = none) (hc : 0 ≤ c ∧ c ≤ 255) (hI : CI s) (hst : s.st = 0) :
    Calls Tryd.prog 18 #[.pointer (some ⟨g, 0, none⟩), .int .u8 c] w (StepP σ Hs g (stepC s c)) := by
  unfold StepP
  obtain ⟨pe, h1, h2⟩ := id h.ex
  have c0 : w.cell? ⟨g, 0, none⟩ = some (.int .i64 s.st) := hw.m_cell h1 (o := 0) rfl
  have c3 : w.cell? ⟨g, 3, none⟩ = some (.int .i64 s.many) := hw.m_cell h1 (o := 3) rfl
  have c1 : w.cell? ⟨g, 1, none⟩ = some (.int .i64 s.size) := hw.m_cell h1 (o := 1) rfl
  have f1 := heap_free (hw.le _ _ h1) 1; have f3 := heap_free (hw.le _ _ h1) 3
  rw [hst] at c0
  have em : stepC s c = digC (zeroC s) c := by
    unfold stepC
    rw [if_pos hst]
    unfold headC
    rw [if_pos (.inr rfl)]
  rw [em]
  have hU1 := hw.upd h1 (o := 1) (.int .i64 0)
  have hU2 := hU1.upd (Hp.upd_self _ _ _) (o := 3) (.int .i64 0)
  rw [Hp.upd_upd, step_zero] at hU2
  have hR2 := Rdr.to (s' := zeroC s) h1 h2 rfl
  have HD := Lib.hid (digit_c c _ hU2 hR2 he hc (hI.zero hst))
  clear hU1 hU2 hR2 em h h1 h2 hw
  by_cases h13 : c = 13
  · subst h13
    go_enter Tryd.func18, Tryd.ntmps18
    go_wp2_with fail
    refine HD.out.mono ?_
    rintro e w1 ⟨rfl, M1, hw1, hR1⟩
    have HR := Lib.hid hR1
    clear hR1
    go_wp2
    go_ret
    exact ⟨rfl, M1, hw1, HR.out⟩
  · have hcn : (c != 13) = true := by simpa using h13
    go_enter Tryd.func18, Tryd.ntmps18
    go_wp2_with fail
    refine HD.out.mono ?_
    rintro e w1 ⟨rfl, M1, hw1, hR1⟩
    have HR := Lib.hid hR1
    clear hR1
    go_wp2
    go_ret
    exact ⟨rfl, M1, hw1, HR.out⟩
theorem step_c1 {g : Nat} {s : CS} (c : Int) (w : World) (hw : Sat σ w (M :: Hs)) (h : Rdr M g s) (he : s.err = none) (hc : 0 ≤ c ∧ c ≤ 255) (hI : CI s) (hst : s.st = 1) :
    Calls Tryd.prog 18 #[.pointer (some ⟨g, 0, none⟩), .int .u8 c] w (StepP σ Hs g (stepC s c)) := by
  unfold StepP
  obtain ⟨pe, h1, h2⟩ := id h.ex
  have c0 : w.cell? ⟨g, 0, none⟩ = some (.int .i64 s.st) := hw.m_cell h1 (o := 0) rfl
  have c3 : w.cell? ⟨g, 3, none⟩ = some (.int .i64 s.many) := hw.m_cell h1 (o := 3) rfl
  have c1 : w.cell? ⟨g, 1, none⟩ = some (.int .i64 s.size) := hw.m_cell h1 (o := 1) rfl
  have c4 : w.cell? ⟨g, 4, none⟩ = some (.int .i64 s.pos) := hw.m_cell h1 (o := 4) rfl
  have c5 : w.cell? ⟨g, 5, none⟩ = some (.int .i64 s.body) := hw.m_cell h1 (o := 5) rfl
  have f0 := heap_free (hw.le _ _ h1) 0
  rw [hst] at c0
  have em : stepC s c = headC s c := by unfold stepC; rw [if_neg (by omega), if_pos hst]
  rw [em]
  have hmp := hI.head hst
  have hsz := hI.big
  have hbd := hI.body
  by_cases h13 : c = 13
  · subst h13
    have hm0 : ((s.many : Int) == 0) = false := by simp; omega
    have HQ := Lib.hid (em)
    by_cases hbig : 1048576 < s.size + s.body
    · have e2 : headC s 13 = failC s 90 := by unfold headC; rw [if_neg (by simp; omega), if_pos hbig]
      rw [e2, show decide ((failC s 90).err = none) = false from by simp [failC]]
      have hbi : (1048576 : Int) - s.body < s.size := by omega
      have m1 : IntKind.i64.wrap ((1048576 : Int) - s.body) = 1048576 - s.body := wrap_in _ (by omega) (by omega)
      have HF := Lib.hid (fun w' (h' : Sat σ w' (M :: Hs)) => fail_c s.pos 90 w' h' h s.pos rfl)
      clear em e2 h h1 h2
      go_enter Tryd.func18, Tryd.ntmps18
      go_wp2
      go_quiet (fail)
      go_wp2_with fail
      refine (HF.out _ (hw.drewN _)).mono ?_
      rintro e w1 ⟨rfl, M1, hw1, hR1⟩
      have HR := Lib.hid hR1
      clear hR1
      go_wp2
      go_ret
      exact ⟨rfl, M1, hw1, HR.out⟩
    · have e2 : headC s 13 = { s with st := 2 } := by unfold headC; rw [if_neg (by simp; omega), if_neg hbig]
      rw [e2, show decide (({ s with st := 2 } : CS).err = none) = true from by simp [he]]
      have hbi : ¬ (1048576 : Int) - s.body < s.size := by omega
      have m1 : IntKind.i64.wrap ((1048576 : Int) - s.body) = 1048576 - s.body := wrap_in _ (by omega) (by omega)
      have HU := Lib.hid (fun nq => (hw.drewN nq).upd h1 (o := 0) (.int .i64 2))
      have HR : Hid (Rdr _ g { s with st := 2 }) := Lib.hid (Rdr.to (s' := { s with st := 2 }) h1 h2 rfl)
      clear em e2 h h1 h2
      go_enter Tryd.func18, Tryd.ntmps18
      go_wp2
      go_quiet (fail)
      go_wp2
      go_ret
      exact ⟨rfl, _, HU.out _, HR.out⟩
  · have e2 : headC s c = digC s c := by unfold headC; rw [if_pos (.inl h13)]
    rw [e2]
    have HD := Lib.hid (digit_c c w hw h he hc hI)
    have hcn : (c != 13) = true := by simpa using h13
    clear em e2 h h1 h2
    go_enter Tryd.func18, Tryd.ntmps18
    go_wp2_with fail
    refine HD.out.mono ?_
    rintro e w1 ⟨rfl, M1, hw1, hR1⟩
    have HR := Lib.hid hR1
    clear hR1
    go_wp2
    go_ret
    exact ⟨rfl, M1, hw1, HR.out⟩
theorem step_c2 {g : Nat} {s : CS} (c : Int) (w : World) (hw : Sat σ w (M :: Hs)) (h : Rdr M g s) (he : s.err = none) (hst : s.st = 2) :
    Calls Tryd.prog 18 #[.pointer (some ⟨g, 0, none⟩), .int .u8 c] w (StepP σ Hs g (stepC s c)) := by
  unfold StepP
  obtain ⟨pe, h1, h2⟩ := id h.ex
  have c0 : w.cell? ⟨g, 0, none⟩ = some (.int .i64 s.st) := hw.m_cell h1 (o := 0) rfl
  have c1 : w.cell? ⟨g, 1, none⟩ = some (.int .i64 s.size) := hw.m_cell h1 (o := 1) rfl
  have c2 : w.cell? ⟨g, 2, none⟩ = some (.int .i64 s.left) := hw.m_cell h1 (o := 2) rfl
  have f2 := heap_free (hw.le _ _ h1) 2
  rw [hst] at c0
  have em : stepC s c = mustC (leftC s) c 10 (if s.size = 0 then 4 else 3) := by unfold stepC; rw [if_neg (by omega), if_neg (by omega), if_pos hst]
  rw [em]
  have hU := hw.upd h1 (o := 2) (.int .i64 s.size)
  rw [step_left] at hU
  have hR2 := Rdr.to (s' := leftC s) h1 h2 rfl
  have HD := Lib.hid (must_c c 10 (if s.size = 0 then 4 else 3) _ hU hR2 he)
  clear hU hR2 em h h1 h2 hw
  by_cases h0 : s.size = 0
  · rw [if_pos h0] at HD ⊢
    rw [h0] at c1 HD
    go_enter Tryd.func18, Tryd.ntmps18
    go_wp2_with fail
    refine HD.out.mono ?_
    rintro e w1 ⟨rfl, M1, hw1, hR1⟩
    have HR := Lib.hid hR1
    clear hR1
    go_wp2
    go_ret
    exact ⟨rfl, M1, hw1, HR.out⟩
  · rw [if_neg h0] at HD ⊢
    have hn0 : ((s.size : Int) == 0) = false := by simp; omega
    go_enter Tryd.func18, Tryd.ntmps18
    go_wp2_with fail
    refine HD.out.mono ?_
    rintro e w1 ⟨rfl, M1, hw1, hR1⟩
    have HR := Lib.hid hR1
    clear hR1
    go_wp2
    go_ret
    exact ⟨rfl, M1, hw1, HR.out⟩
theorem step_c4 {g : Nat} {s : CS} (c : Int) (w : World) (hw : Sat σ w (M :: Hs)) (h : Rdr M g s) (he : s.err = none) (hst : s.st = 4) :
    Calls Tryd.prog 18 #[.pointer (some ⟨g, 0, none⟩), .int .u8 c] w (StepP σ Hs g (stepC s c)) := by
  unfold StepP
  obtain ⟨pe, h1, h2⟩ := id h.ex
  have c0 : w.cell? ⟨g, 0, none⟩ = some (.int .i64 s.st) := hw.m_cell h1 (o := 0) rfl
  rw [hst] at c0
  have em : stepC s c = mustC s c 13 5 := by unfold stepC; rw [if_neg (by omega), if_neg (by omega), if_neg (by omega), if_pos hst]
  rw [em]
  have HD := Lib.hid (must_c c 13 5 w hw h he)
  clear em h h1 h2 hw
  go_enter Tryd.func18, Tryd.ntmps18
  go_wp2_with fail
  refine HD.out.mono ?_
  rintro e w1 ⟨rfl, M1, hw1, hR1⟩
  have HR := Lib.hid hR1
  clear hR1
  go_wp2
  go_ret
  exact ⟨rfl, M1, hw1, HR.out⟩
theorem step_c5 {g : Nat} {s : CS} (c : Int) (w : World) (hw : Sat σ w (M :: Hs)) (h : Rdr M g s) (he : s.err = none) (hst : s.st = 5) :
    Calls Tryd.prog 18 #[.pointer (some ⟨g, 0, none⟩), .int .u8 c] w (StepP σ Hs g (stepC s c)) := by
  unfold StepP
  obtain ⟨pe, h1, h2⟩ := id h.ex
  have c0 : w.cell? ⟨g, 0, none⟩ = some (.int .i64 s.st) := hw.m_cell h1 (o := 0) rfl
  have c1 : w.cell? ⟨g, 1, none⟩ = some (.int .i64 s.size) := hw.m_cell h1 (o := 1) rfl
  rw [hst] at c0
  have em : stepC s c = mustC s c 10 (if s.size = 0 then 6 else 0) := by unfold stepC; rw [if_neg (by omega), if_neg (by omega), if_neg (by omega), if_neg (by omega)]
  rw [em]
  have HD := Lib.hid (must_c c 10 (if s.size = 0 then 6 else 0) w hw h he)
  clear em h h1 h2 hw
  by_cases h0 : s.size = 0
  · rw [if_pos h0] at HD ⊢
    rw [h0] at c1
    go_enter Tryd.func18, Tryd.ntmps18
    go_wp2_with fail
    refine HD.out.mono ?_
    rintro e w1 ⟨rfl, M1, hw1, hR1⟩
    have HR := Lib.hid hR1
    clear hR1
    go_wp2
    go_ret
    exact ⟨rfl, M1, hw1, HR.out⟩
  · rw [if_neg h0] at HD ⊢
    have hn0 : ((s.size : Int) == 0) = false := by simp; omega
    go_enter Tryd.func18, Tryd.ntmps18
    go_wp2_with fail
    refine HD.out.mono ?_
    rintro e w1 ⟨rfl, M1, hw1, hR1⟩
    have HR := Lib.hid hR1
    clear hR1
    go_wp2
    go_ret
    exact ⟨rfl, M1, hw1, HR.out⟩
theorem step_c {g : Nat} {s : CS} (c : Int) (w : World) (hw : Sat σ w (M :: Hs)) (h : Rdr M g s) (he : s.err = none) (hc : 0 ≤ c ∧ c ≤ 255) (hI : CI s) (h3 : s.st ≠ 3) (h6 : s.st ≠ 6) :
    Calls Tryd.prog 18 #[.pointer (some ⟨g, 0, none⟩), .int .u8 c] w (StepP σ Hs g (stepC s c)) := by
  have := hI.st
  obtain h0 | h0 | h0 | h0 | h0 : s.st = 0 ∨ s.st = 1 ∨ s.st = 2 ∨ s.st = 4 ∨ s.st = 5 := by omega
  · exact step_c0 c w hw h he hc hI h0
  · exact step_c1 c w hw h he hc hI h0
  · exact step_c2 c w hw h he h0
  · exact step_c4 c w hw h he h0
  · exact step_c5 c w hw h he h0
end
end Go.Proofs.YtgpmkiamfbbfmaaDoor
