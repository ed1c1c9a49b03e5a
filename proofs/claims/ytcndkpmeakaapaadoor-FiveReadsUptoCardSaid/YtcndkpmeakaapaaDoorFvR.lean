/- Plain and walk: SameInts; the law FiveBack. -/
import Derived.Test.YtcndkpmeakaapaaDoorFvQ
set_option linter.unusedVariables false
set_option linter.unusedSimpArgs false
namespace Go.Proofs.YtcndkpmeakaapaaDoor
open Go Go.RowKit
theorem greet_back {ms : List Int} (h : putGV ms = true) (more : List Int) : grO (([5, (ms.length : Int)] ++ ms) ++ more) = (ms, ((2 + ms.length : Nat) : Int)) ∧ (gr2 (([5, (ms.length : Int)] ++ ms) ++ more)).2.err = none ∧ (∀ x ∈ [5, (ms.length : Int)] ++ ms, 0 ≤ x ∧ x < 256) := by
  unfold putGV at h
  obtain ⟨h1, h2⟩ := (Bool.and_eq_true _ _).mp h
  obtain ⟨l1, l2⟩ := of_decide_eq_true h1
  have hb : ∀ x ∈ ms, 0 ≤ x ∧ x < 256 := fun x hx => by have := smallB_t (List.all_eq_true.1 h2 x hx); omega
  have hg := gr_head (bs := ([5, (ms.length : Int)] ++ ms) ++ more) rfl (n := ms.length) rfl l1 l2 (by simp only [List.length_append, List.length_cons, List.length_nil]; omega)
  have hd : (([5, (ms.length : Int)] ++ ms) ++ more).drop 2 = ms ++ more := rfl
  rw [hd, List.take_append_of_le_length (Nat.le_refl _), List.take_of_length_le (Nat.le_refl _)] at hg
  refine ⟨?_, by rw [hg], fun x hx => ?_⟩
  · unfold grO
    rw [hg]
    show (if (none : Option (Ch × Int)) = none then (sbL (strOfNums ms), ((2 + ms.length : Nat) : Int)) else _) = _
    rw [if_pos rfl, sbL_byL, byL_str hb]
  · rcases List.mem_append.1 hx with hx | hx
    · simp at hx; omega
    · exact hb x hx
theorem logV_t {u p : ByteArray} (h : logV u p = true) : 1 ≤ u.size ∧ u.size ≤ 255 ∧ 1 ≤ p.size ∧ p.size ≤ 255 := by
  unfold logV at h
  have h' := (Bool.not_eq_true' _).mp h
  obtain ⟨h1, h2⟩ := (Bool.or_eq_false_iff).1 h'
  obtain ⟨h3, h4⟩ := (Bool.or_eq_false_iff).1 h2
  obtain ⟨h5, h6⟩ := (Bool.or_eq_false_iff).1 h4
  have := of_decide_eq_false h1
  have := of_decide_eq_false h3
  have := of_decide_eq_false h5
  have := of_decide_eq_false h6
  omega
theorem logW_byte {u p : ByteArray} (h : logV u p = true) : ∀ x ∈ logW u p, 0 ≤ x ∧ x < 256 := by
  obtain ⟨u1, u2, p1, p2⟩ := logV_t h
  intro x hx
  unfold logW at hx
  rcases List.mem_append.1 hx with hx | hx
  · rcases List.mem_append.1 hx with hx | hx
    · rcases List.mem_append.1 hx with hx | hx
      · simp at hx; omega
      · exact byL_range x hx
    · simp at hx; omega
  · exact byL_range x hx
theorem login_back {u p : ByteArray} (h : logV u p = true) (more : List Int) : loO (logW u p ++ more) = (u, p, (((logW u p).length : Nat) : Int)) ∧ (lo3 (logW u p ++ more)).2.err = none := by
  obtain ⟨u1, u2, p1, p2⟩ := logV_t h
  have hul := byL_length u
  have hpl := byL_length p
  have hlen : (logW u p).length = 3 + u.size + p.size := by unfold logW; simp only [List.length_append, hul, hpl, List.length_cons, List.length_nil]; omega
  rw [hlen]
  have hW : logW u p ++ more = [1, (u.size : Int)] ++ (byL u ++ ([(p.size : Int)] ++ (byL p ++ more))) := by unfold logW; simp only [List.append_assoc]
  rw [hW]
  generalize hbs : [1, (u.size : Int)] ++ (byL u ++ ([(p.size : Int)] ++ (byL p ++ more))) = bs
  have hl : bs.length = 3 + u.size + p.size + more.length := by rw [← hbs]; simp only [List.length_append, hul, hpl, List.length_cons, List.length_nil]; omega
  have g0 : bs[0]? = some 1 := by rw [← hbs]; rfl
  have g1 : bs[1]? = some (u.size : Int) := by rw [← hbs]; rfl
  have d2 : bs.drop 2 = byL u ++ ([(p.size : Int)] ++ (byL p ++ more)) := by rw [← hbs]; rfl
  have g2 : bs[2 + u.size]? = some (p.size : Int) := by
    rw [← List.getElem?_drop, d2, List.getElem?_append_right (by omega), hul, Nat.sub_self]; rfl
  have d3 : bs.drop (2 + u.size + 1) = byL p ++ more := by
    rw [show 2 + u.size + 1 = 2 + (u.size + 1) from by omega, ← List.drop_drop, d2, List.drop_append, hul, List.drop_eq_nil_of_le (by omega), List.nil_append, show u.size + 1 - u.size = 1 from by omega]; rfl
  have e2 : lo2 bs = (u, ⟨2 + u.size, none⟩) := by
    unfold lo2
    rw [versL_ok g0, textL_ok (n := u.size) g1 u1 (by omega) (by omega)]
    show (strOfNums ((bs.drop 2).take u.size), _) = _
    rw [d2, List.take_append_of_le_length (by omega), List.take_of_length_le (by omega), str_byL]
  have e3 : lo3 bs = (p, ⟨2 + u.size + 1 + p.size, none⟩) := by
    unfold lo3
    rw [e2]
    show textL bs 255 ⟨2 + u.size, none⟩ = _
    rw [textL_ok (n := p.size) g2 p1 (by omega) (by omega), d3, List.take_append_of_le_length (by omega), List.take_of_length_le (by omega), str_byL]
  refine ⟨?_, by rw [e3]⟩
  unfold loO
  rw [e3, e2]
  show (if (none : Option (Ch × Int)) = none then (u, p, ((2 + u.size + 1 + p.size : Nat) : Int)) else _) = _
  rw [if_pos rfl, show 2 + u.size + 1 + p.size = 3 + u.size + p.size from by omega]
section
variable {σ w w' : World} {Hs : List Hp} {H H1 H2 M N Y R E X HB : Hp}
set_option maxHeartbeats 4000000
theorem sInts_any (v1 v2 : Value) (xs : List Int) (w : World) (hw : Sat σ w Hs) (hH1 : H1 ∈ Hs) (hH2 : H2 ∈ Hs) (h1 : (Kd.int .i64).IsSl H1 v1 xs) (h2 : (Kd.int .i64).IsSl H2 v2 xs) :
    Calls Tryd.prog 18 #[v1, v2] w fun e w' => e = .returned (.bool true) ∧ Sat σ w' Hs := by
  obtain ⟨A1, c1, rfl, hc1, hm1, _⟩ := id h1.form
  obtain ⟨A2, c2, rfl, hc2, hm2, _⟩ := id h2.form
  have hz : ((xs.length : Int) != xs.length) = false := by simp
  have G1 := Lib.hid h1
  have G2 := Lib.hid h2
  clear h1 h2
  go_enter Tryd.func18, Tryd.ntmps18
  go_wp2
  go_loopw [5] (fun i wr => ∃ k : Nat, k ≤ xs.length ∧ i = .int .i64 k ∧ Sat σ wr Hs) (fun i _ => xs.length - (intOf i).toNat)
  case atStart => exact ⟨0, by omega, rfl, hw⟩
  case round =>
    obtain ⟨k, hk, rfl, hwr⟩ := hrel
    by_cases hlt : k < xs.length
    · obtain ⟨x, hx⟩ : ∃ x, xs[k]? = some x := ⟨_, List.getElem?_eq_getElem hlt⟩
      obtain ⟨b1, o1, cs1, rfl, hcs1, hcell1⟩ := G1.out.get k x hx
      obtain rfl : cs1 = [.int .i64 x] := hcs1
      obtain ⟨b2, o2, cs2, rfl, hcs2, hcell2⟩ := G2.out.get k x hx
      obtain rfl : cs2 = [.int .i64 x] := hcs2
      have hk1 : (k : Int) < xs.length := by omega
      have hk0 : (0 : Int) ≤ k := by omega
      have i0 := hwr.cellAt hH1 (hcell1 0 _ rfl)
      have i4 := hwr.cellAt hH2 (hcell2 0 _ rfl)
      simp only [show (Kd.int .i64).sz = 1 from rfl, Nat.mul_one, Nat.add_zero] at i0 i4
      have q1 : (x != x) = false := by simp
      clear hcell1 hcell2 hx hw
      go_wp2
      go_quiet (fail)
      all_goals go_wp2
      go_roundw
      case measure => simp [intOf]; omega
      case rel => exact ⟨k + 1, by omega, by go_num, hwr.drewN _⟩
    · obtain rfl : k = xs.length := by omega
      go_wp2
      go_ret
      exact ⟨rfl, hwr⟩
end
end Go.Proofs.YtcndkpmeakaapaaDoor
