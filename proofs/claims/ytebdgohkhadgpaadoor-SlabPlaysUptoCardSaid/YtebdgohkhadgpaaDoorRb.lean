/- Walks of the reference's slab: there, Used, Put, Get. -/
import Derived.Test.YtebdgohkhadgpaaDoorRa
set_option linter.unusedVariables false
set_option linter.unusedSimpArgs false
namespace Go.Proofs.YtebdgohkhadgpaaDoor
open Go Go.RowKit
section
variable {σ w w' : World} {Hs : List Hp} {H M N Y : Hp}
set_option maxHeartbeats 4000000
theorem heldB_false {held : List Bool} {b : Int} (h : heldB held b = false) (h0 : 0 ≤ b) (hl : b < held.length) : ∃ q : Nat, b = q ∧ q < held.length ∧ held[q]? = some false := by
  obtain ⟨q, rfl⟩ : ∃ q : Nat, b = q := ⟨b.toNat, by omega⟩
  have hq : q < held.length := by omega
  refine ⟨q, rfl, hq, ?_⟩
  unfold heldB at h
  rw [show ((q : Int)).toNat = q from rfl, List.getElem?_eq_getElem hq] at h
  rw [List.getElem?_eq_getElem hq]
  cases hx : held[q]
  · rfl
  · rw [hx] at h; simp at h
theorem rthere_any {g size : Nat} {held : List Bool} {bl : List (Option (Nat × List Int))} (b : Int) (w : World) (hw : Sat σ w Hs) (hY : Y ∈ Hs) (h : RS Y g size held bl) :
    Calls Tryd.prog 31 #[.pointer (some ⟨g, 0, none⟩), .int .i64 b] w fun e w' => e = .returned (.bool (heldB held b)) ∧ w' = w := by
  by_cases hb : b < 0
  · have e : heldB held b = false := by unfold heldB; rw [decide_eq_false (by omega)]; rfl
    rw [e]
    go_enter Tryd.func31, Tryd.ntmps31
    go_wp2
    go_ret
    exact ⟨rfl, rfl⟩
  · have hb' : 0 ≤ b := by omega
    by_cases hl : b < held.length
    · obtain ⟨Ab, cb, hb, ch, cur, h1, h2, h3, _⟩ := h.heldRow (by omega)
      have c2 := hw.cellAt hY (Hp.cell_of h1 (o := 2) rfl)
      obtain ⟨q, rfl⟩ : ∃ q : Nat, b = q := ⟨b.toNat, by omega⟩
      have hq : q < held.length := by omega
      have cq := hw.cellAt hY (Hp.cell_of h2 (h3 q _ (List.getElem?_eq_getElem hq)))
      have e : heldB held q = held[q] := by
        unfold heldB
        rw [show ((q : Int)).toNat = q from rfl, List.getElem?_eq_getElem hq]
        cases held[q] <;> simp
      rw [e]
      clear e h1 h2 h3 h
      generalize held[q] = x at *
      go_enter Tryd.func31, Tryd.ntmps31
      go_wp2
      go_ret
      exact ⟨rfl, rfl⟩
    · have e : heldB held b = false := by
        unfold heldB
        rw [List.getElem?_eq_none (by omega)]
        simp
      obtain ⟨Ab, Ah, cb, ch, h1, _, _⟩ := h.ex
      have c2 := hw.cellAt hY (Hp.cell_of h1 (o := 2) rfl)
      rw [e]
      clear e h1 h
      go_enter Tryd.func31, Tryd.ntmps31
      go_wp2
      go_ret
      exact ⟨rfl, rfl⟩
theorem count_take_succ {held : List Bool} {k : Nat} {x : Bool} (h : held[k]? = some x) : (held.take (k + 1)).count true = (held.take k).count true + if x = true then 1 else 0 := by
  rw [List.take_add_one, h, List.count_append]
  cases x <;> rfl
theorem rused_any {g size : Nat} {held : List Bool} {bl : List (Option (Nat × List Int))} (w : World) (hw : Sat σ w Hs) (hY : Y ∈ Hs) (h : RS Y g size held bl) :
    Calls Tryd.prog 25 #[.pointer (some ⟨g, 0, none⟩)] w fun e w' => e = .returned (.int .i64 (held.count true : Nat)) ∧ w' = w := by
  obtain ⟨Ab, Ah, cb, ch, h1, _, _⟩ := id h.ex
  have c2 := hw.cellAt hY (Hp.cell_of h1 (o := 2) rfl)
  have HR := Lib.hid (fun h0 => h.heldRow h0)
  have HG := Lib.hid h1
  have hn := h.n
  have HW := Lib.hid hw
  clear h1 h hw
  go_enter Tryd.func25, Tryd.ntmps25
  go_wp2
  go_loopw [4, 3] (fun i n wr => ∃ k : Nat, k ≤ held.length ∧ i = .int .i64 k ∧ n = .int .i64 ((held.take k).count true : Nat) ∧ wr = w) (fun i _ _ => held.length - (intOf i).toNat)
  case atStart => exact ⟨0, by omega, rfl, rfl, rfl⟩
  case round =>
    obtain ⟨k, hk, rfl, rfl, _⟩ := hrel
    have hcl : (held.take k).count true ≤ k := Nat.le_trans List.count_le_length (by rw [List.length_take]; omega)
    by_cases hlt : k < held.length
    · have hki : (k : Int) < held.length := by omega
      obtain ⟨Ab', cb', hb, ch', cur, k1, k2, k3, _⟩ := HR.out (by omega)
      rw [HG.out] at k1
      injection k1 with k1
      injection k1 with k1
      have e3 : (Value.slice Ah held.length ch) = .slice (some ⟨hb, 0, none⟩) held.length ch' := by
        have := congrArg (fun a : Array Value => a[2]?) k1
        simpa using this
      injection e3 with e3 _ e4
      subst e3; subst e4
      clear k1
      have hx := List.getElem?_eq_getElem hlt
      have cq := HW.out.cellAt hY (Hp.cell_of k2 (k3 k _ hx))
      have HCT := Lib.hid (count_take_succ hx)
      generalize held[k] = x at *
      clear hx k2 k3
      cases x
      · go_wp2
        go_roundw
        case measure => simp [intOf]; omega
        case rel => exact ⟨k + 1, by omega, by go_num, by rw [HCT.out]; rfl, trivial⟩
      · go_wp2
        go_roundw
        case measure => simp [intOf]; omega
        case rel => exact ⟨k + 1, by omega, by go_num, by rw [HCT.out]; go_num, trivial⟩
    · obtain rfl : k = held.length := by omega
      rw [List.take_length] at *
      go_wp2
      go_ret
      exact ⟨rfl, rfl⟩
theorem rput_any {g size : Nat} {held : List Bool} {bl : List (Option (Nat × List Int))} (b : Int) (w : World) (hw : Sat σ w (Y :: Hs)) (h : RS Y g size held bl) :
    Calls Tryd.prog 19 #[.pointer (some ⟨g, 0, none⟩), .int .i64 b] w fun e w' => e = .returned (.int .i64 (if heldB held b = true then 0 else 5)) ∧ ∃ Y', Sat σ w' (Y' :: Hs) ∧ RS Y' g size (if heldB held b = true then held.set b.toNat false else held) bl := by
  have HT := Lib.hid (rthere_any b w hw List.mem_cons_self h)
  by_cases hb : heldB held b = true
  · obtain ⟨q, rfl, hq, hqt⟩ := heldB_lt hb
    rw [if_pos hb, if_pos hb, show ((q : Int)).toNat = q from rfl]
    rw [hb] at HT
    obtain ⟨Ab, cb, hbb, ch, cur, h1, h2, h3, h4⟩ := h.heldRow (by omega)
    have c2 := hw.m_cell h1 (o := 2) rfl
    have cq := hw.m_cell h2 (h3 q _ hqt)
    have fq := heap_free (hw.le _ _ h2) q
    have hbl := hw.lt List.mem_cons_self h2
    have hqi : (q : Int) < held.length := by omega
    have HU := Lib.hid (hw.upd h2 (o := q) (.bool false))
    have H4 := Lib.hid (h4 q false)
    clear h4 h3 h2 h1 hb h hqt
    go_enter Tryd.func19, Tryd.ntmps19
    go_wp2_with fail
    refine HT.out.mono ?_
    rintro e w1 ⟨rfl, rfl⟩
    go_wp2
    go_ret
    exact ⟨rfl, _, HU.out, H4.out⟩
  · have e : heldB held b = false := by simpa using hb
    rw [if_neg hb, if_neg hb]
    rw [e] at HT
    clear e hb
    have HH := Lib.hid h
    clear h
    go_enter Tryd.func19, Tryd.ntmps19
    go_wp2_with fail
    refine HT.out.mono ?_
    rintro e w1 ⟨rfl, rfl⟩
    go_wp2
    go_ret
    exact ⟨rfl, _, hw, HH.out⟩
end
end Go.Proofs.YtebdgohkhadgpaaDoor
