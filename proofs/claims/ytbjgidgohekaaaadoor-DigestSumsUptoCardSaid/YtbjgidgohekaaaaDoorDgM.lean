/- Walk: copied. -/
import Derived.Test.YtbjgidgohekaaaaDoorDgF
set_option linter.unusedVariables false
namespace Go.Proofs.YtbjgidgohekaaaaDoor
open Go.RowKit
set_option maxHeartbeats 1000000 in
theorem copied_any (v : Value) (ls : List (List Int)) (F : Nat → Prop) (w : World) (h : RdRows w v ls F) (hn : ls.length ≤ 1000000000) (hl : ls.flatten.length ≤ 1000000000) :
    Calls Tryd.prog 8 #[v] w fun e w' => ∃ A n c, e = .returned (.slice A n c) ∧ RdRows w' (.slice A n c) ls (fun b => w.heap.size ≤ b ∧ b < w'.heap.size) ∧ Below w.heap.size w w' := by
  obtain ⟨A, c, rfl, hc0, hm, hr⟩ := h
  have HR := Lib.hid hr; clear hr
  go_enter Tryd.func8, Tryd.ntmps8
  go_wp2
  go_loopw [4, 3] (fun i m wr => ∃ (k : Nat) (A1 : Option Addr) (n1 c1 : Nat) (vals : List Value), k ≤ ls.length ∧ i = .int .i64 k ∧ m = .slice A1 n1 c1 ∧ OwnV wr w.heap.size 28 (.slice A1 n1 c1) vals ∧ Eager (vals.length = k ∧ ∀ j, j < k → OwnI wr w.heap.size 5 .u8 (vals.getD j undef) (ls.getD j [])) ∧ Below w.heap.size w wr) (fun i _ _ => ls.length - (intOf i).toNat)
  case atStart =>
    refine ⟨0, _, _, _, [], by omega, rfl, rfl, ⟨?_⟩, ⟨rfl, fun j hj => by omega⟩, (Below.refl _ _).alloc (Nat.le_refl _) _⟩
    have h := World.ownsRow_lit (base := w.heap.size) (e := 28) (size := 1) w #[] 0 (Nat.le_refl _) (by simp [maxLen]) rfl
    simpa using h
  case round =>
    obtain ⟨k, A1, n1, c1, vals, hk, rfl, rfl, hown, hv, hlow⟩ := hrel
    by_cases hlt : k < ls.length
    · obtain ⟨b, off, rfl, hFb, hcs⟩ := HR.out (by omega)
      obtain ⟨rv, hc, hrd⟩ := hcs k hlt
      have hc' : wr.cell? ⟨b, off + k, none⟩ = some rv := (hlow.cell (World.block_lt_of_cell? w _ hc)).trans hc
      have hyl : (ls.getD k []).length ≤ ls.flatten.length := by
        rw [List.getD_eq_getElem?_getD, List.getElem?_eq_getElem hlt]
        exact (List.sublist_flatten_of_mem (List.getElem_mem hlt)).length_le
      have hrd' := hrd.touch (.of_below (S := fun _ => False) hlow) (fun _ _ h => h)
      obtain ⟨Ar, cr, rfl, _⟩ := hrd
      generalize hys : ls.getD k [] = ys at *
      have HYS := Lib.hid hys
      have HLOW := Lib.hid hlow
      have HOWN := Lib.hid hown
      have hvl := hv.out.1
      have HVL := Lib.hid hvl
      have HBY := Lib.hid (bytes_any _ ys F wr hrd' (by omega))
      clear hcs hc hlow hown hrd' hys hvl
      go_wp2_with (first | (go_at_call 14; refine HBY.out.mono ?_; rintro e w2 ⟨A2, n2, c2, rfl, ho2, hb2⟩; have HO2 := Lib.hid ho2; have HB2 := Lib.hid hb2; clear ho2 hb2) | (at_builtin; refine app_val w.heap.size rfl (.tmp 12) (.tmp 18) 22 28 (.slice none 0 0) 24 rfl Tryd.underlying22 (by kernel_rfl) rfl (by decide) _ vals _ rfl rfl rfl (HOWN.out.touch (.of_below (S := fun _ => False) HB2.out) (fun _ _ h => h)) (Nat.le_trans HLOW.out.size HB2.out.size) (by have := HVL.out; omega) ?_))
      intro A3 n3 c3 w3 ho3 T3 hat3
      have hN : ∀ j, j < k + 1 → OwnI w3 w.heap.size 5 .u8 ((vals ++ [Value.slice A2 n2 c2]).getD j undef) (ls.getD j []) := fun j hj => by
        by_cases e : j < k
        · have h1 := hv.out.2 j e
          have h2 := h1.touch (.of_below (S := fun _ => False) HB2.out) (fun _ _ h => h)
          have h3 := h2.touch T3 (own_ne_own h2.out (HOWN.out.touch (.of_below (S := fun _ => False) HB2.out) (fun _ _ h => h)).out (by decide))
          rw [List.getD_eq_getElem?_getD, List.getElem?_append_left (by rw [HVL.out]; exact e), ← List.getD_eq_getElem?_getD]
          exact h3
        · obtain rfl : j = k := by omega
          have h2 : OwnI w2 w.heap.size 5 .u8 (.slice A2 n2 c2) ys := ⟨⟨HO2.out.out.1, HO2.out.out.2.imp_right (fun ⟨g, cap, cur, h0, hb, h⟩ => ⟨g, cap, cur, h0, Nat.le_trans HLOW.out.size hb, h⟩)⟩⟩
          have h3 := h2.touch T3 (own_ne_own h2.out (HOWN.out.touch (.of_below (S := fun _ => False) HB2.out) (fun _ _ h => h)).out (by decide))
          rw [List.getD_eq_getElem?_getD, List.getElem?_append_right (by rw [HVL.out]; omega), HVL.out, HYS.out]
          simpa using h3
      have HN := Lib.hid hN
      have HO3 := Lib.hid ho3
      have HB3 : Hid (Below w.heap.size w w3) := Lib.hid ((HLOW.out.trans (HB2.out.mono HLOW.out.size)).trans (T3.below (Nat.le_trans HLOW.out.size HB2.out.size) (fun b hb => (HOWN.out.lt hb).1)))
      clear hN ho3 T3 hat3
      go_wp2
      go_roundw
      case measure => simp [intOf]; omega
      case rel => exact ⟨k + 1, A3, n3, c3, _, by omega, by go_num, rfl, HO3.out, ⟨by simp [HVL.out], HN.out⟩, HB3.out⟩
    · obtain rfl : k = ls.length := by omega
      have HRR : Hid (RdRows wr (.slice A1 n1 c1) ls (fun b => w.heap.size ≤ b ∧ b < wr.heap.size)) := Lib.hid (by
        have hvl := hv.out.1
        rcases hown.out.2 with ⟨he, h0⟩ | ⟨g, cap, cur, he, hb, hh, h1, h2, h3, h4⟩
        · injection he with e1 e2 e3
          subst e1; subst e3
          exact ⟨none, 0, by rw [e2]; congr 1; omega, by omega, by omega, fun h => by omega⟩
        · injection he with e1 e2 e3
          subst e1; subst e3
          refine ⟨_, _, by rw [e2, hvl], by omega, by simpa [maxLen] using h2, fun hp => ⟨g, 0, rfl, ⟨hb, (Array.getElem?_eq_some_iff.1 hh).1⟩, fun j hj => ⟨vals.getD j undef, ?_, ((hv.out.2 j hj).rd).mono (fun b hb' _ => ⟨((hv.out.2 j hj).lt hb').1, ((hv.out.2 j hj).lt hb').2⟩)⟩⟩⟩
          have hc := hown.out.cells (g := g) (by simp [Value.ownBlock]) j (vals.getD j undef) (by rw [List.getD_eq_getElem?_getD, List.getElem?_eq_getElem (by omega)]; rfl)
          rwa [addr_add] at hc)
      have HLOW := Lib.hid hlow
      clear hown hlow
      go_wp2
      go_ret
      exact ⟨A1, n1, c1, rfl, HRR.out, HLOW.out⟩
end Go.Proofs.YtbjgidgohekaaaaDoor
