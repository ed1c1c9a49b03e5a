/- Walk: Held. -/
import Derived.Test.YtebdgohkhadgpaaDoorSlM
set_option linter.unusedVariables false
set_option linter.unusedSimpArgs false
namespace Go.Proofs.YtebdgohkhadgpaaDoor
open Go Go.RowKit
section
variable {σ w w' : World} {Hs : List Hp} {H M N : Hp}
/-- the held blocks below k -/
def heldL (held : List Bool) (k : Nat) : List Int := ((List.range k).filter fun b => held[b]? == some true).map Int.ofNat
theorem heldL_succ (held : List Bool) (k : Nat) : heldL held (k + 1) = if held[k]? = some true then heldL held k ++ [(k : Int)] else heldL held k := by
  unfold heldL
  rw [List.range_succ, List.filter_append, List.map_append]
  by_cases h : held[k]? = some true
  · rw [if_pos h]; simp [h]
  · rw [if_neg h]; simp [h]
theorem heldL_length (held : List Bool) (k : Nat) : (heldL held k).length ≤ k := by
  unfold heldL
  rw [List.length_map]
  exact Nat.le_trans (List.length_filter_le _ _) (Nat.le_of_eq List.length_range)
def kI : Kd Int := Kd.int .i64
set_option maxHeartbeats 2000000 in
theorem heldlist_any {g size : Nat} {held : List Bool} {mem : List Int} {A : Option Addr} {c : Nat} (w : World) (hw : Sat σ w Hs) (hM : M ∈ Hs) (h : Slb M g size held mem A c) :
    Calls Tryd.prog 24 #[.pointer (some ⟨g, 0, none⟩)] w fun e w' => ∃ v N, e = .returned v ∧ Sat σ w' (N :: Hs) ∧ Own N 3 1 v (heldL held held.length).length (ints .i64 (heldL held held.length)) := by
  obtain ⟨cs, ws, h1, h2, h3, h4, h5, h6, h7, h8, h9⟩ := id h.ex
  have HC : Hid (∀ w' Hs', Sat σ w' Hs' → M ∈ Hs' → w'.cell? ⟨g, 68, none⟩ = some (.bool true) ∧ w'.cell? ⟨g, 65, none⟩ = some (.int .i64 held.length)) := Lib.hid (fun w' Hs' h hm => ⟨h.cellAt hm (Hp.cell_of h1 h8), h.cellAt hm (Hp.cell_of h1 h5)⟩)
  have HH := Lib.hid h
  have hn := h.n
  clear h h1 h2 h3 h4 h5 h6 h7 h8 h9
  go_enter Tryd.func24, Tryd.ntmps24
  go_wp2
  go_loopw [3, 4] (fun o i wr => ∃ (k : Nat) (N : Hp), k ≤ held.length ∧ i = .int .i64 k ∧ Sat σ wr (N :: Hs) ∧ Eager (Own N 3 1 o (heldL held k).length (ints .i64 (heldL held k)))) (fun _ i _ => held.length - (intOf i).toNat)
  case atStart => exact ⟨0, _, by omega, rfl, hw.emp, ⟨Own.nil _ _ _⟩⟩
  case round =>
    obtain ⟨k, N, hk, rfl, hwr, ho⟩ := hrel
    clear hw
    obtain ⟨c68, c65⟩ := HC.out _ _ hwr (by simp [hM])
    obtain ⟨A0, c0, rfl, hc0, hc1⟩ := ho.out.slice
    by_cases hlt : k < held.length
    · have hki : (k : Int) < held.length := by omega
      go_wp2_with fail
      refine (is_any wr g true c68).mono ?_
      rintro e w1 ⟨rfl, rfl⟩
      go_wp2_with fail
      have hsu := heldL_succ held k
      have hlk := heldL_length held k
      have HHB := Lib.hid (held_any k w1 hwr (by simp [hM]) HH.out)
      by_cases hb : held[k]? = some true
      · rw [show heldB held k = true by unfold heldB; simp [hb]] at HHB
        rw [if_pos hb] at hsu
        have HSU := Lib.hid hsu
        clear hsu
        generalize heldL held k = xs at *
        refine HHB.out.mono ?_
        rintro e w2 ⟨rfl, rfl⟩
        clear HHB
        go_wp2_with (at_builtin; refine wpList_app (hwr.alloc' _) rfl (.tmp 20) (.tmp 22) 49 49 3 (.int .i64 0) 1 8 rfl Tryd.underlying49 (by kernel_rfl) rfl (by decide) _ _ xs.length 1 _ [.int .i64 k] rfl rfl ho.out (src_new Tryd.underlying49 _ [.int .i64 k] _ 1 1 1 (by simp) rfl rfl) (by omega) ?_; intro A2 c2 w2 N2 hw2 ho2 _ _)
        have HO2 : Hid (Own N2 3 1 (.slice A2 (xs.length + 1) c2) (heldL held (k + 1)).length (ints .i64 (heldL held (k + 1)))) := Lib.hid (by rw [HSU.out]; simpa [ints] using ho2)
        clear ho2 ho hwr HSU
        go_roundw
        case measure => simp [intOf]; omega
        case rel => exact ⟨k + 1, N2, by omega, by go_num, hw2, ⟨HO2.out⟩⟩
      · rw [show heldB held k = false by unfold heldB; simpa using hb] at HHB
        rw [if_neg hb] at hsu
        have HSU := Lib.hid hsu
        clear hsu
        refine HHB.out.mono ?_
        rintro e w2 ⟨rfl, rfl⟩
        clear HHB
        go_wp2
        go_roundw
        case measure => simp [intOf]; omega
        case rel => exact ⟨k + 1, N, by omega, by go_num, hwr, ⟨by rw [HSU.out]; exact ho.out⟩⟩
    · obtain rfl : k = held.length := by omega
      go_wp2_with fail
      refine (is_any wr g true c68).mono ?_
      rintro e w1 ⟨rfl, rfl⟩
      go_wp2
      go_ret
      exact ⟨_, N, rfl, hwr, ho.out⟩
end
end Go.Proofs.YtebdgohkhadgpaaDoor
