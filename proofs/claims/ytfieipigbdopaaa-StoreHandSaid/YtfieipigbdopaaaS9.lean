/- Walks: Clone of a store; the calls of a store that no call made. -/
import Derived.Test.YtfieipigbdopaaaS8
set_option linter.unusedVariables false
set_option linter.unusedSimpArgs false
namespace Go.Proofs.Ytfieipigbdopaaa
open Go.RowKit
set_option maxHeartbeats 1000000
section
variable {σ : World} {Hs : List Hp} {H M N Ha : Hp}
theorem cloneE_own (v : Value) (n : Nat) (cells : List Value) (w : World) (hw : Sat σ w Hs) (hH : H ∈ Hs) (hO : Own H 66 5 v n cells) (h1 : ∀ u ∈ cells, u.oneCell' = true) (hn : n ≤ 1000000000) :
    Calls Try.prog 39 #[v] w fun e w' => ∃ A c N, e = .returned (.slice A n c) ∧ Sat σ w' (N :: Hs) ∧ Own N 66 5 (.slice A n c) n cells := by
  have HSRC := Lib.hid (fun W (h : Hp.le H (hpOf W)) => own_src (P := Try.prog) hO h1 (t := 55) Try.underlying55 W h)
  rcases hO.out.2 with ⟨rfl, rfl⟩ | ⟨g, cap, cur, rfl, hg, k1, k2, k3, k4⟩
  · have : cells = [] := List.eq_nil_of_length_eq_zero (by rw [hO.out.1])
    subst this
    have hq := fun w => Lib.run_eql_slice_nil (P := Try.prog) w 55 66 none 0 0 0 0 Try.underlying55
    clear hO
    go_enter Try.func39, Try.ntmps39
    go_wp2
    go_ret
    exact ⟨none, 0, Hp.emp, rfl, hw.emp, Own.nil _ _ _⟩
  · have hq := fun w => Lib.run_eql_slice_nil (P := Try.prog) w 55 66 (some ⟨g, 0, none⟩) n cap 0 0 Try.underlying55
    clear hO hg k3 k4
    go_enter Try.func39, Try.ntmps39
    go_wp2_with (at_builtin; refine wpList_app (hw.alloc _) rfl (.tmp 5) (.tmp 6) 55 55 66 (.agg #[.string ⟨#[]⟩, .slice none 0 0, .int .i64 0, .int .i64 0, .bool false]) 5 64 rfl Try.underlying55 (by kernel_rfl) rfl (by decide) _ _ 0 n [] cells rfl rfl (own_lit0 _ _ _) (HSRC.out _ ((hw.alloc _).has _ (by simp [hH]))) (by omega) ?_; intro A1 c1 w1 N1 hw1 ho1 _ _)
    go_ret
    exact ⟨A1, c1, N1, by simp, hw1, by simpa using ho1⟩
theorem clone_any (b : Nat) (keep : Int) (hand : Nat) (xs : List SE) (w : World) (hw : Sat σ w (M :: Hs)) (hS : Sto M b keep hand xs) :
    Calls Try.prog 26 #[.pointer (some ⟨b, 0, none⟩)] w fun e w' => ∃ b2 M2, e = .returned (.pointer (some ⟨b2, 0, none⟩)) ∧ Sat σ w' (M2 :: M :: Hs) ∧ ∀ M', Keep M b M' → Hp.dj M2 M' → Sto (Hp.or M2 M') b2 keep hand xs := by
  have HIS := Lib.hid (hS.is w hw (by simp))
  have HOK := Lib.hid hS.ok
  have hlen := hS.ok.len
  obtain ⟨v, cells, hb, hown, hone, hcl⟩ := hS.tab.clone (by simp [Value.ownBlock])
  obtain ⟨A, c, rfl, _⟩ := hown.slice
  have cb0 : w.cell? ⟨b, 0, none⟩ = some (.slice A xs.length c) := hw.m_cell hb rfl
  have cb1 : w.cell? ⟨b, 1, none⟩ = some (.int .i64 keep) := hw.m_cell hb rfl
  have cb2 : w.cell? ⟨b, 2, none⟩ = some (.int .i64 hand) := hw.m_cell hb rfl
  have cb3 : w.cell? ⟨b, 3, none⟩ = some (.bool true) := hw.m_cell hb rfl
  have hbl := hw.blk_lt List.mem_cons_self hb
  have HO := Lib.hid hown; have H1 := Lib.hid hone; have HCL := Lib.hid hcl
  clear hb hown hone hcl hS
  go_enter Try.func26, Try.ntmps26
  go_wp2_with (go_at_call 34; refine HIS.out.mono ?_; rintro e w3 ⟨rfl, rfl⟩)
  refine (cloneE_own (H := M) _ xs.length cells _ (hw.alloc (.cells #[.slice A xs.length c, .int .i64 keep, .int .i64 hand, .bool true] 57)) (by simp) HO.out H1.out (by omega)).mono ?_
  rintro e w4 ⟨A2, c2, N2, rfl, hw4, ho2⟩
  clear cb0 cb1 cb2 cb3 hw
  generalize w.heap.size = nb at *
  have cn0 : w4.cell? ⟨nb, 0, none⟩ = some (.slice A xs.length c) := hw4.drop.one_cell rfl
  have fn0 := heap_free (hw4.swap.heap) 0
  go_wp2
  go_ret
  have hw5 := hw4.swap.set (o := 0) (.slice A2 xs.length c2)
  exact ⟨nb, _, rfl, hw5.join, fun M' hk hd => ⟨HCL.out _ _ N2 nb [] [.int .i64 keep, .int .i64 hand, .bool true] (.slice A2 xs.length c2) _ hw5 ho2 M' hk hd, HOK.out⟩⟩
end
end Go.Proofs.Ytfieipigbdopaaa
