/- Walks: clones, and readers of a table. -/
import Derived.Test.YthofnhmehpdnbaaN2
set_option linter.unusedVariables false
namespace Go.Proofs.Ythofnhmehpdnbaa
open Go.RowKit
set_option maxHeartbeats 400000
section
variable {σ : World} {Hs : List Hp} {H M : Hp}
/-- What a clone of a slice is. -/
def Cloned {α : Type} (d : Kd α) (eT : TypeId) (σ : World) (Hs : List Hp) (H : Hp) (xs : List α) (e : Ending) (w' : World) : Prop :=
  ∃ A c N cells, e = .returned (.slice A xs.length c) ∧ Sat σ w' (N :: Hs) ∧ Own N eT d.sz (.slice A xs.length c) xs.length cells ∧ d.reps H xs cells
theorem cloneA_any (v : Value) (xs : List Ad) (w : World) (hw : Sat σ w Hs) (hH : H ∈ Hs) (hs : kAd.IsSl H v xs) (hn : xs.length ≤ 1000000000) :
    Calls Try.prog 33 #[v] w (Cloned kAd 39 σ Hs H xs) := by
  obtain ⟨cells, hcs, hsrc⟩ := hs.src (P := Try.prog) (t := 29) Try.underlying29
  obtain ⟨A, c, rfl, hc1, hc2, hrow⟩ := hs.form
  have hq := fun w => Lib.run_eql_slice_nil (P := Try.prog) w 29 39 A xs.length c 0 0 Try.underlying29
  have HSRC := Lib.hid hsrc; have HCS := Lib.hid hcs
  clear hsrc hcs
  cases A with
  | none =>
    have h0 : xs = [] := List.eq_nil_of_length_eq_zero (Nat.eq_zero_of_not_pos fun h => by obtain ⟨_, _, _, e, _⟩ := hrow h; cases e)
    subst h0
    simp only [List.length_nil] at hq
    go_enter Try.func33, Try.ntmps33
    go_wp2
    go_ret
    exact ⟨none, 0, Hp.emp, [], rfl, hw.emp, Own.nil _ _ _, rfl⟩
  | some ad =>
    clear hrow
    go_enter Try.func33, Try.ntmps33
    go_wp2_with (at_builtin; refine wpList_app (hw.alloc _) rfl (.tmp 5) (.tmp 6) 29 29 39 (.agg #[.int .u8 0, .int .u8 0, .int .u8 0, .int .u8 0]) kAd.sz 4 rfl Try.underlying29 (by kernel_rfl) rfl (by decide) _ _ 0 xs.length [] cells rfl rfl (own_lit0 _ _ _) (HSRC.out _ ((hw.alloc _).has _ (by simp [hH]))) (by omega) ?_; intro A1 c1 w1 N1 hw1 ho1 _ _)
    go_ret
    exact ⟨A1, c1, N1, cells, by simp, hw1, by simpa using ho1, HCS.out⟩
/-- An own row as a source. -/
theorem own_src {P : Program} {N : Hp} {eT : TypeId} {sz n : Nat} {v : Value} {cells : List Value} (h : Own N eT sz v n cells) (h1 : ∀ u ∈ cells, u.oneCell' = true) {t e : TypeId} (ht : P.underlying t = some (.slice e)) (W : World) (hW : Hp.le N (hpOf W)) : Src P sz t v n cells W := by
  rcases h.out.2 with ⟨rfl, rfl⟩ | ⟨g, cap, cur, rfl, hg, k1, k2, k3, k4⟩
  · have : cells = [] := List.eq_nil_of_length_eq_zero (by rw [h.out.1]; simp)
    subst this
    exact Src.ofNil W ht 0
  · refine Src.ofSlice W ht _ _ cap cells h.out.1 (fun j u hu => ?_) h1
    have := (h.cell).2.2 j u hu
    rw [addr_add, Nat.zero_add]
    exact hpOf_cell (Hp.cell_le hW this)
/-- What a clone of an own slice of entries is: the very cells. -/
theorem cloneE_own (v : Value) (n : Nat) (cells : List Value) (w : World) (hw : Sat σ w Hs) (hH : H ∈ Hs) (hO : Own H 59 3 v n cells) (h1 : ∀ u ∈ cells, u.oneCell' = true) (hn : n ≤ 1000000000) :
    Calls Try.prog 37 #[v] w fun e w' => ∃ A c N, e = .returned (.slice A n c) ∧ Sat σ w' (N :: Hs) ∧ Own N 59 3 (.slice A n c) n cells := by
  have HSRC := Lib.hid (fun W (h : Hp.le H (hpOf W)) => own_src (P := Try.prog) hO h1 (t := 51) Try.underlying51 W h)
  rcases hO.out.2 with ⟨rfl, rfl⟩ | ⟨g, cap, cur, rfl, hg, k1, k2, k3, k4⟩
  · have : cells = [] := List.eq_nil_of_length_eq_zero (by rw [hO.out.1])
    subst this
    have hq := fun w => Lib.run_eql_slice_nil (P := Try.prog) w 51 59 none 0 0 0 0 Try.underlying51
    clear hO
    go_enter Try.func37, Try.ntmps37
    go_wp2
    go_ret
    exact ⟨none, 0, Hp.emp, rfl, hw.emp, Own.nil _ _ _⟩
  · have hq := fun w => Lib.run_eql_slice_nil (P := Try.prog) w 51 59 (some ⟨g, 0, none⟩) n cap 0 0 Try.underlying51
    clear hO hg k3 k4
    go_enter Try.func37, Try.ntmps37
    go_wp2_with (at_builtin; refine wpList_app (hw.alloc _) rfl (.tmp 5) (.tmp 6) 51 51 59 (.agg #[.string ⟨#[]⟩, .slice none 0 0, .int .i64 0]) 3 48 rfl Try.underlying51 (by kernel_rfl) rfl (by decide) _ _ 0 n [] cells rfl rfl (own_lit0 _ _ _) (HSRC.out _ ((hw.alloc _).has _ (by simp [hH]))) (by omega) ?_; intro A1 c1 w1 N1 hw1 ho1 _ _)
    go_ret
    exact ⟨A1, c1, N1, by simp, hw1, by simpa using ho1⟩
theorem cloneE_any (v : Value) (xs : List Ent) (w : World) (hw : Sat σ w Hs) (hH : H ∈ Hs) (hs : kEnt.IsSl H v xs) (hn : xs.length ≤ 1000000000) :
    Calls Try.prog 37 #[v] w (Cloned kEnt 59 σ Hs H xs) := by
  obtain ⟨cells, hcs, hsrc⟩ := hs.src (P := Try.prog) (t := 51) Try.underlying51
  obtain ⟨A, c, rfl, hc1, hc2, hrow⟩ := hs.form
  have hq := fun w => Lib.run_eql_slice_nil (P := Try.prog) w 51 59 A xs.length c 0 0 Try.underlying51
  have HSRC := Lib.hid hsrc; have HCS := Lib.hid hcs
  clear hsrc hcs
  cases A with
  | none =>
    have h0 : xs = [] := List.eq_nil_of_length_eq_zero (Nat.eq_zero_of_not_pos fun h => by obtain ⟨_, _, _, e, _⟩ := hrow h; cases e)
    subst h0
    simp only [List.length_nil] at hq
    go_enter Try.func37, Try.ntmps37
    go_wp2
    go_ret
    exact ⟨none, 0, Hp.emp, [], rfl, hw.emp, Own.nil _ _ _, rfl⟩
  | some ad =>
    clear hrow
    go_enter Try.func37, Try.ntmps37
    go_wp2_with (at_builtin; refine wpList_app (hw.alloc _) rfl (.tmp 5) (.tmp 6) 51 51 59 (.agg #[.string ⟨#[]⟩, .slice none 0 0, .int .i64 0]) kEnt.sz 48 rfl Try.underlying51 (by kernel_rfl) rfl (by decide) _ _ 0 xs.length [] cells rfl rfl (own_lit0 _ _ _) (HSRC.out _ ((hw.alloc _).has _ (by simp [hH]))) (by omega) ?_; intro A1 c1 w1 N1 hw1 ho1 _ _)
    go_ret
    exact ⟨A1, c1, N1, cells, by simp, hw1, by simpa using ho1, HCS.out⟩
end
end Go.Proofs.Ythofnhmehpdnbaa
