/- Walks of the reference's slab: New. -/
import Derived.Test.YtebdgohkhadgpaaDoorRe
set_option linter.unusedVariables false
set_option linter.unusedSimpArgs false
namespace Go.Proofs.YtebdgohkhadgpaaDoor
open Go Go.RowKit
section
variable {σ w w' : World} {Hs : List Hp} {H M N Y A B C D : Hp}
set_option maxHeartbeats 4000000
theorem Sat.third (h : Sat σ w (A :: B :: C :: Hs)) : Sat σ w (C :: A :: B :: Hs) := h.perm (List.perm_middle (l₁ := [A, B]))
theorem Sat.fourth (h : Sat σ w (A :: B :: C :: D :: Hs)) : Sat σ w (D :: A :: B :: C :: Hs) := h.perm (List.perm_middle (l₁ := [A, B, C]))
theorem rnew_bad (n s : Int) (w : World) (h : newE n s = 2) : Calls Tryd.prog 17 #[.int .i64 n, .int .i64 s] w fun e w' => e = .returned (.tuple #[.pointer none, .int .i64 2]) ∧ w' = w := by
  by_cases h1 : n < 0
  · clear h
    go_enter Tryd.func17, Tryd.ntmps17
    go_wp2
    go_ret2
    exact ⟨rfl, rfl⟩
  by_cases h2 : 4096 < n
  · clear h
    go_enter Tryd.func17, Tryd.ntmps17
    go_wp2
    go_ret2
    exact ⟨rfl, rfl⟩
  by_cases h3 : s < 0
  · clear h
    go_enter Tryd.func17, Tryd.ntmps17
    go_wp2
    go_ret2
    exact ⟨rfl, rfl⟩
  by_cases h4 : 65536 < s
  · clear h
    go_enter Tryd.func17, Tryd.ntmps17
    go_wp2
    go_ret2
    exact ⟨rfl, rfl⟩
  have h5 : 4194304 < n * s := by
    unfold newE at h
    split at h
    · omega
    · cases h
  have hle : n * s ≤ 4096 * 65536 := Int.mul_le_mul (by omega) (by omega) (by omega) (by omega)
  have hwr : IntKind.i64.wrap (n * s) = n * s := wrap_small _ (by omega) (by omega)
  clear h hle
  go_enter Tryd.func17, Tryd.ntmps17
  go_wp2
  go_ret2
  exact ⟨rfl, rfl⟩
theorem rs_of {g s n cb ch : Nat} {Ab Ah : Option Addr} (hw : Sat σ w (Hp.one g (.cells #[.int .i64 s, .slice Ab n cb, .slice Ah n ch] 53 (0, 0)) :: M :: N :: Hs)) (h1 : Own M 22 1 (.slice Ab n cb) n (List.replicate n (.slice none 0 0))) (h2 : Own N 4 1 (.slice Ah n ch) n (List.replicate n (.bool false))) (hn : n ≤ 4096) (hs : s ≤ 65536) :
    ∃ Y, Sat σ w (Y :: Hs) ∧ RS Y g s (List.replicate n false) (List.replicate n none) := by
  have hj := hw.join.join
  have hd := List.pairwise_cons.1 hw.dj
  have hd2 := List.pairwise_cons.1 hd.2
  refine ⟨_, hj, ⟨⟨Ab, Ah, cb, ch, ?_, ?_, ?_⟩, fun q b xs hq => ?_, fun q q' b xs xs' hq => ?_, by rw [List.length_replicate]; exact hn, hs⟩⟩
  · rw [List.length_replicate]
    exact Hp.le_or_left _ _ _ _ (Hp.le_or_left _ _ _ _ (Hp.one_self _ _))
  · rw [List.length_replicate, List.map_replicate]
    exact h1.le (Hp.le_trans (Hp.le_or_right (hd.1 M (by simp))) (Hp.le_or_left _ _))
  · rw [List.length_replicate, List.map_replicate]
    exact h2.le (Hp.le_or_right (Hp.dj_or_left (hd.1 N (by simp)) (hd2.1 N (by simp))))
  · rw [List.getElem?_replicate] at hq
    split at hq <;> cases hq
  · rw [List.getElem?_replicate] at hq
    split at hq <;> cases hq
theorem rnew_any (n s : Nat) (w : World) (hw : Sat σ w Hs) (hn : n ≤ 4096) (hs : s ≤ 65536) (ht : n * s ≤ 4194304) :
    Calls Tryd.prog 17 #[.int .i64 n, .int .i64 s] w fun e w' => ∃ g Y, e = .returned (.tuple #[.pointer (some ⟨g, 0, none⟩), .int .i64 0]) ∧ Sat σ w' (Y :: Hs) ∧ RS Y g s (List.replicate n false) (List.replicate n none) := by
  obtain ⟨p, hp⟩ : ∃ p : Nat, n * s = p := ⟨_, rfl⟩
  have hwp : IntKind.i64.wrap ((n : Int) * s) = (p : Int) := by rw [← hp, Int.natCast_mul]; exact wrap_small _ (by rw [← Int.natCast_mul]; omega) (by rw [← Int.natCast_mul]; omega)
  rw [hp] at ht
  have b1 : ¬ (n : Int) < 0 := by omega
  have b2 : ¬ (4096 : Int) < n := by omega
  have b3 : ¬ (s : Int) < 0 := by omega
  have b4 : ¬ (65536 : Int) < s := by omega
  have b5 : ¬ (4194304 : Int) < p := by omega
  have HP := Lib.hid hp
  clear hp
  go_enter Tryd.func17, Tryd.ntmps17
  go_wp2
  have hw0 := (hw.emp.emp.alloc (.cells #[.int .i64 s, .slice none 0 0, .slice none 0 0] 53))
  generalize World.alloc w _ = w0 at *
  generalize w.heap.size = g at *
  clear hw
  go_loopw [7] (fun i wr => ∃ (k : Nat) (Ab Ah : Option Addr) (cb ch : Nat) (M N : Hp), k ≤ n ∧ i = .int .i64 k ∧ Sat σ wr (Hp.one g (.cells #[.int .i64 s, .slice Ab k cb, .slice Ah k ch] 53 (0, 0)) :: M :: N :: Hs) ∧ Eager (Own M 22 1 (.slice Ab k cb) k (List.replicate k (.slice none 0 0)) ∧ Own N 4 1 (.slice Ah k ch) k (List.replicate k (.bool false)))) (fun i _ => n - (intOf i).toNat)
  case atStart => exact ⟨0, none, none, 0, 0, _, _, by omega, rfl, hw0, ⟨Own.nil _ _ _, Own.nil _ _ _⟩⟩
  case round =>
    obtain ⟨k, Ab, Ah, cb, ch, M1, N1, hk, rfl, hwr, ho⟩ := hrel
    obtain ⟨ho1, ho2⟩ := ho.out
    clear hw0 ho
    by_cases hlt : k < n
    · have hki : (k : Int) < n := by omega
      have c1 := hwr.one_cell (o := 1) rfl
      have hgl := hwr.one_lt
      have HO1 := Lib.hid ho1; have HO2 := Lib.hid ho2
      clear ho1 ho2
      have hwa := (hwr.alloc (.cells #[.slice none 0 0] 22)).third
      go_wp2_with (at_builtin; first
        | (refine wpList_app (hw4.alloc (.cells #[.bool false] 4)).fourth rfl (.tmp 49) (.tmp 50) 42 42 4 (.bool false) 1 1 rfl Tryd.underlying42 (by kernel_rfl) rfl (by decide) _ _ k 1 _ [.bool false] rfl rfl HO2.out (src_new Tryd.underlying42 _ [.bool false] _ 1 1 1 (by simp) rfl rfl) (by omega) ?_; intro A2 c2' w5 N2 hw5 ho5 _ _; have hw6 := hw5.drop1.swap; have gz := heap_free hw6.heap 2; have gc := hw6.one_cell (o := 2) rfl)
        | (refine wpList_app hwa rfl (.tmp 40) (.tmp 41) 51 51 22 (.slice none 0 0) 1 24 rfl Tryd.underlying51 (by kernel_rfl) rfl (by decide) _ _ k 1 _ [.slice none 0 0] rfl rfl HO1.out (src_new Tryd.underlying51 wr _ _ 1 1 1 rfl rfl rfl) (by omega) ?_; intro A1 c1' w2 M2 hw2 ho3 _ _; clear hwa hwr c1; have hw3 := hw2.drop1.swap; have fz := heap_free (hw3.heap) 1; have cz := hw3.one_cell (o := 1) rfl; have hgl2 := hw3.one_lt; have hw4 := hw3.set (o := 1) (.slice A1 (k + 1) c1'); have dz := hw4.one_cell (o := 2) rfl))
      have hw7 := (hw6.set (o := 2) (.slice A2 (k + 1) c2')).third.swap
      go_roundw
      case measure => simp [intOf]; omega
      case rel => exact ⟨k + 1, A1, A2, c1', c2', M2, N2, by omega, by go_num, hw7, ⟨by rw [List.replicate_succ']; exact ho3, by rw [List.replicate_succ']; exact ho5⟩⟩
    · obtain rfl : k = n := by omega
      have HO1 := Lib.hid ho1; have HO2 := Lib.hid ho2
      clear ho1 ho2
      go_wp2
      go_ret2
      obtain ⟨Y, h1, h2⟩ := rs_of hwr HO1.out HO2.out hn hs
      exact ⟨_, _, rfl, h1, h2⟩
end
end Go.Proofs.YtebdgohkhadgpaaDoor
