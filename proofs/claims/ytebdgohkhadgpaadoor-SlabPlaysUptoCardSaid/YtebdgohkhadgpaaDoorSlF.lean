/- Walk: Read. -/
import Derived.Test.YtebdgohkhadgpaaDoorSlE
set_option linter.unusedVariables false
set_option linter.unusedSimpArgs false
namespace Go.Proofs.YtebdgohkhadgpaaDoor
open Go Go.RowKit
section
variable {σ w w' : World} {Hs : List Hp} {H M N : Hp}
theorem reps_ints : ∀ (xs : List Int), kB.reps H xs (ints .u8 xs)
  | [] => rfl
  | x :: xs => ⟨_, _, rfl, rfl, reps_ints xs⟩
theorem reps_is : ∀ {xs : List Int} {cs : List Value}, kB.reps H xs cs → cs = ints .u8 xs
  | [], _, h => h
  | x :: xs, _, ⟨c, r, e, hc, hr⟩ => by
    obtain rfl : c = _ := hc
    rw [e, reps_is hr]
    rfl
/-- The bytes of a range of a block. -/
def rangeL (size : Nat) (mem : List Int) (b a n : Int) : List Int := (mem.drop (b.toNat * size + a.toNat)).take n.toNat
theorem spanE_ok {size : Nat} {held : List Bool} {b a n : Int} (h : spanE size held b a n = 0) : ∃ k a' n' : Nat, b = k ∧ a = a' ∧ n = n' ∧ k < held.length ∧ held[k]? = some true ∧ a' + n' ≤ size := by
  unfold spanE at h
  split at h
  · cases h
  · split at h
    · cases h
    · rename_i h1 h2
      obtain ⟨k, e, h3, h4⟩ := heldB_lt (held := held) (b := b) (by simpa using h1)
      exact ⟨k, a.toNat, n.toNat, e, by omega, by omega, h3, h4, by omega⟩
theorem Slb.room {g size : Nat} {held : List Bool} {mem : List Int} {A : Option Addr} {c k : Nat} (h : Slb M g size held mem A c) (hk : k < held.length) : k * size + size ≤ mem.length := by
  rw [h.len]
  have := Nat.mul_le_mul_right size hk
  rw [Nat.succ_mul] at this
  exact this
theorem range_sl {g size : Nat} {held : List Bool} {mem : List Int} {A A' : Option Addr} {c : Nat} {b a n : Int} (h : Slb M g size held mem A c) (hs : spanE size held b a n = 0) (hA : 0 < n → A' = A.map (·.add (b.toNat * size + a.toNat))) : kB.IsSl M (.slice A' n.toNat n.toNat) (rangeL size mem b a n) ∧ (rangeL size mem b a n).length = n.toNat := by
  obtain ⟨k, a, n, rfl, rfl, rfl, hk, _, ho⟩ := spanE_ok hs
  have hr := h.room hk
  have h0 : kB.IsSl M (.slice A mem.length c) mem := h.own.isSl (d := kB) (reps_ints mem) rfl (Hp.le_refl _)
  have ht := h.tot
  have h1 := h0.cut (k * size + a) (k * size + a + n) (by omega) (by omega) n (by omega) (by omega) A' (fun hlt => by simpa [kB, Kd.int] using hA (by omega))
  rw [Nat.add_sub_cancel_left] at h1
  refine ⟨h1, ?_⟩
  unfold rangeL
  simp
  omega
set_option maxHeartbeats 1000000 in
theorem read_any {g size : Nat} {held : List Bool} {mem : List Int} {A : Option Addr} {c : Nat} (b a n : Int) (w : World) (hw : Sat σ w Hs) (hM : M ∈ Hs) (h : Slb M g size held mem A c) (hn : -9223372036854775808 ≤ n ∧ n ≤ 9223372036854775807) (ha : -9223372036854775808 ≤ a ∧ a ≤ 9223372036854775807) :
    Calls Tryd.prog 13 #[.pointer (some ⟨g, 0, none⟩), .int .i64 b, .int .i64 a, .int .i64 n] w fun e w' => ∃ v N xs, e = .returned (.tuple #[v, .int .i64 (spanE size held b a n)]) ∧ Sat σ w' (N :: Hs) ∧ Own N 5 1 v xs.length (ints .u8 xs) ∧ xs = (if spanE size held b a n = 0 then rangeL size mem b a n else []) := by
  have HSP := Lib.hid (span_any b a n w hw hM h hn ha)
  have HH := Lib.hid h
  clear h
  by_cases he : spanE size held b a n = 0
  · rw [if_pos he]
    have HR := Lib.hid (fun A' hA => range_sl (A' := A') HH.out he hA)
    have HX : Hid ((rangeL size mem b a n).length ≤ 140737488355328) := Lib.hid (by have := HH.out.tot; unfold rangeL; simp; omega)
    rw [he] at HSP ⊢
    generalize rangeL size mem b a n = xs at *
    clear he hn ha
    go_enter Tryd.func13, Tryd.ntmps13
    go_wp2_with fail
    refine HSP.out.mono ?_
    rintro e w1 ⟨v, rfl, _, hA, hw1⟩
    obtain ⟨A', rfl, hA2⟩ := hA trivial
    obtain ⟨hsl, hlen⟩ := HR.out A' hA2
    have hxl := HX.out
    clear hA hA2 HR HX HSP
    generalize n.toNat = m at *
    subst hlen
    obtain ⟨cells, hcs, hsrc⟩ := hsl.src (P := Tryd.prog) (t := 22) Tryd.underlying22
    have HSRC := Lib.hid hsrc; have HCS := Lib.hid hcs
    clear hsrc hcs hw hsl
    go_wp2_with (at_builtin; refine wpList_app (hw1.alloc _) rfl (.tmp 23) (.tmp 24) 22 22 5 (.int .u8 0) 1 1 rfl Tryd.underlying22 (by kernel_rfl) rfl (by decide) _ _ 0 xs.length [] cells rfl rfl (own_lit0 _ _ _) (HSRC.out _ ((hw1.alloc _).has _ (by simp [hM]))) (by omega) ?_; intro A1 c1 w2 N1 hw2 ho1 _ _)
    obtain rfl := reps_is HCS.out
    go_ret2
    exact ⟨.slice A1 xs.length c1, N1, xs, rfl, hw2, by simpa using ho1, rfl⟩
  · rw [if_neg he]
    generalize spanE size held b a n = er at *
    go_enter Tryd.func13, Tryd.ntmps13
    go_wp2_with fail
    refine HSP.out.mono ?_
    rintro e w1 ⟨v, rfl, hA, _, hw1⟩
    obtain rfl := hA he
    go_wp2
    go_ret2
    exact ⟨_, _, _, rfl, hw1.emp, Own.nil _ _ _, rfl⟩
end
end Go.Proofs.YtebdgohkhadgpaaDoor
