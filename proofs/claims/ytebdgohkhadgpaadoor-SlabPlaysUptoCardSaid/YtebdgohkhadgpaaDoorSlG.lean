/- Walk: Write. -/
import Derived.Test.YtebdgohkhadgpaaDoorSlF
import Derived.Laws.CopyOwn
set_option linter.unusedVariables false
set_option linter.unusedSimpArgs false
namespace Go.Proofs.YtebdgohkhadgpaaDoor
open Go Go.RowKit
section
variable {σ w w' : World} {Hs : List Hp} {H M N : Hp}
def spliceL {α : Type} (mem : List α) (off : Nat) (ys : List α) : List α := mem.take off ++ (ys ++ mem.drop (off + ys.length))
theorem spliceL_length {α : Type} (mem : List α) (off : Nat) (ys : List α) (h : off + ys.length ≤ mem.length) : (spliceL mem off ys).length = mem.length := by
  unfold spliceL; simp; omega
theorem spliceL_nil {α : Type} (mem : List α) (off : Nat) : spliceL mem off [] = mem := by unfold spliceL; simp
theorem take_splice {α : Type} (X cs : List α) (off m : Nat) (h : off + cs.length ≤ m) (hm : m ≤ X.length) : (spliceL X off cs).take m = spliceL (X.take m) off cs := by
  unfold spliceL
  rw [List.take_append, List.take_append, List.take_take, List.take_take, List.length_take, List.take_of_length_le (l := cs) (by omega), Nat.min_eq_left (by omega : off ≤ X.length), List.drop_take]
  rw [show min m off = min off m from Nat.min_comm _ _, Nat.sub_sub]
theorem ints_splice (mem ys : List Int) (off : Nat) : ints .u8 (spliceL mem off ys) = spliceL (ints .u8 mem) off (ints .u8 ys) := by
  unfold spliceL ints
  simp
theorem Slb.splice {g size gb cap : Nat} {held : List Bool} {mem : List Int} {A : Option Addr} {c : Nat} {cur : Array Value} (h : Slb M g size held mem A c) (hA : A = some ⟨gb, 0, none⟩) (hg : M gb = some (.cells cur 5 (0, 0))) (off : Nat) (ys : List Int) (ho : off + ys.length ≤ mem.length) (h0 : 0 < mem.length) :
    Slb (Hp.upd M gb (.cells (spliceL cur.toList off (ints .u8 ys)).toArray 5 (0, 0))) g size held (spliceL mem off ys) A c := by
  subst hA
  obtain ⟨cs, ws, k1, k2, k3, k4, k5, k6, k7, k8, k9⟩ := h.ex
  have hl := spliceL_length mem off ys ho
  have hne : g ≠ gb := by
    rintro rfl
    rw [k1] at hg
    injection hg with hg
    injection hg with e1 e2
    exact absurd e2 (by decide)
  refine ⟨⟨cs, ws, by rw [Hp.upd_ne hne]; exact k1, k2, k3, by rw [hl]; exact k4, k5, k6, k7, k8, k9⟩, ?_, by rw [hl]; exact h.cap, by rw [hl]; exact h.len, h.n, h.sz, by rw [hl]; exact h.tot⟩
  rcases h.own.out.2 with ⟨e, _⟩ | ⟨g', cap, cur', e, j1, j2, j3, j4, j5⟩
  · cases e
  · injection e with e1 e2 e3
    injection e1 with e1
    injection e1 with e1
    subst e1
    rw [hg] at j1
    injection j1 with j1
    injection j1 with j1
    subst j1
    have hcl : cur.toList.length = cap := by simpa using j4
    refine ⟨by rw [hl]; simp [ints, hl], .inr ⟨gb, cap, _, by rw [hl, ← e3], Hp.upd_self _ _ _, by rw [hl]; exact j2, j3, ?_, ?_⟩⟩
    · have := spliceL_length cur.toList off (ints .u8 ys) (by simp [ints]; simp at hcl; omega)
      simp only [List.size_toArray]
      rw [this, hcl, Nat.mul_one]
    · rw [hl, Nat.mul_one, List.toList_toArray, take_splice _ _ _ _ (by simpa [ints] using ho) (by omega), ints_splice]
      rw [Nat.mul_one] at j5
      rw [j5]
def wroteL (size : Nat) (held : List Bool) (mem : List Int) (b a : Int) (ys : List Int) : List Int := if spanE size held b a ys.length = 0 then spliceL mem (b.toNat * size + a.toNat) ys else mem
set_option maxHeartbeats 1000000 in
theorem write_any {g size : Nat} {held : List Bool} {mem : List Int} {A : Option Addr} {c : Nat} (b a : Int) (vb : Value) (ys : List Int) (w : World) (hw : Sat σ w (M :: Hs)) (hN : N ∈ Hs) (h : Slb M g size held mem A c) (hy : kB.IsSl N vb ys) (ha : -9223372036854775808 ≤ a ∧ a ≤ 9223372036854775807) :
    Calls Tryd.prog 12 #[.pointer (some ⟨g, 0, none⟩), .int .i64 b, .int .i64 a, vb] w fun e w' => e = .returned (.int .i64 (spanE size held b a ys.length)) ∧ ∃ M', Sat σ w' (M' :: Hs) ∧ Slb M' g size held (wroteL size held mem b a ys) A c := by
  obtain ⟨Ay, cy, rfl, hy1, hy2, _⟩ := id hy.form
  have HSP := Lib.hid (span_any b a ys.length w hw List.mem_cons_self h (by omega) ha)
  have HH := Lib.hid h; have HY := Lib.hid hy
  clear h hy
  by_cases he : spanE size held b a ys.length = 0
  · by_cases h0 : ys = []
    · subst h0
      have HW : Hid (wroteL size held mem b a [] = mem) := Lib.hid (by unfold wroteL; split <;> simp [spliceL_nil])
      rw [HW.out]
      have he' : spanE size held b a (([] : List Int).length : Nat) = 0 := he
      rw [he'] at HSP ⊢
      clear he he'
      go_enter Tryd.func12, Tryd.ntmps12
      go_wp2_with fail
      refine HSP.out.mono ?_
      rintro e w1 ⟨v, rfl, _, hA, hw1⟩
      obtain ⟨A', rfl, hA2⟩ := hA trivial
      clear hw hA
      go_wp2_with (refine wpList_copy_nothing rfl (.tmp 20) (.tmp 21) 22 22 rfl 5 Tryd.underlying22 (by kernel_rfl) _ _ _ _ _ _ rfl rfl (by simp) ?_)
      go_ret
      exact ⟨rfl, M, hw1, HH.out⟩
    · have hpos : 0 < ys.length := List.length_pos_iff.2 h0
      have HW : Hid (wroteL size held mem b a ys = spliceL mem (b.toNat * size + a.toNat) ys) := Lib.hid (by unfold wroteL; rw [if_pos he])
      rw [HW.out]
      obtain ⟨k, a, n, rfl, rfl, hn, hk, _, ho⟩ := spanE_ok he
      have hr := HH.out.room hk
      obtain rfl : n = ys.length := by omega
      clear hn
      obtain ⟨bs, offs, cells, hAy, hreps, hcell⟩ := HY.out.row hpos
      subst hAy
      obtain rfl := reps_is hreps
      obtain ⟨gb, cap, cur, hA0, hgb, j2, j3, j4, j5⟩ : ∃ gb cap cur, A = some ⟨gb, 0, none⟩ ∧ M gb = some (.cells cur 5 (0, 0)) ∧ mem.length ≤ cap ∧ cap ≤ 9223372036854775807 ∧ cur.size = cap * 1 ∧ cur.toList.take (mem.length * 1) = ints .u8 mem := by
        rcases HH.out.own.out.2 with ⟨e, e0⟩ | ⟨g', cap, cur', e, j1, j2, j3, j4, j5⟩
        · omega
        · injection e with e1 e2 e3
          exact ⟨g', cap, cur', e1, j1, j2, j3, j4, j5⟩
      have HS := Lib.hid (HH.out.splice (gb := gb) (cap := cap) hA0 hgb (k * size + a) ys (by omega) (by omega))
      rw [he] at HSP ⊢
      simp only [Int.toNat_natCast] at HSP ⊢
      have HC := Lib.hid hcell
      have H1 : Hid (a + ys.length ≤ size) := Lib.hid ho
      have H2 := Lib.hid hr; have H3 := Lib.hid j2
      have H4 : Hid (cur.toList.length = cap) := Lib.hid (by simpa using j4)
      clear he hcell ho hr j2 j3 j4 j5
      go_enter Tryd.func12, Tryd.ntmps12
      go_wp2_with fail
      refine HSP.out.mono ?_
      rintro e w1 ⟨v, rfl, _, hA, hw1⟩
      obtain ⟨A', rfl, hA2⟩ := hA trivial
      have hA3 := hA2 (by omega)
      rw [hA0, Option.map_some, Addr.add_mid, Nat.zero_add] at hA3
      subst hA3
      have hgw := hw1.le gb _ hgb
      clear hw hA hA2
      go_wp2_with (refine wpList_copy_own rfl (.tmp 20) (.tmp 21) 22 22 rfl 5 Tryd.underlying22 (by kernel_rfl) gb (k * size + a) _ _ _ _ _ rfl rfl cur 5 hgw (ints .u8 ys) (by simp [ints]) (fun j v hv => by rw [Addr.add_mid]; exact hw1.cellAt (List.mem_cons_of_mem _ hN) (HC.out j v hv)) (by have := H1.out; have := H2.out; have := H3.out; have := H4.out; simp [ints]; simp at this; omega) (by simp [ints, Value.oneCell']) ?_)
      go_ret
      exact ⟨rfl, _, hw1.updRow hgb _, HS.out⟩
  · have HW : Hid (wroteL size held mem b a ys = mem) := Lib.hid (by unfold wroteL; rw [if_neg he])
    rw [HW.out]
    generalize spanE size held b a ys.length = er at *
    go_enter Tryd.func12, Tryd.ntmps12
    go_wp2_with fail
    refine HSP.out.mono ?_
    rintro e w1 ⟨v, rfl, hA, _, hw1⟩
    obtain rfl := hA he
    clear hw
    go_wp2_with (refine wpList_copy_nothing rfl (.tmp 20) (.tmp 21) 22 22 rfl 5 Tryd.underlying22 (by kernel_rfl) _ _ _ _ _ _ rfl rfl (by simp) ?_)
    go_ret
    exact ⟨rfl, M, hw1, HH.out⟩
end
end Go.Proofs.YtebdgohkhadgpaaDoor
