/- Walk: Used, Put. -/
import Derived.Test.YtebdgohkhadgpaaDoorSlD
set_option linter.unusedVariables false
set_option linter.unusedSimpArgs false
namespace Go.Proofs.YtebdgohkhadgpaaDoor
open Go Go.RowKit
section
variable {σ w w' : World} {Hs : List Hp} {H M N : Hp}
theorem Slb.upd {g size : Nat} {held : List Bool} {mem : List Int} {A : Option Addr} {c : Nat} (h : Slb M g size held mem A c) (cs : Array Value) (ws : Nat → Nat) (held' : List Bool) (hl : held'.length = held.length) (h2 : cs.size = 69) (h3 : ∀ i, i < 64 → cs[i]? = some (.int .u64 ((ws i : Nat) : Int))) (h4 : cs[64]? = some (.slice A mem.length c)) (h5 : cs[65]? = some (.int .i64 held'.length)) (h6 : cs[66]? = some (.int .i64 size)) (h7 : cs[67]? = some (.int .i64 (held'.count true : Nat))) (h8 : cs[68]? = some (.bool true)) (h9 : FW held' ws) :
    Slb (Hp.upd M g (.cells cs 59 (0, 0))) g size held' mem A c := by
  obtain ⟨cs0, ws0, k1, _⟩ := h.ex
  refine ⟨⟨cs, ws, Hp.upd_self _ _ _, h2, h3, h4, h5, h6, h7, h8, h9⟩, ?_, h.cap, by rw [hl]; exact h.len, by rw [hl]; exact h.n, h.sz, h.tot⟩
  refine ⟨h.own.out.1, h.own.out.2.imp_right fun ⟨g', cap, cur, h0, h1, h2⟩ => ⟨g', cap, cur, h0, ?_, h2⟩⟩
  rw [Hp.upd_ne]
  · exact h1
  · rintro rfl
    rw [k1] at h1
    injection h1 with h1
    injection h1 with e1 e2
    exact absurd e2 (by decide)
set_option maxHeartbeats 1000000 in
theorem used_any {g size : Nat} {held : List Bool} {mem : List Int} {A : Option Addr} {c : Nat} (w : World) (hw : Sat σ w Hs) (hM : M ∈ Hs) (h : Slb M g size held mem A c) :
    Calls Tryd.prog 14 #[.pointer (some ⟨g, 0, none⟩)] w fun e w' => e = .returned (.int .i64 (held.count true : Nat)) ∧ w' = w := by
  obtain ⟨cs, ws, h1, h2, h3, h4, h5, h6, h7, h8, h9⟩ := id h.ex
  have c68 := hw.cellAt hM (Hp.cell_of h1 h8)
  have c67 := hw.cellAt hM (Hp.cell_of h1 h7)
  go_enter Tryd.func14, Tryd.ntmps14
  go_wp2_with fail
  refine (is_any w g true c68).mono ?_
  rintro e w1 ⟨rfl, rfl⟩
  go_wp2
  go_ret
  exact ⟨rfl, rfl⟩
theorem or_bit (x k : Nat) (hx : x < 18446744073709551616) (hk : k < 64) : bits .or .u64 (x : Int) (IntKind.u64.wrap (2 ^ k)) = ((x ||| 2 ^ k : Nat) : Int) := by
  have hp : 2 ^ k < 2 ^ 64 := Nat.pow_lt_pow_right (by omega) hk
  have e : IntKind.u64.wrap (2 ^ k : Int) = ((2 ^ k : Nat) : Int) := by
    rw [IntKind.wrap_u64, show (2 ^ k : Int) = ((2 ^ k : Nat) : Int) by simp]
    generalize 2 ^ k = y at hp ⊢
    omega
  rw [e]
  exact bits_or_u64_nat x _ hx (by omega)
set_option maxHeartbeats 1000000 in
theorem put_core (w : World) (g b n u x : Nat) (hb : b < 4096) (hx : x < 18446744073709551616) (f1 : w.frozen? ⟨g, b / 64, none⟩ = false) (f2 : w.frozen? ⟨g, 67, none⟩ = false) (c68 : w.cell? ⟨g, 68, none⟩ = some (.bool true)) (c67 : w.cell? ⟨g, 67, none⟩ = some (.int .i64 ((u + 1 : Nat) : Int))) (cw : w.cell? ⟨g, b / 64, none⟩ = some (.int .u64 x))
    (hu : u < 4096) (HHA : Hid (Calls Tryd.prog 30 #[.pointer (some ⟨g, 0, none⟩), .int .i64 b] w fun e w' => e = .returned (.bool true) ∧ w' = w)) :
    Calls Tryd.prog 15 #[.pointer (some ⟨g, 0, none⟩), .int .i64 b] w fun e w' => e = .returned (.int .i64 0) ∧ ∃ nq, w' = (((w.drewN nq).setCell ⟨g, b / 64, none⟩ (.int .u64 ((x ||| 2 ^ (b % 64) : Nat) : Int))).setCell ⟨g, 67, none⟩ (.int .i64 u)) := by
  have h1 : (b : Int) / 64 < 64 := by omega
  go_enter Tryd.func15, Tryd.ntmps15
  go_wp2_with fail
  refine (is_any w g true c68).mono ?_
  rintro e w1 ⟨rfl, rfl⟩
  go_wp2_with fail
  refine HHA.out.mono ?_
  rintro e w2 ⟨rfl, rfl⟩
  go_wp2
  refine wp_region_quiet_tail 14 (by kernel_rfl) (by kernel_rfl) ?_
  simp only [List.take_succ_cons, List.take_zero, List.drop_succ_cons, List.drop_zero]
  repeat (go_big_quiet_step (fail))
  refine wpQuiet_nil ?_
  intro _ hw'
  obtain ⟨nq, hw''⟩ := hw'
  subst hw''
  go_wp2
  go_ret
  refine ⟨rfl, nq, ?_⟩
  rw [or_bit x _ hx (by omega)]
theorem set_word (cs : Array Value) (ws : Nat → Nat) (k x : Nat) (hk : k < 64) (h2 : cs.size = 69) (h3 : ∀ i, i < 64 → cs[i]? = some (.int .u64 ((ws i : Nat) : Int))) (v : Value) : ∀ i, i < 64 → ((cs.setIfInBounds k (.int .u64 ((x : Nat) : Int))).setIfInBounds 67 v)[i]? = some (.int .u64 ((updW ws k x i : Nat) : Int)) := fun i hi => by
  rw [Array.getElem?_setIfInBounds_ne (by omega)]
  unfold updW
  by_cases e : i = k
  · subst e
    rw [if_pos rfl, Array.getElem?_setIfInBounds_self_of_lt (by omega)]
  · rw [if_neg e, Array.getElem?_setIfInBounds_ne (fun h => e h.symm)]
    exact h3 i hi
theorem set_other (cs : Array Value) (k x j : Nat) (v u : Value) (hk : k < 64) (hj : 64 ≤ j) (hj2 : j ≠ 67) (h : cs[j]? = some u) : ((cs.setIfInBounds k (.int .u64 ((x : Nat) : Int))).setIfInBounds 67 v)[j]? = some u := by
  rw [Array.getElem?_setIfInBounds_ne (fun e => hj2 e.symm), Array.getElem?_setIfInBounds_ne (by omega)]
  exact h
theorem count_set {held : List Bool} {b : Nat} (h : held[b]? = some true) : (held.set b false).count true + 1 = held.count true := by
  induction held generalizing b with
  | nil => simp at h
  | cons a l ih =>
    cases b with
    | zero =>
      obtain rfl : a = true := by simpa using h
      simp
    | succ b =>
      have := ih (by simpa using h)
      rw [List.set_cons_succ, List.count_cons, List.count_cons]
      omega
theorem put_any {g size : Nat} {held : List Bool} {mem : List Int} {A : Option Addr} {c : Nat} (b : Int) (w : World) (hw : Sat σ w (M :: Hs)) (h : Slb M g size held mem A c) :
    Calls Tryd.prog 15 #[.pointer (some ⟨g, 0, none⟩), .int .i64 b] w fun e w' => e = .returned (.int .i64 (if heldB held b = true then 0 else 5)) ∧ ∃ M', Sat σ w' (M' :: Hs) ∧ Slb M' g size (if heldB held b = true then held.set b.toNat false else held) mem A c := by
  obtain ⟨cs, ws, h1, h2, h3, h4, h5, h6, h7, h8, h9⟩ := id h.ex
  have c68 := hw.m_cell h1 h8
  have HHA := Lib.hid (held_any b w hw List.mem_cons_self h)
  cases hh : heldB held b
  · rw [hh] at HHA
    simp only [Bool.false_eq_true, if_false]
    have HW := Lib.hid hw; have HH := Lib.hid h
    clear hw h h1 h2 h3 h4 h5 h6 h7 h8 h9
    go_enter Tryd.func15, Tryd.ntmps15
    go_wp2_with fail
    refine (is_any w g true c68).mono ?_
    rintro e w1 ⟨rfl, rfl⟩
    go_wp2_with fail
    refine HHA.out.mono ?_
    rintro e w2 ⟨rfl, rfl⟩
    go_wp2
    go_ret
    exact ⟨rfl, M, HW.out, HH.out⟩
  · rw [hh] at HHA
    obtain ⟨k, rfl, hk, hkt⟩ := heldB_lt hh
    have hn := h.n
    have hc := count_set hkt
    have hcl : held.count true ≤ held.length := List.count_le_length
    simp only [if_true, Int.toNat_natCast]
    rw [← hc] at h7
    refine (put_core w g k held.length _ (ws (k / 64)) (by omega) (h9.lt _ (by omega)) (heap_free (hw.le g _ h1) _) (heap_free (hw.le g _ h1) _) c68 (hw.m_cell h1 h7) (hw.m_cell h1 (h3 _ (by omega))) (by omega) HHA).mono ?_
    rintro e w' ⟨rfl, nq, rfl⟩
    refine ⟨rfl, _, ((hw.drewN nq).upd h1 _).upd (Hp.upd_self _ _ _) _, ?_⟩
    rw [show ∀ a b, Hp.upd (Hp.upd M g a) g b = Hp.upd M g b from fun a b => by funext k; unfold Hp.upd; split <;> rfl]
    exact h.upd _ (updW ws (k / 64) (ws (k / 64) ||| 2 ^ (k % 64))) _ (by simp) (by simp [h2]) (set_word cs ws _ _ (by omega) h2 h3 _) (set_other _ _ _ _ _ _ (by omega) (by omega) (by omega) h4) (set_other _ _ _ _ _ _ (by omega) (by omega) (by omega) (by simpa using h5)) (set_other _ _ _ _ _ _ (by omega) (by omega) (by omega) h6) (by simp [h2]) (set_other _ _ _ _ _ _ (by omega) (by omega) (by omega) h8) (h9.put hk hn)
end
end Go.Proofs.YtebdgohkhadgpaaDoor
