/- The slab's contract; held, span. -/
import Derived.Test.YtebdgohkhadgpaaDoorSlC
import Derived.Test.YtebdgohkhadgpaaDoorSlBs
set_option linter.unusedVariables false
set_option linter.unusedSimpArgs false
namespace Go.Proofs.YtebdgohkhadgpaaDoor
open Go Go.RowKit
section
variable {σ w w' : World} {Hs : List Hp} {H M N : Hp}
/-- a slab that stands so -/
structure Slb (M : Hp) (g size : Nat) (held : List Bool) (mem : List Int) (A : Option Addr) (c : Nat) : Prop where
  ex : ∃ cs ws, M g = some (.cells cs 59 (0, 0)) ∧ cs.size = 69 ∧ (∀ i, i < 64 → cs[i]? = some (.int .u64 ((ws i : Nat) : Int))) ∧ cs[64]? = some (.slice A mem.length c) ∧ cs[65]? = some (.int .i64 held.length) ∧ cs[66]? = some (.int .i64 size) ∧ cs[67]? = some (.int .i64 (held.count true : Nat)) ∧ cs[68]? = some (.bool true) ∧ FW held ws
  own : Own M 5 1 (.slice A mem.length c) mem.length (ints .u8 mem)
  cap : mem.length ≤ c
  len : mem.length = held.length * size
  n : held.length ≤ 4096
  sz : size ≤ 65536
  tot : mem.length ≤ 4194304
def heldB (held : List Bool) (b : Int) : Bool := decide (0 ≤ b) && (held[b.toNat]? == some true)
theorem held_any {g size : Nat} {held : List Bool} {mem : List Int} {A : Option Addr} {c : Nat} (b : Int) (w : World) (hw : Sat σ w Hs) (hM : M ∈ Hs) (h : Slb M g size held mem A c) :
    Calls Tryd.prog 30 #[.pointer (some ⟨g, 0, none⟩), .int .i64 b] w fun e w' => e = .returned (.bool (heldB held b)) ∧ w' = w := by
  obtain ⟨cs, ws, h1, h2, h3, h4, h5, h6, h7, h8, h9⟩ := h.ex
  have c65 := hw.cellAt hM (Hp.cell_of h1 h5)
  by_cases hb : b < 0 ∨ (held.length : Int) ≤ b
  · have e : heldB held b = false := by
      unfold heldB
      rcases hb with hb | hb
      · simp; omega
      · rw [List.getElem?_eq_none (by omega)]; simp
    rw [e]
    exact held_out w g b held.length hb c65
  · obtain ⟨k, rfl⟩ : ∃ k : Nat, b = k := ⟨b.toNat, by omega⟩
    have hk : k < held.length := by omega
    have hn := h.n
    refine (held_in w g k held.length (ws (k / 64)) hk hn (h9.lt _ (by omega)) c65 (hw.cellAt hM (Hp.cell_of h1 (h3 _ (by omega))))).mono ?_
    rintro e w' ⟨rfl, rfl⟩
    refine ⟨congrArg (fun b => Ending.returned (.bool b)) ?_, rfl⟩
    have := held_word h9 hk hn
    unfold heldB
    rw [Bool.eq_iff_iff]
    rw [decide_eq_true_iff, this]
    simp
def spanE (size : Nat) (held : List Bool) (b a n : Int) : Int := if heldB held b = false then 5 else if a < 0 ∨ n < 0 ∨ (size : Int) < a ∨ (size : Int) - a < n then 2 else 0
theorem heldB_lt {held : List Bool} {b : Int} (h : heldB held b = true) : ∃ k : Nat, b = k ∧ k < held.length ∧ held[k]? = some true := by
  unfold heldB at h
  rw [Bool.and_eq_true, decide_eq_true_iff, beq_iff_eq] at h
  obtain ⟨k, rfl⟩ : ∃ k : Nat, b = k := ⟨b.toNat, by omega⟩
  have h2 : held[k]? = some true := by simpa using h.2
  exact ⟨k, rfl, (List.getElem?_eq_some_iff.1 h2).1, h2⟩
set_option maxHeartbeats 1000000 in
theorem span_any {g size : Nat} {held : List Bool} {mem : List Int} {A : Option Addr} {c : Nat} (b a n : Int) (w : World) (hw : Sat σ w Hs) (hM : M ∈ Hs) (h : Slb M g size held mem A c) (hn : -9223372036854775808 ≤ n ∧ n ≤ 9223372036854775807) (ha : -9223372036854775808 ≤ a ∧ a ≤ 9223372036854775807) :
    Calls Tryd.prog 29 #[.pointer (some ⟨g, 0, none⟩), .int .i64 b, .int .i64 a, .int .i64 n] w fun e w' => ∃ v, e = .returned (.tuple #[v, .int .i64 (spanE size held b a n)]) ∧ (spanE size held b a n ≠ 0 → v = .slice none 0 0) ∧ (spanE size held b a n = 0 → ∃ A', v = .slice A' n.toNat n.toNat ∧ (0 < n → A' = A.map (·.add (b.toNat * size + a.toNat)))) ∧ Sat σ w' Hs := by
  obtain ⟨cs, ws, h1, h2, h3, h4, h5, h6, h7, h8, h9⟩ := id h.ex
  have c68 := hw.cellAt hM (Hp.cell_of h1 h8)
  have c66 := hw.cellAt hM (Hp.cell_of h1 h6)
  have c64 := hw.cellAt hM (Hp.cell_of h1 h4)
  have HH := Lib.hid h
  have HHA := Lib.hid (held_any b w hw hM h)
  clear h h1 h2 h3 h4 h5 h6 h7 h8 h9
  cases hh : heldB held b
  · rw [hh] at HHA
    have e : spanE size held b a n = 5 := by unfold spanE; rw [if_pos hh]
    rw [e]
    go_enter Tryd.func29, Tryd.ntmps29
    go_wp2_with fail
    refine (is_any w g true c68).mono ?_
    rintro e w1 ⟨rfl, rfl⟩
    go_wp2_with fail
    refine HHA.out.mono ?_
    rintro e w2 ⟨rfl, rfl⟩
    go_wp2
    go_ret2
    exact ⟨_, rfl, fun _ => rfl, fun h => by simp at h, hw⟩
  · rw [hh] at HHA
    obtain ⟨k, rfl, hk, _⟩ := heldB_lt hh
    by_cases g1 : a < 0
    · have e : spanE size held k a n = 2 := by unfold spanE; rw [if_neg (by simp [hh]), if_pos (by omega)]
      rw [e]
      go_enter Tryd.func29, Tryd.ntmps29
      go_wp2_with fail
      refine (is_any w g true c68).mono ?_
      rintro e w1 ⟨rfl, rfl⟩
      go_wp2_with fail
      refine HHA.out.mono ?_
      rintro e w2 ⟨rfl, rfl⟩
      go_wp2
      go_ret2
      exact ⟨_, rfl, fun _ => rfl, fun h => by simp at h, hw⟩
    by_cases g2 : n < 0
    · have e : spanE size held k a n = 2 := by unfold spanE; rw [if_neg (by simp [hh]), if_pos (by omega)]
      rw [e]
      go_enter Tryd.func29, Tryd.ntmps29
      go_wp2_with fail
      refine (is_any w g true c68).mono ?_
      rintro e w1 ⟨rfl, rfl⟩
      go_wp2_with fail
      refine HHA.out.mono ?_
      rintro e w2 ⟨rfl, rfl⟩
      go_wp2
      go_ret2
      exact ⟨_, rfl, fun _ => rfl, fun h => by simp at h, hw⟩
    by_cases g3 : (size : Int) < a
    · have e : spanE size held k a n = 2 := by unfold spanE; rw [if_neg (by simp [hh]), if_pos (by omega)]
      rw [e]
      go_enter Tryd.func29, Tryd.ntmps29
      go_wp2_with fail
      refine (is_any w g true c68).mono ?_
      rintro e w1 ⟨rfl, rfl⟩
      go_wp2_with fail
      refine HHA.out.mono ?_
      rintro e w2 ⟨rfl, rfl⟩
      go_wp2
      go_ret2
      exact ⟨_, rfl, fun _ => rfl, fun h => by simp at h, hw⟩
    have hsz := HH.out.sz
    have e0 : IntKind.i64.wrap ((size : Int) - a) = (size : Int) - a := wrap_small _ (by omega) (by omega)
    by_cases g4 : (size : Int) - a < n
    · have e : spanE size held k a n = 2 := by unfold spanE; rw [if_neg (by simp [hh]), if_pos (by omega)]
      rw [e]
      go_enter Tryd.func29, Tryd.ntmps29
      go_wp2_with fail
      refine (is_any w g true c68).mono ?_
      rintro e w1 ⟨rfl, rfl⟩
      go_wp2_with fail
      refine HHA.out.mono ?_
      rintro e w2 ⟨rfl, rfl⟩
      go_wp2
      go_ret2
      exact ⟨_, rfl, fun _ => rfl, fun h => by simp at h, hw⟩
    have e : spanE size held k a n = 0 := by unfold spanE; rw [if_neg (by simp [hh]), if_neg (by omega)]
    rw [e]
    obtain ⟨a, rfl⟩ : ∃ j : Nat, a = j := ⟨a.toNat, by omega⟩
    obtain ⟨n, rfl⟩ : ∃ j : Nat, n = j := ⟨n.toNat, by omega⟩
    have e1 : IntKind.i64.wrap ((a : Int) + n) = (a : Int) + n := wrap_small _ (by omega) (by omega)
    have e2 : (0 : Int) ≤ (a : Int) + n := by omega
    have e3 : (a : Int) ≤ (a : Int) + n := by omega
    have e4 : (a : Int) + n ≤ size := by omega
    have hkk : (k + 1) * size ≤ mem.length := by rw [HH.out.len]; exact Nat.mul_le_mul_right _ hk
    have HP := Lib.hid (piece_any w g k size mem.length c A hw c66 c64 hkk HH.out.tot HH.out.cap (by have := HH.out.n; omega))
    clear hn ha hkk c64
    go_enter Tryd.func29, Tryd.ntmps29
    go_wp2_with fail
    refine (is_any w g true c68).mono ?_
    rintro e w1 ⟨rfl, rfl⟩
    go_wp2_with fail
    refine HHA.out.mono ?_
    rintro e w2 ⟨rfl, rfl⟩
    go_wp2_with fail
    refine HP.out.mono ?_
    rintro e w3 ⟨A', rfl, hA, hw3⟩
    clear hw c66 c68
    go_wp2
    · obtain rfl : n = 0 := by omega
      go_ret2
      exact ⟨_, rfl, ⟨_, rfl, fun h => absurd h (by omega)⟩, hw3⟩
    · have e5 : a + n - a = n := by omega
      go_ret2
      refine ⟨_, rfl, ⟨_, rfl, fun h => ?_⟩, hw3⟩
      have h1 := hA (by omega)
      subst h1
      cases A with
      | none => rfl
      | some p =>
        generalize k * size = y
        by_cases z1 : a = 0 <;> by_cases z2 : y = 0 <;> simp [Addr.add, z1, z2, Nat.add_assoc]
end
end Go.Proofs.YtebdgohkhadgpaaDoor
