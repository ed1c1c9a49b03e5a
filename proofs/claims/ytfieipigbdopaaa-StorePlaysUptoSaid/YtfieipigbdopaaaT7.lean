/- Walks: the reference's Put, whole; bytes of one's own that are changed. -/
import Derived.Test.YtfieipigbdopaaaT6
import Derived.Test.YtfieipigbdopaaaW1
set_option linter.unusedVariables false
set_option linter.unusedSimpArgs false
namespace Go.Proofs.Ytfieipigbdopaaa
open Go.RowKit
set_option maxHeartbeats 1000000
section
variable {σ : World} {Hs : List Hp} {H M N Ha : Hp}
theorem rput_any (b : Nat) (keep : Int) (hand : Nat) (xs : List SE) (now age : Int) (k : ByteArray) (v : Value) (bs : List Int) (w : World) (hw : Sat σ w (M :: Hs)) (hS : RSto M b keep hand xs) (hHa : Ha ∈ Hs) (hv : kB.IsSl Ha v bs) (hs : k.size ≤ 9223372036854775807) :
    Calls Try.prog 23 #[.pointer (some ⟨b, 0, none⟩), .int .i64 now, .string k, v, .int .i64 age] w (RPutP σ Hs b keep (putE keep xs now k bs.length age) (putR keep xs hand now k bs age)) := by
  by_cases hE : putE keep xs now k bs.length age = 0
  · have := rput_ok b keep hand xs now age k v bs w hw hS hHa hv hs hE
    unfold putR
    rw [if_pos hE, hE]
    exact this
  · obtain ⟨A, c, rfl, hc1, hc2, _⟩ := hv.form
    unfold putR
    rw [if_neg hE]
    exact (rput_bad b keep hand xs now age k A bs.length c w hw hS hs (by omega) hE).mono fun e w' ⟨he, h⟩ => ⟨he, M, h, hS⟩
/-- A row of bytes, and maybe more. -/
structure Bytes1 (N : Hp) (g : Nat) (t : TypeId) (n : Nat) : Prop where mk :: (out : ∃ cs, N g = some (.cells cs t (0, 0)) ∧ ∀ j, j < n → ∃ x, cs[j]? = some (.int .u8 x))
theorem bytes1_set {N : Hp} {g : Nat} {t : TypeId} {n : Nat} {w : World} (h : Bytes1 N g t n) (hw : Sat σ w (N :: Hs)) (j : Nat) (hj : j < n) : ∃ x, w.cell? ⟨g, j, none⟩ = some (.int .u8 x) ∧ ∀ y, ∃ N', Sat σ (w.setCell ⟨g, j, none⟩ (.int .u8 y)) (N' :: Hs) ∧ Bytes1 N' g t n := by
  obtain ⟨cs, hg, hall⟩ := h.out
  obtain ⟨x, hx⟩ := hall j hj
  refine ⟨x, hw.m_cell hg hx, fun y => ⟨_, hw.upd hg _, ⟨_, Hp.upd_self _ _ _, fun i hi => ?_⟩⟩⟩
  obtain ⟨z, hz⟩ := hall i hi
  by_cases e : i = j
  · subst e
    exact ⟨y, by simp [(Array.getElem?_eq_some_iff.1 hz).1]⟩
  · exact ⟨z, by rw [Array.getElem?_setIfInBounds_ne (fun h => e h.symm)]; exact hz⟩
theorem reps_bytes1 {H : Hp} : ∀ {xs : List Int} {cs : List Value}, kB.reps H xs cs → ∀ j, j < xs.length → ∃ x, cs[j]? = some (.int .u8 x)
  | [], _, _ => fun j hj => by simp at hj
  | x :: xs, _, ⟨c, r, e, hc, hr⟩ => fun j hj => by
    obtain rfl : c = _ := hc
    subst e
    match j with
    | 0 => exact ⟨_, rfl⟩
    | j + 1 =>
      simp only [List.length_cons] at hj
      obtain ⟨y, hy⟩ := reps_bytes1 hr j (by omega)
      exact ⟨y, by simpa using hy⟩
theorem own_bytes1 {N H : Hp} {t : TypeId} {v : Value} {xs : List Int} {cells : List Value} (h : Own N t 1 v xs.length cells) (hr : kB.reps H xs cells) (h0 : 0 < xs.length) : ∃ g c, v = .slice (some ⟨g, 0, none⟩) xs.length c ∧ Bytes1 N g t xs.length := by
  rcases h.out.2 with ⟨_, e⟩ | ⟨g, cap, cur, e, hg, k1, k2, k3, k4⟩
  · omega
  · refine ⟨g, cap, e, ⟨cur, hg, fun j hj => ?_⟩⟩
    obtain ⟨x, hx⟩ := reps_bytes1 hr j hj
    rw [← k4, List.getElem?_take, if_pos (by omega)] at hx
    exact ⟨x, by simpa using hx⟩
end
end Go.Proofs.Ytfieipigbdopaaa
