/- Walks: the reference's when, key, fresh, find, Drop, New. -/
import Derived.Test.YtfieipigbdopaaaS7
set_option linter.unusedVariables false
set_option linter.unusedSimpArgs false
namespace Go.Proofs.Ytfieipigbdopaaa
open Go.RowKit
set_option maxHeartbeats 1000000
def keyB (k : ByteArray) : Bool := !k.toList.isEmpty && decide (k.size ≤ 4096)
section
variable {σ : World} {Hs : List Hp} {H M N Ha : Hp}
theorem when_any (n : Int) (w : World) :
    Calls Try.prog 35 #[.int .i64 n] w fun e w' => e = .returned (.bool (momB n)) ∧ w = w' := by
  unfold momB
  by_cases h1 : 0 ≤ n
  · by_cases h2 : n ≤ 1099511627776
    · go_enter Try.func35, Try.ntmps35
      go_wp2
      go_ret
      exact ⟨by simp [h1, h2], rfl⟩
    · have h2' : 1099511627776 < n := by omega
      go_enter Try.func35, Try.ntmps35
      go_wp2
      go_ret
      exact ⟨by simp [h1, h2], rfl⟩
  · have h1' : decide (0 ≤ n) = false := decide_eq_false h1
    go_enter Try.func35, Try.ntmps35
    go_wp2
    go_ret
    exact ⟨by first | rfl | (rw [h1']; rfl), rfl⟩
theorem key_any (k : ByteArray) (hs : k.size ≤ 9223372036854775807) (w : World) :
    Calls Try.prog 36 #[.string k] w fun e w' => e = .returned (.bool (keyB k)) ∧ w = w' := by
  unfold keyB
  cases h1 : k.toList.isEmpty
  · by_cases h2 : k.size ≤ 4096
    · have h2' : (k.size : Int) ≤ 4096 := by omega
      go_enter Try.func36, Try.ntmps36
      go_wp2
      go_ret
      exact ⟨by simp [h2], rfl⟩
    · have h2' : 4096 < (k.size : Int) := by omega
      have h3 : decide (k.size ≤ 4096) = false := decide_eq_false h2
      go_enter Try.func36, Try.ntmps36
      go_wp2
      go_ret
      exact ⟨by simp [h3]; omega, rfl⟩
  · go_enter Try.func36, Try.ntmps36
    go_wp2
    go_ret
    exact ⟨rfl, rfl⟩
theorem rfresh_any (k : ByteArray) (v : Value) (a n now : Int) (q : Bool) (w : World) (hn : 0 ≤ now ∧ now ≤ 1099511627776) (ha : 0 ≤ a ∧ a ≤ 1099511627776) (hv : v.oneCell' = true) (hw : Sat σ w Hs) :
    Calls Try.prog 38 #[.agg #[.string k, v, .int .i64 a, .int .i64 n, .bool q], .int .i64 now] w fun e w' => e = .returned (.bool (freshB a n now)) ∧ Sat σ w' Hs := by
  have m1 : IntKind.i64.wrap (now - a) = now - a := IntWalk.i64_in _ (by omega)
  unfold freshB
  by_cases h : a ≤ now
  · by_cases h' : now - a < n
    · go_enter Try.func38, Try.ntmps38
      go_wp2
      go_ret
      exact ⟨by simp [h, h'], hw.alloc' _⟩
    · go_enter Try.func38, Try.ntmps38
      go_wp2
      go_ret
      exact ⟨by simp [h, h'], hw.alloc' _⟩
  · have hd : decide (a ≤ now) = false := decide_eq_false h
    go_enter Try.func38, Try.ntmps38
    go_wp2
    go_ret
    exact ⟨by first | rfl | (rw [hd]; rfl), hw.alloc' _⟩
theorem RSto.cells {b : Nat} {keep : Int} {hand : Nat} {xs : List SE} (h : RSto M b keep hand xs) : ∃ A c, M b = some (.cells #[.int .i64 keep, .int .i64 hand, .slice A xs.length c] 54 (0, 0)) ∧ kSE.IsSl M (.slice A xs.length c) xs := h.tab.sl
theorem find_any (b : Nat) (keep : Int) (hand : Nat) (xs : List SE) (hS : RSto M b keep hand xs) (k : ByteArray) (w : World) (Hs : List Hp) (hw : Sat σ w Hs) (hM : M ∈ Hs) :
    Calls Try.prog 37 #[.pointer (some ⟨b, 0, none⟩), .string k] w fun e w' => e = .returned (.int .i64 (idxI (keyP k) xs)) ∧ Sat σ w' Hs := by
  obtain ⟨A, c, hb, hsl⟩ := hS.cells
  have hlen := hS.ok.len
  have hcap := hsl.cap
  have HB := Lib.hid hb
  have cb0 : w.cell? ⟨b, 2, none⟩ = some (.slice A xs.length c) := hw.cellAt hM (Hp.cell_of hb rfl)
  clear hb hS
  go_enter Try.func37, Try.ntmps37
  go_wp2
  go_loopw [5] (fun i wr => ∃ j : Nat, j ≤ xs.length ∧ i = .int .i64 j ∧ Sat σ wr Hs ∧ Eager (∀ (i : Nat) (y : SE), i < j → xs[i]? = some y → keyP k y = false)) (fun i _ => xs.length - (intOf i).toNat)
  case atStart => exact ⟨0, by omega, rfl, hw, ⟨fun j y hj => by omega⟩⟩
  case round =>
    obtain ⟨j, hk, rfl, hwr, hn⟩ := hrel
    clear cb0 hw
    have cb0 : wr.cell? ⟨b, 2, none⟩ = some (.slice A xs.length c) := hwr.cellAt hM (Hp.cell_of HB.out rfl)
    by_cases hlt : j < xs.length
    · obtain ⟨gb, off, c', Au, cu, x, hx, hv, e0, e1, e2, e3, e4, hu⟩ := se_get hsl hlt
      injection hv with hv1 hv2 hv3
      subst hv1; subst hv3; clear hv2
      have c0 := hwr.cellAt hM e0
      have HX := Lib.hid hx
      have hji : (j : Int) < xs.length := by omega
      clear e0 e1 e2 e3 e4 hx hsl hu
      cases hpx : x.key.toList == k.toList
      · have HPX : Hid (keyP k x = false) := Lib.hid hpx
        go_wp2
        exact ⟨⟨j + 1, by omega, by go_num, hwr, ⟨fun i y hj hy => by
          by_cases e : i = j
          · subst e; rw [HX.out] at hy; cases hy; exact HPX.out
          · exact hn.out i y (by omega) hy⟩⟩, by simp [intOf]; omega⟩
      · have HPX : Hid (keyP k x = true) := Lib.hid hpx
        go_wp2
        go_ret
        exact ⟨by rw [idxI_yes (keyP k) xs j x HX.out HPX.out hn.out]; rfl, hwr⟩
    · obtain rfl : j = xs.length := by omega
      go_wp2
      go_ret
      exact ⟨by rw [idxI_no (keyP k) xs (fun i y hy => hn.out i y (List.getElem?_eq_some_iff.1 hy).1 hy)]; rfl, hwr⟩
end
end Go.Proofs.Ytfieipigbdopaaa
