/- Walks: asks, slot, turn; a clone of bytes. -/
import Derived.Test.YtfieipigbdopaaaS1
set_option linter.unusedVariables false
set_option linter.unusedSimpArgs false
namespace Go.Proofs.Ytfieipigbdopaaa
open Go.RowKit
set_option maxHeartbeats 1000000
def momB (n : Int) : Bool := decide (0 ≤ n) && decide (n ≤ 1099511627776)
/-- What is wrong with a moment and a key. -/
def askE (made : Bool) (now : Int) (k : ByteArray) : Int := if made then (if momB now && !k.toList.isEmpty && decide (k.size ≤ 4096) then 0 else 2) else 1
def keyP (k : ByteArray) (x : SE) : Bool := sEq x.key k
section
variable {σ : World} {Hs : List Hp} {H M N : Hp}
theorem asks_any (p : Value) (made : Bool) (now : Int) (k : ByteArray) (w : World) (his : Calls Try.prog 34 #[p] w fun e w' => e = .returned (.bool made) ∧ w = w') (hs : k.size ≤ 9223372036854775807) :
    Calls Try.prog 29 #[p, .int .i64 now, .string k] w fun e w' => e = .returned (.int .i64 (askE made now k)) ∧ w = w' := by
  unfold askE momB
  cases made
  · go_enter Try.func29, Try.ntmps29
    go_wp2_with (go_at_call 34; refine his.mono ?_; rintro e w3 ⟨rfl, rfl⟩)
    go_ret
    exact ⟨rfl, rfl⟩
  by_cases h1 : 0 ≤ now
  rotate_left
  · have h1' : now < 0 := by omega
    go_enter Try.func29, Try.ntmps29
    go_wp2_with (go_at_call 34; refine his.mono ?_; rintro e w3 ⟨rfl, rfl⟩)
    go_ret
    exact ⟨by simp [h1], rfl⟩
  by_cases h2 : now ≤ 1099511627776
  rotate_left
  · have h2' : 1099511627776 < now := by omega
    go_enter Try.func29, Try.ntmps29
    go_wp2_with (go_at_call 34; refine his.mono ?_; rintro e w3 ⟨rfl, rfl⟩)
    go_ret
    exact ⟨by simp [h2], rfl⟩
  cases h3 : k.toList.isEmpty
  rotate_left
  · go_enter Try.func29, Try.ntmps29
    go_wp2_with (go_at_call 34; refine his.mono ?_; rintro e w3 ⟨rfl, rfl⟩)
    go_ret
    exact ⟨by simp, rfl⟩
  by_cases h4 : k.size ≤ 4096
  · have h4' : ¬ (4096 < (k.size : Int)) := by omega
    go_enter Try.func29, Try.ntmps29
    go_wp2_with (go_at_call 34; refine his.mono ?_; rintro e w3 ⟨rfl, rfl⟩)
    go_ret
    exact ⟨by simp [h1, h2, h4], rfl⟩
  · have h4' : 4096 < (k.size : Int) := by omega
    go_enter Try.func29, Try.ntmps29
    go_wp2_with (go_at_call 34; refine his.mono ?_; rintro e w3 ⟨rfl, rfl⟩)
    go_ret
    exact ⟨by simp [h1, h2, h4], rfl⟩
theorem se_get {v : Value} {xs : List SE} (hs : kSE.IsSl H v xs) {k : Nat} (hk : k < xs.length) : ∃ b off c Au cu x, xs[k]? = some x ∧ v = .slice (some ⟨b, off, none⟩) xs.length c ∧ Hp.cell H b (off + k * 5) = some (.string x.key) ∧ Hp.cell H b (off + k * 5 + 1) = some (.slice Au x.b.length cu) ∧ Hp.cell H b (off + k * 5 + 2) = some (.int .i64 x.at_) ∧ Hp.cell H b (off + k * 5 + 3) = some (.int .i64 x.age) ∧ Hp.cell H b (off + k * 5 + 4) = some (.bool x.asked) ∧ kB.IsSl H (.slice Au x.b.length cu) x.b := by
  obtain ⟨A, c, rfl, _⟩ := hs.form
  obtain ⟨b, off, cs, rfl, hcs, hcell⟩ := hs.get k _ (List.getElem?_eq_getElem hk)
  obtain ⟨Au, cu, rfl, hu⟩ := kSE_cells hcs
  exact ⟨b, off, c, Au, cu, _, List.getElem?_eq_getElem hk, rfl, hcell 0 _ rfl, hcell 1 _ rfl, hcell 2 _ rfl, hcell 3 _ rfl, hcell 4 _ rfl, hu⟩
theorem E_slot1 : ∀ (args : Array Value) (w : World), (callFunc 41 args).run Try.prog w = .ok (.enter 41 args) w :=
  enters_of (fn := Try.f41) Try.func41 (by kernel_rfl) (by kernel_rfl)
theorem index_any (v : Value) (xs : List SE) (k : ByteArray) (bn : Nat) (w : World) (hw : Sat σ w (Hp.one bn (.cells #[.string k] 63 (0, 0)) :: Hs)) (hH : H ∈ Hs) (hs : kSE.IsSl H v xs) :
    Calls Try.prog 40 #[v, .func (.func 41) #[] #[.pointer (some ⟨bn, 0, none⟩)]] w fun e w' => e = .returned (.int .i64 (idxI (keyP k) xs)) ∧ Sat σ w' Hs := by
  obtain ⟨A, c, rfl, hc1, hc2, _⟩ := hs.form
  go_enter Try.func40, Try.ntmps40
  go_wp2
  go_loopw [8, 5] (fun i _ wr => ∃ j : Nat, j ≤ xs.length ∧ i = .int .i64 j ∧ Sat σ wr (Hp.one bn (.cells #[.string k] 63 (0, 0)) :: Hs) ∧ Eager (∀ (i : Nat) (y : SE), i < j → xs[i]? = some y → keyP k y = false)) (fun i _ _ => xs.length - (intOf i).toNat)
  case atStart => exact ⟨0, by omega, rfl, hw, ⟨fun j y hj => by omega⟩⟩
  case round =>
    obtain ⟨j, hk, rfl, hwr, hn⟩ := hrel
    by_cases hlt : j < xs.length
    · obtain ⟨b, off, c', Au, cu, x, hx, hv, e0, e1, e2, e3, e4, hu⟩ := se_get hs hlt
      injection hv with hv1 hv2 hv3
      subst hv1; subst hv3; clear hv2
      have hHM : H ∈ Hp.one bn (.cells #[.string k] 63 (0, 0)) :: Hs := by simp [hH]
      have c0 := hwr.cellAt hHM e0; have c1 := hwr.cellAt hHM e1; have c2 := hwr.cellAt hHM e2; have c3 := hwr.cellAt hHM e3; have c4 := hwr.cellAt hHM e4
      have HX := Lib.hid hx
      have hji : (j : Int) < xs.length := by omega
      clear e0 e1 e2 e3 e4 hx hs hw hu
      go_wp2_with fail
      refine (slot1_any k x.key _ x.at_ x.age x.asked bn _ (hwr.one_cell rfl) hwr.one_lt (by rfl)).mono ?_
      rintro e w2 ⟨rfl, hb2⟩
      have hw2 := hwr.below hb2
      clear c0 c1 c2 c3 c4 hwr
      cases hpx : x.key.toList == k.toList
      · have HPX : Hid (keyP k x = false) := Lib.hid hpx
        clear hpx
        go_wp2
        go_roundw
        case measure => simp [intOf]; omega
        case rel => exact ⟨j + 1, by omega, by go_num, hw2, ⟨fun i y hj hy => by
          by_cases e : i = j
          · subst e; rw [HX.out] at hy; cases hy; exact HPX.out
          · exact hn.out i y (by omega) hy⟩⟩
      · have HPX : Hid (keyP k x = true) := Lib.hid hpx
        clear hpx
        go_wp2
        go_ret
        exact ⟨by rw [idxI_yes (keyP k) xs j x HX.out HPX.out hn.out]; rfl, hw2.drop⟩
    · obtain rfl : j = xs.length := by omega
      go_wp2
      go_ret
      exact ⟨by rw [idxI_no (keyP k) xs (fun i y hy => hn.out i y (List.getElem?_eq_some_iff.1 hy).1 hy)]; rfl, hwr.drop⟩
theorem slot_any (b : Nat) (A : Option Addr) (c : Nat) (cs : List Value) (xs : List SE) (k : ByteArray) (w : World) (hw : Sat σ w Hs) (hH : M ∈ Hs) (hs : kSE.IsSl M (.slice A xs.length c) xs) (hb : M b = some (.cells (.slice A xs.length c :: cs).toArray 57 (0, 0))) :
    Calls Try.prog 30 #[.pointer (some ⟨b, 0, none⟩), .agg #[.string k]] w fun e w' => e = .returned (.int .i64 (idxI (keyP k) xs)) ∧ Sat σ w' Hs := by
  have cb : w.cell? ⟨b, 0, none⟩ = some (.slice A xs.length c) := hw.cellAt hH (Hp.cell_of hb rfl)
  have hbl := hw.blk_lt hH hb
  have HS := Lib.hid hs
  clear hs hb
  go_enter Try.func30, Try.ntmps30
  go_wp2_with fail
  refine (index_any _ xs k _ _ (hw.alloc (.cells #[.string k] 63)) hH HS.out).mono ?_
  rintro e w2 ⟨rfl, hw2⟩
  go_wp2
  go_ret
  exact ⟨rfl, hw2⟩
theorem cloneB_any (v : Value) (xs : List Int) (w : World) (hw : Sat σ w Hs) (hH : H ∈ Hs) (hs : kB.IsSl H v xs) (hn : xs.length ≤ 140737488355328) :
    Calls Try.prog 32 #[v] w fun e w' => ∃ A c N cells, e = .returned (.slice A xs.length c) ∧ Sat σ w' (N :: Hs) ∧ Own N 5 1 (.slice A xs.length c) xs.length cells ∧ kB.reps N xs cells := by
  obtain ⟨cells, hcs, hsrc⟩ := hs.src (P := Try.prog) (t := 23) Try.underlying23
  obtain ⟨A, c, rfl, hc1, hc2, hrow⟩ := hs.form
  have hq := fun w => Lib.run_eql_slice_nil (P := Try.prog) w 23 5 A xs.length c 0 0 Try.underlying23
  have HSRC := Lib.hid hsrc; have HCS := Lib.hid hcs
  clear hsrc hcs
  cases A with
  | none =>
    have h0 : xs = [] := List.eq_nil_of_length_eq_zero (Nat.eq_zero_of_not_pos fun h => by obtain ⟨_, _, _, e, _⟩ := hrow h; cases e)
    subst h0
    simp only [List.length_nil] at hq
    go_enter Try.func32, Try.ntmps32
    go_wp2
    go_ret
    exact ⟨none, 0, Hp.emp, [], rfl, hw.emp, Own.nil _ _ _, rfl⟩
  | some ad =>
    clear hrow
    go_enter Try.func32, Try.ntmps32
    go_wp2_with (at_builtin; refine wpList_app (hw.alloc _) rfl (.tmp 5) (.tmp 6) 23 23 5 (.int .u8 0) 1 1 rfl Try.underlying23 (by kernel_rfl) rfl (by decide) _ _ 0 xs.length [] cells rfl rfl (own_lit0 _ _ _) (HSRC.out _ ((hw.alloc _).has _ (by simp [hH]))) (by omega) ?_; intro A1 c1 w1 N1 hw1 ho1 _ _)
    go_ret
    exact ⟨A1, c1, N1, cells, by simp, hw1, by simpa using ho1, bytes_reps HCS.out⟩
end
end Go.Proofs.Ytfieipigbdopaaa
