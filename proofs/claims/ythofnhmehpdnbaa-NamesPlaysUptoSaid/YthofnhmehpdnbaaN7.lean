/- Walks: the least of a table's times; New; Clone. -/
import Derived.Test.YthofnhmehpdnbaaN6
set_option linter.unusedVariables false
namespace Go.Proofs.Ythofnhmehpdnbaa
open Go.RowKit
set_option maxHeartbeats 400000
section
variable {σ : World} {Hs : List Hp} {H M N : Hp}
theorem new_any (n : Int) (w : World) (hw : Sat σ w Hs) (h0 : 0 ≤ n) (h1 : n ≤ 4096) :
    Calls Try.prog 9 #[.int .i64 n] w fun e w' => ∃ b M, e = .returned (.tuple #[.pointer (some ⟨b, 0, none⟩), .int .i64 0]) ∧ Sat σ w' (M :: Hs) ∧ TabRep M b (List.replicate n.toNat ⟨⟨#[]⟩, [], 0⟩) := by
  obtain ⟨k, rfl⟩ := Int.eq_ofNat_of_zero_le h0
  go_enter Try.func9, Try.ntmps9
  go_wp2_with (refine wpList_mk hw rfl (.tmp 10) (.tmp 10) 51 59 (.agg #[.string ⟨#[]⟩, .slice none 0 0, .int .i64 0]) 3 48 rfl Try.underlying51 (by kernel_rfl) .i64 .i64 k rfl rfl (by omega) (by omega) ?_; intro b1 w1 N hb1 hw1 ho1 hN1)
  go_ret2
  have hb2 := hw1.alloc (.cells #[.slice (some ⟨b1, 0, none⟩) k k, .bool true] 53)
  have hlt : ∀ j o, N j = some o → j < w1.heap.size := fun j o e => hw1.lt (H := N) (by simp) e
  rw [Int.toNat_natCast]
  refine ⟨w1.heap.size, _, rfl, hb2.join, ?_⟩
  have hd := hb2.dj2
  refine ⟨.slice (some ⟨b1, 0, none⟩) k k, Hp.emp, _, Hp.le_or_left _ _ _ _ (Hp.one_self _ _), by rw [List.length_replicate]; exact ho1.le (Hp.le_or_right hd), reps_made (d := kEnt) (kEnt_mk (x := ⟨⟨#[]⟩, [], 0⟩) (v := .slice none 0 0) Kd.IsSl.nil) (by decide) k, fun _ _ e => (by cases e), rfl, fun g hg => ⟨rfl, ?_⟩, ?_, by rw [List.length_replicate]; omega, ?_⟩
  · obtain rfl : b1 = g := by simpa [Value.ownBlock] using hg
    rcases ho1.out.2 with ⟨e, _⟩ | ⟨g', cap, cur, e, hg', _⟩
    · cases e
    · injection e with e1
      injection e1 with e1
      injection e1 with e1
      subst e1
      have := hlt _ _ hg'
      omega
  · intro x hx
    obtain ⟨_, rfl⟩ := List.mem_replicate.1 hx
    exact ⟨by decide, by decide⟩
  · intro x hx
    obtain ⟨_, rfl⟩ := List.mem_replicate.1 hx
    exact Nat.zero_le _
theorem new_bad (n : Int) (w : World) (hw : Sat σ w Hs) (h : n < 0 ∨ 4096 < n) :
    Calls Try.prog 9 #[.int .i64 n] w fun e w' => e = .returned (.tuple #[.pointer none, .int .i64 2]) ∧ Sat σ w' Hs := by
  rcases h with h | h
  · go_enter Try.func9, Try.ntmps9
    go_wp2
    go_ret2
    exact ⟨rfl, hw⟩
  · have h' : ¬ n < 0 := by omega
    go_enter Try.func9, Try.ntmps9
    go_wp2
    go_ret2
    exact ⟨rfl, hw⟩
theorem min_any (v : Value) (xs : List Ent) (w : World) (hw : Sat σ w Hs) (hH : H ∈ Hs) (hs : kEnt.IsSl H v xs) (h0 : 0 < xs.length) (ht : ∀ x ∈ xs, 0 ≤ x.till ∧ x.till ≤ 4398046511104) :
    Calls Try.prog 30 #[v, .func (.func 31) #[] #[]] w fun e w' => ∃ nm A1 l1 c1 m, e = .returned (.agg #[.string nm, .slice A1 l1 c1, .int .i64 m]) ∧ Sat σ w' Hs ∧ (∀ x ∈ xs, m ≤ x.till) ∧ (∃ x ∈ xs, x.till = m) := by
  obtain ⟨gb, off, c', Au, cu, x, hx, rfl, e0, e1, e2, hu⟩ := ent_get hs h0
  have c0 := hw.cellAt hH e0
  have c1 := hw.cellAt hH e1
  have c2 := hw.cellAt hH e2
  have hgl : gb < w.heap.size := World.block_lt_of_cell? w _ c0
  simp only [Nat.zero_mul, Nat.add_zero] at c0 c1 c2
  clear e0 e1 e2 hu
  have HT := Lib.hid ht; clear ht
  have HX := Lib.hid hx; clear hx
  have hcp := hs.cap
  go_enter Try.func30, Try.ntmps30
  go_wp2
  have hw2 := (hw.alloc (.cells #[.string ⟨#[]⟩, .slice none 0 0, .int .i64 0] 59)).alloc (.cells #[.string x.name, .slice Au x.addrs.length cu, .int .i64 x.till] 59)
  generalize hW : World.alloc (World.alloc w _) _ = w2 at *
  simp only [World.size_alloc] at hw2
  clear hW hw c0 c1 c2 hgl
  generalize w.heap.size = n0 at *
  go_loopw [6] (fun i wr => ∃ (k : Nat) (nm : ByteArray) (A1 : Option Addr) (l1 c1 : Nat) (m : Int), 1 ≤ k ∧ k ≤ xs.length ∧ i = .int .i64 k ∧ Sat σ wr (Hp.one (n0 + 1) (.cells #[.string nm, .slice A1 l1 c1, .int .i64 m] 59 (0, 0)) :: Hp.one n0 (.cells #[.string ⟨#[]⟩, .slice none 0 0, .int .i64 0] 59 (0, 0)) :: Hs) ∧ Eager (∀ (j : Nat) (y : Ent), j < k → xs[j]? = some y → m ≤ y.till) ∧ Eager (∃ y ∈ xs, y.till = m)) (fun i _ => xs.length - (intOf i).toNat)
  case atStart =>
    refine ⟨1, _, _, _, _, _, by omega, by omega, rfl, hw2, ⟨fun j y hj hy => ?_⟩, ⟨x, List.mem_of_getElem? HX.out, rfl⟩⟩
    obtain rfl : j = 0 := by omega
    rw [HX.out] at hy; cases hy; omega
  case round =>
    obtain ⟨k, nm, A1, l1, c1, m, hk1, hk, rfl, hwr, hn, hex⟩ := hrel
    clear hw2
    by_cases hlt : k < xs.length
    · obtain ⟨gb', off', c2', Au', cu', y, hy, hv, e0, e1, e2, hu⟩ := ent_get hs hlt
      injection hv with hv1 hv2 hv3
      injection hv1 with hv1
      injection hv1 with hv1 hv4
      subst hv1; subst hv4; subst hv3
      have hy0 := HT.out y (List.mem_of_getElem? hy)
      obtain ⟨z, hz, hzm⟩ := hex.out
      have hm0 := HT.out z hz
      rw [hzm] at hm0
      have HY := Lib.hid hy; have HN := Lib.hid hn.out; have HEX := Lib.hid hex.out
      have E0 := Lib.hid e0; have E1 := Lib.hid e1; have E2 := Lib.hid e2
      clear hy hu hs hz hzm z hn hex HX hv2 e0 e1 e2 HT
      have HS : Hid (∀ w', Sat σ w' (Hp.one (n0 + 1) (.cells #[.string nm, .slice A1 l1 c1, .int .i64 m] 59 (0, 0)) :: Hp.one n0 (.cells #[.string ⟨#[]⟩, .slice none 0 0, .int .i64 0] 59 (0, 0)) :: Hs) → (w'.cell? ⟨gb, off + k * 3, none⟩ = some (.string y.name) ∧ w'.cell? ⟨gb, off + k * 3 + 1, none⟩ = some (.slice Au' y.addrs.length cu') ∧ w'.cell? ⟨gb, off + k * 3 + 2, none⟩ = some (.int .i64 y.till) ∧ w'.cell? ⟨n0 + 1, 0, none⟩ = some (.string nm) ∧ w'.cell? ⟨n0 + 1, 1, none⟩ = some (.slice A1 l1 c1) ∧ w'.cell? ⟨n0 + 1, 2, none⟩ = some (.int .i64 m))) := Lib.hid (fun w' h => ⟨h.drop.drop.cellAt hH E0.out, h.drop.drop.cellAt hH E1.out, h.drop.drop.cellAt hH E2.out, h.one_cell rfl, h.one_cell rfl, h.one_cell rfl⟩)
      have hki : (k : Int) < xs.length := by omega
      go_wp2
      go_region_held3 (fun w' => w'.cell? ⟨gb, off + k * 3, none⟩ = some (.string y.name) ∧ w'.cell? ⟨gb, off + k * 3 + 1, none⟩ = some (.slice Au' y.addrs.length cu') ∧ w'.cell? ⟨gb, off + k * 3 + 2, none⟩ = some (.int .i64 y.till) ∧ w'.cell? ⟨n0 + 1, 0, none⟩ = some (.string nm) ∧ w'.cell? ⟨n0 + 1, 1, none⟩ = some (.slice A1 l1 c1) ∧ w'.cell? ⟨n0 + 1, 2, none⟩ = some (.int .i64 m))
        (first | exact HS.out _ (by assumption) | exact HS.out _ (Sat.drew (by assumption)))
        (first | (go_at_call 31; refine (put3_any _ _ _ _ _ _ _ rfl rfl (by omega) (by omega) (by omega) (by omega)).mono ?_; rintro e w4 ⟨rfl, hb4⟩; have hw4 := hwr.drew.below hb4))
      have d0 := hw4.drop.drop.cellAt hH E0.out
      have d1 := hw4.drop.drop.cellAt hH E1.out
      have d2 := hw4.drop.drop.cellAt hH E2.out
      have d3 : w4.cell? ⟨n0 + 1, 0, none⟩ = _ := hw4.one_cell rfl
      have d4 : w4.cell? ⟨n0 + 1, 1, none⟩ = _ := hw4.one_cell rfl
      have d5 : w4.cell? ⟨n0 + 1, 2, none⟩ = _ := hw4.one_cell rfl
      have f0 := heap_free hw4.heap 0
      have f1 := heap_free hw4.heap 1
      have f2 := heap_free hw4.heap 2
      clear hb4 hwr
      by_cases hc : y.till - m < 0
      · go_wp2
        go_roundw
        case measure => simp [intOf]; omega
        case rel => exact ⟨k + 1, _, _, _, _, _, by omega, by omega, by go_num, ((hw4.set _).set _).set _, ⟨fun j z hj hz => by
          by_cases e : j = k
          · subst e; rw [HY.out] at hz; cases hz; omega
          · have := HN.out j z (by omega) hz; omega⟩, ⟨y, List.mem_of_getElem? HY.out, rfl⟩⟩
      · go_wp2
        go_roundw
        case measure => simp [intOf]; omega
        case rel => exact ⟨k + 1, _, _, _, _, _, by omega, by omega, by go_num, hw4, ⟨fun j z hj hz => by
          by_cases e : j = k
          · subst e; rw [HY.out] at hz; cases hz; omega
          · exact HN.out j z (by omega) hz⟩, ⟨HEX.out⟩⟩
    · obtain rfl : k = xs.length := by omega
      have d3 : wr.cell? ⟨n0 + 1, 0, none⟩ = _ := hwr.one_cell rfl
      have d4 : wr.cell? ⟨n0 + 1, 1, none⟩ = _ := hwr.one_cell rfl
      have d5 : wr.cell? ⟨n0 + 1, 2, none⟩ = _ := hwr.one_cell rfl
      have g3 : wr.cell? ⟨n0, 0, none⟩ = _ := hwr.drop.one_cell rfl
      have g4 : wr.cell? ⟨n0, 1, none⟩ = _ := hwr.drop.one_cell rfl
      have g5 : wr.cell? ⟨n0, 2, none⟩ = _ := hwr.drop.one_cell rfl
      have f0 := heap_free hwr.drop.heap 0
      have f1 := heap_free hwr.drop.heap 1
      have f2 := heap_free hwr.drop.heap 2
      go_wp2
      have hend := (((hwr.swap).set (o := 0) (.string nm)).set (o := 1) (.slice A1 l1 c1)).set (o := 2) (.int .i64 m)
      refine bodyPost_ret (v := .agg #[.string nm, .slice A1 l1 c1, .int .i64 m]) (results_cell_row (p := 4) (ty := 59) (by kernel_rfl) _ _ n0 59 _ (0, 0) _ rfl (show _ = some (Obj.cells #[.string nm, .slice A1 l1 c1, .int .i64 m] _ _) from hend.heap) Try.underlying59 rfl (by kernel_rfl)) rfl ⟨nm, _, _, _, m, rfl, hend.drop.drop, fun x hx => ?_, hex.out⟩
      obtain ⟨j, hj⟩ := List.getElem?_of_mem hx
      exact hn.out j x (List.getElem?_eq_some_iff.1 hj).1 hj
end
end Go.Proofs.Ythofnhmehpdnbaa
