/- Walks: the reference's New, Used, List, Get. -/
import Derived.Test.YthofnhmehpdnbaaR1
import Derived.Deep.RegionHeld3
set_option linter.unusedVariables false
namespace Go.Proofs.Ythofnhmehpdnbaa
open Go.RowKit
set_option maxHeartbeats 1000000
section
variable {σ : World} {Hs : List Hp} {H M N : Hp}
theorem rnew_any (n : Int) (w : World) (hw : Sat σ w Hs) (h0 : 0 ≤ n) (h1 : n ≤ 4096) :
    Calls Try.prog 16 #[.int .i64 n] w fun e w' => ∃ b M, e = .returned (.tuple #[.pointer (some ⟨b, 0, none⟩), .int .i64 0]) ∧ Sat σ w' (M :: Hs) ∧ RTab M b (List.replicate n.toNat ⟨⟨#[]⟩, [], 0⟩) := by
  obtain ⟨k, rfl⟩ := Int.eq_ofNat_of_zero_le h0
  go_enter Try.func16, Try.ntmps16
  go_wp2_with (refine wpList_mk hw rfl (.tmp 10) (.tmp 10) 64 68 (.agg #[.string ⟨#[]⟩, .slice none 0 0, .int .i64 0]) 3 48 rfl Try.underlying64 (by kernel_rfl) .i64 .i64 k rfl rfl (by omega) (by omega) ?_; intro b1 w1 N hb1 hw1 ho1 hN1)
  go_ret2
  have hb2 := hw1.alloc (.cells #[.slice (some ⟨b1, 0, none⟩) k k] 66)
  have hlt : ∀ j o, N j = some o → j < w1.heap.size := fun j o e => hw1.lt (H := N) (by simp) e
  rw [Int.toNat_natCast]
  refine ⟨w1.heap.size, _, rfl, hb2.join, ?_⟩
  have hd := hb2.dj2
  refine ⟨.slice (some ⟨b1, 0, none⟩) k k, Hp.emp, _, Hp.le_or_left _ _ _ _ (Hp.one_self _ _), by rw [List.length_replicate]; exact ho1.le (Hp.le_or_right hd), reps_made (d := kEnt) (kEnt_mk (x := ⟨⟨#[]⟩, [], 0⟩) (v := .slice none 0 0) Kd.IsSl.nil) (by decide) k, fun _ _ e => (by cases e), rfl, fun g hg => ⟨rfl, ?_⟩, ?_, by rw [List.length_replicate]; omega, ?_⟩
  · obtain rfl : b1 = g := by simpa [Value.ownBlock] using hg
    rcases ho1.out.2 with ⟨e, _⟩ | ⟨g', cap, cur, e, hg', _⟩
    · cases e
    · injection e with e1
      injection e1 with e1
      injection e1 with e1
      subst e1
      have := hlt _ _ hg'
      omega
  · intro x hx
    obtain ⟨_, rfl⟩ := List.mem_replicate.1 hx
    exact ⟨by decide, by decide⟩
  · intro x hx
    obtain ⟨_, rfl⟩ := List.mem_replicate.1 hx
    exact Nat.zero_le _
theorem rnew_bad (n : Int) (w : World) (hw : Sat σ w Hs) (h : n < 0 ∨ 4096 < n) :
    Calls Try.prog 16 #[.int .i64 n] w fun e w' => e = .returned (.tuple #[.pointer none, .int .i64 2]) ∧ Sat σ w' Hs := by
  rcases h with h | h
  · go_enter Try.func16, Try.ntmps16
    go_wp2
    go_ret2
    exact ⟨rfl, hw⟩
  · have h' : ¬ n < 0 := by omega
    go_enter Try.func16, Try.ntmps16
    go_wp2
    go_ret2
    exact ⟨rfl, hw⟩
set_option maxRecDepth 100000 in
theorem rused_any (b : Nat) (xs : List Ent) (now : Int) (w : World) (hw : Sat σ w (M :: Hs)) (hT : RTab M b xs) :
    Calls Try.prog 21 #[.pointer (some ⟨b, 0, none⟩), .int .i64 now] w fun e w' => e = .returned (.int .i64 (if momB now then (usedL xs now : Int) else 0)) ∧ Sat σ w' (M :: Hs) := by
  obtain ⟨A, c, hb, hs⟩ := hT.sl
  have hlen := hT.facts.2.1
  have hcap := hs.cap
  have HB := Lib.hid hb
  have cb0 : w.cell? ⟨b, 0, none⟩ = some (.slice A xs.length c) := hw.m_cell hb rfl
  clear hb hT
  cases hm : momB now
  · go_enter Try.func21, Try.ntmps21
    go_wp2
    go_loopw [6, 5] (fun i n wr => i = .int .i64 0 ∧ n = .int .i64 0 ∧ Sat σ wr (M :: Hs)) (fun i _ _ => 0)
    case atStart => exact ⟨rfl, rfl, hw⟩
    case round =>
      obtain ⟨rfl, rfl, hwr⟩ := hrel
      clear cb0 hw
      have cb0 : wr.cell? ⟨b, 0, none⟩ = some (.slice A xs.length c) := hwr.m_cell HB.out rfl
      by_cases h0 : 0 < xs.length
      · go_wp2_with (go_at_call 35; refine (when_any _ _).mono ?_; rintro e w3 ⟨rfl, rfl⟩)
        go_ret
        exact ⟨by simp, hwr⟩
      · go_wp2_with (go_at_call 35; refine (when_any _ _).mono ?_; rintro e w3 ⟨rfl, rfl⟩)
        go_ret
        exact ⟨by simp, hwr⟩
  · go_enter Try.func21, Try.ntmps21
    go_wp2
    go_loopw [6, 5] (fun i n wr => ∃ k : Nat, k ≤ xs.length ∧ i = .int .i64 k ∧ n = .int .i64 (usedL (xs.take k) now : Int) ∧ Sat σ wr (M :: Hs)) (fun i _ _ => xs.length - (intOf i).toNat)
    case atStart => exact ⟨0, by omega, rfl, rfl, hw⟩
    case round =>
      obtain ⟨k, hk, rfl, rfl, hwr⟩ := hrel
      clear cb0 hw
      have cb0 : wr.cell? ⟨b, 0, none⟩ = some (.slice A xs.length c) := hwr.m_cell HB.out rfl
      by_cases hlt : k < xs.length
      · obtain ⟨gb, off, c', Au, cu, x, hx, hv, e0, e1, e2, hu⟩ := ent_get hs hlt
        injection hv with hv1 hv2 hv3
        subst hv1; subst hv3; clear hv2
        have c0 := hwr.cellAt List.mem_cons_self e0
        have c2 := hwr.cellAt List.mem_cons_self e2
        have hki : (k : Int) < xs.length := by omega
        have hsn := usedL_take xs now k x hx
        have hul := usedL_le (xs.take k) now
        have hul2 : (xs.take k).length ≤ k := List.length_take_le _ _
        have HSN := Lib.hid hsn
        clear hsn hx e0 e1 e2 hu hs
        generalize usedL (xs.take k) now = q at *
        cases hp : x.name.toList.isEmpty
        · by_cases ht : now < x.till
          · have HP : Hid (holdsB x.name x.till now = true) := Lib.hid (by simp [holdsB, hp, ht])
            go_wp2_with (go_at_call 35; refine (when_any _ _).mono ?_; rintro e w3 ⟨rfl, rfl⟩)
            exact ⟨⟨k + 1, by omega, by go_num, by rw [HSN.out, HP.out]; simp, hwr⟩, by simp [intOf]; omega⟩
          · have HP : Hid (holdsB x.name x.till now = false) := Lib.hid (by simp [holdsB, hp]; omega)
            go_wp2_with (go_at_call 35; refine (when_any _ _).mono ?_; rintro e w3 ⟨rfl, rfl⟩)
            exact ⟨⟨k + 1, by omega, by go_num, by rw [HSN.out, HP.out]; simp, hwr⟩, by simp [intOf]; omega⟩
        · have HP : Hid (holdsB x.name x.till now = false) := Lib.hid (by simp [holdsB, hp])
          go_wp2_with (go_at_call 35; refine (when_any _ _).mono ?_; rintro e w3 ⟨rfl, rfl⟩)
          exact ⟨⟨k + 1, by omega, by go_num, by rw [HSN.out, HP.out]; simp, hwr⟩, by simp [intOf]; omega⟩
      · obtain rfl : k = xs.length := by omega
        go_wp2
        go_ret
        exact ⟨by simp, hwr⟩
set_option maxRecDepth 100000 in
theorem rlist_any (b : Nat) (xs : List Ent) (w : World) (hw : Sat σ w (M :: Hs)) (hT : RTab M b xs) :
    Calls Try.prog 23 #[.pointer (some ⟨b, 0, none⟩)] w fun e w' => ∃ A c N, e = .returned (.slice A xs.length c) ∧ Sat σ w' (N :: M :: Hs) ∧ Own N 9 1 (.slice A xs.length c) xs.length (xs.map fun x => Value.string x.name) := by
  obtain ⟨A, c, hb, hs⟩ := hT.sl
  have hlen := hT.facts.2.1
  have hcap := hs.cap
  have HB := Lib.hid hb
  have hbl : b < w.heap.size := hw.blk_lt List.mem_cons_self hb
  clear hT
  go_enter Try.func23, Try.ntmps23
  go_wp2
  have hw1 := hw.alloc (.cells #[] 9)
  generalize hW : World.alloc w _ = w1 at *
  clear hW hw hb
  generalize w.heap.size = n0 at *
  go_loopw [4, 3] (fun i n wr => ∃ (k : Nat) (A1 : Option Addr) (c1 : Nat) (N : Hp), k ≤ xs.length ∧ i = .int .i64 k ∧ n = .slice A1 k c1 ∧ Sat σ wr (N :: M :: Hs) ∧ Own N 9 1 (.slice A1 k c1) k ((xs.take k).map fun x => Value.string x.name)) (fun i _ _ => xs.length - (intOf i).toNat)
  case atStart => exact ⟨0, _, _, _, by omega, rfl, rfl, hw1, own_lit0 _ _ _⟩
  case round =>
    obtain ⟨k, A1, c1', N, hk, rfl, rfl, hwr, ho⟩ := hrel
    have cb0 : wr.cell? ⟨b, 0, none⟩ = some (.slice A xs.length c) := hwr.drop.m_cell HB.out rfl
    by_cases hlt : k < xs.length
    · obtain ⟨gb, off, c', Au, cu, x, hx, hv, e0, e1, e2, hu⟩ := ent_get hs hlt
      injection hv with hv1 hv2 hv3
      subst hv1; subst hv3; clear hv2
      have c0 := hwr.drop.cellAt List.mem_cons_self e0
      have hki : (k : Int) < xs.length := by omega
      have HX := Lib.hid hx
      clear hx hs e0 e1 e2 hu
      go_wp2_with (at_builtin; refine wpList_app (hwr.alloc' _) rfl (.tmp 15) (.tmp 24) 37 37 9 (.string ⟨#[]⟩) 1 16 rfl Try.underlying37 (by kernel_rfl) rfl (by decide) _ _ k 1 _ [.string x.name] rfl rfl ho (src_new Try.underlying37 _ [.string x.name] _ 1 1 1 (by simp) rfl rfl) (by omega) ?_; intro A2 c2 w2 N2 hw2 ho2 _ _)
      go_roundw
      case measure => simp [intOf]; omega
      case rel => exact ⟨k + 1, A2, c2, N2, by omega, by go_num, rfl, hw2, by rw [List.take_add_one, HX.out, List.map_append]; exact ho2⟩
    · obtain rfl : k = xs.length := by omega
      go_wp2
      go_ret
      exact ⟨A1, c1', N, rfl, hwr, by simpa using ho⟩
end
end Go.Proofs.Ythofnhmehpdnbaa
