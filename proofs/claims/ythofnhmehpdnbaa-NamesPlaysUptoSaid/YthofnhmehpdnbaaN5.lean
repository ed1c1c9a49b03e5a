/- Walks: Used, List, New, Clone of a table; the least of its times. -/
import Derived.Test.YthofnhmehpdnbaaN4
set_option linter.unusedVariables false
namespace Go.Proofs.Ythofnhmehpdnbaa
open Go.RowKit
set_option maxHeartbeats 400000
section
variable {σ : World} {Hs : List Hp} {H M : Hp}
/-- What an element of a slice of entries is. -/
theorem ent_get {v : Value} {xs : List Ent} (hs : kEnt.IsSl H v xs) {k : Nat} (hk : k < xs.length) : ∃ b off c Au cu x, xs[k]? = some x ∧ v = .slice (some ⟨b, off, none⟩) xs.length c ∧ Hp.cell H b (off + k * 3) = some (.string x.name) ∧ Hp.cell H b (off + k * 3 + 1) = some (.slice Au x.addrs.length cu) ∧ Hp.cell H b (off + k * 3 + 2) = some (.int .i64 x.till) ∧ kAd.IsSl H (.slice Au x.addrs.length cu) x.addrs := by
  obtain ⟨A, c, rfl, _⟩ := hs.form
  obtain ⟨b, off, cs, rfl, hcs, hcell⟩ := hs.get k _ (List.getElem?_eq_getElem hk)
  obtain ⟨u, rfl, hu⟩ := kEnt_cells hcs
  obtain ⟨Au, cu, rfl, _⟩ := hu.form
  exact ⟨b, off, c, Au, cu, _, List.getElem?_eq_getElem hk, rfl, hcell 0 _ rfl, hcell 1 _ rfl, hcell 2 _ rfl, hu⟩
def usedL (xs : List Ent) (now : Int) : Nat := (xs.filter fun x => holdsB x.name x.till now).length
theorem usedL_take (xs : List Ent) (now : Int) (k : Nat) (x : Ent) (hx : xs[k]? = some x) : usedL (xs.take (k + 1)) now = usedL (xs.take k) now + (if holdsB x.name x.till now then 1 else 0) := by
  obtain ⟨hk, rfl⟩ := List.getElem?_eq_some_iff.1 hx
  rw [List.take_succ_eq_append_getElem hk]
  unfold usedL
  rw [List.filter_append, List.length_append]
  by_cases h : holdsB xs[k].name xs[k].till now <;> simp [h]
theorem usedL_le (xs : List Ent) (now : Int) : usedL xs now ≤ xs.length := List.length_filter_le _ _
theorem used_any (b : Nat) (xs : List Ent) (now : Int) (w : World) (hw : Sat σ w (M :: Hs)) (hT : TabRep M b xs) :
    Calls Try.prog 15 #[.pointer (some ⟨b, 0, none⟩), .int .i64 now] w fun e w' => e = .returned (.int .i64 (if momB now then (usedL xs now : Int) else 0)) ∧ Sat σ w' (M :: Hs) := by
  obtain ⟨v, Hi, cells, hb, hown, hreps, hle, hib, hig, htill, hlen, hal⟩ := hT.out
  have hs : kEnt.IsSl M v xs := hown.isSl (Kd.reps_mono hle hreps) rfl (Hp.le_refl _)
  obtain ⟨A, c, rfl, hc1, hc2, hrow⟩ := hs.form
  have HB := Lib.hid hb
  have cb1 : w.cell? ⟨b, 1, none⟩ = some (.bool true) := hw.m_cell hb rfl
  have cb0 : w.cell? ⟨b, 0, none⟩ = some (.slice A xs.length c) := hw.m_cell hb rfl
  clear hrow hig hib hreps hown hle hb hal hT htill
  cases hm : momB now
  · go_enter Try.func15, Try.ntmps15
    go_wp2_with (first | (go_at_call 24; refine (is_any b true _ (by first | assumption)).mono ?_; rintro e w3 ⟨rfl, rfl⟩) | (go_at_call 25; refine (moment_any _ _).mono ?_; rintro e w3 ⟨rfl, rfl⟩))
    go_ret
    exact ⟨by simp, hw⟩
  · go_enter Try.func15, Try.ntmps15
    go_wp2_with (first | (go_at_call 24; refine (is_any b true _ (by first | assumption)).mono ?_; rintro e w3 ⟨rfl, rfl⟩) | (go_at_call 25; refine (moment_any _ _).mono ?_; rintro e w3 ⟨rfl, rfl⟩))
    go_loopw [19, 5, 7] (fun i n _ wr => ∃ k : Nat, k ≤ xs.length ∧ i = .int .i64 k ∧ n = .int .i64 (usedL (xs.take k) now : Int) ∧ Sat σ wr (M :: Hs)) (fun i _ _ _ => xs.length - (intOf i).toNat)
    case atStart => exact ⟨0, by omega, rfl, rfl, hw⟩
    case round =>
      obtain ⟨k, hk, rfl, rfl, hwr⟩ := hrel
      clear cb1 cb0
      by_cases hlt : k < xs.length
      · obtain ⟨gb, off, c', Au, cu, x, hx, hv, e0, e1, e2, hu⟩ := ent_get hs hlt
        injection hv with hv1 hv2 hv3
        subst hv1; subst hv3
        have c0 := hwr.cellAt List.mem_cons_self e0
        have c1 := hwr.cellAt List.mem_cons_self e1
        have c2 := hwr.cellAt List.mem_cons_self e2
        have ho := hu.oneCell
        have hsn := usedL_take xs now k x hx
        have hul := usedL_le (xs.take k) now
        have hul2 : (xs.take k).length ≤ k := List.length_take_le _ _
        have HSN := Lib.hid hsn
        have hgl : gb < wr.heap.size := World.block_lt_of_cell? wr _ c0
        clear hsn hx hs e0 e1 e2 HB hu
        generalize usedL (xs.take k) now = q at *
        cases hh : holdsB x.name x.till now
        · have HH := Lib.hid hh
          go_wp2_with (go_at_call 29; refine (holds_any _ _ _ _ _ ho).mono ?_; rintro e w' ⟨rfl, hb1⟩)
          go_roundw
          case measure => simp [intOf]; omega
          case rel => exact ⟨k + 1, by omega, by go_num, by rw [HSN.out, HH.out]; simp, ((hwr.alloc' _).below hb1)⟩
        · have HH := Lib.hid hh
          go_wp2_with (go_at_call 29; refine (holds_any _ _ _ _ _ ho).mono ?_; rintro e w' ⟨rfl, hb1⟩)
          go_roundw
          case measure => simp [intOf]; omega
          case rel => exact ⟨k + 1, by omega, by go_num, by rw [HSN.out, HH.out]; simp, ((hwr.alloc' _).below hb1)⟩
      · obtain rfl : k = xs.length := by omega
        go_wp2
        go_ret
        exact ⟨by simp, hwr⟩
/-- The names in the slots. -/
theorem list_any (b : Nat) (xs : List Ent) (w : World) (hw : Sat σ w (M :: Hs)) (hT : TabRep M b xs) :
    Calls Try.prog 14 #[.pointer (some ⟨b, 0, none⟩)] w fun e w' => ∃ A c N, e = .returned (.slice A xs.length c) ∧ Sat σ w' (N :: M :: Hs) ∧ Own N 9 1 (.slice A xs.length c) xs.length (xs.map fun x => Value.string x.name) := by
  obtain ⟨v, Hi, cells, hb, hown, hreps, hle, hib, hig, htill, hlen, hal⟩ := hT.out
  have hs : kEnt.IsSl M v xs := hown.isSl (Kd.reps_mono hle hreps) rfl (Hp.le_refl _)
  obtain ⟨A, c, rfl, hc1, hc2, hrow⟩ := hs.form
  have cb1 : w.cell? ⟨b, 1, none⟩ = some (.bool true) := hw.m_cell hb rfl
  have cb0 : w.cell? ⟨b, 0, none⟩ = some (.slice A xs.length c) := hw.m_cell hb rfl
  clear hrow hig hib hreps hown hle hb hal hT htill
  go_enter Try.func14, Try.ntmps14
  go_wp2_with (first | (go_at_call 24; refine (is_any b true _ (by first | assumption)).mono ?_; rintro e w3 ⟨rfl, rfl⟩))
  go_loopw [13, 3, 5] (fun i n _ wr => ∃ (k : Nat) (A1 : Option Addr) (c1 : Nat) (N : Hp), k ≤ xs.length ∧ i = .int .i64 k ∧ n = .slice A1 k c1 ∧ Sat σ wr (N :: M :: Hs) ∧ Own N 9 1 (.slice A1 k c1) k ((xs.take k).map fun x => Value.string x.name)) (fun i _ _ _ => xs.length - (intOf i).toNat)
  case atStart => exact ⟨0, none, 0, Hp.emp, by omega, rfl, rfl, hw.emp, Own.nil _ _ _⟩
  case round =>
    obtain ⟨k, A1, c1', N, hk, rfl, rfl, hwr, ho⟩ := hrel
    clear cb1 cb0
    by_cases hlt : k < xs.length
    · obtain ⟨gb, off, c', Au, cu, x, hx, hv, e0, e1, e2, hu⟩ := ent_get hs hlt
      injection hv with hv1 hv2 hv3
      subst hv1; subst hv3
      have c0 := hwr.drop.cellAt List.mem_cons_self e0
      have c1 := hwr.drop.cellAt List.mem_cons_self e1
      have c2 := hwr.drop.cellAt List.mem_cons_self e2
      have hgl : gb < wr.heap.size := World.block_lt_of_cell? wr _ c0
      have HX := Lib.hid hx
      clear hx hs e0 e1 e2 hu
      go_wp2_with (at_builtin; refine wpList_app ((hwr.alloc' _).alloc' _) rfl (.tmp 17) (.tmp 20) 37 37 9 (.string ⟨#[]⟩) 1 16 rfl Try.underlying37 (by kernel_rfl) rfl (by decide) _ _ k 1 _ [.string x.name] rfl rfl ho (src_new Try.underlying37 _ [.string x.name] _ 1 1 1 (by simp) rfl rfl) (by omega) ?_; intro A2 c2 w2 N2 hw2 ho2 _ _)
      go_roundw
      case measure => simp [intOf]; omega
      case rel => exact ⟨k + 1, A2, c2, N2, by omega, by go_num, rfl, hw2, by rw [List.take_add_one, HX.out, List.map_append]; exact ho2⟩
    · obtain rfl : k = xs.length := by omega
      go_wp2
      go_ret
      exact ⟨A1, c1', N, rfl, hwr, by simpa using ho⟩
end
end Go.Proofs.Ythofnhmehpdnbaa
