/- Walk of the reference: place. -/
import Derived.Test.YtcndkpmeakaapaaDoorFvZ
import Derived.Deep.MidRow
set_option linter.unusedVariables false
set_option linter.unusedSimpArgs false
namespace Go.Proofs.YtcndkpmeakaapaaDoor
open Go Go.RowKit
def RPlaceP (σ : World) (Hs : List Hp) (r : Array Value × Int × Option (Ch × Int)) (e : Ending) (w' : World) : Prop := e = .returned (.tuple #[.agg r.1, .int .i64 r.2.1, .agg (BE r.2.2)]) ∧ Sat σ w' Hs
theorem RPlaceP.mk {σ : World} {Hs : List Hp} {r : Array Value × Int × Option (Ch × Int)} {e : Ending} {w' : World} (h1 : e = .returned (.tuple #[.agg r.1, .int .i64 r.2.1, .agg (BE r.2.2)])) (h2 : Sat σ w' Hs) : RPlaceP σ Hs r e w' := ⟨h1, h2⟩
theorem host_info : (Tryd.prog.info? 27).map (·.size) = some 5 := by kernel_rfl
theorem host_row (a0 a1 a2 a3 : Int) (s : ByteArray) : (Tryd.prog.info? 27).map (·.size) = some (#[.int .u8 a0, .int .u8 a1, .int .u8 a2, .int .u8 a3, .string s] : Array Value).size ∧ (#[.int .u8 0, .int .u8 0, .int .u8 0, .int .u8 0, .string ⟨#[]⟩] : Array Value).size = (#[.int .u8 a0, .int .u8 a1, .int .u8 a2, .int .u8 a3, .string s] : Array Value).size ∧ (#[.int .u8 a0, .int .u8 a1, .int .u8 a2, .int .u8 a3, .string s] : Array Value).all (·.oneCell') = true := ⟨host_info, rfl, by simp [Value.oneCell']⟩
theorem BE_linfo (e : Option (Ch × Int)) : (Tryd.prog.info? 41).map (·.size) = some (BE e).toList.length := BE_info
theorem txR_len {bs : List Int} (hbs : ∀ x ∈ bs, 0 ≤ x ∧ x < 256) {most : Int} {k : Nat} {x : Ch × Int} (h : (txR bs most k).2.2 = some x) : x.1.length = 1 := by
  by_cases h0 : bs.length ≤ k
  · rw [txR_none h0] at h; injection h with h; subst h; rfl
  · obtain ⟨y, hy⟩ : ∃ y, bs[k]? = some y := ⟨_, List.getElem?_eq_getElem (by omega)⟩
    have hr := hbs y (List.mem_of_getElem? hy)
    by_cases h1 : y < 1 ∨ most < y
    · rw [txR_word hy h1] at h; injection h with h; subst h; rfl
    · obtain ⟨n, rfl⟩ : ∃ n : Nat, y = n := ⟨y.toNat, by omega⟩
      by_cases h2 : bs.length < k + 1 + n
      · rw [txR_short hy (by omega) (by omega) h2] at h; injection h with h; subst h; rfl
      · rw [txR_ok hy (by omega) (by omega) (by omega)] at h; cases h
section
variable {σ w w' : World} {Hs : List Hp} {H H1 H2 M N Y R E X HB : Hp}
set_option maxHeartbeats 4000000
-- both rows are stored: the host's HV of slot TVH, the fault's BV of slot TVB; HW2 : Sat σ w2 (host :: bad :: Hs)
set_option maxRecDepth 10000 in
theorem rplace_any (bv : Value) (bs : List Int) (hbs : ∀ x ∈ bs, 0 ≤ x ∧ x < 256) (k : Nat) (hk : k ≤ 1000) (w : World) (hw : Sat σ w Hs) (hB : HB ∈ Hs) (hb : kB.IsSl HB bv bs) :
    Calls Tryd.prog 51 #[bv, .int .i64 k] w (RPlaceP σ Hs (plR bs k)) := by
  obtain ⟨A, c, rfl, hc1, hc2, _⟩ := id hb.form
  have HSH := Lib.hid (fun w' Hs' (h : Sat σ w' Hs') => rshort_any _ bs w' h hb)
  have hwa := (hw.alloc (.cells #[.int .u8 0, .int .u8 0, .int .u8 0, .int .u8 0, .string ⟨#[]⟩] 27)).alloc (.cells #[.int .i64 0, .string ⟨#[]⟩, .string ⟨#[]⟩, .string ⟨#[]⟩, .string ⟨#[]⟩, .int .i64 0, .int .i64 0, .int .i64 0, .int .i64 0, .int .i64 0] 41)
  rw [World.size_alloc] at hwa
  by_cases h0 : bs.length ≤ k
  · have HR := Lib.hid (plR_none h0)
    have hi : (bs.length : Int) ≤ k := by omega
    clear h0 hb
    go_enter Tryd.func51, Tryd.ntmps51
    go_wp2_with fail
    refine (HSH.out _ _ hwa).mono ?_
    rintro e w2 ⟨rfl, hw2⟩
    generalize w.heap.size = n4 at *
    have HW2 := Lib.hid hw2.swap
    clear hw2
    generalize n4 + 1 = n6 at *
    have HBO := Lib.hid (BE_row (some ([(fiveB, (bs.length : Int))], 6)))
    generalize hBE : BE (some ([(fiveB, (bs.length : Int))], 6)) = B at *
    have HBE := Lib.hid hBE
    clear hBE
    have HW3 := Lib.hid (HW2.out.setRow #[.int .u8 0, .int .u8 0, .int .u8 0, .int .u8 0, .string ⟨#[]⟩]).swap
    go_wp2_with (first
      | (with_reducible show wpList _ _ _ [{ dst := none, op := _, type := _, pos := _, after := _, guard := _ }, _, _] _ _; go_must (refine wpList_store_row rfl 27 (.tmp 4) (.tmp 15) rfl n4 #[.int .u8 0, .int .u8 0, .int .u8 0, .int .u8 0, .string ⟨#[]⟩] rfl rfl 27 _ HW2.out.heap (host_row 0 0 0 0 ⟨#[]⟩).1 (host_row 0 0 0 0 ⟨#[]⟩).2.1 (host_row 0 0 0 0 ⟨#[]⟩).2.2 ?_))
      | (with_reducible show wpList _ _ _ [{ dst := none, op := _, type := _, pos := _, after := _, guard := _ }] _ _; go_must (refine wpList_store_row rfl 41 (.tmp 6) (.tmp 17) rfl n6 B rfl rfl 41 _ HW3.out.heap HBO.out.1 HBO.out.2.1 HBO.out.2.2 ?_)))
    have hfin := HW3.out.setRow B
    (try simp only [Exit.inBlock, Exit.then])
    refine bodyPost_ret (results_cell_tmp_cell rfl _ _ n4 n6 #[.int .u8 0, .int .u8 0, .int .u8 0, .int .u8 0, .string ⟨#[]⟩] B _ _ rfl hfin.swap.heap Tryd.underlying27 rfl (host_row 0 0 0 0 ⟨#[]⟩).1 rfl hfin.heap Tryd.underlying41 rfl HBO.out.1) rfl ?_
    rw [HR.out]
    exact RPlaceP.mk (by show _ = Ending.returned (.tuple #[.agg #[.int .u8 0, .int .u8 0, .int .u8 0, .int .u8 0, .string ⟨#[]⟩], .int .i64 0, .agg (BE (some ([(fiveB, (bs.length : Int))], 6)))]); rw [HBE.out]; rfl) (hfin.drop.drop)
  · have hi : ¬ (bs.length : Int) ≤ k := by omega
    have hki : (k : Int) < bs.length := by omega
    have hk0 : (0 : Int) ≤ k := by omega
    obtain ⟨x, hx⟩ : ∃ x, bs[k]? = some x := ⟨_, List.getElem?_eq_getElem (by omega)⟩
    obtain ⟨b, off, cs, rfl, hcs, hcell⟩ := hb.get k x hx
    obtain rfl : cs = [.int .u8 x] := hcs
    have hc0 := hwa.cellAt (List.mem_cons_of_mem _ (List.mem_cons_of_mem _ hB)) (hcell 0 _ rfl)
    simp only [show kB.sz = 1 from rfl, Nat.mul_one, Nat.add_zero] at hc0
    by_cases hx1 : x = 1
    · subst hx1
      have m5 : IntKind.i64.wrap ((k : Int) + 5) = (k : Int) + 5 := IntWalk.i64_in _ (by omega)
      by_cases hsh : bs.length < k + 5
      · have HR := Lib.hid (plR_ashort hx hsh)
        have hshi : (bs.length : Int) < (k : Int) + 5 := by omega
        clear h0 hb hx hcell hsh
        go_enter Tryd.func51, Tryd.ntmps51
        go_wp2_with fail
        refine (HSH.out _ _ hwa).mono ?_
        rintro e w2 ⟨rfl, hw2⟩
        generalize w.heap.size = n4 at *
        have HW2 := Lib.hid hw2.swap
        clear hw2
        generalize n4 + 1 = n6 at *
        have HBO := Lib.hid (BE_row (some ([(fiveB, (bs.length : Int))], 6)))
        generalize hBE : BE (some ([(fiveB, (bs.length : Int))], 6)) = B at *
        have HBE := Lib.hid hBE
        clear hBE
        have HW3 := Lib.hid (HW2.out.setRow #[.int .u8 0, .int .u8 0, .int .u8 0, .int .u8 0, .string ⟨#[]⟩]).swap
        go_wp2_with (first
          | (with_reducible show wpList _ _ _ [{ dst := none, op := _, type := _, pos := _, after := _, guard := _ }, _, _] _ _; go_must (refine wpList_store_row rfl 27 (.tmp 4) (.tmp 29) rfl n4 #[.int .u8 0, .int .u8 0, .int .u8 0, .int .u8 0, .string ⟨#[]⟩] rfl rfl 27 _ HW2.out.heap (host_row 0 0 0 0 ⟨#[]⟩).1 (host_row 0 0 0 0 ⟨#[]⟩).2.1 (host_row 0 0 0 0 ⟨#[]⟩).2.2 ?_))
          | (with_reducible show wpList _ _ _ [{ dst := none, op := _, type := _, pos := _, after := _, guard := _ }] _ _; go_must (refine wpList_store_row rfl 41 (.tmp 6) (.tmp 31) rfl n6 B rfl rfl 41 _ HW3.out.heap HBO.out.1 HBO.out.2.1 HBO.out.2.2 ?_)))
        have hfin := HW3.out.setRow B
        (try simp only [Exit.inBlock, Exit.then])
        refine bodyPost_ret (results_cell_tmp_cell rfl _ _ n4 n6 #[.int .u8 0, .int .u8 0, .int .u8 0, .int .u8 0, .string ⟨#[]⟩] B _ _ rfl hfin.swap.heap Tryd.underlying27 rfl (host_row 0 0 0 0 ⟨#[]⟩).1 rfl hfin.heap Tryd.underlying41 rfl HBO.out.1) rfl ?_
        rw [HR.out]
        exact RPlaceP.mk (by show _ = Ending.returned (.tuple #[.agg #[.int .u8 0, .int .u8 0, .int .u8 0, .int .u8 0, .string ⟨#[]⟩], .int .i64 0, .agg (BE (some ([(fiveB, (bs.length : Int))], 6)))]); rw [HBE.out]; rfl) (hfin.drop.drop)
      · have g : ∀ i, i ≤ 4 → ∃ y, bs[k + i]? = some y ∧ Hp.cell HB b (off + (k + i)) = some (.int .u8 y) := fun i hi => by
          obtain ⟨y, hy⟩ : ∃ y, bs[k + i]? = some y := ⟨_, List.getElem?_eq_getElem (by omega)⟩
          obtain ⟨b', off', cs, e, hcs, hcl⟩ := hb.get (k + i) y hy
          injection e with e; injection e with z1 z2 _; subst z1; subst z2
          obtain rfl : cs = [.int .u8 y] := hcs
          have := hcl 0 _ rfl
          simp only [show kB.sz = 1 from rfl, Nat.mul_one, Nat.add_zero] at this
          exact ⟨y, hy, this⟩
        obtain ⟨x1, g1, c1⟩ := g 1 (by omega)
        obtain ⟨x2, g2, c2⟩ := g 2 (by omega)
        obtain ⟨x3, g3, c3⟩ := g 3 (by omega)
        obtain ⟨x4, g4, c4⟩ := g 4 (by omega)
        have HR := Lib.hid (plR_addr hx g1 g2 g3 g4)
        have hshi : ¬ (bs.length : Int) < (k : Int) + 5 := by omega
        have HSE : Hid (∀ W Ls, Sat σ W Ls → HB ∈ Ls → ((W.cell? ⟨b, off + (k + 1), none⟩ = some (.int .u8 x1) ∧ W.cell? ⟨b, off + (k + 2), none⟩ = some (.int .u8 x2)) ∧ W.cell? ⟨b, off + (k + 3), none⟩ = some (.int .u8 x3) ∧ W.cell? ⟨b, off + (k + 4), none⟩ = some (.int .u8 x4))) := Lib.hid (fun W Ls h hk => ⟨⟨h.cellAt hk c1, h.cellAt hk c2⟩, h.cellAt hk c3, h.cellAt hk c4⟩)
        have m1 : IntKind.i64.wrap ((k : Int) + 1) = (k : Int) + 1 := IntWalk.i64_in _ (by omega)
        have m2 : IntKind.i64.wrap ((k : Int) + 2) = (k : Int) + 2 := IntWalk.i64_in _ (by omega)
        have m3 : IntKind.i64.wrap ((k : Int) + 3) = (k : Int) + 3 := IntWalk.i64_in _ (by omega)
        have m4 : IntKind.i64.wrap ((k : Int) + 4) = (k : Int) + 4 := IntWalk.i64_in _ (by omega)
        have p1 : (0 : Int) ≤ (k : Int) + 1 := by omega
        have p2 : (0 : Int) ≤ (k : Int) + 2 := by omega
        have p3 : (0 : Int) ≤ (k : Int) + 3 := by omega
        have p4 : (0 : Int) ≤ (k : Int) + 4 := by omega
        have t1 : ((k : Int) + 1).toNat = k + 1 := by omega
        have t2 : ((k : Int) + 2).toNat = k + 2 := by omega
        have t3 : ((k : Int) + 3).toNat = k + 3 := by omega
        have t4 : ((k : Int) + 4).toNat = k + 4 := by omega
        have l1 : (k : Int) + 1 < bs.length := by omega
        have l2 : (k : Int) + 2 < bs.length := by omega
        have l3 : (k : Int) + 3 < bs.length := by omega
        have l4 : (k : Int) + 4 < bs.length := by omega
        clear h0 hb hx hcell hsh HSH g g1 g2 g3 g4 c1 c2 c3 c4
        go_enter Tryd.func51, Tryd.ntmps51
        go_upto_region 7 with fail
        generalize w.heap.size = n4 at *
        generalize hwx : World.alloc _ _ = wa at *
        clear hwx hc0
        generalize n4 + 1 = n6 at *
        have hwn := hwa.drew.swap
        refine wp_region_held_drew (S := fun W => (W.cell? ⟨b, off + (k + 1), none⟩ = some (.int .u8 x1) ∧ W.cell? ⟨b, off + (k + 2), none⟩ = some (.int .u8 x2)) ∧ W.cell? ⟨b, off + (k + 3), none⟩ = some (.int .u8 x3) ∧ W.cell? ⟨b, off + (k + 4), none⟩ = some (.int .u8 x4)) (by kernel_rfl) (HSE.out _ _ hwa.drew (by simp [hB])) (fun hS0 => ?_)
        (try simp only [Act.put, List.getElem_toArray, List.getElem_cons_succ, List.getElem_cons_zero, List.setIfInBounds_toArray, List.set_cons_zero, List.set_cons_succ, Array.toArray_toList])
        refine wpAnyH_take (i := 0) (v := ?_) rfl (by kernel_rfl) (by kernel_rfl) (by kernel_rfl) (fun _ _ _ h => h) (Or.inl ⟨by kernel_rfl, ?_⟩) hS0 ?_
        rotate_left
        · intro w hSw; clear hSw; go_simp; (try with_reducible rfl)
        (try simp only [Act.put, List.getElem_toArray, List.getElem_cons_succ, List.getElem_cons_zero, List.setIfInBounds_toArray, List.set_cons_zero, List.set_cons_succ, Array.toArray_toList])
        refine wpAnyH_take (i := 1) (v := ?_) rfl (by kernel_rfl) (by kernel_rfl) (by kernel_rfl) (fun _ _ _ h => h) (Or.inl ⟨by kernel_rfl, ?_⟩) hS0 ?_
        rotate_left
        · intro w hSw; clear hSw; go_simp; (try with_reducible rfl)
        (try simp only [Act.put, List.getElem_toArray, List.getElem_cons_succ, List.getElem_cons_zero, List.setIfInBounds_toArray, List.set_cons_zero, List.set_cons_succ, Array.toArray_toList])
        refine wpAnyH_take (i := 2) (v := ?_) rfl (by kernel_rfl) (by kernel_rfl) (by kernel_rfl) (fun _ _ _ h => h) (Or.inl ⟨by kernel_rfl, ?_⟩) hS0 ?_
        rotate_left
        · intro w hSw; clear hSw; go_simp; (try with_reducible rfl)
        (try simp only [Act.put, List.getElem_toArray, List.getElem_cons_succ, List.getElem_cons_zero, List.setIfInBounds_toArray, List.set_cons_zero, List.set_cons_succ, Array.toArray_toList])
        refine wpAnyH_take (i := 3) (v := ?_) rfl (by kernel_rfl) (by kernel_rfl) (by kernel_rfl) (fun _ _ _ h => h) (Or.inl ⟨by kernel_rfl, ?_⟩) hS0 ?_
        rotate_left
        · intro w hSw; clear hSw; go_simp; (try with_reducible rfl)
        (try simp only [Act.put, List.getElem_toArray, List.getElem_cons_succ, List.getElem_cons_zero, List.setIfInBounds_toArray, List.set_cons_zero, List.set_cons_succ, Array.toArray_toList])
        refine wpAnyH_take (i := 4) (v := ?_) rfl (by kernel_rfl) (by kernel_rfl) (by kernel_rfl) (fun _ _ _ h => h) (Or.inl ⟨by kernel_rfl, ?_⟩) hS0 ?_
        rotate_left
        · intro w hSw; obtain ⟨⟨e0, e1⟩, e2, e3⟩ := hSw; clear e1 e2 e3; go_simp; (try with_reducible rfl)
        (try simp only [Act.put, List.getElem_toArray, List.getElem_cons_succ, List.getElem_cons_zero, List.setIfInBounds_toArray, List.set_cons_zero, List.set_cons_succ, Array.toArray_toList])
        refine wpAnyH_take (i := 5) (v := ?_) rfl (by kernel_rfl) (by kernel_rfl) (by kernel_rfl) (fun _ _ _ h => h) (Or.inl ⟨by kernel_rfl, ?_⟩) hS0 ?_
        rotate_left
        · intro w hSw; clear hSw; go_simp; (try with_reducible rfl)
        (try simp only [Act.put, List.getElem_toArray, List.getElem_cons_succ, List.getElem_cons_zero, List.setIfInBounds_toArray, List.set_cons_zero, List.set_cons_succ, Array.toArray_toList])
        refine wpAnyH_take (i := 6) (v := ?_) rfl (by kernel_rfl) (by kernel_rfl) (by kernel_rfl) (fun _ _ _ h => h) (Or.inl ⟨by kernel_rfl, ?_⟩) hS0 ?_
        rotate_left
        · intro w hSw; clear hSw; go_simp; (try with_reducible rfl)
        (try simp only [Act.put, List.getElem_toArray, List.getElem_cons_succ, List.getElem_cons_zero, List.setIfInBounds_toArray, List.set_cons_zero, List.set_cons_succ, Array.toArray_toList])
        refine wpAnyH_take (i := 7) (v := ?_) rfl (by kernel_rfl) (by kernel_rfl) (by kernel_rfl) (fun _ _ _ h => h) (Or.inl ⟨by kernel_rfl, ?_⟩) hS0 ?_
        rotate_left
        · intro w hSw; clear hSw; go_simp; (try with_reducible rfl)
        (try simp only [Act.put, List.getElem_toArray, List.getElem_cons_succ, List.getElem_cons_zero, List.setIfInBounds_toArray, List.set_cons_zero, List.set_cons_succ, Array.toArray_toList])
        refine wpAnyH_take (i := 8) (v := ?_) rfl (by kernel_rfl) (by kernel_rfl) (by kernel_rfl) (fun _ _ _ h => h) (Or.inl ⟨by kernel_rfl, ?_⟩) hS0 ?_
        rotate_left
        · intro w hSw; clear hSw; go_simp; (try with_reducible rfl)
        (try simp only [Act.put, List.getElem_toArray, List.getElem_cons_succ, List.getElem_cons_zero, List.setIfInBounds_toArray, List.set_cons_zero, List.set_cons_succ, Array.toArray_toList])
        refine wpAnyH_take (i := 9) (v := ?_) rfl (by kernel_rfl) (by kernel_rfl) (by kernel_rfl) (fun _ _ _ h => h) (Or.inl ⟨by kernel_rfl, ?_⟩) hS0 ?_
        rotate_left
        · intro w hSw; obtain ⟨⟨e0, e1⟩, e2, e3⟩ := hSw; clear e0 e2 e3; go_simp; (try with_reducible rfl)
        (try simp only [Act.put, List.getElem_toArray, List.getElem_cons_succ, List.getElem_cons_zero, List.setIfInBounds_toArray, List.set_cons_zero, List.set_cons_succ, Array.toArray_toList])
        refine wpAnyH_take (i := 10) (v := ?_) rfl (by kernel_rfl) (by kernel_rfl) (by kernel_rfl) (fun _ _ _ h => h) (Or.inl ⟨by kernel_rfl, ?_⟩) hS0 ?_
        rotate_left
        · intro w hSw; clear hSw; go_simp; (try with_reducible rfl)
        (try simp only [Act.put, List.getElem_toArray, List.getElem_cons_succ, List.getElem_cons_zero, List.setIfInBounds_toArray, List.set_cons_zero, List.set_cons_succ, Array.toArray_toList])
        refine wpAnyH_take (i := 11) (v := ?_) rfl (by kernel_rfl) (by kernel_rfl) (by kernel_rfl) (fun _ _ _ h => h) (Or.inl ⟨by kernel_rfl, ?_⟩) hS0 ?_
        rotate_left
        · intro w hSw; clear hSw; go_simp; (try with_reducible rfl)
        (try simp only [Act.put, List.getElem_toArray, List.getElem_cons_succ, List.getElem_cons_zero, List.setIfInBounds_toArray, List.set_cons_zero, List.set_cons_succ, Array.toArray_toList])
        refine wpAnyH_take (i := 12) (v := ?_) rfl (by kernel_rfl) (by kernel_rfl) (by kernel_rfl) (fun _ _ _ h => h) (Or.inl ⟨by kernel_rfl, ?_⟩) hS0 ?_
        rotate_left
        · intro w hSw; clear hSw; go_simp; (try with_reducible rfl)
        (try simp only [Act.put, List.getElem_toArray, List.getElem_cons_succ, List.getElem_cons_zero, List.setIfInBounds_toArray, List.set_cons_zero, List.set_cons_succ, Array.toArray_toList])
        refine wpAnyH_take (i := 13) (v := ?_) rfl (by kernel_rfl) (by kernel_rfl) (by kernel_rfl) (fun _ _ _ h => h) (Or.inl ⟨by kernel_rfl, ?_⟩) hS0 ?_
        rotate_left
        · intro w hSw; clear hSw; go_simp; (try with_reducible rfl)
        (try simp only [Act.put, List.getElem_toArray, List.getElem_cons_succ, List.getElem_cons_zero, List.setIfInBounds_toArray, List.set_cons_zero, List.set_cons_succ, Array.toArray_toList])
        refine wpAnyH_take (i := 14) (v := ?_) rfl (by kernel_rfl) (by kernel_rfl) (by kernel_rfl) (fun _ _ _ h => h) (Or.inl ⟨by kernel_rfl, ?_⟩) hS0 ?_
        rotate_left
        · intro w hSw; obtain ⟨⟨e0, e1⟩, e2, e3⟩ := hSw; clear e0 e1 e3; go_simp; (try with_reducible rfl)
        (try simp only [Act.put, List.getElem_toArray, List.getElem_cons_succ, List.getElem_cons_zero, List.setIfInBounds_toArray, List.set_cons_zero, List.set_cons_succ, Array.toArray_toList])
        refine wpAnyH_take (i := 15) (v := ?_) rfl (by kernel_rfl) (by kernel_rfl) (by kernel_rfl) (fun _ _ _ h => h) (Or.inl ⟨by kernel_rfl, ?_⟩) hS0 ?_
        rotate_left
        · intro w hSw; clear hSw; go_simp; (try with_reducible rfl)
        (try simp only [Act.put, List.getElem_toArray, List.getElem_cons_succ, List.getElem_cons_zero, List.setIfInBounds_toArray, List.set_cons_zero, List.set_cons_succ, Array.toArray_toList])
        refine wpAnyH_take (i := 16) (v := ?_) rfl (by kernel_rfl) (by kernel_rfl) (by kernel_rfl) (fun _ _ _ h => h) (Or.inl ⟨by kernel_rfl, ?_⟩) hS0 ?_
        rotate_left
        · intro w hSw; clear hSw; go_simp; (try with_reducible rfl)
        (try simp only [Act.put, List.getElem_toArray, List.getElem_cons_succ, List.getElem_cons_zero, List.setIfInBounds_toArray, List.set_cons_zero, List.set_cons_succ, Array.toArray_toList])
        refine wpAnyH_take (i := 17) (v := ?_) rfl (by kernel_rfl) (by kernel_rfl) (by kernel_rfl) (fun _ _ _ h => h) (Or.inl ⟨by kernel_rfl, ?_⟩) hS0 ?_
        rotate_left
        · intro w hSw; clear hSw; go_simp; (try with_reducible rfl)
        (try simp only [Act.put, List.getElem_toArray, List.getElem_cons_succ, List.getElem_cons_zero, List.setIfInBounds_toArray, List.set_cons_zero, List.set_cons_succ, Array.toArray_toList])
        refine wpAnyH_take (i := 18) (v := ?_) rfl (by kernel_rfl) (by kernel_rfl) (by kernel_rfl) (fun _ _ _ h => h) (Or.inl ⟨by kernel_rfl, ?_⟩) hS0 ?_
        rotate_left
        · intro w hSw; clear hSw; go_simp; (try with_reducible rfl)
        (try simp only [Act.put, List.getElem_toArray, List.getElem_cons_succ, List.getElem_cons_zero, List.setIfInBounds_toArray, List.set_cons_zero, List.set_cons_succ, Array.toArray_toList])
        refine wpAnyH_take (i := 19) (v := ?_) rfl (by kernel_rfl) (by kernel_rfl) (by kernel_rfl) (fun _ _ _ h => h) (Or.inl ⟨by kernel_rfl, ?_⟩) hS0 ?_
        rotate_left
        · intro w hSw; obtain ⟨⟨e0, e1⟩, e2, e3⟩ := hSw; clear e0 e1 e2; go_simp; (try with_reducible rfl)
        (try simp only [Act.put, List.getElem_toArray, List.getElem_cons_succ, List.getElem_cons_zero, List.setIfInBounds_toArray, List.set_cons_zero, List.set_cons_succ, Array.toArray_toList])
        refine wpAnyH_take (i := 20) (v := ?_) rfl (by kernel_rfl) (by kernel_rfl) (by kernel_rfl) (fun _ _ _ h => h) (Or.inl ⟨by kernel_rfl, ?_⟩) hS0 ?_
        rotate_left
        · intro w hSw; clear hSw; go_simp; (try with_reducible rfl)
        (try simp only [Act.put, List.getElem_toArray, List.getElem_cons_succ, List.getElem_cons_zero, List.setIfInBounds_toArray, List.set_cons_zero, List.set_cons_succ, Array.toArray_toList])
        refine wpAnyH_take (i := 21) (v := ?_) rfl (by kernel_rfl) (by kernel_rfl) (by kernel_rfl) (fun _ _ _ h => h) (Or.inl ⟨by kernel_rfl, ?_⟩) hS0 ?_
        rotate_left
        · intro w hSw; clear hSw; go_simp; (try with_reducible rfl)
        (try simp only [Act.put, List.getElem_toArray, List.getElem_cons_succ, List.getElem_cons_zero, List.setIfInBounds_toArray, List.set_cons_zero, List.set_cons_succ, Array.toArray_toList])
        refine wpAnyH_take (i := 22) (v := ?_) rfl (by kernel_rfl) (by kernel_rfl) (by kernel_rfl) (fun _ _ _ h => h) (Or.inl ⟨by kernel_rfl, ?_⟩) hS0 ?_
        rotate_left
        · intro w hSw; clear hSw; go_simp; (try with_reducible rfl)
        (try simp only [Act.put, List.getElem_toArray, List.getElem_cons_succ, List.getElem_cons_zero, List.setIfInBounds_toArray, List.set_cons_zero, List.set_cons_succ, Array.toArray_toList])
        refine wpAnyH_take (i := 23) (v := ?_) rfl (by kernel_rfl) (by kernel_rfl) (by kernel_rfl) (fun _ _ _ h => h) (Or.inl ⟨by kernel_rfl, ?_⟩) hS0 ?_
        rotate_left
        · intro w hSw; clear hSw; go_simp; (try with_reducible rfl)
        (try simp only [Act.put, List.getElem_toArray, List.getElem_cons_succ, List.getElem_cons_zero, List.setIfInBounds_toArray, List.set_cons_zero, List.set_cons_succ, Array.toArray_toList])
        refine wpAnyH_take (i := 24) (v := ?_) rfl (by kernel_rfl) (by kernel_rfl) (by kernel_rfl) (fun _ _ _ h => h) (Or.inl ⟨by kernel_rfl, ?_⟩) hS0 ?_
        rotate_left
        · intro w hSw; clear hSw; go_simp; (try with_reducible rfl)
        (try simp only [Act.put, List.getElem_toArray, List.getElem_cons_succ, List.getElem_cons_zero, List.setIfInBounds_toArray, List.set_cons_zero, List.set_cons_succ, Array.toArray_toList])
        refine wpAnyH_ready (rs := [25]) (by kernel_rfl) (by simp) ?_
        refine AllReadyH.cons rfl (fun K2 hK2 => ?_) AllReadyH.nil
        refine step_store_row rfl 27 (.tmp 4) (.tmp 53) rfl n4 #[.int .u8 x1, .int .u8 x2, .int .u8 x3, .int .u8 x4, .string ⟨#[]⟩] rfl rfl 27 _ hwn.heap (host_row x1 x2 x3 x4 ⟨#[]⟩).1 (host_row x1 x2 x3 x4 ⟨#[]⟩).2.1 (host_row x1 x2 x3 x4 ⟨#[]⟩).2.2 ?_
        have hw12 := hwn.setRow #[.int .u8 x1, .int .u8 x2, .int .u8 x3, .int .u8 x4, .string ⟨#[]⟩]
        refine hK2.out _ _ (HSE.out _ _ hw12 (by simp [hB])) (fun hS1 => ?_)
        clear hK2 K2
        (try simp only [Act.put, List.getElem_toArray, List.getElem_cons_succ, List.getElem_cons_zero, List.setIfInBounds_toArray, List.set_cons_zero, List.set_cons_succ, Array.toArray_toList])
        refine wpAnyH_take (i := 26) (v := ?_) rfl (by kernel_rfl) (by kernel_rfl) (by kernel_rfl) (fun _ _ _ h => h) (Or.inl ⟨by kernel_rfl, ?_⟩) hS1 ?_
        rotate_left
        · intro w hSw; clear hSw; go_simp; (try with_reducible rfl)
        (try simp only [Act.put, List.getElem_toArray, List.getElem_cons_succ, List.getElem_cons_zero, List.setIfInBounds_toArray, List.set_cons_zero, List.set_cons_succ, Array.toArray_toList])
        refine wpAnyH_ready (rs := [27]) (by kernel_rfl) (by simp) ?_
        refine AllReadyH.cons rfl (fun K2 hK2 => ?_) AllReadyH.nil
        refine step_store_row rfl 41 (.tmp 6) (.tmp 56) rfl n6 (BE none) rfl rfl 41 _ hw12.swap.heap (BE_row none).1 (BE_row none).2.1 (BE_row none).2.2 ?_
        have hw13 := hw12.swap.setRow (BE none)
        refine hK2.out _ _ (HSE.out _ _ hw13 (by simp [hB])) (fun hS2 => ?_)
        clear hK2 K2
        (try simp only [Act.put, List.getElem_toArray, List.getElem_cons_succ, List.getElem_cons_zero, List.setIfInBounds_toArray, List.set_cons_zero, List.set_cons_succ, Array.toArray_toList])
        refine wpAnyH_done (by kernel_rfl) ?_ _
        generalize hW12 : World.setRow (World.setRow _ _ _) _ _ = w13 at *
        clear hW12
        (try simp only [Exit.inBlock, Exit.then])
        go_wp2
        refine bodyPost_ret (results_cell_tmp_cell rfl _ _ n4 n6 #[.int .u8 x1, .int .u8 x2, .int .u8 x3, .int .u8 x4, .string ⟨#[]⟩] (BE none) _ _ rfl hw13.swap.heap Tryd.underlying27 rfl (host_row x1 x2 x3 x4 ⟨#[]⟩).1 rfl hw13.heap Tryd.underlying41 rfl (BE_row none).1) rfl ?_
        rw [HR.out]
        exact RPlaceP.mk rfl hw13.drop.drop
    · by_cases hx3 : x = 3
      · subst hx3
        have m1 : IntKind.i64.wrap ((k : Int) + 1) = (k : Int) + 1 := IntWalk.i64_in _ (by omega)
        have HTX := Lib.hid (fun w' Hs' (h : Sat σ w' Hs') (hB' : HB ∈ Hs') => rtext_any _ bs hbs (k + 1) (by omega) 253 w' h hB' hb)
        have HPT := Lib.hid (fun s n x => @plR_terr bs k hx s n x)
        have HPE := Lib.hid (fun s n en x => @plR_nerr bs k hx s n en x)
        have HPN := Lib.hid (fun s n en => @plR_name bs k hx s n en)
        have hkc : ((k + 1 : Nat) : Int) = (k : Int) + 1 := by omega
        rw [hkc] at HTX
        have HSZT := text_size hbs 253 ⟨k + 1, none⟩
        have htz : (txR bs 253 (k + 1)).1.size ≤ 1000 := by
          unfold txR
          split
          · exact HSZT
          · exact Nat.zero_le _
        have HTL := Lib.hid (fun x => @txR_len bs hbs 253 (k + 1) x)
        unfold RTextP at HTX
        clear h0 hb hx hcell HSH hx1 HSZT hkc
        generalize txR bs 253 (k + 1) = tx at *
        generalize plR bs k = pr at *
        obtain ⟨s, en, er⟩ := tx
        go_enter Tryd.func51, Tryd.ntmps51
        go_wp2_with fail
        generalize w.heap.size = n4 at *
        generalize hwx : World.alloc _ _ = wx at *
        clear hwx hc0
        generalize n4 + 1 = n6 at *
        refine (HTX.out _ _ hwa (by simp [hB])).mono ?_
        rintro e w2 ⟨rfl, hw2⟩
        have hw3 := hw2.alloc (.cells #[.int .i64 0, .string ⟨#[]⟩, .string ⟨#[]⟩, .string ⟨#[]⟩, .string ⟨#[]⟩, .int .i64 0, .int .i64 0, .int .i64 0, .int .i64 0, .int .i64 0] 41)
        generalize hn9 : w2.heap.size = n9 at *
        have HW3 := Lib.hid hw3
        have HB1 : Hid ((Tryd.prog.info? 41).map (·.size) = some (BE er).toList.length ∧ (Tryd.prog.info? 41).map (·.size) = some (BE er).size ∧ (#[.int .i64 0, .string ⟨#[]⟩, .string ⟨#[]⟩, .string ⟨#[]⟩, .string ⟨#[]⟩, .int .i64 0, .int .i64 0, .int .i64 0, .int .i64 0, .int .i64 0] : Array Value).size = (BE er).size ∧ (BE er).all (·.oneCell') = true) := Lib.hid ⟨BE_info, BE_row er⟩
        have HG1 := Lib.hid (BE_get er)
        have hw5 := hw3.setRow (BE er)
        generalize hB1 : BE er = B1 at *
        have HBE := Lib.hid hB1
        have HB1S : Hid (B1.size = 10) := Lib.hid (by rw [← hB1]; rfl)
        clear hwa HTX hB1 hw2 hw3
        go_upto_region 10 with (with_reducible show wpList _ _ _ [{ dst := none, op := _, type := _, pos := _, after := _, guard := _ }] _ _; go_must (refine wpList_store_row rfl 41 (.tmp 9) (.tmp 66) rfl n9 B1 rfl rfl 41 _ HW3.out.heap HB1.out.2.1 HB1.out.2.2.1 HB1.out.2.2.2 ?_))
        generalize hw5e : World.setRow _ _ _ = w5 at *
        clear hw5e hn9 HW3
        have k0 : w5.cell? ⟨n9, 0, none⟩ = some (.int .i64 ((chE er).length : Nat)) := hw5.one_cell HG1.out
        have HSE : Hid (∀ W Ls, Sat σ W Ls → Hp.one n9 (.cells B1 41 (0, 0)) ∈ Ls → W.rangeAt n9 0 B1.toList) := Lib.hid (fun W Ls h hm j v hv => h.cellAt hm ((Hp.one_cell _ _ _ _).trans (by rw [Nat.zero_add]; simpa using hv)))
        cases er with
        | some x =>
          have HR := Lib.hid (HPT.out s en x rfl)
          have hx1 : x.1.length = 1 := HTL.out x rfl
          have k0' : w5.cell? ⟨n9, 0, none⟩ = some (.int .i64 1) := by rw [k0]; show some (Value.int .i64 ((x.1.length : Nat) : Int)) = _; rw [hx1]; rfl
          clear k0 hx1
          have hwn := hw5.drew.up2
          clear HPT HPE HPN
          go_upto_region 11 with fail
          refine wp_region_held_drew (S := fun W => W.rangeAt n9 0 B1.toList) (by kernel_rfl) (HSE.out _ _ hw5.drew (by simp)) (fun hS0 => ?_)
          (try simp only [Act.put, List.getElem_toArray, List.getElem_cons_succ, List.getElem_cons_zero, List.setIfInBounds_toArray, List.set_cons_zero, List.set_cons_succ, Array.toArray_toList])
          refine wpAnyH_take (i := 0) (v := ?_) rfl (by kernel_rfl) (by kernel_rfl) (by kernel_rfl) (fun _ _ _ h => h) (Or.inl ⟨by kernel_rfl, ?_⟩) hS0 ?_
          rotate_left
          · intro w hSw; clear hSw; go_simp; (try with_reducible rfl)
          (try simp only [Act.put, List.getElem_toArray, List.getElem_cons_succ, List.getElem_cons_zero, List.setIfInBounds_toArray, List.set_cons_zero, List.set_cons_succ, Array.toArray_toList])
          refine wpAnyH_take (i := 1) rfl (by kernel_rfl) (by kernel_rfl) (by kernel_rfl) (fun _ _ _ h => h) (yieldsIf_load_mid (by kernel_rfl) _ _ rfl _ _ rfl (B1.toList) _ (fun w h => h) Tryd.underlying41 rfl HB1.out.1) hS0 ?_
          (try simp only [Act.put, List.getElem_toArray, List.getElem_cons_succ, List.getElem_cons_zero, List.setIfInBounds_toArray, List.set_cons_zero, List.set_cons_succ, Array.toArray_toList])
          refine wpAnyH_ready (rs := [2]) (by kernel_rfl) (by simp) ?_
          refine AllReadyH.cons rfl (fun K2 hK2 => ?_) AllReadyH.nil
          refine step_store_row rfl 27 (.tmp 4) (.tmp 70) rfl n4 #[.int .u8 0, .int .u8 0, .int .u8 0, .int .u8 0, .string ⟨#[]⟩] rfl rfl 27 _ hwn.heap (host_row 0 0 0 0 ⟨#[]⟩).1 (host_row 0 0 0 0 ⟨#[]⟩).2.1 (host_row 0 0 0 0 ⟨#[]⟩).2.2 ?_
          have hw12 := hwn.setRow #[.int .u8 0, .int .u8 0, .int .u8 0, .int .u8 0, .string ⟨#[]⟩]
          refine hK2.out _ _ (HSE.out _ _ hw12 (by simp)) (fun hS1 => ?_)
          clear hK2 K2
          (try simp only [Act.put, List.getElem_toArray, List.getElem_cons_succ, List.getElem_cons_zero, List.setIfInBounds_toArray, List.set_cons_zero, List.set_cons_succ, Array.toArray_toList])
          refine wpAnyH_take (i := 3) (v := ?_) rfl (by kernel_rfl) (by kernel_rfl) (by kernel_rfl) (fun _ _ _ h => h) (Or.inl ⟨by kernel_rfl, ?_⟩) hS1 ?_
          rotate_left
          · intro w hSw; clear hSw; go_simp; (try with_reducible rfl)
          (try simp only [Act.put, List.getElem_toArray, List.getElem_cons_succ, List.getElem_cons_zero, List.setIfInBounds_toArray, List.set_cons_zero, List.set_cons_succ, Array.toArray_toList])
          refine wpAnyH_ready (rs := [4]) (by kernel_rfl) (by simp) ?_
          refine AllReadyH.cons rfl (fun K2 hK2 => ?_) AllReadyH.nil
          refine step_store_row rfl 41 (.tmp 6) (.tmp 71) rfl n6 B1 rfl rfl 41 _ hw12.up2.heap HB1.out.2.1 HB1.out.2.2.1 HB1.out.2.2.2 ?_
          have hw13 := hw12.up2.setRow B1
          refine hK2.out _ _ (HSE.out _ _ hw13 (by simp)) (fun hS2 => ?_)
          clear hK2 K2
          (try simp only [Act.put, List.getElem_toArray, List.getElem_cons_succ, List.getElem_cons_zero, List.setIfInBounds_toArray, List.set_cons_zero, List.set_cons_succ, Array.toArray_toList])
          refine wpAnyH_done (by kernel_rfl) ?_ _
          generalize hW12 : World.setRow (World.setRow _ _ _) _ _ = w13 at *
          clear hW12
          (try simp only [Exit.inBlock, Exit.then])
          go_wp2
          refine bodyPost_ret (results_cell_tmp_cell rfl _ _ n4 n6 #[.int .u8 0, .int .u8 0, .int .u8 0, .int .u8 0, .string ⟨#[]⟩] B1 _ _ rfl hw13.swap.heap Tryd.underlying27 rfl (host_row 0 0 0 0 ⟨#[]⟩).1 rfl hw13.heap Tryd.underlying41 rfl HB1.out.2.1) rfl ?_
          rw [HR.out]
          exact RPlaceP.mk (by show _ = Ending.returned (.tuple #[.agg #[.int .u8 0, .int .u8 0, .int .u8 0, .int .u8 0, .string ⟨#[]⟩], .int .i64 0, .agg (BE (some x))]); rw [HBE.out]; rfl) hw13.drop.drop.drop
        | none =>
          have k0' : w5.cell? ⟨n9, 0, none⟩ = some (.int .i64 0) := k0
          have htz' : s.size ≤ 1000 := htz
          have HNR := Lib.hid (fun w' Hs' (h : Sat σ w' Hs') => rparse_any s (by omega) w' h)
          have HLN := Lib.hid (nameR_len s)
          have HPE' := Lib.hid (fun n x => HPE.out s n en x rfl)
          have HPN' := Lib.hid (fun n => HPN.out s n en rfl)
          unfold RNameP at HNR
          clear k0 htz htz' HPE HPN HPT HSE HB1 HTL HG1 HBE
          generalize nameR s = nr at *
          obtain ⟨nm, e2⟩ := nr
          go_wp2_with fail
          refine (HNR.out _ _ hw5).mono ?_
          rintro e w6 ⟨rfl, hw6⟩
          clear hw5 HNR k0'
          have HW6 := Lib.hid hw6
          have HB2 : Hid ((Tryd.prog.info? 41).map (·.size) = some (BE e2).size ∧ B1.size = (BE e2).size ∧ (BE e2).all (·.oneCell') = true) := Lib.hid ⟨BE_info, by rw [HB1S.out]; rfl, BE_one e2⟩
          have HG2 := Lib.hid (BE_get e2)
          have hw7 := hw6.setRow (BE e2)
          cases e2 with
          | some x =>
            have hx1 := HLN.out x rfl
            obtain ⟨ch, cc⟩ := x
            obtain ⟨l2, b2, rfl⟩ : ∃ l2 b2, ch = [(l2, b2)] := by
              match ch, hx1 with
              | [(l2, b2)], _ => exact ⟨l2, b2, rfl⟩
            have HR := Lib.hid (HPE'.out nm _ rfl)
            have HWR := Lib.hid (fun w' Hs' (h : Sat σ w' Hs') => wrap1_any fiveB l2 ((k : Int) + 2) b2 cc w' h)
            generalize hB2 : BE (some ([(l2, b2)], cc)) = B2 at *
            have m2 : IntKind.i64.wrap ((k : Int) + 2) = (k : Int) + 2 := IntWalk.i64_in _ (by omega)
            clear hB2 hw6 HPE' HPN' HLN hx1
            go_upto_region 13 with (with_reducible show wpList _ _ _ [{ dst := none, op := _, type := _, pos := _, after := _, guard := _ }] _ _; go_must (refine wpList_store_row rfl 41 (.tmp 9) (.tmp 76) rfl n9 B2 rfl rfl 41 _ HW6.out.heap HB2.out.1 HB2.out.2.1 HB2.out.2.2 ?_))
            generalize hw7e : World.setRow _ _ _ = w7 at *
            clear hw7e HW6
            have k0 : w7.cell? ⟨n9, 0, none⟩ = some (.int .i64 1) := hw7.one_cell HG2.out
            have HW7 := Lib.hid hw7
            go_wp2_with (first
              | (with_reducible show wpList _ _ _ [_, _, _, _, _] _ _; refine wpList_load_row rfl 41 (.tmp 9) rfl n9 rfl 41 B2 (0, 0) _ HW7.out.heap Tryd.underlying41 rfl HB2.out.1 ?_)
              | (fail))
            refine (HWR.out _ _ hw7).mono ?_
            rintro e w2 ⟨rfl, hw2⟩
            have HW2 := Lib.hid hw2.up2.swap1
            clear hw2 hw7 HW7 k0 HWR HG2 HB2
            have HBO := Lib.hid (BE_row (some ([(fiveB, (k : Int) + 2), (l2, b2)], cc)))
            generalize hBE : BE (some ([(fiveB, (k : Int) + 2), (l2, b2)], cc)) = B at *
            have HBE := Lib.hid hBE
            clear hBE
            have HW3 := Lib.hid (HW2.out.setRow #[.int .u8 0, .int .u8 0, .int .u8 0, .int .u8 0, .string ⟨#[]⟩]).swap
            go_wp2_with (first
              | (with_reducible show wpList _ _ _ [{ dst := none, op := _, type := _, pos := _, after := _, guard := _ }, _, _] _ _; go_must (refine wpList_store_row rfl 27 (.tmp 4) (.tmp 80) rfl n4 #[.int .u8 0, .int .u8 0, .int .u8 0, .int .u8 0, .string ⟨#[]⟩] rfl rfl 27 _ HW2.out.heap (host_row 0 0 0 0 ⟨#[]⟩).1 (host_row 0 0 0 0 ⟨#[]⟩).2.1 (host_row 0 0 0 0 ⟨#[]⟩).2.2 ?_))
              | (with_reducible show wpList _ _ _ [{ dst := none, op := _, type := _, pos := _, after := _, guard := _ }] _ _; go_must (refine wpList_store_row rfl 41 (.tmp 6) (.tmp 84) rfl n6 B rfl rfl 41 _ HW3.out.heap HBO.out.1 HBO.out.2.1 HBO.out.2.2 ?_)))
            have hfin := HW3.out.setRow B
            (try simp only [Exit.inBlock, Exit.then])
            refine bodyPost_ret (results_cell_tmp_cell rfl _ _ n4 n6 #[.int .u8 0, .int .u8 0, .int .u8 0, .int .u8 0, .string ⟨#[]⟩] B _ _ rfl hfin.swap.heap Tryd.underlying27 rfl (host_row 0 0 0 0 ⟨#[]⟩).1 rfl hfin.heap Tryd.underlying41 rfl HBO.out.1) rfl ?_
            rw [HR.out]
            exact RPlaceP.mk (by show _ = Ending.returned (.tuple #[.agg #[.int .u8 0, .int .u8 0, .int .u8 0, .int .u8 0, .string ⟨#[]⟩], .int .i64 0, .agg (BE (some ([(fiveB, (k : Int) + 2), (l2, b2)], cc)))]); rw [HBE.out]; rfl) (hfin.drop.drop.drop)
          | none =>
            have HR := Lib.hid (HPN'.out nm rfl)
            clear hw6 HPE' HPN' HLN
            go_upto_region 13 with (with_reducible show wpList _ _ _ [{ dst := none, op := _, type := _, pos := _, after := _, guard := _ }] _ _; go_must (refine wpList_store_row rfl 41 (.tmp 9) (.tmp 76) rfl n9 (BE none) rfl rfl 41 _ HW6.out.heap HB2.out.1 HB2.out.2.1 HB2.out.2.2 ?_))
            generalize hw7e : World.setRow _ _ _ = w7 at *
            clear hw7e HW6
            have k0 : w7.cell? ⟨n9, 0, none⟩ = some (.int .i64 0) := hw7.one_cell HG2.out
            have HW2 := Lib.hid hw7.up2.swap1
            have HW3 := Lib.hid (HW2.out.setRow #[.int .u8 0, .int .u8 0, .int .u8 0, .int .u8 0, .string nm]).swap
            clear hw7 HG2 HB2
            go_wp2_with (first
              | (with_reducible show wpList _ _ _ [{ dst := none, op := _, type := _, pos := _, after := _, guard := _ }, _, _] _ _; go_must (refine wpList_store_row rfl 27 (.tmp 4) (.tmp 86) rfl n4 #[.int .u8 0, .int .u8 0, .int .u8 0, .int .u8 0, .string nm] rfl rfl 27 _ HW2.out.heap (host_row 0 0 0 0 nm).1 (host_row 0 0 0 0 nm).2.1 (host_row 0 0 0 0 nm).2.2 ?_))
              | (with_reducible show wpList _ _ _ [{ dst := none, op := _, type := _, pos := _, after := _, guard := _ }] _ _; go_must (refine wpList_store_row rfl 41 (.tmp 6) (.tmp 88) rfl n6 (BE none) rfl rfl 41 _ HW3.out.heap (BE_row none).1 (BE_row none).2.1 (BE_row none).2.2 ?_)))
            have hfin := HW3.out.setRow (BE none)
            (try simp only [Exit.inBlock, Exit.then])
            refine bodyPost_ret (results_cell_tmp_cell rfl _ _ n4 n6 #[.int .u8 0, .int .u8 0, .int .u8 0, .int .u8 0, .string nm] (BE none) _ _ rfl hfin.swap.heap Tryd.underlying27 rfl (host_row 0 0 0 0 nm).1 rfl hfin.heap Tryd.underlying41 rfl (BE_row none).1) rfl ?_
            rw [HR.out]
            exact RPlaceP.mk rfl hfin.drop.drop.drop
      · have HR := Lib.hid (plR_type hx hx1 hx3)
        have e1 : (x == 1) = false := beq_eq_false_iff_ne.2 hx1
        have e3 : (x == 3) = false := beq_eq_false_iff_ne.2 hx3
        clear h0 hb hx hcell HSH hx1 hx3
        go_enter Tryd.func51, Tryd.ntmps51
        go_wp2_with fail
        refine (rfault7_any (k : Int) 71 _ hwa).mono ?_
        rintro e w2 ⟨rfl, hw2⟩
        generalize w.heap.size = n4 at *
        have HW2 := Lib.hid hw2.swap
        clear hw2
        generalize n4 + 1 = n6 at *
        have HBO := Lib.hid (BE_row (some ([(fiveB, (k : Int))], 71)))
        generalize hBE : BE (some ([(fiveB, (k : Int))], 71)) = B at *
        have HBE := Lib.hid hBE
        clear hBE
        have HW3 := Lib.hid (HW2.out.setRow #[.int .u8 0, .int .u8 0, .int .u8 0, .int .u8 0, .string ⟨#[]⟩]).swap
        go_wp2_with (first
          | (with_reducible show wpList _ _ _ [{ dst := none, op := _, type := _, pos := _, after := _, guard := _ }, _, _] _ _; go_must (refine wpList_store_row rfl 27 (.tmp 4) (.tmp 89) rfl n4 #[.int .u8 0, .int .u8 0, .int .u8 0, .int .u8 0, .string ⟨#[]⟩] rfl rfl 27 _ HW2.out.heap (host_row 0 0 0 0 ⟨#[]⟩).1 (host_row 0 0 0 0 ⟨#[]⟩).2.1 (host_row 0 0 0 0 ⟨#[]⟩).2.2 ?_))
          | (with_reducible show wpList _ _ _ [{ dst := none, op := _, type := _, pos := _, after := _, guard := _ }] _ _; go_must (refine wpList_store_row rfl 41 (.tmp 6) (.tmp 91) rfl n6 B rfl rfl 41 _ HW3.out.heap HBO.out.1 HBO.out.2.1 HBO.out.2.2 ?_)))
        have hfin := HW3.out.setRow B
        (try simp only [Exit.inBlock, Exit.then])
        refine bodyPost_ret (results_cell_tmp_cell rfl _ _ n4 n6 #[.int .u8 0, .int .u8 0, .int .u8 0, .int .u8 0, .string ⟨#[]⟩] B _ _ rfl hfin.swap.heap Tryd.underlying27 rfl (host_row 0 0 0 0 ⟨#[]⟩).1 rfl hfin.heap Tryd.underlying41 rfl HBO.out.1) rfl ?_
        rw [HR.out]
        exact RPlaceP.mk (by show _ = Ending.returned (.tuple #[.agg #[.int .u8 0, .int .u8 0, .int .u8 0, .int .u8 0, .string ⟨#[]⟩], .int .i64 0, .agg (BE (some ([(fiveB, (k : Int))], 71)))]); rw [HBE.out]; rfl) (hfin.drop.drop)
end
end Go.Proofs.YtcndkpmeakaapaaDoor
