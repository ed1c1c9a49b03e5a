/- Walks: digest.New, (*Digest).Add. -/
import Derived.Test.YteggcfcjajpcgaaDoorDgB
import Derived.Test.YteggcfcjajpcgaaDoorDgP
set_option linter.unusedVariables false
namespace Go.Proofs.YteggcfcjajpcgaaDoor
open Go.RowKit

set_option maxHeartbeats 400000 in
theorem new_any (w : World) :
    Calls Tryd.prog 40 #[] w fun e w' => ∃ g, e = .returned (.pointer (some ⟨g, 0, none⟩)) ∧ w.heap.size ≤ g ∧ w'.rowIs g 81 11 (dgF iv0 (.slice none 0 0) 0) ∧ Below w.heap.size w w' := by
  go_enter Tryd.func40, Tryd.ntmps40
  go_wp2
  go_ret
  exact ⟨w.heap.size, rfl, Nat.le_refl _, (World.rowIs_alloc w _ _ _ (fun i hi => by match i, hi with | 0, _ | 1, _ | 2, _ | 3, _ | 4, _ | 5, _ | 6, _ | 7, _ | 8, _ | 9, _ | 10, _ => rfl)), (Below.refl _ _).alloc (Nat.le_refl _) _⟩
set_option maxHeartbeats 1000000 in
theorem add_any (g B : Nat) (st : W8) (v vb : Value) (n : Int) (xs ys : List Int) (F : Nat → Prop) (w : World)
    (hg : w.rowIs g 81 11 (dgF st v n)) (ho : OwnI w B 5 .u8 v xs) (hy : RdI w .u8 vb ys F) (hF : ∀ b, F b → b ≠ g ∧ v.ownBlock ≠ some b)
    (hB : B ≤ w.heap.size) (hl : xs.length + ys.length ≤ 140737488355328) (hn : 0 ≤ n)
    (hk0 : w.heap[0]? = some (.cells kV 90 (0, 0))) :
    Calls Tryd.prog 41 #[.pointer (some ⟨g, 0, none⟩), vb] w fun e w' => ∃ v' zs st', e = .returned (.tuple #[]) ∧ feed st (xs ++ ys) = (st', zs) ∧
      w'.rowIs g 81 11 (dgF st' v' (IntKind.u64.wrap (n + (ys.length : Int)))) ∧ OwnI w' B 5 .u8 v' zs ∧ zs.length < 64 ∧
      Touch (fun k => k = g ∨ v.ownBlock = some k) w w' ∧ (∀ k, v'.ownBlock = some k → v.ownBlock = some k ∨ w.heap.size ≤ k) := by
  obtain ⟨A, c, rfl, hcn, hm, hrd⟩ := id hy
  have hne0 : ∀ b, v.ownBlock = some b → b ≠ g := ho.ne_row hg (by decide)
  have HNE := Lib.hid hne0; clear hne0
  have HKG : Hid (0 ≠ g) := Lib.hid (row_ne (row_of_heap hk0 undef) hg (by decide))
  have HKV : Hid (∀ b, v.ownBlock = some b → b ≠ 0) := Lib.hid (ho.ne_row (row_of_heap hk0 undef) (by decide))
  have HKL : Hid (0 < w.heap.size) := Lib.hid (row_of_heap hk0 undef).lt
  have HY := Lib.hid hy; clear hy hrd
  have HG := Lib.hid hg; clear hg
  have HK := Lib.hid hk0; clear hk0
  have c8 : w.cell? ⟨g, 8, none⟩ = some v := HG.out.cell (i := 8) (by decide)
  have c9 : w.cell? ⟨g, 9, none⟩ = some (.int .u64 n) := HG.out.cell (i := 9) (by decide)
  have c10 : w.cell? ⟨g, 10, none⟩ = some (.bool true) := HG.out.cell (i := 10) (by decide)
  have f8 := HG.out.frozen 8
  have f9 := HG.out.frozen 9
  have T1 : Touch (fun k => k = g) w (w.setCell ⟨g, 9, none⟩ (.int .u64 (IntKind.u64.wrap (n + (ys.length : Int))))) := (Touch.refl (fun k => k = g) w).setCell (.inl rfl) _
  have HT1 := Lib.hid T1; clear T1
  go_enter Tryd.func41, Tryd.ntmps41
  go_wp2_with (at_builtin; refine app_row B rfl (.tmp 27) (.tmp 28) 64 5 .u8 1 rfl Tryd.underlying64 (by kernel_rfl) (by decide) v _ xs ys F rfl rfl ?c1 ?c2 ?c3 ?c4 ?_)
  case c1 => exact ho.touch HT1.out (fun k hk e => HNE.out k hk e)
  case c2 => exact HY.out.touch HT1.out (fun b hb => (hF b hb).1)
  case c3 => exact Nat.le_trans hB HT1.out.size
  case c4 => omega
  intro A1 n1 cp1 w1 ho1 T2 hat1 hn1 _
  subst hn1
  have HN1 : Hid (∀ b, (Value.slice A1 (xs.length + ys.length) cp1).ownBlock = some b → v.ownBlock = some b ∨ w.heap.size ≤ b) := Lib.hid (fun b hb => (hat1.out b hb).imp_right (fun h => by have := HT1.out.size; simpa using h))
  have HG2 : Hid (w1.rowIs g _ _ _) := Lib.hid (T2.row (HG.out.set 9 (.int .u64 (IntKind.u64.wrap (n + (ys.length : Int))))) (fun e => HNE.out g e rfl))
  have HT3 : Hid (Touch (fun k => k = g ∨ v.ownBlock = some k) w w1) := Lib.hid ((HT1.out.mono (fun i hi _ => .inl hi)).trans T2 (fun i hi => .inl (.inr hi)))
  have HNE1 : Hid (∀ b, (Value.slice A1 (xs.length + ys.length) cp1).ownBlock = some b → b ≠ g) := Lib.hid (ho1.ne_row HG2.out (by decide))
  clear HT1 T2 hat1 c8 c9 c10 f8 f9 HG ho
  have d8 := HG2.out.cell (i := 8) (by decide)
  have e8 := HG2.out.frozen 8
  go_wp2
  have HG3 : Hid ((w1.setCell ⟨g, 8, none⟩ (.slice A1 (xs.length + ys.length) cp1)).rowIs g _ _ _) := Lib.hid (HG2.out.set 8 (.slice A1 (xs.length + ys.length) cp1))
  have T4 := (Touch.refl (fun k => k = g) w1).setCell (p := ⟨g, 8, none⟩) (.inl rfl) (.slice A1 (xs.length + ys.length) cp1)
  have HO3 := ho1.touch T4 HNE1.out
  have HT5 : Hid (Touch (fun k => k = g ∨ v.ownBlock = some k) w (w1.setCell ⟨g, 8, none⟩ (.slice A1 (xs.length + ys.length) cp1))) := Lib.hid (HT3.out.trans T4 (fun i hi => .inl (.inl hi)))
  clear HG2 HT3 T4 d8 e8 ho1
  generalize w1.setCell ⟨g, 8, none⟩ (.slice A1 (xs.length + ys.length) cp1) = w2 at *
  go_loopg [] (xs.length + ys.length) (fun gk wr => ∃ st1 v1 zs, Eager (zs.length = gk ∧ zs.length ≤ xs.length + ys.length ∧ feed st1 zs = feed st (xs ++ ys)) ∧ wr.rowIs g 81 11 (dgF st1 v1 (IntKind.u64.wrap (n + (ys.length : Int)))) ∧ OwnI wr B 5 .u8 v1 zs ∧
    Touch (fun k => k = g ∨ v.ownBlock = some k) w wr ∧ Eager (∀ b, v1.ownBlock = some b → v.ownBlock = some b ∨ w.heap.size ≤ b))
  case atStart =>
    refine ⟨st, _, xs ++ ys, ⟨by simp, by simp, rfl⟩, HG3.out.congr (fun i hi => ?_), HO3, HT5.out, ⟨HN1.out⟩⟩
    match i, hi with | 0, _ | 1, _ | 2, _ | 3, _ | 4, _ | 5, _ | 6, _ | 7, _ | 8, _ | 9, _ | 10, _ => rfl
  case round =>
    obtain ⟨st1, v1, zs, hf, hrow, hown, htch, hnn⟩ := hrel
    obtain ⟨A2, cp2, rfl⟩ := hown.slice
    have HR := Lib.hid hrow; clear hrow
    have d8 : wr.cell? ⟨g, 8, none⟩ = some (.slice A2 zs.length cp2) := HR.out.cell (i := 8) (by decide)
    have e8 := HR.out.frozen 8
    have HNE2 : Hid (∀ b, (Value.slice A2 zs.length cp2).ownBlock = some b → b ≠ g) := Lib.hid (hown.ne_row HR.out (by decide))
    by_cases h64 : 64 ≤ zs.length
    · obtain ⟨b2, cp, he, hBb, hbl, hlc, hcm, hcell⟩ := hown.pos (by omega)
      injection he with hA _ hcp
      subst hA
      subst hcp
      have HC := Lib.hid hcell; clear hcell
      go_wp2
      refine wp_region_quiet_tail 8 (by kernel_rfl) (by kernel_rfl) ?_
      simp only [List.take_succ_cons, List.take_zero, List.drop_succ_cons, List.drop_zero]
      repeat (go_big_quiet_step (fail))
      refine wpQuiet_nil ?_
      intro _ hw'
      obtain ⟨nq, hw''⟩ := hw'
      subst hw''
      have HR' : Hid ((wr.drewN nq).rowIs g _ _ _) := Lib.hid (rowIs_drewN HR.out nq)
      have hcell' : ∀ j, j < 64 → (wr.drewN nq).cell? ⟨b2, 0 + j, none⟩ = some (.int .u8 (zs.getD j 0)) := fun j hj => by rw [Nat.zero_add]; exact HC.out j (by omega)
      have hkr : (wr.drewN nq).heap[0]? = some (.cells kV 90 (0, 0)) := (htch.block _ HKL.out (fun h => h.elim HKG.out (fun h => HKV.out _ h rfl))).trans HK.out
      have hown' : OwnI (wr.drewN nq) B 5 .u8 (.slice (some ⟨b2, 0, none⟩) zs.length cp2) zs := ⟨hown.out⟩
      have htch' := htch.drewN nq
      have hbl' : b2 < (wr.drewN nq).heap.size := hbl
      clear d8 e8 HR hown htch hbl
      generalize wr.drewN nq = w3 at *
      have hturn := turn_any g b2 0 0 cp2 st1.get (fun j => zs.getD j 0) 81 11 _ w3 HR'.out (by decide) (fun j hj => by match j, hj with | 0, _ | 1, _ | 2, _ | 3, _ | 4, _ | 5, _ | 6, _ | 7, _ => rfl) hcell' hbl' (HNE2.out b2 rfl) hkr ((row_of_heap hkr undef).lt)
      have HTURN := Lib.hid hturn; clear hturn hcell' hkr
      have hsl : ∀ w, (Instr.slice 64 (.slice (some ⟨b2, 0, none⟩) zs.length cp2) (some (.int .i64 64)) none none).run Tryd.prog w = .ok (.slice (slAt (some ⟨b2, 0, none⟩) 64 cp2 1) (zs.length - 64) (cp2 - 64)) w := run_slice_from (P := Tryd.prog) Tryd.underlying64 1 (by kernel_rfl) (some ⟨b2, 0, none⟩) zs.length cp2 64 h64
      have hrd3 := hown'.rd.from_ 64 h64
      clear hcn
      go_wp2_with (first | (go_at_call 45; refine HTURN.out.mono ?_; rintro e w4 ⟨rfl, hr4, ht4⟩; have HR4 := Lib.hid hr4; have q8 : w4.cell? ⟨g, 8, none⟩ = some (.slice (some ⟨b2, 0, none⟩) zs.length cp2) := hr4.cell (i := 8) (by decide); have qf := hr4.frozen 8; have ql := hr4.lt; clear hr4) | (at_builtin; refine app_row B rfl (.tmp 48) (.tmp 53) 64 5 .u8 1 rfl Tryd.underlying64 (by kernel_rfl) (by decide) _ _ [] (zs.drop 64) (fun b => (Value.slice (some ⟨b2, 0, none⟩) zs.length cp2).ownBlock = some b) rfl rfl ?d1 ?d2 ?d3 ?d4 ?_))
      case d1 => exact own_empty _ _ _ _ (Nat.le_trans hB (Nat.le_trans htch'.size ht4.size))
      case d2 => exact (hrd3.touch ht4 HNE2.out).touch ((Touch.refl (fun _ => False) w4).alloc _) (fun _ _ h => h)
      case d3 => have := Nat.le_trans hB (Nat.le_trans htch'.size ht4.size); simp; omega
      case d4 => have := hf.out.2.1; simp; omega
      intro A5 n5 cp5 w5 ho5 T5 hat5 hn5 _
      subst hn5
      have T45 : Touch (fun b => (Value.slice (some ⟨w4.heap.size, 0, none⟩) 0 0).ownBlock = some b) w4 w5 := ((Touch.refl _ w4).alloc _).trans T5 (fun i hi => .inl hi)
      have hne4 : ¬ (Value.slice (some ⟨w4.heap.size, 0, none⟩) 0 0).ownBlock = some g := fun e => by simp [Value.ownBlock] at e; omega
      have HR5 : Hid (w5.rowIs g _ _ _) := Lib.hid (T45.row HR4.out hne4)
      have HT5' : Hid (Touch (fun k => k = g ∨ v.ownBlock = some k) w w5) := Lib.hid ((htch'.trans ht4 (fun i hi => .inl (.inl hi))).trans T45 (fun i hi => .inr (by
        have e : w4.heap.size = i := by simpa [Value.ownBlock] using hi
        have := Nat.le_trans htch'.size ht4.size
        omega)))
      have HN5 : Hid (∀ b, (Value.slice A5 (zs.length - 64) cp5).ownBlock = some b → v.ownBlock = some b ∨ w.heap.size ≤ b) := Lib.hid (fun b hb => by
        have := Nat.le_trans htch'.size ht4.size
        rcases hat5.out b hb with h | h
        · have e : w4.heap.size = b := by simpa [Value.ownBlock] using h
          exact .inr (by omega)
        · have h' : w4.heap.size + 1 ≤ b := by simpa using h
          exact .inr (by omega))
      have HNE5 : Hid (∀ b, (Value.slice A5 (zs.length - 64) cp5).ownBlock = some b → b ≠ g) := Lib.hid (ho5.ne_row HR5.out (by decide))
      have q8 := HR5.out.cell (i := 8) (by decide)
      have qf := HR5.out.frozen 8
      clear hat5 T5 hrd3 ht4 htch' hown' HTURN hsl hnn
      go_wp2
      go_roundg (zs.drop 64).length
      case measure => have := hf.out.1; simp; omega
      case rel =>
        have T6 := (Touch.refl (fun k => k = g) w5).setCell (p := ⟨g, 8, none⟩) (.inl rfl) (.slice A5 (zs.length - 64) cp5)
        refine ⟨comp st1 (fun j => zs.getD j 0), .slice A5 (zs.length - 64) cp5, zs.drop 64, ⟨rfl, by have := hf.out.2.1; simp; omega, ?_⟩, (HR5.out.set 8 _).congr (fun i hi => ?_), ho5.touch T6 HNE5.out, HT5'.out.trans T6 (fun i hi => .inl (.inl hi)), ⟨HN5.out⟩⟩
        · rw [← hf.out.2.2, feed_big st1 zs h64]
        · match i, hi with | 0, _ | 1, _ | 2, _ | 3, _ | 4, _ | 5, _ | 6, _ | 7, _ | 8, _ | 9, _ | 10, _ => rfl
    · go_wp2
      go_end0
      refine ⟨_, zs, st1, rfl, ?_, HR.out, hown, by omega, htch, hnn.out⟩
      rw [← hf.out.2.2, feed_small st1 zs h64]
end Go.Proofs.YteggcfcjajpcgaaDoor
