/- Walk: (*Digest).Sum. -/
import Derived.Test.YteggcfcjajpcgaaDoorDgC
import Derived.Test.YteggcfcjajpcgaaDoorBase2
set_option linter.unusedVariables false
namespace Go.Proofs.YteggcfcjajpcgaaDoor
open Go.RowKit
/-- Where Sum stands: its copy has the bytes l yet to be turned. -/
structure SumSt (w wr : World) (st : W8) (v : Value) (n : Int) (l : List Int) : Prop where
  res : wr.rowIs w.heap.size 29 32 (fun _ => .int .u8 0)
  out : wr.rowIs (w.heap.size + 1) 29 32 (fun _ => .int .u8 0)
  cpy : wr.rowIs (w.heap.size + 1 + 1) 81 11 (dgF st v n)
  own : OwnI wr w.heap.size 5 .u8 v l
  low : Below w.heap.size w wr
set_option maxRecDepth 100000 in
set_option maxHeartbeats 2000000 in
theorem dsum_any (g B : Nat) (st : W8) (v : Value) (n : Int) (xs : List Int) (w : World)
    (hg : w.rowIs g 81 11 (dgF st v n)) (ho : OwnI w B 5 .u8 v xs) (hl : xs.length < 64) (hn : 0 ≤ n)
    (hk0 : w.heap[0]? = some (.cells kV 90 (0, 0))) :
    Calls Tryd.prog 42 #[.pointer (some ⟨g, 0, none⟩)] w fun e w' => e = .returned (.agg (outV (outL (feed st (padded xs n)).1))) ∧ Below w.heap.size w w' := by
  have HKV : Hid (∀ b, v.ownBlock = some b → b ≠ 0) := Lib.hid (ho.ne_row (row_of_heap hk0 undef) (by decide))
  have HKL : Hid (0 < w.heap.size) := Lib.hid (row_of_heap hk0 undef).lt
  obtain ⟨A, cp, rfl⟩ := ho.slice
  have HG := Lib.hid hg; clear hg
  have HK := Lib.hid hk0; clear hk0
  have c0 : w.cell? ⟨g, 0, none⟩ = some (.int .u32 st.a) := HG.out.cell (i := 0) (by decide)
  have c1 : w.cell? ⟨g, 1, none⟩ = some (.int .u32 st.b) := HG.out.cell (i := 1) (by decide)
  have c2 : w.cell? ⟨g, 2, none⟩ = some (.int .u32 st.c) := HG.out.cell (i := 2) (by decide)
  have c3 : w.cell? ⟨g, 3, none⟩ = some (.int .u32 st.d) := HG.out.cell (i := 3) (by decide)
  have c4 : w.cell? ⟨g, 4, none⟩ = some (.int .u32 st.e) := HG.out.cell (i := 4) (by decide)
  have c5 : w.cell? ⟨g, 5, none⟩ = some (.int .u32 st.f) := HG.out.cell (i := 5) (by decide)
  have c6 : w.cell? ⟨g, 6, none⟩ = some (.int .u32 st.g) := HG.out.cell (i := 6) (by decide)
  have c7 : w.cell? ⟨g, 7, none⟩ = some (.int .u32 st.h) := HG.out.cell (i := 7) (by decide)
  have c8 : w.cell? ⟨g, 8, none⟩ = some (.slice A xs.length cp) := HG.out.cell (i := 8) (by decide)
  have c9 : w.cell? ⟨g, 9, none⟩ = some (.int .u64 n) := HG.out.cell (i := 9) (by decide)
  have c10 : w.cell? ⟨g, 10, none⟩ = some (.bool true) := HG.out.cell (i := 10) (by decide)
  have hgl := HG.out.lt
  go_enter Tryd.func42, Tryd.ntmps42
  go_upto_region 5 with (fail)
  refine wp_gen (fun w3 => w3.rowIs w.heap.size 29 32 (fun _ => .int .u8 0) ∧ w3.rowIs (w.heap.size + 1) 29 32 (fun _ => .int .u8 0) ∧ w3.rowIs (w.heap.size + 1 + 1) 81 11 (dgF st (.slice A xs.length cp) n) ∧ Below w.heap.size w w3 ∧ w3.heap.size = w.heap.size + 1 + 1 + 1) ⟨?_, ?_, ?_, ?_, ?_⟩ ?_
  · exact ((alloc_rep w 32 29 (.int .u8 0) _ _ rfl (by rfl)).alloc _).alloc _
  · exact (alloc_rep (w.alloc _) 32 29 (.int .u8 0) _ _ (by simp) (by rfl)).alloc _
  · exact alloc_row ((w.alloc _).alloc _) _ _ _ _ _ (by simp) rfl (fun i hi => by match i, hi with | 0, _ | 1, _ | 2, _ | 3, _ | 4, _ | 5, _ | 6, _ | 7, _ | 8, _ | 9, _ | 10, _ => rfl)
  · exact (((Below.refl _ _).alloc (Nat.le_refl _) _).alloc (by simp) _).alloc (by simp; omega) _
  · simp
  intro w3 ⟨hres, hout, hcpy, hlow, hsz⟩
  have HRES := Lib.hid hres; have HOUT := Lib.hid hout; have HCPY := Lib.hid hcpy; have HSZ := Lib.hid hsz
  have HO3 : Hid (OwnI w3 B 5 .u8 (.slice A xs.length cp) xs) := Lib.hid (ho.touch (.of_below (S := fun _ => False) hlow) (fun _ _ h => h))
  have d8 : w3.cell? ⟨g, 8, none⟩ = some (.slice A xs.length cp) := (hlow.cell hgl).trans c8
  have hg3 : g < w3.heap.size := by omega
  have r1 := hcpy.frozen 8
  have r2 := hcpy.lt
  clear hres hout hcpy hsz c0 c1 c2 c3 c4 c5 c6 c7 c8 c9 c10
  go_wp2_with (at_builtin; first | (refine app_row w.heap.size rfl (.tmp 21) (.tmp 25) 64 5 .u8 1 rfl Tryd.underlying64 (by kernel_rfl) (by decide) _ _ [] xs (fun b => (Value.slice A xs.length cp).ownBlock = some b) rfl rfl (own_empty _ _ _ _ ?c1) ?c2 ?c3 ?c4 ?_) | fail)
  case c1 => omega
  case c2 => exact (HO3.out.touch ((Touch.refl (fun _ => False) w3).alloc _) (fun _ _ h => h)).rd
  case c3 => simp; omega
  case c4 => simp; omega
  intro A4 n4 p4 w4 ho4 T4 hat4 hn4 _
  subst hn4
  go_wp2_with (at_builtin; refine app_one w.heap.size rfl (.tmp 26) (.tmp 27) 64 5 .u8 1 rfl Tryd.underlying64 (by kernel_rfl) (by decide) _ _ 128 rfl rfl ho4 ?d3 ?d4 ?_)
  case d3 => exact Nat.le_trans hlow.size (Nat.le_trans (by simp) T4.size)
  case d4 => omega
  intro A5 n5 p5 w5 ho5 T5 hat5 hn5
  subst hn5
  have T35 : Touch (fun b => w3.heap.size ≤ b) w3 w5 := (((Touch.refl _ w3).alloc _).trans T4 (fun i hi => .inl (own_ge hi (Nat.le_refl _)))).trans T5 (fun i hi => .inl ((hat4.out i hi).elim (fun h => own_ge h (Nat.le_refl _)) (fun h => by first | omega | (simp at h; omega))))
  have hres5 := T35.row HRES.out (by have := HSZ.out; omega)
  have hout5 := T35.row HOUT.out (by have := HSZ.out; omega)
  have hcpy5 := T35.row HCPY.out (by have := HSZ.out; omega)
  have hlow5 : Below w.heap.size w w5 := hlow.trans (T35.below hlow.size (fun k hk => by have := hlow.size; omega))
  have HNE5 : Hid (∀ b, (Value.slice A5 (xs.length + 1) p5).ownBlock = some b → b ≠ w.heap.size + 1 + 1) := Lib.hid (ho5.ne_row hcpy5 (by decide))
  have HNR5 : Hid (∀ b, (Value.slice A5 (xs.length + 1) p5).ownBlock = some b → b ≠ w.heap.size) := Lib.hid (ho5.ne_row hres5 (by decide))
  have r8 := hcpy5.cell (i := 8) (by decide)
  have q8 := hcpy5.frozen 8
  have HST : Hid (SumSt w (w5.setCell ⟨w.heap.size + 1 + 1, 8, none⟩ (.slice A5 (xs.length + 1) p5)) st (.slice A5 (xs.length + 1) p5) n (xs ++ [128])) := Lib.hid (by
    have T6 := (Touch.refl (fun k => k = w.heap.size + 1 + 1) w5).setCell (p := ⟨w.heap.size + 1 + 1, 8, none⟩) (.inl rfl) (.slice A5 (xs.length + 1) p5)
    exact ⟨T6.row hres5 (by omega), T6.row hout5 (by omega), (hcpy5.set 8 _).congr (fun i hi => by match i, hi with | 0, _ | 1, _ | 2, _ | 3, _ | 4, _ | 5, _ | 6, _ | 7, _ | 8, _ | 9, _ | 10, _ => rfl), ho5.touch T6 HNE5.out, hlow5.setCell (by simp; omega) _⟩)
  clear T4 T5 hat4 hat5 hres5 hout5 hcpy5 hlow5 HNE5 HNR5 ho4 ho5 HRES HOUT HCPY T35 d8 r1 r2 hlow HO3
  go_wp2
  go_loopg [] (padZ (xs.length + 1)) (fun gk wr => ∃ v' j, SumSt w wr st v' n (xs ++ [128] ++ List.replicate j 0) ∧ Eager (j ≤ padZ (xs.length + 1) ∧ gk + j = padZ (xs.length + 1)))
  case atStart => exact ⟨_, 0, by simpa using HST.out, ⟨by omega, by omega⟩⟩
  case round =>
    obtain ⟨v', j, hst, hj⟩ := hrel
    obtain ⟨A7, m7, p7, rfl, hm7⟩ := hst.own.form
    have s8 : wr.cell? ⟨w.heap.size + 1 + 1, 8, none⟩ = some (.slice A7 m7 p7) := hst.cpy.cell (i := 8) (by decide)
    have t8 := hst.cpy.frozen 8
    by_cases hjp : j = padZ (xs.length + 1)
    · have hb : ((m7 : Int) % 64 != 56) = false := by
        have := hm7.out
        simp at this
        have := (padZ_stop (xs.length + 1) j (by omega)).2 hjp
        rw [bne_eq_false_iff_eq]; omega
      subst hjp
      have HST := Lib.hid hst; clear hst
      go_wp2
      clear s8 t8 hb
      go_loopw [5] (fun i wr => ∃ (k : Nat) (v' : Value), k ≤ 8 ∧ i = .int .i64 (7 - (k : Int)) ∧ SumSt w wr st v' n (xs ++ [128] ++ List.replicate (padZ (xs.length + 1)) 0 ++ bitsL n k)) (fun i _ => (intOf i + 1).toNat)
      case atStart => exact ⟨0, _, by omega, rfl, by simpa [bitsL] using HST.out⟩
      case round =>
        clear hm7 hj HST
        obtain ⟨k, v', hk, rfl, hst⟩ := hrel
        obtain ⟨A7, m7, p7, rfl, hm7⟩ := hst.own.form
        have hm7' : m7 ≤ 256 := by rw [hm7.out]; have := padZ_lt (xs.length + 1); simp [bitsL_length]; omega
        have s8 : wr.cell? ⟨w.heap.size + 1 + 1, 8, none⟩ = some (.slice A7 m7 p7) := hst.cpy.cell (i := 8) (by decide)
        have s9 : wr.cell? ⟨g, 9, none⟩ = some (.int .u64 n) := (hst.low.cell hgl).trans (HG.out.cell (i := 9) (by decide))
        have t8 := hst.cpy.frozen 8
        by_cases hk8 : k < 8
        · have h1 : 0 ≤ 7 - (k : Int) := by omega
          have h2 : IntKind.i64.wrap (8 * (7 - (k : Int))) = 8 * (7 - (k : Int)) := IntWalk.i64_in _ (by omega)
          have h3 : 0 ≤ 8 * (7 - (k : Int)) := by omega
          have h4 := hst.low.size
          have hrl := hst.cpy.lt
          have hgr : g < wr.heap.size := by omega
          have HOW := Lib.hid hst.own
          have HC7 : Hid (∀ b, (Value.slice A7 m7 p7).ownBlock = some b → b ≠ w.heap.size + 1 + 1 ∧ b ≠ g) := Lib.hid (fun b hb => ⟨hst.own.ne_row hst.cpy (by decide) b hb, by have := (hst.own.lt hb).1; omega⟩)
          have S8 := Lib.hid s8
          have S9 := Lib.hid s9
          have HSS := Lib.hid hst; clear hst
          go_wp2
          go_region_law ((refine step_app_one_d w.heap.size (by rfl) _ _ _ 5 .u8 1 (by rfl) Tryd.underlying64 (by kernel_rfl) (by decide) _ _ _ (by rfl) (by rfl) ⟨HOW.out.out⟩ h4 (by have := hm7.out; omega) ?_; intro A8 n8 p8 w8 ho8 T8 hat8; have fz8 := (T8.row HSS.out.cpy (fun e => (HC7.out _ e).1 rfl)).frozen 8; have cz8 := T8.cell_some S8.out (fun e => (HC7.out _ e).1 rfl)))
          all_goals
            have hst := HSS.out
            have T8' : Touch (fun b => w.heap.size ≤ b ∧ b ≠ w.heap.size ∧ b ≠ w.heap.size + 1 ∧ b ≠ w.heap.size + 1 + 1) wr w8 := T8.mono (fun i hi _ => ⟨(hst.own.lt hi).1, hst.own.ne_row hst.res (by decide) i hi, hst.own.ne_row hst.out (by decide) i hi, hst.own.ne_row hst.cpy (by decide) i hi⟩)
            have hcpy8 := T8'.row hst.cpy (by omega)
            have HN8 := ho8.ne_row hcpy8 (by decide)
            have e8 : xs ++ [128] ++ List.replicate (padZ (xs.length + 1)) 0 ++ bitsL n (k + 1) = xs ++ [128] ++ List.replicate (padZ (xs.length + 1)) 0 ++ bitsL n k ++ [bitB n (7 - k)] := by rw [bitsL_succ]; simp
            have HST : Hid (SumSt w (w8.setCell ⟨w.heap.size + 1 + 1, 8, none⟩ (.slice A8 n8 p8)) st (.slice A8 n8 p8) n (xs ++ [128] ++ List.replicate (padZ (xs.length + 1)) 0 ++ bitsL n (k + 1))) := Lib.hid (by
              have T6 := (Touch.refl (fun k => k = w.heap.size + 1 + 1) w8).setCell (p := ⟨w.heap.size + 1 + 1, 8, none⟩) (.inl rfl) (.slice A8 n8 p8)
              refine ⟨T6.row (T8'.row hst.res (by omega)) (by omega), T6.row (T8'.row hst.out (by omega)) (by omega), (hcpy8.set 8 _).congr (fun i hi => by match i, hi with | 0, _ | 1, _ | 2, _ | 3, _ | 4, _ | 5, _ | 6, _ | 7, _ | 8, _ | 9, _ | 10, _ => rfl), ?_, (hst.low.trans (T8'.below hst.low.size (fun k hk => hk.1))).setCell (by simp; omega) _⟩
              rw [e8]
              have eb : bitB n (7 - k) = IntKind.u8.wrap (IntKind.u64.wrap (n * 8) / 2 ^ (8 * (7 - (k : Int))).toNat) := by
                unfold bitB; rw [show (8 * (7 - (k : Int))).toNat = 8 * (7 - k) from by omega]
              rw [eb]
              exact ho8.touch T6 HN8)
            clear T8 T8' hat8 hcpy8 ho8 HN8 hst e8 cz8 fz8 HOW HSS HC7 S8 S9
            go_wp2
            refine ⟨⟨k + 1, _, by omega, by congr 1; omega, HST.out⟩, by simp [intOf]; omega⟩
        · obtain rfl : k = 8 := by omega
          have HKW := (hst.low.block _ HKL.out).trans HK.out
          have hadd := add_any (w.heap.size + 1 + 1) w.heap.size st _ (.slice none 0 0) n _ [] (fun _ => False) wr hst.cpy hst.own (rd_nil _ _ _) (fun _ h => h.elim) hst.low.size (by rw [← hm7.out]; simp; omega) hn HKW
          have HADD := Lib.hid hadd; clear hadd HKW
          have HSS := Lib.hid hst; clear hst
          go_wp2_with (go_at_call 41; refine HADD.out.mono ?_; rintro e w5 ⟨v5, zs, st', rfl, hfe, hr5, ho5, hz5, ht5, hn5⟩; have q0 : w5.cell? ⟨w.heap.size + 1 + 1, 0, none⟩ = some (.int .u32 st'.a) := hr5.cell (i := 0) (by decide); have q1 : w5.cell? ⟨w.heap.size + 1 + 1, 1, none⟩ = some (.int .u32 st'.b) := hr5.cell (i := 1) (by decide); have q2 : w5.cell? ⟨w.heap.size + 1 + 1, 2, none⟩ = some (.int .u32 st'.c) := hr5.cell (i := 2) (by decide); have q3 : w5.cell? ⟨w.heap.size + 1 + 1, 3, none⟩ = some (.int .u32 st'.d) := hr5.cell (i := 3) (by decide); have q4 : w5.cell? ⟨w.heap.size + 1 + 1, 4, none⟩ = some (.int .u32 st'.e) := hr5.cell (i := 4) (by decide); have q5 : w5.cell? ⟨w.heap.size + 1 + 1, 5, none⟩ = some (.int .u32 st'.f) := hr5.cell (i := 5) (by decide); have q6 : w5.cell? ⟨w.heap.size + 1 + 1, 6, none⟩ = some (.int .u32 st'.g) := hr5.cell (i := 6) (by decide); have q7 : w5.cell? ⟨w.heap.size + 1 + 1, 7, none⟩ = some (.int .u32 st'.h) := hr5.cell (i := 7) (by decide); have HR5 := Lib.hid hr5; clear hr5)
          have HOUT5 : Hid (w5.rowIs (w.heap.size + 1) 29 32 (fun _ => .int .u8 0)) := Lib.hid (ht5.row HSS.out.out (fun h => h.elim (fun h => by omega) (fun h => HSS.out.own.ne_row HSS.out.out (by decide) _ h rfl)))
          have HRES5 : Hid (w5.rowIs w.heap.size 29 32 (fun _ => .int .u8 0)) := Lib.hid (ht5.row HSS.out.res (fun h => h.elim (fun h => by omega) (fun h => HSS.out.own.ne_row HSS.out.res (by decide) _ h rfl)))
          have HLOW5 : Hid (Below w.heap.size w w5) := Lib.hid (HSS.out.low.trans (ht5.below HSS.out.low.size (fun k hk => hk.elim (fun h => by omega) (fun h => (HSS.out.own.lt h).1))))
          clear q0 q1 q2 q3 q4 q5 q6 q7 HADD HSS ht5 hn5 ho5
          go_loopw [61] (fun i wr => ∃ k : Nat, k ≤ 8 ∧ i = .int .i64 k ∧ wr.rowIs (w.heap.size + 1) 29 32 (fun j => .int .u8 (if j < 4 * k then outB st' j else 0)) ∧ wr.rowIs w.heap.size 29 32 (fun _ => .int .u8 0) ∧ Below w.heap.size w wr) (fun i _ => 8 - (intOf i).toNat)
          case atStart => exact ⟨0, by omega, rfl, HOUT5.out.congr (fun i hi => by simp), HRES5.out, HLOW5.out⟩
          case round =>
            obtain ⟨k, hk, rfl, hout, hres, hlow⟩ := hrel
            by_cases hlt : k < 8
            · have hix : ∀ w : World, (Instr.index 79 (.agg #[.int .u32 st'.a, .int .u32 st'.b, .int .u32 st'.c, .int .u32 st'.d, .int .u32 st'.e, .int .u32 st'.f, .int .u32 st'.g, .int .u32 st'.h]) (.int .i64 (k : Int))).run Tryd.prog w = .ok (.int .u32 (st'.get k)) w :=
                run_index_arr (P := Tryd.prog) 79 74 8 _ k _ Tryd.underlying79 (by kernel_rfl) (by kernel_rfl) hlt (by match k, hlt with | 0, _ | 1, _ | 2, _ | 3, _ | 4, _ | 5, _ | 6, _ | 7, _ => rfl)
              have o0 := hout.cell (i := 4 * k) (by omega)
              have o1 := hout.cell (i := 4 * k + 1) (by omega)
              have o2 := hout.cell (i := 4 * k + 2) (by omega)
              have o3 := hout.cell (i := 4 * k + 3) (by omega)
              have p0 := hout.frozen (4 * k)
              have p1 := hout.frozen (4 * k + 1)
              have p2 := hout.frozen (4 * k + 2)
              have p3 := hout.frozen (4 * k + 3)
              have HOUT := Lib.hid hout; clear hout
              go_wp2
              obtain ⟨b0, b1, b2, b3⟩ := outB_at st' k
              refine ⟨⟨k + 1, by omega, by go_num, ((((HOUT.out.set (4 * k) _).set (4 * k + 1) _).set (4 * k + 2) _).set (4 * k + 3) _).congr (fun i hi => ?_), (((hres.setOther (by simp) _).setOther (by simp) _).setOther (by simp) _).setOther (by simp) _, (((hlow.setCell (by simp) _).setCell (by simp) _).setCell (by simp) _).setCell (by simp) _⟩, by simp [intOf]; omega⟩
              by_cases e3 : i = 4 * k + 3
              · subst e3; rw [if_pos rfl, if_pos (by omega), b3]
              · rw [if_neg e3]
                by_cases e2 : i = 4 * k + 2
                · subst e2; rw [if_pos rfl, if_pos (by omega), b2]
                · rw [if_neg e2]
                  by_cases e1 : i = 4 * k + 1
                  · subst e1; rw [if_pos rfl, if_pos (by omega), b1]
                  · rw [if_neg e1]
                    by_cases e0 : i = 4 * k
                    · subst e0; rw [if_pos rfl, if_pos (by omega), b0]
                    · rw [if_neg e0]
                      by_cases el : i < 4 * k
                      · rw [if_pos el, if_pos (by omega)]
                      · rw [if_neg el, if_neg (by omega)]
            · obtain rfl : k = 8 := by omega
              have HO := Lib.hid (row_heap hout (outV (outL st')) (by rw [outV_size, outL_length]) (fun i hi => by rw [outV_at st' i hi, if_pos (by omega)]))
              have HR := Lib.hid (row_heap hres (Array.replicate 32 (.int .u8 0)) (by simp) (fun i hi => by simp [hi]))
              clear hout hres
              go_wp2_with (first | (refine wpList_load_row rfl 29 (.tmp 3) rfl (w.heap.size + 1) rfl 29 _ (0, 0) _ HO.out Tryd.underlying29 rfl (by kernel_rfl) ?_) | (refine wpList_store_row rfl 29 (.tmp 2) (.tmp 92) rfl w.heap.size (outV (outL st')) rfl rfl 29 _ HR.out (by kernel_rfl) (by rw [outV_size, outL_length]; simp) (outV_one _) ?_))
              refine bodyPost_ret (v := .agg (outV (outL st'))) (results_cell_row (p := 2) (ty := 29) (by kernel_rfl) _ _ w.heap.size 29 (outV (outL st')) (0, 0) _ (by rfl) (heap_setRow HR.out _) Tryd.underlying29 rfl (by kernel_rfl)) rfl ⟨?_, ?_⟩
              · have e : (feed st (padded xs n)).1 = st' := by
                  unfold padded
                  rw [← List.append_nil (xs ++ [128] ++ List.replicate (padZ (xs.length + 1)) 0 ++ bitsL n 8), hfe]
                rw [e]
              · exact (Touch.of_below (S := fun b => w.heap.size ≤ b) hlow |>.setRow (.inl (Nat.le_refl _)) _).below (Nat.le_refl _) (fun k hk => hk)
    · have hb : ((m7 : Int) % 64 != 56) = true := by
        have := hm7.out
        simp at this
        have := mt (padZ_stop (xs.length + 1) j hj.out.1).1 hjp
        rw [bne_iff_ne]; omega
      go_wp2_with (at_builtin; refine app_one w.heap.size rfl (.tmp 36) (.tmp 37) 64 5 .u8 1 rfl Tryd.underlying64 (by kernel_rfl) (by decide) _ _ 0 rfl rfl hst.own hst.low.size ?g1 ?_)
      case g1 => have := hj.out.1; have := padZ_lt (xs.length + 1); simp; omega
      intro A8 n8 p8 w8 ho8 T8 hat8 hn8
      clear hn8
      have T8' : Touch (fun b => w.heap.size ≤ b ∧ b ≠ w.heap.size ∧ b ≠ w.heap.size + 1 ∧ b ≠ w.heap.size + 1 + 1) wr w8 := T8.mono (fun i hi _ => ⟨(hst.own.lt hi).1, hst.own.ne_row hst.res (by decide) i hi, hst.own.ne_row hst.out (by decide) i hi, hst.own.ne_row hst.cpy (by decide) i hi⟩)
      have hcpy8 := T8'.row hst.cpy (by omega)
      have HN8 : Hid (∀ b, (Value.slice A8 n8 p8).ownBlock = some b → b ≠ w.heap.size + 1 + 1) := Lib.hid (ho8.ne_row hcpy8 (by decide))
      have r8 := hcpy8.cell (i := 8) (by decide)
      have q8 := hcpy8.frozen 8
      have HST : Hid (SumSt w (w8.setCell ⟨w.heap.size + 1 + 1, 8, none⟩ (.slice A8 n8 p8)) st (.slice A8 n8 p8) n (xs ++ [128] ++ List.replicate (j + 1) 0)) := Lib.hid (by
        have T6 := (Touch.refl (fun k => k = w.heap.size + 1 + 1) w8).setCell (p := ⟨w.heap.size + 1 + 1, 8, none⟩) (.inl rfl) (.slice A8 n8 p8)
        refine ⟨T6.row (T8'.row hst.res (by omega)) (by omega), T6.row (T8'.row hst.out (by omega)) (by omega), (hcpy8.set 8 _).congr (fun i hi => by match i, hi with | 0, _ | 1, _ | 2, _ | 3, _ | 4, _ | 5, _ | 6, _ | 7, _ | 8, _ | 9, _ | 10, _ => rfl), ?_, (hst.low.trans (T8'.below hst.low.size (fun k hk => hk.1))).setCell (by simp; omega) _⟩
        have e8 : xs ++ [128] ++ List.replicate (j + 1) 0 = xs ++ 128 :: (List.replicate j 0 ++ [0]) := by rw [List.replicate_succ']; simp
        rw [e8]
        exact ho8.touch T6 HN8.out)
      clear T8 T8' hat8 hcpy8 ho8 HN8 hst
      go_wp2
      go_roundg (gk - 1)
      case measure => have := hj.out; omega
      case rel => exact ⟨_, j + 1, HST.out, ⟨by have := hj.out; omega, by have := hj.out; omega⟩⟩
end Go.Proofs.YteggcfcjajpcgaaDoor
