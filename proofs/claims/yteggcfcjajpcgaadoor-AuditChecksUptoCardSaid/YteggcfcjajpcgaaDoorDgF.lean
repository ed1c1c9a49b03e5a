/- Walks: Bytes, SameBytes, digest.Sum. -/
import Derived.Test.YteggcfcjajpcgaaDoorDgD
set_option linter.unusedVariables false
namespace Go.Proofs.YteggcfcjajpcgaaDoor
open Go.RowKit
/-- A digest of l so far. -/
structure DigSt (w : World) (B g : Nat) (l : List Int) : Prop where
  ex : ∃ st v rest, w.rowIs g 81 11 (dgF st v (IntKind.u64.wrap l.length)) ∧ OwnI w B 5 .u8 v rest ∧ feed iv0 l = (st, rest) ∧ B ≤ g
theorem wrap_add (a b : Nat) : IntKind.u64.wrap (IntKind.u64.wrap (a : Int) + (b : Int)) = IntKind.u64.wrap ((a + b : Nat) : Int) := by simp [IntKind.wrap, IntKind.bits, IntKind.signed]
theorem dig_add (g B : Nat) (l ys : List Int) (vb : Value) (F : Nat → Prop) (w : World) (h : DigSt w B g l) (hy : RdI w .u8 vb ys F) (hF : ∀ b, F b → b < B) (hB : B ≤ w.heap.size) (hl : ys.length ≤ 140737488350000)
    (hk0 : w.heap[0]? = some (.cells kV 90 (0, 0))) :
    Calls Tryd.prog 41 #[.pointer (some ⟨g, 0, none⟩), vb] w fun e w' => e = .returned (.tuple #[]) ∧ DigSt w' B g (l ++ ys) ∧ Below B w w' := by
  obtain ⟨st, v, rest, hg, ho, hf, hBg⟩ := h.ex
  have hlen := feed_len _ l iv0 rfl
  rw [hf] at hlen
  dsimp only at hlen
  refine (add_any g B st v vb _ rest ys F w hg ho hy (fun b hb => ⟨by have := hF b hb; omega, fun e => by have := hF b hb; have := (ho.lt e).1; omega⟩) hB (by omega) (by simp [IntKind.wrap, IntKind.bits, IntKind.signed]; omega) hk0).mono ?_
  rintro e w' ⟨v', zs, st', rfl, hfe, hr, ho', hz, ht, hn⟩
  refine ⟨rfl, ⟨st', v', zs, ?_, ho', ?_, hBg⟩, ht.below hB (fun k hk => hk.elim (fun h => by omega) (fun h => (ho.lt h).1))⟩
  · rw [wrap_add] at hr
    rw [List.length_append]
    exact hr
  · rw [feed_append ys _ l iv0 rfl, hf, hfe]
theorem dig_sum (g B : Nat) (l : List Int) (w : World) (h : DigSt w B g l)
    (hk0 : w.heap[0]? = some (.cells kV 90 (0, 0))) :
    Calls Tryd.prog 42 #[.pointer (some ⟨g, 0, none⟩)] w fun e w' => e = .returned (.agg (outV (sha l))) ∧ Below w.heap.size w w' := by
  obtain ⟨st, v, rest, hg, ho, hf, hBg⟩ := h.ex
  have hlen := feed_len _ l iv0 rfl
  rw [hf] at hlen
  dsimp only at hlen
  refine (dsum_any g B st v _ rest w hg ho (by omega) (by simp [IntKind.wrap, IntKind.bits, IntKind.signed]; omega) hk0).mono ?_
  rintro e w' ⟨rfl, hb⟩
  rw [sha_of l st rest hf]
  exact ⟨rfl, hb⟩
theorem DigSt.below {w w' : World} {B g : Nat} {l : List Int} (h : DigSt w B g l) {S : Nat → Prop} (ht : Touch S w w') (hS : ∀ k, S k → k < B ∨ w.heap.size ≤ k) : DigSt w' B g l := by
  obtain ⟨st, v, rest, hg, ho, hf, hBg⟩ := h.ex
  have hl := hg.lt
  exact ⟨st, v, rest, ht.row hg (fun e => by have := hS _ e; omega), ho.touch ht (fun b hb e => by have := hS _ e; have := ho.lt hb; omega), hf, hBg⟩
set_option maxHeartbeats 1000000 in
theorem sum_any (v : Value) (ls : List (List Int)) (F : Nat → Prop) (w : World) (h : RdRows w v ls F) (hl : ls.flatten.length ≤ 140737488350000)
    (hk0 : w.heap[0]? = some (.cells kV 90 (0, 0))) (hF : ∀ b, F b → b < w.heap.size) :
    Calls Tryd.prog 33 #[v] w fun e w' => e = .returned (.agg (outV (sha ls.flatten))) ∧ Below w.heap.size w w' := by
  have HKL : Hid (0 < w.heap.size) := Lib.hid (row_of_heap hk0 undef).lt
  obtain ⟨A, c, rfl, hc0, hm, hr⟩ := h
  have HK := Lib.hid hk0; clear hk0
  have HR := Lib.hid hr; clear hr
  go_enter Tryd.func33, Tryd.ntmps33
  go_upto_region 1 with (fail)
  refine wp_gen (fun w0 => w0.rowIs w.heap.size 29 32 (fun _ => .int .u8 0) ∧ Below w.heap.size w w0 ∧ w0.heap.size = w.heap.size + 1) ⟨alloc_rep w 32 29 (.int .u8 0) _ _ rfl (by rfl), (Below.refl _ _).alloc (Nat.le_refl _) _, by simp⟩ ?_
  intro w0 ⟨hres, hlow0, hsz⟩
  have HRES := Lib.hid hres; have HL0 := Lib.hid hlow0; have HSZ := Lib.hid hsz
  clear hres hlow0 hsz
  go_wp2_with (first | (go_at_call 40; refine (new_any _).mono ?_; rintro e w1 ⟨g, rfl, hg1, hr1, hb1⟩; have HR1 := Lib.hid hr1; clear hr1))
  have HST : Hid (DigSt w1 w0.heap.size g []) := Lib.hid ⟨iv0, .slice none 0 0, [], HR1.out, ⟨World.ownsRow_nil _ _ _ _⟩, feed_small _ _ (by simp), hg1⟩
  have HB1 := Lib.hid hb1
  clear HR1 hb1
  go_loopw [9] (fun i wr => ∃ k : Nat, k ≤ ls.length ∧ i = .int .i64 k ∧ DigSt wr w0.heap.size g (ls.take k).flatten ∧ Below w0.heap.size w0 wr) (fun i _ => ls.length - (intOf i).toNat)
  case atStart => exact ⟨0, by omega, rfl, HST.out, HB1.out⟩
  case round =>
    obtain ⟨k, hk, rfl, hst, hlow⟩ := hrel
    by_cases hlt : k < ls.length
    · obtain ⟨b, off, rfl, hFb, hcs⟩ := HR.out (by omega)
      obtain ⟨rv, hc, hrd⟩ := hcs k hlt
      have hlw : Below w.heap.size w wr := HL0.out.trans (hlow.mono (by have := HSZ.out; omega))
      have hc' : wr.cell? ⟨b, off + k, none⟩ = some rv := (hlw.cell (World.block_lt_of_cell? w _ hc)).trans hc
      have HKW := (hlw.block _ HKL.out).trans HK.out
      have hsl : (ls.getD k []).length ≤ ls.flatten.length := by
        rw [List.getD_eq_getElem?_getD, List.getElem?_eq_getElem hlt]
        exact (List.sublist_flatten_of_mem (List.getElem_mem hlt)).length_le
      have hadd := dig_add g w0.heap.size _ (ls.getD k []) rv F wr hst (hrd.touch (.of_below (S := fun _ => False) hlw) (fun _ _ h => h)) (fun b hb => by have := hF b hb; have := HSZ.out; omega) hlow.size (by omega) HKW
      generalize hys : ls.getD k [] = ys at *
      obtain ⟨Ar, cr, rfl, hrd2⟩ := hrd
      have HADD := Lib.hid hadd
      have HLOW := Lib.hid hlow
      have HYS := Lib.hid hys
      clear hadd hst hlow HKW hc hcs hrd2 hlw hsl hys
      go_wp2_with (go_at_call 41; refine HADD.out.mono ?_; rintro e w2 ⟨rfl, hst2, hb2⟩)
      go_roundw
      case measure => simp [intOf]; omega
      case rel =>
        refine ⟨k + 1, by omega, by go_num, ?_, HLOW.out.trans hb2⟩
        have e : (ls.take (k + 1)).flatten = (ls.take k).flatten ++ ls.getD k [] := by
          rw [List.take_succ_eq_append_getElem hlt, List.flatten_append, List.getD_eq_getElem?_getD, List.getElem?_eq_getElem hlt]
          simp
        rw [e, HYS.out]
        exact hst2
    · obtain rfl : k = ls.length := by omega
      rw [List.take_length] at hst
      have hlw : Below w.heap.size w wr := HL0.out.trans (hlow.mono (by have := HSZ.out; omega))
      have HKW := (hlw.block _ HKL.out).trans HK.out
      have HS := Lib.hid (dig_sum g w0.heap.size _ wr hst HKW)
      have HLW := Lib.hid hlw
      have HR0 := Lib.hid ((hlow.block w.heap.size (by have := HSZ.out; omega)).trans (row_heap HRES.out (Array.replicate 32 (.int .u8 0)) (by simp) (fun i hi => by simp [hi])))
      have hws := hlow.size
      clear hst hlow HKW hlw
      go_wp2_with (first | (go_at_call 42; refine HS.out.mono ?_; rintro e w2 ⟨rfl, hb2⟩; have HR2 := Lib.hid ((hb2.block w.heap.size (by have := HSZ.out; omega)).trans HR0.out)) | (refine wpList_store_row rfl 29 (.tmp 2) (.tmp 18) rfl w.heap.size (outV (sha ls.flatten)) rfl rfl 29 _ HR2.out (by kernel_rfl) (by simp [outV_size, sha, outL_length]) (outV_one _) ?_))
      refine bodyPost_ret (v := .agg (outV (sha ls.flatten))) (results_cell_row (p := 2) (ty := 29) (by kernel_rfl) _ _ w.heap.size 29 (outV (sha ls.flatten)) (0, 0) _ (by rfl) (heap_setRow HR2.out _) Tryd.underlying29 rfl (by kernel_rfl)) rfl ⟨rfl, ?_⟩
      exact ((Touch.of_below (S := fun b => w.heap.size ≤ b) (HLW.out.trans (hb2.mono HLW.out.size))).setRow (.inl (Nat.le_refl _)) _).below (Nat.le_refl _) (fun k hk => hk)
end Go.Proofs.YteggcfcjajpcgaaDoor
