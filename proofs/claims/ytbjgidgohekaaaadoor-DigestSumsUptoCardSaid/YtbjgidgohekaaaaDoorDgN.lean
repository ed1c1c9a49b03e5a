/- Walk: DigestSums. -/
import Derived.Test.YtbjgidgohekaaaaDoorDgG
import Derived.Test.YtbjgidgohekaaaaDoorDgL
import Derived.Test.YtbjgidgohekaaaaDoorDgM
import Derived.Test.YtbjgidgohekaaaaDoorDgQ
set_option linter.unusedVariables false
namespace Go.Proofs.YtbjgidgohekaaaaDoor
open Go.RowKit
set_option maxHeartbeats 1000000 in
theorem sums_any (v : Value) (ls : List (List Int)) (w : World) (h : RdRows w v ls (fun b => b < w.heap.size)) (hn : ls.length ≤ 1000000000) (hl : ls.flatten.length ≤ 1000000000)
    (hk0 : w.heap[0]? = some (.cells kV 58 (0, 0))) :
    Calls Tryd.prog 3 #[v] w fun e w' => e = .returned (.bool true) ∧ Below w.heap.size w w' := by
  have HKL : Hid (0 < w.heap.size) := Lib.hid (row_of_heap hk0 undef).lt
  have S1 := Lib.hid (copied_any v ls _ w h hn hl)
  obtain ⟨A, c, rfl⟩ : ∃ A c, v = .slice A ls.length c := ⟨_, _, h.choose_spec.choose_spec.1⟩
  have H := Lib.hid h; clear h
  have HK := Lib.hid hk0; clear hk0
  go_enter Tryd.func3, Tryd.ntmps3
  go_wp2_with fail
  refine S1.out.mono ?_
  rintro e w1 ⟨A1, n1, c1, rfl, hr1, hb1⟩
  have HR1 := Lib.hid hr1; have HB1 := Lib.hid hb1
  clear hr1 hb1
  go_wp2_with fail
  refine (sum_any _ ls _ w1 HR1.out (by omega) ((HB1.out.block _ HKL.out).trans HK.out) (fun b hb => hb.2)).mono ?_
  rintro e w2 ⟨rfl, hb2⟩
  have HB2 := Lib.hid hb2; clear hb2
  go_wp2_with fail
  refine (rsum_any _ ls _ w2 (H.out.touch (.of_below (S := fun _ => False) (HB1.out.trans (HB2.out.mono HB1.out.size))) (fun _ _ h => h)) (by omega)).mono ?_
  rintro e w3 ⟨rfl, hb3⟩
  have HLOW := Lib.hid (HB1.out.trans ((HB2.out.trans (hb3.mono HB2.out.size)).mono HB1.out.size))
  have HR3 := Lib.hid (HR1.out.touch (.of_below (S := fun _ => False) (HB2.out.trans (hb3.mono HB2.out.size))) (fun _ _ h => h))
  clear hb3
  have heq : ∀ w : World, (Op.equalIn 10000 24 (.agg (outV (sha ls.flatten))) (.agg (outV (sha ls.flatten)))).run Tryd.prog w = .ok true w := fun w =>
    run_eq_arr 24 5 32 9998 _ w Tryd.underlying24 Tryd.underlying5 (by kernel_rfl) (fun i hi => ⟨_, outV_get _ i (by rw [sha_length]; exact hi)⟩)
  go_wp2
  go_loopw [4] (fun i wr => ∃ k : Nat, k ≤ ls.length ∧ i = .int .i64 k ∧ ∃ n, wr = w3.drewN n) (fun i _ => ls.length - (intOf i).toNat)
  case atStart => exact ⟨0, by omega, rfl, 0, rfl⟩
  case round =>
    obtain ⟨k, hk, rfl, n, rfl⟩ := hrel
    by_cases hlt : k < ls.length
    · obtain ⟨A', c', e1, hc0, hm, hr⟩ := H.out
      obtain ⟨A1', c1', e2, hc0', hm', hr'⟩ := HR3.out
      injection e1 with e1 _ e4
      injection e2 with e2 e3 e5
      subst e1 e2 e4 e5
      obtain rfl : n1 = ls.length := by omega
      obtain ⟨b, off, rfl, hFb, hcs⟩ := hr (by omega)
      obtain ⟨rv, hc, hrd⟩ := hcs k hlt
      obtain ⟨b1, off1, rfl, hFb1, hcs1⟩ := hr' (by omega)
      obtain ⟨rv1, hc1, hrd1⟩ := hcs1 k hlt
      have hc3 : w3.cell? ⟨b, off + k, none⟩ = some rv := (HLOW.out.cell (World.block_lt_of_cell? w _ hc)).trans hc
      have hrd3 : RdI w3 .u8 rv (ls.getD k []) _ := hrd.touch (.of_below (S := fun _ => False) HLOW.out) (fun _ _ h => h)
      have hsame : ∀ m, Calls Tryd.prog 11 #[rv1, rv] (w3.drewN m) fun e w' => e = .returned (.bool true) ∧ w' = w3.drewN m := fun m =>
        same_any rv1 rv (ls.getD k []) _ _ _ (hrd1.touch ((Touch.refl (fun _ => False) _).drewN m) (fun _ _ h => h)) (hrd3.touch ((Touch.refl (fun _ => False) _).drewN m) (fun _ _ h => h))
      obtain ⟨Ar, cr, rfl, _⟩ := id hrd
      obtain ⟨Ar1, cr1, rfl, _⟩ := id hrd1
      generalize (ls.getD k []).length = nn at *
      have HSAME := Lib.hid hsame
      clear hsame hr hr' hcs hcs1 hc hrd hrd1 hrd3 hFb hFb1 hc0 hc0' hm hm'
      go_wp2
      go_quiet ((go_at_call 11; first | exact Calls.quiet_of_same (HSAME.out _) | exact quiet_of_same2 (HSAME.out _) | exact quiet_of_same3 (HSAME.out _)))
      all_goals go_wp2
      go_roundw
      case measure => simp [intOf]; omega
      case rel => exact ⟨k + 1, by omega, by go_num, _, rfl⟩
    · obtain rfl : k = ls.length := by omega
      have hw := works_any (w3.drewN n) ((HLOW.out.block _ HKL.out).trans HK.out)
      go_wp2_with (go_at_call 12; refine hw.mono ?_; rintro e w4 ⟨rfl, hb4⟩)
      go_ret
      exact ⟨rfl, (below_drewN HLOW.out n).trans (hb4.mono HLOW.out.size)⟩
end Go.Proofs.YtbjgidgohekaaaaDoor
