/- Walk: DigestChains. -/
import Derived.Test.YtbjgidgohekaaaaDoorDgTx
import Derived.Test.YtbjgidgohekaaaaDoorDgY
set_option linter.unusedVariables false
set_option linter.unusedSimpArgs false
namespace Go.Proofs.YtbjgidgohekaaaaDoor
open Go.RowKit
set_option maxRecDepth 100000 in
set_option maxHeartbeats 4000000 in
theorem chains_any {σ : World} {Hs : List Hp} {H : Hp} (l : List Int) (s u : ByteArray) (w : World) (hw : Sat σ w Hs) (hH : H ∈ Hs) (hl : l.length = 32) (hs : s.size ≤ 400000000) (hu : u.size ≤ 400000000)
    (hk0 : H 0 = some (.cells kV 58 (0, 0))) :
    Calls Tryd.prog 5 #[.agg (outV l), .string s, .string u] w fun e w' => e = .returned (.bool true) ∧ Sat σ w' Hs := by
  have HL := Lib.hid hl; have HK := Lib.hid hk0
  have HCH := Lib.hid (fun (s : ByteArray) (hs : s.size ≤ 900000000) w' hk => chain_any l s w' hl (by omega) hk)
  have HRC := Lib.hid (fun (s : ByteArray) (hs : s.size ≤ 900000000) w' => rchain_any l s w' hl hs)
  have hu24 := Tryd.underlying24
  have hinfl : (Tryd.prog.info? 24).map (·.size) = some (cvs l).length := by rw [show (cvs l).length = 32 by simp [cvs, hl]]; kernel_rfl
  have heq : ∀ (s : ByteArray) (w : World), (Op.equalIn 10000 24 (.agg (outV (sha (chL l s).flatten))) (.agg (outV (sha (chL l s).flatten)))).run Tryd.prog w = .ok true w := fun s w =>
    run_eq_arr 24 5 32 9998 _ w Tryd.underlying24 Tryd.underlying5 (by kernel_rfl) (fun i hi => ⟨_, outV_get _ i (by rw [sha_length]; exact hi)⟩)
  have hsu : ¬ 9223372036854775807 < s.size + u.size := by omega
  have hZ2 : (s ++ u).size ≤ 900000000 := by rw [ByteArray.size_append]; omega
  have heq1 := heq s
  have heq2 := heq (s ++ u)
  have HC1 := Lib.hid (HCH.out s (by omega)); have HC2 := Lib.hid (HCH.out (s ++ u) hZ2)
  have HD1 := Lib.hid (HRC.out s (by omega)); have HD2 := Lib.hid (HRC.out (s ++ u) hZ2)
  have HE1 := Lib.hid heq1; have HE2 := Lib.hid heq2; have HI1 := Lib.hid hinfl
  clear hl hk0 heq heq1 heq2 hinfl hs hu hZ2 HCH HRC
  generalize outV (sha (chL l s).flatten) = d1 at *
  generalize outV (sha (chL l (s ++ u)).flatten) = d2 at *
  go_enter Tryd.func5, Tryd.ntmps5
  go_wp2_with fail
  have hw1 := hw.alloc (.cells (outV l) 24)
  generalize hW : w.alloc _ = w1 at *
  clear hW hw
  generalize w.heap.size = n0 at *
  refine (works_any w1 (hw1.blk (H := H) (by simp [hH]) HK.out)).mono ?_
  rintro e w2 ⟨rfl, hb2⟩
  have hw2 := hw1.below hb2
  clear hw1 hb2
  have HSS : Hid (∀ w', Sat σ w' (Hp.one n0 (.cells (outV l) 24 (0, 0)) :: Hs) → ((fun w' => w'.rangeAt n0 0 (cvs l)) w')) := Lib.hid (fun w' h => range_one (t := 24) (fr := (0, 0)) h (by simp))
  have HX1 : Hid (∀ w', Sat σ w' (Hp.one n0 (.cells (outV l) 24 (0, 0)) :: Hs) → Calls Tryd.prog 17 #[.agg (cvs l).toArray, .string s] w' fun e w2 => e = .returned (.agg d1) ∧ Sat σ w2 (Hp.one n0 (.cells (outV l) 24 (0, 0)) :: Hs)) := Lib.hid (fun w' h => (HC1.out w' (h.blk (H := H) (by simp [hH]) HK.out)).mono fun e w2 ⟨he, hb⟩ => ⟨he, h.below hb⟩)
  have HX2 : Hid (∀ w', Sat σ w' (Hp.one n0 (.cells (outV l) 24 (0, 0)) :: Hs) → Calls Tryd.prog 17 #[.agg (cvs l).toArray, .string (s ++ u)] w' fun e w2 => e = .returned (.agg d2) ∧ Sat σ w2 (Hp.one n0 (.cells (outV l) 24 (0, 0)) :: Hs)) := Lib.hid (fun w' h => (HC2.out w' (h.blk (H := H) (by simp [hH]) HK.out)).mono fun e w2 ⟨he, hb⟩ => ⟨he, h.below hb⟩)
  have HY1 : Hid (∀ w', Sat σ w' (Hp.one n0 (.cells (outV l) 24 (0, 0)) :: Hs) → Calls Tryd.prog 18 #[.agg (cvs l).toArray, .string s] w' fun e w2 => e = .returned (.agg d1) ∧ Sat σ w2 (Hp.one n0 (.cells (outV l) 24 (0, 0)) :: Hs)) := Lib.hid (fun w' h => (HD1.out w').mono fun e w2 ⟨he, hb⟩ => ⟨he, h.below hb⟩)
  have HY2 : Hid (∀ w', Sat σ w' (Hp.one n0 (.cells (outV l) 24 (0, 0)) :: Hs) → Calls Tryd.prog 18 #[.agg (cvs l).toArray, .string (s ++ u)] w' fun e w2 => e = .returned (.agg d2) ∧ Sat σ w2 (Hp.one n0 (.cells (outV l) 24 (0, 0)) :: Hs)) := Lib.hid (fun w' h => (HD2.out w').mono fun e w2 ⟨he, hb⟩ => ⟨he, h.below hb⟩)
  have heq1 := HE1.out; have heq2 := HE2.out; have hinfl := HI1.out
  clear HC1 HC2 HD1 HD2 HE1 HE2 HI1
  go_wp2
  refine wp_region_held_drew (S := fun w' => w'.rangeAt n0 0 (cvs l)) (by kernel_rfl) (HSS.out _ hw2.drew) (fun hS0 => ?_)
  refine wpAnyH_take (i := 0) rfl (by kernel_rfl) (by kernel_rfl) (by kernel_rfl) (fun _ _ _ h => h) (yieldsIf_load_mid (by kernel_rfl) _ _ rfl _ _ rfl (cvs l) _ (fun w h => h) hu24 rfl hinfl) hS0 ?_
  (try simp only [Act.put, List.getElem_toArray, List.getElem_cons_succ, List.getElem_cons_zero, List.setIfInBounds_toArray, List.set_cons_zero, List.set_cons_succ])
  refine wpAnyH_take (i := 1) (v := ?_) rfl (by kernel_rfl) (by kernel_rfl) (by kernel_rfl) (fun _ _ _ h => h) (Or.inl ⟨by kernel_rfl, ?_⟩) hS0 ?_
  rotate_left
  · intro w hSw; go_simp; (try with_reducible rfl)
  (try simp only [Act.put, List.getElem_toArray, List.getElem_cons_succ, List.getElem_cons_zero, List.setIfInBounds_toArray, List.set_cons_zero, List.set_cons_succ])
  refine wpAnyH_take (i := 3) rfl (by kernel_rfl) (by kernel_rfl) (by kernel_rfl) (fun _ _ _ h => h) (yieldsIf_load_mid (by kernel_rfl) _ _ rfl _ _ rfl (cvs l) _ (fun w h => h) hu24 rfl hinfl) hS0 ?_
  (try simp only [Act.put, List.getElem_toArray, List.getElem_cons_succ, List.getElem_cons_zero, List.setIfInBounds_toArray, List.set_cons_zero, List.set_cons_succ])
  refine wpAnyH_take (i := 4) (v := ?_) rfl (by kernel_rfl) (by kernel_rfl) (by kernel_rfl) (fun _ _ _ h => h) (Or.inl ⟨by kernel_rfl, ?_⟩) hS0 ?_
  rotate_left
  · intro w hSw; go_simp; (try with_reducible rfl)
  (try simp only [Act.put, List.getElem_toArray, List.getElem_cons_succ, List.getElem_cons_zero, List.setIfInBounds_toArray, List.set_cons_zero, List.set_cons_succ])
  refine wpAnyH_ready (rs := [2]) (by kernel_rfl) (by simp) (AllReadyH.cons rfl (fun K hK => ?_) AllReadyH.nil)
  go_simp
  refine (HX1.out _ hw2.drew).mono ?_
  rintro e w' ⟨rfl, hwa⟩
  (try go_wp2_with fail)
  refine hK.out _ _ (HSS.out _ hwa) (fun hS1 => ?_)
  clear hK K
  (try simp only [Act.put, List.getElem_toArray, List.getElem_cons_succ, List.getElem_cons_zero, List.setIfInBounds_toArray, List.set_cons_zero, List.set_cons_succ])
  refine wpAnyH_ready (rs := [5]) (by kernel_rfl) (by simp) (AllReadyH.cons rfl (fun K hK => ?_) AllReadyH.nil)
  go_simp
  refine (HY1.out _ hwa).mono ?_
  rintro e w' ⟨rfl, hwb⟩
  (try go_wp2_with fail)
  refine hK.out _ _ (HSS.out _ hwb) (fun hS2 => ?_)
  clear hK K
  (try simp only [Act.put, List.getElem_toArray, List.getElem_cons_succ, List.getElem_cons_zero, List.setIfInBounds_toArray, List.set_cons_zero, List.set_cons_succ])
  refine wpAnyH_take (i := 6) (v := ?_) rfl (by kernel_rfl) (by kernel_rfl) (by kernel_rfl) (fun _ _ _ h => h) (Or.inl ⟨by kernel_rfl, ?_⟩) hS2 ?_
  rotate_left
  · intro w hSw; go_simp; (try with_reducible rfl)
  (try simp only [Act.put, List.getElem_toArray, List.getElem_cons_succ, List.getElem_cons_zero, List.setIfInBounds_toArray, List.set_cons_zero, List.set_cons_succ])
  refine wpAnyH_take (i := 7) (v := ?_) rfl (by kernel_rfl) (by kernel_rfl) (by kernel_rfl) (fun _ _ _ h => h) (Or.inl ⟨by kernel_rfl, ?_⟩) hS2 ?_
  rotate_left
  · intro w hSw; go_simp; (try with_reducible rfl)
  (try simp only [Act.put, List.getElem_toArray, List.getElem_cons_succ, List.getElem_cons_zero, List.setIfInBounds_toArray, List.set_cons_zero, List.set_cons_succ])
  refine wpAnyH_take (i := 8) rfl (by kernel_rfl) (by kernel_rfl) (by kernel_rfl) (fun _ _ _ h => h) (yieldsIf_load_mid (by kernel_rfl) _ _ rfl _ _ rfl (cvs l) _ (fun w h => h) hu24 rfl hinfl) hS2 ?_
  (try simp only [Act.put, List.getElem_toArray, List.getElem_cons_succ, List.getElem_cons_zero, List.setIfInBounds_toArray, List.set_cons_zero, List.set_cons_succ])
  refine wpAnyH_take (i := 9) (v := ?_) rfl (by kernel_rfl) (by kernel_rfl) (by kernel_rfl) (fun _ _ _ h => h) (Or.inl ⟨by kernel_rfl, ?_⟩) hS2 ?_
  rotate_left
  · intro w hSw; go_simp; (try with_reducible rfl)
  (try simp only [Act.put, List.getElem_toArray, List.getElem_cons_succ, List.getElem_cons_zero, List.setIfInBounds_toArray, List.set_cons_zero, List.set_cons_succ])
  refine wpAnyH_take (i := 10) (v := ?_) rfl (by kernel_rfl) (by kernel_rfl) (by kernel_rfl) (fun _ _ _ h => h) (Or.inl ⟨by kernel_rfl, ?_⟩) hS2 ?_
  rotate_left
  · intro w hSw; go_simp; (try with_reducible rfl)
  (try simp only [Act.put, List.getElem_toArray, List.getElem_cons_succ, List.getElem_cons_zero, List.setIfInBounds_toArray, List.set_cons_zero, List.set_cons_succ])
  refine wpAnyH_take (i := 11) (v := ?_) rfl (by kernel_rfl) (by kernel_rfl) (by kernel_rfl) (fun _ _ _ h => h) (Or.inl ⟨by kernel_rfl, ?_⟩) hS2 ?_
  rotate_left
  · intro w hSw; go_simp; (try with_reducible rfl)
  (try simp only [Act.put, List.getElem_toArray, List.getElem_cons_succ, List.getElem_cons_zero, List.setIfInBounds_toArray, List.set_cons_zero, List.set_cons_succ])
  refine wpAnyH_take (i := 13) rfl (by kernel_rfl) (by kernel_rfl) (by kernel_rfl) (fun _ _ _ h => h) (yieldsIf_load_mid (by kernel_rfl) _ _ rfl _ _ rfl (cvs l) _ (fun w h => h) hu24 rfl hinfl) hS2 ?_
  (try simp only [Act.put, List.getElem_toArray, List.getElem_cons_succ, List.getElem_cons_zero, List.setIfInBounds_toArray, List.set_cons_zero, List.set_cons_succ])
  refine wpAnyH_take (i := 14) (v := ?_) rfl (by kernel_rfl) (by kernel_rfl) (by kernel_rfl) (fun _ _ _ h => h) (Or.inl ⟨by kernel_rfl, ?_⟩) hS2 ?_
  rotate_left
  · intro w hSw; go_simp; (try with_reducible rfl)
  (try simp only [Act.put, List.getElem_toArray, List.getElem_cons_succ, List.getElem_cons_zero, List.setIfInBounds_toArray, List.set_cons_zero, List.set_cons_succ])
  refine wpAnyH_take (i := 15) (v := ?_) rfl (by kernel_rfl) (by kernel_rfl) (by kernel_rfl) (fun _ _ _ h => h) (Or.inl ⟨by kernel_rfl, ?_⟩) hS2 ?_
  rotate_left
  · intro w hSw; go_simp; (try with_reducible rfl)
  (try simp only [Act.put, List.getElem_toArray, List.getElem_cons_succ, List.getElem_cons_zero, List.setIfInBounds_toArray, List.set_cons_zero, List.set_cons_succ])
  refine wpAnyH_take (i := 16) (v := ?_) rfl (by kernel_rfl) (by kernel_rfl) (by kernel_rfl) (fun _ _ _ h => h) (Or.inl ⟨by kernel_rfl, ?_⟩) hS2 ?_
  rotate_left
  · intro w hSw; go_simp; (try with_reducible rfl)
  (try simp only [Act.put, List.getElem_toArray, List.getElem_cons_succ, List.getElem_cons_zero, List.setIfInBounds_toArray, List.set_cons_zero, List.set_cons_succ])
  refine wpAnyH_ready (rs := [12]) (by kernel_rfl) (by simp) (AllReadyH.cons rfl (fun K hK => ?_) AllReadyH.nil)
  go_simp
  refine (HX2.out _ hwb).mono ?_
  rintro e w' ⟨rfl, hwc⟩
  (try go_wp2_with fail)
  refine hK.out _ _ (HSS.out _ hwc) (fun hS3 => ?_)
  clear hK K
  (try simp only [Act.put, List.getElem_toArray, List.getElem_cons_succ, List.getElem_cons_zero, List.setIfInBounds_toArray, List.set_cons_zero, List.set_cons_succ])
  refine wpAnyH_ready (rs := [17]) (by kernel_rfl) (by simp) (AllReadyH.cons rfl (fun K hK => ?_) AllReadyH.nil)
  go_simp
  refine (HY2.out _ hwc).mono ?_
  rintro e w' ⟨rfl, hwd⟩
  (try go_wp2_with fail)
  refine hK.out _ _ (HSS.out _ hwd) (fun hS4 => ?_)
  clear hK K
  (try simp only [Act.put, List.getElem_toArray, List.getElem_cons_succ, List.getElem_cons_zero, List.setIfInBounds_toArray, List.set_cons_zero, List.set_cons_succ])
  refine wpAnyH_take (i := 18) (v := ?_) rfl (by kernel_rfl) (by kernel_rfl) (by kernel_rfl) (fun _ _ _ h => h) (Or.inl ⟨by kernel_rfl, ?_⟩) hS4 ?_
  rotate_left
  · intro w hSw; go_simp; (try with_reducible rfl)
  (try simp only [Act.put, List.getElem_toArray, List.getElem_cons_succ, List.getElem_cons_zero, List.setIfInBounds_toArray, List.set_cons_zero, List.set_cons_succ])
  refine wpAnyH_take (i := 19) (v := ?_) rfl (by kernel_rfl) (by kernel_rfl) (by kernel_rfl) (fun _ _ _ h => h) (Or.inl ⟨by kernel_rfl, ?_⟩) hS4 ?_
  rotate_left
  · intro w hSw; go_simp; (try with_reducible rfl)
  (try simp only [Act.put, List.getElem_toArray, List.getElem_cons_succ, List.getElem_cons_zero, List.setIfInBounds_toArray, List.set_cons_zero, List.set_cons_succ])
  refine wpAnyH_take (i := 20) (v := ?_) rfl (by kernel_rfl) (by kernel_rfl) (by kernel_rfl) (fun _ _ _ h => h) (Or.inl ⟨by kernel_rfl, ?_⟩) hS4 ?_
  rotate_left
  · intro w hSw; go_simp; (try with_reducible rfl)
  (try simp only [Act.put, List.getElem_toArray, List.getElem_cons_succ, List.getElem_cons_zero, List.setIfInBounds_toArray, List.set_cons_zero, List.set_cons_succ])
  refine wpAnyH_done (by kernel_rfl) ?_ _
  go_wp2
  go_ret
  exact ⟨rfl, hwd.drop⟩
end Go.Proofs.YtbjgidgohekaaaaDoor
