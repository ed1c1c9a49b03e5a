/- Walk: New. -/
import Derived.Test.YtebdgohkhadgpaaDoorSlL
set_option linter.unusedVariables false
set_option linter.unusedSimpArgs false
namespace Go.Proofs.YtebdgohkhadgpaaDoor
open Go Go.RowKit
section
variable {σ w w' : World} {Hs : List Hp} {H M N : Hp}
structure NewSt (cs : Array Value) (ws : Nat → Nat) (v : Value) (n s : Nat) : Prop where
  size : cs.size = 69
  word : ∀ i, i < 64 → cs[i]? = some (.int .u64 ((ws i : Nat) : Int))
  c64 : cs[64]? = some v
  c65 : cs[65]? = some (.int .i64 n)
  c66 : cs[66]? = some (.int .i64 s)
  c67 : cs[67]? = some (.int .i64 0)
  c68 : cs[68]? = some (.bool true)
theorem NewSt.put {cs : Array Value} {ws : Nat → Nat} {v : Value} {n s : Nat} (h : NewSt cs ws v n s) (k x : Nat) (hk : k < 64) : NewSt (cs.setIfInBounds k (.int .u64 ((x : Nat) : Int))) (updW ws k x) v n s := by
  refine ⟨by simp [h.size], fun i hi => ?_, ?_, ?_, ?_, ?_, ?_⟩
  · unfold updW
    by_cases e : i = k
    · subst e
      rw [if_pos rfl, Array.getElem?_setIfInBounds_self_of_lt (by have := h.size; omega)]
    · rw [if_neg e, Array.getElem?_setIfInBounds_ne (fun h => e h.symm)]
      exact h.word i hi
  · rw [Array.getElem?_setIfInBounds_ne (by omega)]; exact h.c64
  · rw [Array.getElem?_setIfInBounds_ne (by omega)]; exact h.c65
  · rw [Array.getElem?_setIfInBounds_ne (by omega)]; exact h.c66
  · rw [Array.getElem?_setIfInBounds_ne (by omega)]; exact h.c67
  · rw [Array.getElem?_setIfInBounds_ne (by omega)]; exact h.c68
theorem newSt0 (v : Value) (n s : Nat) : NewSt (List.replicate 64 (Value.int .u64 0) ++ [v, .int .i64 n, .int .i64 s, .int .i64 0, .bool true]).toArray (fun _ => 0) v n s :=
  ⟨by simp, fun i hi => by
    rw [List.getElem?_toArray, List.getElem?_append_left (by simpa using hi)]
    rw [List.getElem?_replicate, if_pos hi]
    rfl, by simp, by simp, by simp, by simp, by simp⟩
theorem made_zero (p : Nat) : (madeCells (Value.int .u8 0).cells (p * 1)).toList = ints .u8 (List.replicate p 0) := by
  have h := reps_is (H := Hp.emp) (reps_made (d := kB) (x := (0 : Int)) (z := (Value.int .u8 0).cells) rfl (by decide) p)
  exact h
set_option maxRecDepth 100000 in
set_option maxHeartbeats 4000000 in
theorem new_any (n s : Nat) (w : World) (hw : Sat σ w Hs) (hn : n ≤ 4096) (hs : s ≤ 65536) (ht : n * s ≤ 4194304) :
    Calls Tryd.prog 10 #[.int .i64 n, .int .i64 s] w fun e w' => ∃ g M A c, e = .returned (.tuple #[.pointer (some ⟨g, 0, none⟩), .int .i64 0]) ∧ Sat σ w' (M :: Hs) ∧ Slb M g s (List.replicate n false) (List.replicate (n * s) 0) A c := by
  obtain ⟨p, hp⟩ : ∃ p : Nat, n * s = p := ⟨_, rfl⟩
  have hwp : IntKind.i64.wrap ((n : Int) * s) = (p : Int) := by rw [← hp, Int.natCast_mul]; exact wrap_small _ (by rw [← Int.natCast_mul]; omega) (by rw [← Int.natCast_mul]; omega)
  rw [hp] at ht ⊢
  have b1 : ¬ (n : Int) < 0 := by omega
  have b2 : ¬ (4096 : Int) < n := by omega
  have b3 : ¬ (s : Int) < 0 := by omega
  have b4 : ¬ (65536 : Int) < s := by omega
  have b5 : ¬ (4194304 : Int) < p := by omega
  have HP := Lib.hid hp
  clear hp
  have hzv : ∀ w : World, (zeroValue 59).run Tryd.prog w = .ok (.agg #[.int .u64 0, .int .u64 0, .int .u64 0, .int .u64 0, .int .u64 0, .int .u64 0, .int .u64 0, .int .u64 0, .int .u64 0, .int .u64 0, .int .u64 0, .int .u64 0, .int .u64 0, .int .u64 0, .int .u64 0, .int .u64 0, .int .u64 0, .int .u64 0, .int .u64 0, .int .u64 0, .int .u64 0, .int .u64 0, .int .u64 0, .int .u64 0, .int .u64 0, .int .u64 0, .int .u64 0, .int .u64 0, .int .u64 0, .int .u64 0, .int .u64 0, .int .u64 0, .int .u64 0, .int .u64 0, .int .u64 0, .int .u64 0, .int .u64 0, .int .u64 0, .int .u64 0, .int .u64 0, .int .u64 0, .int .u64 0, .int .u64 0, .int .u64 0, .int .u64 0, .int .u64 0, .int .u64 0, .int .u64 0, .int .u64 0, .int .u64 0, .int .u64 0, .int .u64 0, .int .u64 0, .int .u64 0, .int .u64 0, .int .u64 0, .int .u64 0, .int .u64 0, .int .u64 0, .int .u64 0, .int .u64 0, .int .u64 0, .int .u64 0, .int .u64 0, .slice none 0 0, .int .i64 0, .int .i64 0, .int .i64 0, .bool false]) w := fun w => rfl
  go_enter Tryd.func10, Tryd.ntmps10
  go_wp2_with (refine wpList_mk hw rfl (.tmp 30) (.tmp 30) 22 5 (.int .u8 0) 1 1 rfl Tryd.underlying22 (by kernel_rfl) .i64 .i64 p rfl rfl (by omega) (by omega) ?_; intro nb w1 N hb1 hw1 ho1 hN1)
  have hw2 := hw1.alloc (.cells #[.int .u64 0, .int .u64 0, .int .u64 0, .int .u64 0, .int .u64 0, .int .u64 0, .int .u64 0, .int .u64 0, .int .u64 0, .int .u64 0, .int .u64 0, .int .u64 0, .int .u64 0, .int .u64 0, .int .u64 0, .int .u64 0, .int .u64 0, .int .u64 0, .int .u64 0, .int .u64 0, .int .u64 0, .int .u64 0, .int .u64 0, .int .u64 0, .int .u64 0, .int .u64 0, .int .u64 0, .int .u64 0, .int .u64 0, .int .u64 0, .int .u64 0, .int .u64 0, .int .u64 0, .int .u64 0, .int .u64 0, .int .u64 0, .int .u64 0, .int .u64 0, .int .u64 0, .int .u64 0, .int .u64 0, .int .u64 0, .int .u64 0, .int .u64 0, .int .u64 0, .int .u64 0, .int .u64 0, .int .u64 0, .int .u64 0, .int .u64 0, .int .u64 0, .int .u64 0, .int .u64 0, .int .u64 0, .int .u64 0, .int .u64 0, .int .u64 0, .int .u64 0, .int .u64 0, .int .u64 0, .int .u64 0, .int .u64 0, .int .u64 0, .int .u64 0, .slice (some ⟨nb, 0, none⟩) p p, .int .i64 n, .int .i64 s, .int .i64 0, .bool true] 59)
  have hN0 : NewSt #[.int .u64 0, .int .u64 0, .int .u64 0, .int .u64 0, .int .u64 0, .int .u64 0, .int .u64 0, .int .u64 0, .int .u64 0, .int .u64 0, .int .u64 0, .int .u64 0, .int .u64 0, .int .u64 0, .int .u64 0, .int .u64 0, .int .u64 0, .int .u64 0, .int .u64 0, .int .u64 0, .int .u64 0, .int .u64 0, .int .u64 0, .int .u64 0, .int .u64 0, .int .u64 0, .int .u64 0, .int .u64 0, .int .u64 0, .int .u64 0, .int .u64 0, .int .u64 0, .int .u64 0, .int .u64 0, .int .u64 0, .int .u64 0, .int .u64 0, .int .u64 0, .int .u64 0, .int .u64 0, .int .u64 0, .int .u64 0, .int .u64 0, .int .u64 0, .int .u64 0, .int .u64 0, .int .u64 0, .int .u64 0, .int .u64 0, .int .u64 0, .int .u64 0, .int .u64 0, .int .u64 0, .int .u64 0, .int .u64 0, .int .u64 0, .int .u64 0, .int .u64 0, .int .u64 0, .int .u64 0, .int .u64 0, .int .u64 0, .int .u64 0, .int .u64 0, .slice (some ⟨nb, 0, none⟩) p p, .int .i64 n, .int .i64 s, .int .i64 0, .bool true] (fun _ => 0) (.slice (some ⟨nb, 0, none⟩) p p) n s := newSt0 _ n s
  have HN0 := Lib.hid hN0; have HOWN := Lib.hid ho1
  clear hN0 ho1 hN1 hb1
  go_wp2_with fail
  clear hzv
  generalize World.alloc w1 _ = w2 at *
  generalize w1.heap.size = g at *
  generalize (#[.int .u64 0, .int .u64 0, .int .u64 0, .int .u64 0, .int .u64 0, .int .u64 0, .int .u64 0, .int .u64 0, .int .u64 0, .int .u64 0, .int .u64 0, .int .u64 0, .int .u64 0, .int .u64 0, .int .u64 0, .int .u64 0, .int .u64 0, .int .u64 0, .int .u64 0, .int .u64 0, .int .u64 0, .int .u64 0, .int .u64 0, .int .u64 0, .int .u64 0, .int .u64 0, .int .u64 0, .int .u64 0, .int .u64 0, .int .u64 0, .int .u64 0, .int .u64 0, .int .u64 0, .int .u64 0, .int .u64 0, .int .u64 0, .int .u64 0, .int .u64 0, .int .u64 0, .int .u64 0, .int .u64 0, .int .u64 0, .int .u64 0, .int .u64 0, .int .u64 0, .int .u64 0, .int .u64 0, .int .u64 0, .int .u64 0, .int .u64 0, .int .u64 0, .int .u64 0, .int .u64 0, .int .u64 0, .int .u64 0, .int .u64 0, .int .u64 0, .int .u64 0, .int .u64 0, .int .u64 0, .int .u64 0, .int .u64 0, .int .u64 0, .int .u64 0, .slice (some ⟨nb, 0, none⟩) p p, .int .i64 n, .int .i64 s, .int .i64 0, .bool true] : Array Value) = C0 at *
  clear hw hw1
  go_wp2
  go_loopw [7, 37] (fun _ i wr => ∃ (k : Nat) (ws : Nat → Nat) (cs : Array Value), k ≤ n ∧ i = .int .i64 k ∧ Sat σ wr (Hp.one g (.cells cs 59 (0, 0)) :: N :: Hs) ∧ Eager (NewSt cs ws (.slice (some ⟨nb, 0, none⟩) p p) n s ∧ FW (List.replicate k false) ws)) (fun _ i _ => n - (intOf i).toNat)
  case atStart => exact ⟨0, fun _ => 0, C0, by omega, rfl, hw2, ⟨HN0.out, fw_zero⟩⟩
  case round =>
    obtain ⟨k, ws, cs, hk, rfl, hwr, hst⟩ := hrel
    obtain ⟨hS, hF⟩ := hst.out
    clear hw2 HN0 hst
    by_cases hlt : k < n
    · have hki : (k : Int) < n := by omega
      have hk6 : (k : Int) / 64 < 64 := by omega
      have ck := hwr.one_cell (hS.word (k / 64) (by omega))
      have fk := heap_free (hwr.le g _ (Hp.one_self _ _)) (k / 64)
      have HSS : Hid (∀ nq, Sat σ ((wr.drewN nq).setCell ⟨g, k / 64, none⟩ (.int .u64 (bits .or .u64 ((ws (k / 64) : Nat) : Int) (IntKind.u64.wrap (2 ^ (k % 64)))))) (Hp.one g (.cells (cs.setIfInBounds (k / 64) (.int .u64 ((ws (k / 64) ||| 2 ^ (k % 64) : Nat) : Int))) 59 (0, 0)) :: N :: Hs)) := Lib.hid (fun nq => by
        rw [or_bit _ _ (hF.lt _ (by omega)) (by omega)]
        exact (hwr.drewN nq).set _)
      have HST := Lib.hid (hS.put (k / 64) (ws (k / 64) ||| 2 ^ (k % 64)) (by omega))
      have HFW := Lib.hid (fw_push hF (by omega))
      clear hwr hS hF
      go_wp2
      refine wp_region_quiet_tail 14 (by kernel_rfl) (by kernel_rfl) ?_
      simp only [List.take_succ_cons, List.take_zero, List.drop_succ_cons, List.drop_zero]
      repeat (go_big_quiet_step (fail))
      refine wpQuiet_nil ?_
      intro _ hw'
      obtain ⟨nq, hw''⟩ := hw'
      subst hw''
      have hwz := HSS.out nq
      clear HSS
      go_wp2
      go_roundw
      case measure => simp [intOf]; omega
      case rel => exact ⟨k + 1, _, _, by omega, by go_num, hwz, ⟨HST.out, HFW.out⟩⟩
    · obtain rfl : k = n := by omega
      have hj := hwr.join
      have hd : Hp.dj (Hp.one g (.cells cs 59 (0, 0))) N := (List.pairwise_cons.1 hwr.dj).1 N (by simp)
      have hlr : (List.replicate p (0 : Int)).length = p := by simp
      have hslb : Slb (Hp.or (Hp.one g (.cells cs 59 (0, 0))) N) g s (List.replicate k false) (List.replicate p 0) (some ⟨nb, 0, none⟩) p := by
        refine ⟨⟨cs, ws, Hp.le_or_left _ _ _ _ (Hp.one_self _ _), hS.size, hS.word, by rw [hlr]; exact hS.c64, by simpa using hS.c65, hS.c66, by simpa [List.count_replicate] using hS.c67, hS.c68, hF⟩, ?_, by omega, by rw [hlr]; simpa using HP.out.symm, by simpa using hn, hs, by omega⟩
        have ho := HOWN.out.le (Hp.le_or_right hd)
        rw [hlr]
        have e : (madeCells (Value.int .u8 0).cells (p * 1)).toList = ints .u8 (List.replicate p 0) := made_zero p
        rw [e] at ho
        exact ho
      have HSLB := Lib.hid hslb
      clear hslb hwr hS hF hd
      go_wp2
      go_ret2
      exact ⟨g, _, _, _, rfl, hj, HSLB.out⟩
end
end Go.Proofs.YtebdgohkhadgpaaDoor
