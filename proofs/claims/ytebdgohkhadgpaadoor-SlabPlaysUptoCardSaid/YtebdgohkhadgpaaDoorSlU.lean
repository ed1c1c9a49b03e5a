/- Walk: works, the chapter's example. -/
import Derived.Test.YtebdgohkhadgpaaDoorSlT
import Derived.Lib.SlBytesConst
set_option linter.unusedVariables false
set_option linter.unusedSimpArgs false
namespace Go.Proofs.YtebdgohkhadgpaaDoor
open Go Go.RowKit
section
variable {σ w w' : World} {Hs : List Hp} {H M N : Hp}
theorem lit_sl (b : Nat) (xs : List Int) (t : TypeId) (fr : Nat × Nat) (hx : xs.length ≤ 1000) : kB.IsSl (Hp.one b (.cells (ints .u8 xs).toArray t fr)) (.slice (some ⟨b, 0, none⟩) xs.length xs.length) xs :=
  ⟨_, _, rfl, by simp, by omega, fun _ => ⟨b, 0, ints .u8 xs, rfl, reps_ints xs, fun j v hv => by unfold Hp.cell Hp.one; rw [if_pos rfl]; simpa using hv⟩⟩
set_option maxHeartbeats 4000000 in
theorem works_any (w : World) (hw : Sat σ w Hs) (hT : ∀ w' Hs', Sat σ w' (Hs' ++ Hs) → TabZ w') : Calls Tryd.prog 8 #[] w fun e w' => e = .returned (.bool true) ∧ Sat σ w' Hs := by
  have kc := fun (w : World) (C : Array Value) (n c : Nat) => Lib.run_convert_bytes_const (P := Tryd.prog) w 22 5 C n c Tryd.underlying22 Tryd.underlying5
  go_enter Tryd.func8, Tryd.ntmps8
  go_wp2_with fail
  refine (new_any 2 4 w hw (by decide) (by decide) (by decide)).mono ?_
  rintro e w1 ⟨g, M, A, c, rfl, hw1, h1⟩
  go_wp2_with fail
  refine (get_any w1 hw1 h1 (by decide) (hT _ [M] hw1)).mono ?_
  rintro e w2 ⟨rfl, M2, hw2, h2⟩
  have h2 : Slb M2 g 4 [true, false] [0, 0, 0, 0, 0, 0, 0, 0] A c := h2
  clear hw1 h1
  go_wp2_with fail
  have hw2' := hw2.alloc (.cells #[.int .u8 97, .int .u8 98] 5 (2, 3))
  refine (write_any 0 1 _ [97, 98] _ hw2'.swap (N := Hp.one w2.heap.size (.cells #[.int .u8 97, .int .u8 98] 5 (2, 3))) (by simp) h2 (lit_sl _ [97, 98] _ _ (by simp)) (by omega)).mono ?_
  rintro e w3 ⟨rfl, M3, hw3, h3⟩
  have h3 : Slb M3 g 4 [true, false] [0, 97, 98, 0, 0, 0, 0, 0] A c := h3
  clear hw2' hw2 h2
  go_wp2_with fail
  refine (get_any w3 hw3 h3 (by decide) (hT _ (M3 :: [_]) hw3)).mono ?_
  rintro e w4 ⟨rfl, M4, hw4, h4⟩
  have h4 : Slb M4 g 4 [true, true] [0, 97, 98, 0, 0, 0, 0, 0] A c := h4
  clear hw3 h3
  go_wp2_with fail
  refine (get_full w4 hw4 List.mem_cons_self h4 (by decide)).mono ?_
  rintro e w5 ⟨rfl, rfl⟩
  go_wp2_with fail
  refine (put_any 0 w5 hw4 h4).mono ?_
  rintro e w6 ⟨he, M6, hw6, h6⟩
  have he : e = .returned (.int .i64 0) := he
  subst he
  have h6 : Slb M6 g 4 [false, true] [0, 97, 98, 0, 0, 0, 0, 0] A c := h6
  clear hw4 h4
  go_wp2_with fail
  refine (get_any w6 hw6 h6 (by decide) (hT _ (M6 :: [_]) hw6)).mono ?_
  rintro e w7 ⟨rfl, M7, hw7, h7⟩
  have h7 : Slb M7 g 4 [true, true] [0, 0, 0, 0, 0, 0, 0, 0] A c := h7
  clear hw6 h6
  go_wp2_with fail
  refine (read_any 0 0 4 w7 hw7 List.mem_cons_self h7 (by omega) (by omega)).mono ?_
  rintro e w8 ⟨v, N8, xs, rfl, hw8, ho8, hxs⟩
  have hxs : xs = [0, 0, 0, 0] := hxs
  subst hxs
  have hv := ho8.isSl (d := kB) (reps_ints [0, 0, 0, 0]) rfl (Hp.le_refl _)
  clear hw7 h7 ho8
  go_wp2_with fail
  have hw9 := hw8.alloc (.cells #[.int .u8 0, .int .u8 0, .int .u8 0, .int .u8 0] 5)
  refine (sameB_any (H1 := N8) (H2 := Hp.one w8.heap.size (.cells #[.int .u8 0, .int .u8 0, .int .u8 0, .int .u8 0] 5 (0, 0))) _ _ [0, 0, 0, 0] _ hw9 (by simp) (by simp) hv (lit_sl _ [0, 0, 0, 0] _ _ (by simp))).mono ?_
  rintro e w10 ⟨rfl, hw10⟩
  go_wp2
  go_ret
  exact ⟨rfl, hw10.drop.drop.drop.drop⟩
end
end Go.Proofs.YtebdgohkhadgpaaDoor
