/- Walk: DigestBack. -/
import Derived.Test.YtbjgidgohekaaaaDoorDgT
import Derived.Test.YtbjgidgohekaaaaDoorDgQ
import Derived.Test.YtbjgidgohekaaaaDoorApp
set_option linter.unusedVariables false
namespace Go.Proofs.YtbjgidgohekaaaaDoor
open Go.RowKit
section
variable {P : Program} {ops : Array Oper} {rest : List Oper} {o : Oper} {a : Act} {w : World} {Q : Exit → Act → World → Prop}
/-- a row's load whose guard says yes -/
theorem wpList_load_row2 (x : Operand) (ty : TypeId) (ho : o.op = .load ty x)
    (g : Nat) (hx : a.eval x = .pointer (some ⟨g, 0, none⟩)) (t : TypeId) (cs : Array Value) (fr : Nat × Nat) (d : TypeDesc) (hg : w.heap[g]? = some (.cells cs t fr))
    (hu : P.underlying ty = some d) (hd : (match d with | .struct _ | .array _ _ => true | _ => false) = true) (hi : (P.info? ty).map (·.size) = some cs.size) (hw : Region.wanted o (yielded ops a.tmps) = true)
    (h : wpList P ops Q rest (a.put o.dst (.agg cs)) w) : wpList P ops Q (o :: rest) a w :=
  wpList_step fun K hK => by
    rw [if_pos hw]
    exact wp_load_row ty x ho g hx t cs fr d hg hu hd hi (hK _ _ h)
end
set_option maxRecDepth 100000 in
set_option maxHeartbeats 2000000 in
theorem back_any {σ : World} {Hs : List Hp} {H : Hp} (l : List Int) (s : ByteArray) (w : World) (hw : Sat σ w Hs) (hH : H ∈ Hs) (hl : l.length = 32) (hr : ∀ i, 0 ≤ l.getD i 0 ∧ l.getD i 0 < 256)
    (hk0 : H 0 = some (.cells kV 58 (0, 0))) :
    Calls Tryd.prog 7 #[.agg (outV l), .string s] w fun e w' => e = .returned (.bool true) ∧ Sat σ w' Hs := by
  have HL := Lib.hid hl; have HR := Lib.hid hr; have HK := Lib.hid hk0
  have hsz : (outV l).size = 32 := by rw [outV_size, hl]
  have HSZ := Lib.hid hsz
  have heq : ∀ (m : List Int) (_ : m.length = 32) (w : World), (Op.equalIn 10000 24 (.agg (outV m)) (.agg (outV m))).run Tryd.prog w = .ok true w := fun m hm w =>
    run_eq_arr 24 5 32 9998 _ w Tryd.underlying24 Tryd.underlying5 (by kernel_rfl) (fun i hi => ⟨_, outV_get _ i (by rw [hm]; exact hi)⟩)
  have HEQ := Lib.hid heq
  clear hl hr hk0 hsz heq
  go_enter Tryd.func7, Tryd.ntmps7
  go_wp2_with fail
  have hw1 := hw.alloc (.cells (outV l) 24)
  generalize hW : w.alloc _ = w1 at *
  clear hW hw
  generalize w.heap.size = n0 at *
  refine (works_any w1 (hw1.blk (H := H) (by simp [hH]) HK.out)).mono ?_
  rintro e w2 ⟨rfl, hb2⟩
  have hw2 := hw1.below hb2
  clear hw1 hb2
  have HH := Lib.hid hw2.heap
  go_wp2_with (refine wpList_load_row rfl 24 (.tmp 2) rfl n0 rfl 24 (outV l) (0, 0) _ HH.out Tryd.underlying24 rfl (by rw [HSZ.out]; kernel_rfl) ?_)
  refine (hex_any l w2 HL.out HR.out).mono ?_
  rintro e w3 ⟨rfl, hb3⟩
  have hw3 := hw2.below hb3
  clear hw2 hb3 HH
  go_wp2_with fail
  refine (parse_any _ w3).mono ?_
  rintro e w4 ⟨rfl, hb4⟩
  rw [(parse_hex l HL.out HR.out).1, (parse_hex l HL.out HR.out).2]
  have hw4 := hw3.below hb4
  clear hw3 hb4
  go_wp2_with (refine wpList_store_row rfl 24 (.tmp 5) (.tmp 15) rfl _ (outV l) rfl rfl 24 (outV (List.replicate 32 0)) (heap_alloc_new _ _) (by rw [HSZ.out]; kernel_rfl) (by rw [HSZ.out]; rfl) (outV_one _) ?_)
  have hw5 := (hw4.alloc (.cells #[.int .u8 0, .int .u8 0, .int .u8 0, .int .u8 0, .int .u8 0, .int .u8 0, .int .u8 0, .int .u8 0, .int .u8 0, .int .u8 0, .int .u8 0, .int .u8 0, .int .u8 0, .int .u8 0, .int .u8 0, .int .u8 0, .int .u8 0, .int .u8 0, .int .u8 0, .int .u8 0, .int .u8 0, .int .u8 0, .int .u8 0, .int .u8 0, .int .u8 0, .int .u8 0, .int .u8 0, .int .u8 0, .int .u8 0, .int .u8 0, .int .u8 0, .int .u8 0] 24)).setRow (outV l)
  generalize World.setRow _ _ _ = w5 at *
  generalize w4.heap.size = n4 at *
  clear hw4 w4
  refine (parse_any s w5).mono ?_
  rintro e w6 ⟨rfl, hb6⟩
  have hw6 := hw5.below hb6
  have hpl : (parseL s).length = 32 := by unfold parseL; split <;> simp [pL]
  have HPL := Lib.hid hpl
  have HPZ : Hid ((outV (parseL s)).size = 32) := Lib.hid (by rw [outV_size, hpl])
  clear hw5 hb6 hpl
  have hw7 := (hw6.alloc (.cells #[.int .u8 0, .int .u8 0, .int .u8 0, .int .u8 0, .int .u8 0, .int .u8 0, .int .u8 0, .int .u8 0, .int .u8 0, .int .u8 0, .int .u8 0, .int .u8 0, .int .u8 0, .int .u8 0, .int .u8 0, .int .u8 0, .int .u8 0, .int .u8 0, .int .u8 0, .int .u8 0, .int .u8 0, .int .u8 0, .int .u8 0, .int .u8 0, .int .u8 0, .int .u8 0, .int .u8 0, .int .u8 0, .int .u8 0, .int .u8 0, .int .u8 0, .int .u8 0] 24)).setRow (outV (parseL s))
  have HX5 := Lib.hid hw7.drop.heap
  have HX2 := Lib.hid hw7.drop.drop.heap
  have HX7 := Lib.hid hw7.heap
  have heqs := HEQ.out l HL.out
  by_cases hok : OkText s
  · have hpl : parseL s = pL s := by rw [parseL, if_pos hok]
    have hpe : parseE s = 0 := by rw [parseE, if_pos hok]
    have HHEX : Hid (∀ w', Calls Tryd.prog 21 #[.agg (outV (parseL s))] w' fun e w2 => e = .returned (.string s) ∧ Below w'.heap.size w' w2) := Lib.hid (fun w' => by
      have := hex_any (pL s) w' (by simp [pL]) (pL_range s hok)
      rw [hex_parse s hok] at this
      rw [hpl]; exact this)
    have HONE := Lib.hid (outV_one (parseL s))
    rw [hpe]
    clear hpl hpe hok HPL
    generalize outV (parseL s) = av at *
    go_wp2_with (first | (refine wpList_store_row rfl 24 (.tmp 7) (.tmp 20) rfl _ av rfl rfl 24 (outV (List.replicate 32 0)) (heap_alloc_new _ _) (by rw [HPZ.out]; kernel_rfl) (by rw [HPZ.out]; rfl) HONE.out ?_) | (refine wpList_load_row rfl 24 (.tmp 5) rfl n4 rfl 24 (outV l) (0, 0) _ HX5.out Tryd.underlying24 rfl (by rw [HSZ.out]; kernel_rfl) ?_) | (refine wpList_load_row rfl 24 (.tmp 2) rfl n0 rfl 24 (outV l) (0, 0) _ HX2.out Tryd.underlying24 rfl (by rw [HSZ.out]; kernel_rfl) ?_) | (refine wpList_load_row2 (.tmp 7) 24 rfl w6.heap.size rfl 24 av (0, 0) _ HX7.out Tryd.underlying24 rfl (by rw [HPZ.out]; kernel_rfl) (by rfl) ?_))
    refine (HHEX.out _).mono ?_
    rintro e w8 ⟨rfl, hb8⟩
    go_wp2
    go_ret
    exact ⟨by simp, (hw7.below hb8).drop.drop.drop⟩
  · have hpe : parseE s = 2 := by rw [parseE, if_neg hok]
    have heqz : ∀ w : World, (Op.equalIn 10000 24 (.agg (outV (parseL s))) (.agg #[.int .u8 0, .int .u8 0, .int .u8 0, .int .u8 0, .int .u8 0, .int .u8 0, .int .u8 0, .int .u8 0, .int .u8 0, .int .u8 0, .int .u8 0, .int .u8 0, .int .u8 0, .int .u8 0, .int .u8 0, .int .u8 0, .int .u8 0, .int .u8 0, .int .u8 0, .int .u8 0, .int .u8 0, .int .u8 0, .int .u8 0, .int .u8 0, .int .u8 0, .int .u8 0, .int .u8 0, .int .u8 0, .int .u8 0, .int .u8 0, .int .u8 0, .int .u8 0])).run Tryd.prog w = .ok true w := by
      intro w; rw [parseL, if_neg hok]; exact HEQ.out (List.replicate 32 0) rfl w
    have HONE := Lib.hid (outV_one (parseL s))
    rw [hpe]
    clear hpe hok HPL
    generalize outV (parseL s) = av at *
    go_wp2_with (first | (refine wpList_store_row rfl 24 (.tmp 7) (.tmp 20) rfl _ av rfl rfl 24 (outV (List.replicate 32 0)) (heap_alloc_new _ _) (by rw [HPZ.out]; kernel_rfl) (by rw [HPZ.out]; rfl) HONE.out ?_) | (refine wpList_load_row rfl 24 (.tmp 5) rfl n4 rfl 24 (outV l) (0, 0) _ HX5.out Tryd.underlying24 rfl (by rw [HSZ.out]; kernel_rfl) ?_) | (refine wpList_load_row rfl 24 (.tmp 2) rfl n0 rfl 24 (outV l) (0, 0) _ HX2.out Tryd.underlying24 rfl (by rw [HSZ.out]; kernel_rfl) ?_) | (refine wpList_load_row2 (.tmp 7) 24 rfl w6.heap.size rfl 24 av (0, 0) _ HX7.out Tryd.underlying24 rfl (by rw [HPZ.out]; kernel_rfl) (by rfl) ?_))
    go_ret
    exact ⟨by simp, hw7.drop.drop.drop⟩
end Go.Proofs.YtbjgidgohekaaaaDoor
