/- Walk: ref.Hex. -/
import Derived.Test.YtbjgidgohekaaaaDoorDgH
set_option linter.unusedVariables false
namespace Go.Proofs.YtbjgidgohekaaaaDoor
open Go.RowKit
theorem rd_box2 (W : World) (k : IntKind) (y z : Int) (e : TypeId) : RdI (W.alloc (.cells #[.int k y, .int k z] e)) k (.slice (some ⟨W.heap.size, 0, none⟩) 2 2) [y, z] (fun b => b = W.heap.size) :=
  ⟨_, 2, rfl, Nat.le_refl _, by omega, fun _ => ⟨_, 0, rfl, rfl, fun j hj => by
    rw [Nat.zero_add, World.cell?_alloc_new]
    have hj2 : j < 2 := hj
    match j, hj2 with
    | 0, _ | 1, _ => rfl⟩⟩
theorem and_u8 (x : Nat) (h : x < 256) : bits .and .u8 (x : Int) 15 = (x : Int) % 16 := by
  have h' : ∀ a : Fin 256, bits .and .u8 (a.val : Int) 15 = (a.val : Int) % 16 := by decide +kernel
  exact h' ⟨x, h⟩
section
variable {P : Program} {ops : Array Oper} {rest : List Oper} {o : Oper} {a : Act} {Q : Exit → Act → World → Prop} {K : Act → World → Prop}
theorem step_app_two_d {W : World} {E : Prop} (base : Nat) (hgd : o.guard = none) (s x : Operand) (t e : TypeId) (k : IntKind) (bytes : Nat)
    (ho : o.op = .call { callee := .builtin .append, args := #[s, x], argTypes := #[t, t] })
    (ht : P.underlying t = some (.slice e)) (hinfo : (P.info? e).map (fun i => (i.zero, i.size, i.bytes)) = some (some (.int k 0), 1, bytes)) (hb0 : 0 < bytes)
    (v : Value) (xs : List Int) (y z : Int) (hs : a.eval s = v) (hx : a.eval x = .slice (some ⟨W.heap.size, 0, none⟩) 2 2)
    (HO : OwnI W base e k v xs) (hbase : base ≤ W.heap.size) (hl : (xs.length + 2) * bytes ≤ 140737488355328)
    (h : ∀ A1 n1 c1 w1, OwnI w1 base e k (.slice A1 n1 c1) (xs ++ [y, z]) → Touch (fun b => v.ownBlock = some b) W w1 → Eager (∀ b, (Value.slice A1 n1 c1).ownBlock = some b → v.ownBlock = some b ∨ W.heap.size ≤ b) → K (a.put o.dst (.slice A1 n1 c1)) w1) :
    if Region.wanted o (yielded ops a.tmps) = true then Oper.wp P o a (W.alloc (.cells #[.int k y, .int k z] e)).drew K Q else E :=
  step_app_row (W := (W.alloc (.cells #[.int k y, .int k z] e)).drew) base hgd s x t e k bytes ho ht hinfo hb0 v _ xs [y, z] _ hs hx ⟨(HO.touch ((Touch.refl (fun _ => False) W).alloc _) (fun _ _ h => h)).out⟩ (rd_box2 W.drew k y z e) (by show _ ≤ (W.alloc _).heap.size; simp; omega) (by simpa using hl)
    fun A1 n1 c1 w1 h1 h2 h3 => h A1 n1 c1 w1 h1 (((Touch.refl _ W).alloc _).trans (⟨h2.os, h2.tape, h2.output, h2.size, h2.block⟩ : Touch _ (W.alloc (.cells #[.int k y, .int k z] e)) w1) (fun i hi => .inl hi)) ⟨fun b hb => (h3.out b hb).imp_right (fun h => by have h' : (W.alloc (.cells #[.int k y, .int k z] e)).heap.size ≤ b := h; simp at h'; omega)⟩
end
set_option maxRecDepth 100000 in
set_option maxHeartbeats 2000000 in
theorem rhex_any (l : List Int) (w : World) (hl : l.length = 32) (hr : ∀ i, 0 ≤ l.getD i 0 ∧ l.getD i 0 < 256) :
    Calls Tryd.prog 22 #[.agg (outV l)] w fun e w' => e = .returned (.string (strOfNums (hexL l))) ∧ Below w.heap.size w w' := by
  have HL := Lib.hid hl
  have HR := Lib.hid hr; clear hr
  go_enter Tryd.func22, Tryd.ntmps22
  go_upto_region 1 with (fail)
  refine wp_gen (fun w0 => w0.rowIs w.heap.size 24 32 (fun i => .int .u8 (l.getD i 0)) ∧ Below w.heap.size w w0) ⟨?_, (Below.refl _ _).alloc (Nat.le_refl _) _⟩ ?_
  · exact ⟨_, heap_alloc_new w _, by simp [outV_size, hl], fun i hi => outV_get l i (by omega)⟩
  intro w0 ⟨hb0, hlow⟩
  have HB0 := Lib.hid hb0; have HLOW := Lib.hid hlow
  clear hb0 hlow hl
  go_wp2
  go_loopw [4, 3] (fun i m wr => ∃ (k : Nat) (A1 : Option Addr) (n1 c1 : Nat), k ≤ 32 ∧ i = .int .i64 k ∧ m = .slice A1 n1 c1 ∧ OwnI wr w0.heap.size 5 .u8 (.slice A1 n1 c1) ((List.range (2 * k)).map (hexF l)) ∧ Below w0.heap.size w0 wr) (fun i _ _ => 32 - (intOf i).toNat)
  case atStart => exact ⟨0, _, _, _, by omega, rfl, rfl, own_empty _ _ _ _ (Nat.le_refl _), (Below.refl _ _).alloc (Nat.le_refl _) _⟩
  case round =>
    obtain ⟨k, A1, n1, c1, hk, rfl, rfl, hown, hlow⟩ := hrel
    have HOWN := Lib.hid hown; have HLO := Lib.hid hlow
    by_cases hlt : k < 32
    · obtain ⟨hx0, hx1⟩ := HR.out k
      obtain ⟨x, hx⟩ := Int.eq_ofNat_of_zero_le hx0
      have c0 : wr.cell? ⟨w.heap.size, k, none⟩ = some (.int .u8 (l.getD k 0)) := (hlow.cell HB0.out.lt).trans (HB0.out.cell hlt)
      rw [hx] at hx1 c0
      have HX := Lib.hid hx
      have hws := hlow.size
      have HWS := Lib.hid hws
      clear hx hx0 hown hlow hws
      have hd1 : ∀ w : World, (Instr.index 9 (.string (⟨#[48, 49, 50, 51, 52, 53, 54, 55, 56, 57, 97, 98, 99, 100, 101, 102]⟩ : ByteArray)) (.int .u8 ((x : Int) / 16))).run Tryd.prog w = .ok (.int .u8 (hd ((x : Int) / 16))) w := run_dig (P := Tryd.prog) 9 Tryd.underlying9 (x / 16) (by omega)
      have hd2 : ∀ w : World, (Instr.index 9 (.string (⟨#[48, 49, 50, 51, 52, 53, 54, 55, 56, 57, 97, 98, 99, 100, 101, 102]⟩ : ByteArray)) (.int .u8 ((x : Int) % 16))).run Tryd.prog w = .ok (.int .u8 (hd ((x : Int) % 16))) w := run_dig (P := Tryd.prog) 9 Tryd.underlying9 (x % 16) (by omega)
      have hand : bits .and .u8 (x : Int) 15 = (x : Int) % 16 := and_u8 x (by omega)
      go_wp2
      go_region_law ((refine step_app_two_d w0.heap.size (by rfl) _ _ _ 5 .u8 1 (by rfl) Tryd.underlying28 (by kernel_rfl) (by decide) _ _ _ _ (by rfl) (by rfl) ⟨HOWN.out.out⟩ HWS.out (by simp; omega) ?_; intro A8 n8 c8 w8 ho8 T8 hat8))
      all_goals
        have eL : (List.range (2 * (k + 1))).map (hexF l) = (List.range (2 * k)).map (hexF l) ++ [hd ((x : Int) / 16), hd ((x : Int) % 16)] := by
          rw [show 2 * (k + 1) = 2 * k + 1 + 1 by omega, List.range_succ, List.range_succ]
          simp only [List.map_append, List.map_cons, List.map_nil, List.append_assoc]
          have e1 : hexF l (2 * k) = hd ((x : Int) / 16) := by unfold hexF; rw [if_pos (by omega), show 2 * k / 2 = k by omega, HX.out]
          have e2 : hexF l (2 * k + 1) = hd ((x : Int) % 16) := by unfold hexF; rw [if_neg (by omega), show (2 * k + 1) / 2 = k by omega, HX.out]
          rw [e1, e2]
          rfl
        have HO9 : Hid (OwnI w8 w0.heap.size 5 .u8 (.slice A8 n8 c8) ((List.range (2 * (k + 1))).map (hexF l))) := Lib.hid (by rw [eL]; exact ho8)
        have HL9 : Hid (Below w0.heap.size w0 w8) := Lib.hid (HLO.out.trans (T8.below HLO.out.size (fun b hb => (HOWN.out.lt hb).1)))
        clear T8 ho8 hat8 eL c0 hd1 hd2
        go_wp2
        go_roundw
        case measure => simp [intOf]; omega
        case rel => exact ⟨k + 1, A8, n8, c8, by omega, by go_num, rfl, HO9.out, HL9.out⟩
    · obtain rfl : k = 32 := by omega
      have hconv := hown.rd.conv (P := Tryd.prog) (src := 28) (dst := 9) Tryd.underlying28 Tryd.underlying5 Tryd.underlying9
      clear hown hlow
      go_wp2
      go_ret
      exact ⟨rfl, HLOW.out.trans (HLO.out.mono HLOW.out.size)⟩
end Go.Proofs.YtbjgidgohekaaaaDoor
