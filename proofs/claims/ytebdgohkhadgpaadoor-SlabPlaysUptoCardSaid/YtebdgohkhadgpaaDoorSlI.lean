/- Walk: Get of a slab with a free block. -/
import Derived.Test.YtebdgohkhadgpaaDoorSlH
import Derived.Lib.SliceRun
set_option linter.unusedVariables false
set_option linter.unusedSimpArgs false
namespace Go.Proofs.YtebdgohkhadgpaaDoor
open Go Go.RowKit
section
variable {σ w w' : World} {Hs : List Hp} {H M N : Hp}
theorem andNot_bit (x k : Nat) (hx : x < 18446744073709551616) (hk : k < 64) : bits .andNot .u64 (x : Int) (IntKind.u64.wrap (2 ^ k)) = ((x &&& (18446744073709551615 - 2 ^ k) : Nat) : Int) := by
  have hp : 2 ^ k < 2 ^ 64 := Nat.pow_lt_pow_right (by omega) hk
  have e : IntKind.u64.wrap (2 ^ k : Int) = ((2 ^ k : Nat) : Int) := by
    rw [IntKind.wrap_u64, show (2 ^ k : Int) = ((2 ^ k : Nat) : Int) by simp]
    generalize 2 ^ k = y at hp ⊢
    omega
  rw [e]
  exact u64_andNot_nat x _ hx (by omega)
theorem count_set_true {held : List Bool} {b : Nat} (h : held[b]? = some false) : (held.set b true).count true = held.count true + 1 := by
  induction held generalizing b with
  | nil => simp at h
  | cons a l ih =>
    cases b with
    | zero =>
      obtain rfl : a = false := by simpa using h
      simp
    | succ b =>
      have := ih (by simpa using h)
      rw [List.set_cons_succ, List.count_cons, List.count_cons]
      omega
theorem slb_got {g size b z k : Nat} {held : List Bool} {mem : List Int} {A : Option Addr} {c : Nat} {cs : Array Value} {ws : Nat → Nat} (nq : Nat) (hw : Sat σ w (M :: Hs)) (h : Slb M g size held mem A c) (h1 : M g = some (.cells cs 59 (0, 0))) (h2 : cs.size = 69) (h3 : ∀ i, i < 64 → cs[i]? = some (.int .u64 ((ws i : Nat) : Int))) (h4 : cs[64]? = some (.slice A mem.length c)) (h5 : cs[65]? = some (.int .i64 held.length)) (h6 : cs[66]? = some (.int .i64 size)) (h8 : cs[68]? = some (.bool true)) (h9 : FW held ws)
    (hb : b < held.length) (hfree : held[b]? = some false) (hk : b / 64 = k) (hz : b % 64 = z) :
    ∃ M', Sat σ (((w.drewN nq).setCell ⟨g, k, none⟩ (.int .u64 ((ws k &&& (18446744073709551615 - 2 ^ z) : Nat) : Int))).setCell ⟨g, 67, none⟩ (.int .i64 ((held.count true : Nat) + 1 : Int))) (M' :: Hs) ∧ Slb M' g size (held.set b true) mem A c := by
  have hn := h.n
  subst hk; subst hz
  have hs1 := (hw.drewN nq).upd h1 (o := b / 64) (.int .u64 ((ws (b / 64) &&& (18446744073709551615 - 2 ^ (b % 64)) : Nat) : Int))
  have hs2 := hs1.upd (Hp.upd_self _ _ _) (o := 67) (.int .i64 ((held.count true : Nat) + 1 : Int))
  refine ⟨_, hs2, ?_⟩
  rw [show ∀ a b, Hp.upd (Hp.upd M g a) g b = Hp.upd M g b from fun a b => by funext k; unfold Hp.upd; split <;> rfl]
  exact h.upd _ (updW ws (b / 64) (ws (b / 64) &&& (18446744073709551615 - 2 ^ (b % 64)))) _ (by simp) (by simp [h2]) (set_word cs ws _ _ (by omega) h2 h3 _) (set_other _ _ _ _ _ _ (by omega) (by omega) (by omega) h4) (set_other _ _ _ _ _ _ (by omega) (by omega) (by omega) (by simpa using h5)) (set_other _ _ _ _ _ _ (by omega) (by omega) (by omega) h6) (by rw [count_set_true hfree]; simp [h2]) (set_other _ _ _ _ _ _ (by omega) (by omega) (by omega) h8) (h9.get hb hn)
theorem piece_slb {g size b : Nat} {held : List Bool} {mem : List Int} {A : Option Addr} {c : Nat} (w : World) (hw : Sat σ w Hs) (hM : M ∈ Hs) (h : Slb M g size held mem A c) (hb : b < held.length) :
    Calls Tryd.prog 28 #[.pointer (some ⟨g, 0, none⟩), .int .i64 b] w fun e w' => ∃ A', e = .returned (.slice A' size size) ∧ (0 < size → A' = A.map (·.add (b * size))) ∧ Sat σ w' Hs := by
  obtain ⟨cs, ws, h1, h2, h3, h4, h5, h6, h7, h8, h9⟩ := id h.ex
  have := h.n
  exact piece_any w g b size mem.length c A hw (hw.cellAt hM (Hp.cell_of h1 h6)) (hw.cellAt hM (Hp.cell_of h1 h4)) (by rw [h.len]; exact Nat.mul_le_mul_right _ hb) h.tot h.cap (by omega)
theorem clear_none (w : World) (ty : TypeId) (A : Option Addr) : (Builtin.clear_ #[22] ty #[.slice A 0 0]).run Tryd.prog w = .ok (.tuple #[]) w := by
  cases A <;> simp [Builtin.clear_, run_underlying Tryd.underlying22, go_sem]
theorem clear_some {gb off n : Nat} {cur : Array Value} (w : World) (ty : TypeId) (hn : 0 < n) (hg : w.heap[gb]? = some (.cells cur 5 (0, 0))) (ho : off + n ≤ cur.size) :
    (Builtin.clear_ #[22] ty #[.slice (some ⟨gb, off, none⟩) n n]).run Tryd.prog w = .ok (.tuple #[]) (w.setCells gb off (List.replicate n (.int .u8 0))) :=
  Lib.run_clear_slice w 22 5 ty (.int .u8 0) Tryd.underlying22 (fun w => by first | rfl | (simp [zeroValue, go_sem]; rfl)) rfl rfl gb off n n hn (fun j hj => by
    have : off + j < cur.size := by omega
    simp [World.cell?, hg, this]) (fun j hj => heap_free hg _)
set_option maxHeartbeats 4000000 in
theorem get_any {g size : Nat} {held : List Bool} {mem : List Int} {A : Option Addr} {c : Nat} (w : World) (hw : Sat σ w (M :: Hs)) (h : Slb M g size held mem A c) (hf : least held < held.length) (hT : TabZ w) :
    Calls Tryd.prog 11 #[.pointer (some ⟨g, 0, none⟩)] w fun e w' => e = .returned (.tuple #[.int .i64 (least held), .int .i64 0]) ∧ ∃ M', Sat σ w' (M' :: Hs) ∧ Slb M' g size (held.set (least held) true) (spliceL mem (least held * size) (List.replicate size 0)) A c := by
  obtain ⟨cs, ws, h1, h2, h3, h4, h5, h6, h7, h8, h9⟩ := id h.ex
  have c68 := hw.m_cell h1 h8
  have c67 := hw.m_cell h1 h7
  have f67 := heap_free (hw.le g _ h1) 67
  have hn := h.n
  have hcl : held.count true ≤ held.length := List.count_le_length
  have hrng : w.rangeAt g 0 (w64 ws) := fun j v hv => by
    have hj : j < 64 := by
      have := (List.getElem?_eq_some_iff.1 hv).1
      simpa [w64] using this
    have e : (w64 ws)[j]? = some (.int .u64 ((ws j : Nat) : Int)) := by unfold w64; simp [hj]
    rw [e] at hv
    injection hv with hv
    subst hv
    rw [Nat.zero_add]
    exact hw.m_cell h1 (h3 j hj)
  have hfr : held[least held]? = some false := by
    have := least_free hf
    unfold freeAt at this
    simpa using this
  have HR := Lib.hid hrng; have HW := Lib.hid h9
  have HI : Hid ((Tryd.prog.info? 57).map (·.size) = some (w64 ws).length) := Lib.hid (by rw [show (w64 ws).length = 64 by simp [w64]]; kernel_rfl)
  have HG : Hid (∀ i, i < 64 → (w64 ws).toArray[i]? = some (.int .u64 ((ws i : Nat) : Int))) := Lib.hid (fun i hi => w64_get ws i hi)
  have HC : Hid (∀ i, i < 64 → w.cell? ⟨g, i, none⟩ = some (.int .u64 ((ws i : Nat) : Int))) := Lib.hid (fun i hi => hw.m_cell h1 (h3 i hi))
  have HF : Hid (∀ i, w.frozen? ⟨g, i, none⟩ = false) := Lib.hid (fun i => heap_free (hw.le g _ h1) i)
  have HT := Lib.hid hT
  have HU := Lib.hid (fun nq k z => slb_got (k := k) (z := z) nq hw h h1 h2 h3 h4 h5 h6 h8 h9 hf hfr)
  obtain ⟨b, hlb⟩ : ∃ b, least held = b := ⟨_, rfl⟩
  rw [hlb] at hf HU ⊢
  have HLB := Lib.hid hlb
  clear hlb
  have HCT : Hid (held.count true ≤ 4096) := Lib.hid (by omega)
  have HF1 := Lib.hid hf; have HN := Lib.hid hn
  have hct : (0 : Int) ≤ (held.count true : Nat) := by omega
  have hcw : IntKind.i64.wrap (((held.count true : Nat) : Int) + 1) = ((held.count true : Nat) : Int) + 1 := wrap_small _ (by omega) (by omega)
  generalize w64 ws = W64 at *
  generalize held.count true = u at *
  clear hw h h1 h2 h3 h4 h5 h6 h7 h8 h9 hrng hfr hT hf hn hcl
  go_enter Tryd.func11, Tryd.ntmps11
  go_wp2_with fail
  refine (is_any w g true c68).mono ?_
  rintro e w1 ⟨rfl, rfl⟩
  go_wp2_with (refine wpList_load_mid rfl 57 (.tmp 12) rfl g 0 rfl W64 _ HR.out Tryd.underlying57 rfl HI.out ?_)
  go_loopw [4, 5, 14] (fun _ _ i wr => ∃ k : Nat, k ≤ 64 ∧ i = .int .i64 k ∧ wr = w1 ∧ Eager (∀ c, c < k * 64 → freeAt held c = false)) (fun _ _ i _ => 64 - (intOf i).toNat)
  case atStart => exact ⟨0, by omega, rfl, rfl, ⟨fun c hc => by omega⟩⟩
  case round =>
    obtain ⟨k, hk, rfl, rfl, hlow⟩ := hrel
    by_cases hlt : k < 64
    · have hk1 := fun w => run_ix _ k _ w hlt (HG.out k hlt)
      have hki : (k : Int) < 64 := by omega
      by_cases h0 : ws k = 0
      · rw [h0] at hk1
        have HL := Lib.hid (zero_word HW.out hlt h0); have HLO := Lib.hid hlow
        clear hlow
        go_wp2
        go_roundw
        case measure => simp [intOf]; omega
        case rel => exact ⟨k + 1, by omega, by go_num, by first | trivial | rfl, ⟨fun c hc => by
          by_cases hck : c < k * 64
          · exact HLO.out.out c hck
          · have := HL.out (c - k * 64) (by omega)
            rwa [show k * 64 + (c - k * 64) = c by omega] at this⟩⟩
      · obtain ⟨z1, z2, z3⟩ := some_word HW.out hlt h0 hlow.out
        rw [HLB.out] at z1 z2
        have hx := HW.out.lt k hlt
        have htz := tz_any (ws k) wr h0 hx HT.out
        have e1 : IntKind.i64.wrap ((k : Int) * 64) = (k : Int) * 64 := wrap_small _ (by omega) (by omega)
        have e2 : IntKind.i64.wrap ((k : Int) * 64 + (Lib.ctz 64 (ws k) : Nat)) = ((b : Nat) : Int) := by rw [wrap_small _ (by omega) (by omega)]; omega
        have e3 : (((b : Nat) : Int) % 64) = ((Lib.ctz 64 (ws k) : Nat) : Int) := by omega
        have hxi : ((ws k : Nat) : Int) ≠ 0 := by omega
        have HD := Lib.hid (⟨by omega, by omega⟩ : b / 64 = k ∧ b % 64 = Lib.ctz 64 (ws k))
        have hck := HC.out k hlt
        have fk := HF.out k
        have HTZ := Lib.hid htz
        have HUX := Lib.hid (fun nq => HU.out nq k (Lib.ctz 64 (ws k)) HD.out.1 HD.out.2)
        clear HU
        have HZ3 := Lib.hid z3; have HX := Lib.hid hx
        clear z1 z2 z3 hx htz hlow
        generalize Lib.ctz 64 (ws k) = z at *
        generalize ws k = x at *
        go_wp2_with fail
        refine HTZ.out.mono ?_
        rintro e w2 ⟨rfl, rfl⟩
        go_wp2
        refine wp_region_quiet_tail 13 (by kernel_rfl) (by kernel_rfl) ?_
        simp only [List.take_succ_cons, List.take_zero, List.drop_succ_cons, List.drop_zero]
        repeat (go_big_quiet_step (fail))
        refine wpQuiet_nil ?_
        intro _ hw'
        obtain ⟨nq, hw''⟩ := hw'
        subst hw''
        obtain ⟨M1, hs1, hS1⟩ := HUX.out nq
        rw [← andNot_bit x z HX.out HZ3.out] at hs1
        clear HUX HTZ
        have HP : Hid (∀ w', Sat σ w' (M1 :: Hs) → Calls Tryd.prog 28 #[.pointer (some ⟨g, 0, none⟩), .int .i64 b] w' fun e w' => ∃ A', e = .returned (.slice A' size size) ∧ (0 < size → A' = A.map (·.add (b * size))) ∧ Sat σ w' (M1 :: Hs)) := Lib.hid (fun w' h => piece_slb w' h List.mem_cons_self hS1 (by simpa using HF1.out))
        go_wp2_with fail
        refine (HP.out _ hs1).mono ?_
        rintro e w3 ⟨A', rfl, hA', hw3⟩
        by_cases hz : size = 0
        · subst hz
          have hclr := fun ty => clear_none w3 ty A'
          have HS1 : Hid (Slb M1 g 0 (held.set b true) (spliceL mem (b * 0) (List.replicate 0 0)) A c) := Lib.hid (by rw [List.replicate_zero, spliceL_nil]; exact hS1)
          clear hs1 hS1 HP
          go_wp2
          go_ret2
          exact ⟨rfl, M1, hw3, HS1.out⟩
        · have hroom := hS1.room (k := b) (by simpa using HF1.out)
          obtain ⟨gb, cap, cur, hA0, hgb, j2, j4⟩ : ∃ gb cap cur, A = some ⟨gb, 0, none⟩ ∧ M1 gb = some (.cells cur 5 (0, 0)) ∧ mem.length ≤ cap ∧ cur.size = cap * 1 := by
            rcases hS1.own.out.2 with ⟨e, e0⟩ | ⟨g', cap, cur', e, j1, j2, j3, j4, j5⟩
            · omega
            · injection e with e1 e2 e3
              exact ⟨g', cap, cur', e1, j1, j2, j4⟩
          have hA3 := hA' (by omega)
          rw [hA0, Option.map_some, Addr.add_mid, Nat.zero_add] at hA3
          subst hA3
          have hclr := fun ty => clear_some (off := b * size) (n := size) w3 ty (by omega) (hw3.le gb _ hgb) (by omega)
          have hs9 := hw3.updSeg hgb (o := b * size) (List.replicate size (.int .u8 0))
          have hS9 := hS1.splice (cap := cap) hA0 hgb (b * size) (List.replicate size 0) (by simp; omega) (by omega)
          have hseg : segSet cur (b * size) (List.replicate size (.int .u8 0)) = (spliceL cur.toList (b * size) (ints .u8 (List.replicate size 0))).toArray := by
            apply Array.ext'
            rw [segSet_list _ _ _ (by simp; omega)]
            simp [spliceL, ints]
          rw [hseg] at hs9
          have HS9 := Lib.hid hs9; have HSL9 := Lib.hid hS9
          clear hs9 hS9 hseg hs1 hS1 HP hw3 hA' j2 j4 hroom
          go_wp2
          go_ret2
          exact ⟨rfl, _, HS9.out, HSL9.out⟩
    · exfalso
      obtain rfl : k = 64 := by omega
      have hx : least held < held.length := by rw [HLB.out]; exact HF1.out
      have := hlow.out (least held) (by have := HN.out; omega)
      rw [least_free hx] at this
      cases this
end
end Go.Proofs.YtebdgohkhadgpaaDoor
