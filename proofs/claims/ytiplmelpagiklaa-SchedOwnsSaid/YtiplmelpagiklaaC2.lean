/- Walks: Run, Boundary, Frame, places. -/
import Derived.Test.YtiplmelpagiklaaC1
import Derived.Laws.Rows
import Derived.Laws.ResultCell
set_option linter.unusedVariables false
set_option linter.unusedSimpArgs false
namespace Go.Proofs.Ytiplmelpagiklaa
open Go.RowKit
set_option maxHeartbeats 1000000
theorem chk_ok {xs : List Sl} (h : chk xs = 0) : xs.length ≤ 64 ∧ 0 < xs.length ∧ (∀ x ∈ xs, -1 ≤ x.t ∧ x.t < 8 ∧ 1 ≤ x.b ∧ x.b ≤ 4096) ∧ ∃ x ∈ xs, 0 ≤ x.t := by
  unfold chk at h
  split at h
  · cases h
  · rename_i h1
    simp only [Bool.or_eq_true, not_or, Bool.not_eq_true, decide_eq_false_iff_not, Bool.not_eq_false'] at h1
    obtain ⟨⟨h1, h2⟩, h3⟩ := h1
    obtain ⟨x, hx, hx2⟩ := List.any_eq_true.1 h3
    refine ⟨by omega, List.length_pos_of_mem hx, fun y hy => ?_, x, hx, by simpa [ownB] using hx2⟩
    have := List.any_eq_false.1 h2 y hy
    unfold wrongB at this
    simp at this
    omega
theorem chk_bad {xs : List Sl} (h : chk xs ≠ 0) : chk xs = 50 := by
  unfold chk at h ⊢
  split
  · rfl
  · rename_i h1; rw [if_neg h1] at h; exact absurd rfl h
theorem tkd_ok {xs : List Sl} {n : Int} (h : tkd xs n = 0) : chk xs = 0 ∧ 0 ≤ n ∧ n ≤ 1099511627776 := by
  unfold tkd at h
  split at h
  · split at h
    · cases h
    · exact ⟨‹_›, by omega, by omega⟩
  · rename_i h1; exact absurd h h1
def runR (xs : List Sl) (n : Int) : Sl × Int := if tkd xs n = 0 then ((xs[n.toNat % xs.length]?).getD ⟨0, 0⟩, 0) else (⟨0, 0⟩, tkd xs n)
def frameR (xs : List Sl) (n : Int) : Int × Int := if tkd xs n = 0 then ((n.toNat / xs.length : Nat), 0) else (0, tkd xs n)
def boundR (xs : List Sl) (n : Int) : Bool × Int := (decide (tkd xs n = 0) && decide (n.toNat % xs.length = 0), tkd xs n)
/-- A tenant's slot? -/
def isT (xs : List Sl) (t : Int) (i : Nat) : Bool := match xs[i]? with | some x => decide (x.t = t) | none => false
/-- The own slots among the first k. -/
def plK (xs : List Sl) (t : Int) (k : Nat) : List Nat := (List.range k).filter (isT xs t)
theorem plK_succ {xs : List Sl} {t : Int} {k : Nat} {x : Sl} (hx : xs[k]? = some x) : plK xs t (k + 1) = plK xs t k ++ (if x.t = t then [k] else []) := by
  unfold plK
  rw [List.range_succ, List.filter_append]
  congr 1
  have : isT xs t k = decide (x.t = t) := by unfold isT; rw [hx]
  by_cases h : x.t = t <;> simp [this, h]
theorem plK_le (xs : List Sl) (t : Int) (k : Nat) : (plK xs t k).length ≤ k := Nat.le_trans (List.length_filter_le _ _) (by simp)
def kI : Kd Int := Kd.int .i64
def natsI (l : List Nat) : List Int := l.map fun (i : Nat) => (i : Int)
def cellsI (l : List Nat) : List Value := l.map fun (i : Nat) => Value.int .i64 (i : Int)
theorem natsI_reps (H : Hp) : ∀ l : List Nat, kI.reps H (natsI l) (cellsI l)
  | [] => rfl
  | x :: l => ⟨[.int .i64 x], cellsI l, rfl, rfl, natsI_reps H l⟩
section
variable {σ : World} {Hs : List Hp} {H M N : Hp}
theorem nat_get {v : Value} {l : List Nat} (hs : kI.IsSl H v (natsI l)) {k : Nat} (hk : k < l.length) : ∃ b off c x, l[k]? = some x ∧ v = .slice (some ⟨b, off, none⟩) l.length c ∧ Hp.cell H b (off + k) = some (.int .i64 (x : Nat)) := by
  obtain ⟨A, c, rfl, _⟩ := hs.form
  have hl : (natsI l).length = l.length := by simp [natsI]
  obtain ⟨b, off, cs, rfl, hcs, hcell⟩ := hs.get k _ (List.getElem?_eq_getElem (by omega))
  obtain rfl : cs = _ := hcs
  refine ⟨b, off, c, l[k], List.getElem?_eq_getElem hk, by rw [hl], ?_⟩
  have := hcell 0 _ rfl
  simpa [natsI, kI, Kd.int] using this
theorem results_cell_row2 {P : Program} {fn : Func} {p u : Tmp} {ty : TypeId} (h : fn.results = #[.cell p ty, .tmp u]) (tmps : Array Value) (w : World) (g : Nat) (t : TypeId) (cs : Array Value) (fr : Nat × Nat) (d : TypeDesc)
    (hp : tmps.getD p undef = .pointer (some ⟨g, 0, none⟩)) (hg : w.heap[g]? = some (.cells cs t fr))
    (hu : P.underlying ty = some d) (hd : (match d with | .struct _ | .array _ _ => true | _ => false) = true) (hi : (P.info? ty).map (·.size) = some cs.size) :
    (results fn tmps).run P w = .ok (.tuple #[.agg cs, tmps.getD u undef]) w := by
  rw [results_cell_tmp h, hp]
  simp [asAddr, run_loadVar_row w g t ty cs fr d hg hu hd hi, Result.andThen]
theorem run_any (v : Value) (xs : List Sl) (n : Int) (w : World) (hw : Sat σ w Hs) (hH : H ∈ Hs) (hs : kSl.IsSl H v xs) :
    Calls Try.prog 15 #[v, .int .i64 n] w fun e w' => e = .returned (.tuple #[.agg #[.int .i64 (runR xs n).1.t, .int .i64 (runR xs n).1.b], .int .i64 (runR xs n).2]) ∧ Sat σ w' Hs := by
  have HT := Lib.hid (fun w' (Hs' : List Hp) (h : Sat σ w' Hs') (hm : H ∈ Hs') => ticked_any v xs n w' h hm hs)
  by_cases h0 : tkd xs n = 0
  · obtain ⟨hc, hn1, hn2⟩ := tkd_ok h0
    obtain ⟨hl1, hl2, -, -⟩ := chk_ok hc
    obtain ⟨m, rfl⟩ := Int.eq_ofNat_of_zero_le hn1
    have hml : m % xs.length < xs.length := Nat.mod_lt _ hl2
    obtain ⟨b, off, c, x, hx, rfl, e0, e1⟩ := sl_get hs hml
    have hmod : ((m : Int)).tmod xs.length = ((m % xs.length : Nat) : Int) := rfl
    have hz : ((xs.length : Int) == 0) = false := beq_eq_false_iff_ne.2 (by omega)
    have hmi : ((m % xs.length : Nat) : Int) < xs.length := by omega
    have HR : Hid (runR xs m = (x, 0)) := Lib.hid (by unfold runR; rw [if_pos h0, Int.toNat_natCast, hx]; rfl)
    have HE := Lib.hid (And.intro e0 e1)
    rw [h0] at HT
    generalize m % xs.length = q at *
    clear hc h0 hn1 hx e0 e1 hs
    go_enter Try.func15, Try.ntmps15
    go_wp2_with fail
    refine (HT.out _ _ (hw.alloc (.cells #[.int .i64 0, .int .i64 0] 30)) (by simp [hH])).mono ?_
    rintro e w2 ⟨rfl, hw2⟩
    have f0 := heap_free (hw2.le _ _ (Hp.one_self _ _)) 0; have f1 := heap_free (hw2.le _ _ (Hp.one_self _ _)) 1
    have r0 : w2.cell? ⟨w.heap.size, 0, none⟩ = some (.int .i64 0) := hw2.one_cell rfl
    have r1 : w2.cell? ⟨w.heap.size, 1, none⟩ = some (.int .i64 0) := hw2.one_cell rfl
    generalize w.heap.size = nb at *
    have c0 := hw2.cellAt (H := H) (by simp [hH]) HE.out.1; have c1 := hw2.cellAt (H := H) (by simp [hH]) HE.out.2
    go_wp2
    have hfin := (hw2.set (o := 0) (.int .i64 x.t)).set (o := 1) (.int .i64 x.b)
    (try simp only [Exit.inBlock, Exit.then])
    refine bodyPost_ret (results_cell_row2 rfl _ _ nb _ _ _ _ rfl (hfin.le nb _ (Hp.one_self _ _)) Try.underlying30 rfl (by kernel_rfl)) rfl ?_
    rw [HR.out]
    exact ⟨rfl, hfin.drop⟩
  · have hq : (tkd xs n == 0) = false := beq_eq_false_iff_ne.2 h0
    have HR : Hid (runR xs n = (⟨0, 0⟩, tkd xs n)) := Lib.hid (by unfold runR; rw [if_neg h0])
    clear h0
    go_enter Try.func15, Try.ntmps15
    go_wp2_with fail
    refine (HT.out _ _ (hw.alloc (.cells #[.int .i64 0, .int .i64 0] 30)) (by simp [hH])).mono ?_
    rintro e w2 ⟨rfl, hw2⟩
    have f0 := heap_free (hw2.le _ _ (Hp.one_self _ _)) 0; have f1 := heap_free (hw2.le _ _ (Hp.one_self _ _)) 1
    have r0 : w2.cell? ⟨w.heap.size, 0, none⟩ = some (.int .i64 0) := hw2.one_cell rfl
    have r1 : w2.cell? ⟨w.heap.size, 1, none⟩ = some (.int .i64 0) := hw2.one_cell rfl
    generalize w.heap.size = nb at *
    go_wp2
    have hfin := (hw2.set (o := 0) (.int .i64 0)).set (o := 1) (.int .i64 0)
    (try simp only [Exit.inBlock, Exit.then])
    refine bodyPost_ret (results_cell_row2 rfl _ _ nb _ _ _ _ rfl (hfin.le nb _ (Hp.one_self _ _)) Try.underlying30 rfl (by kernel_rfl)) rfl ?_
    rw [HR.out]
    exact ⟨rfl, hfin.drop⟩
theorem frame_any (v : Value) (xs : List Sl) (n : Int) (w : World) (hw : Sat σ w Hs) (hH : H ∈ Hs) (hs : kSl.IsSl H v xs) :
    Calls Try.prog 19 #[v, .int .i64 n] w fun e w' => e = .returned (.tuple #[.int .i64 (frameR xs n).1, .int .i64 (frameR xs n).2]) ∧ Sat σ w' Hs := by
  have HT := Lib.hid (ticked_any v xs n w hw hH hs)
  obtain ⟨A, c, rfl, hc1, hc2, _⟩ := hs.form
  by_cases h0 : tkd xs n = 0
  · obtain ⟨hc, hn1, hn2⟩ := tkd_ok h0
    obtain ⟨hl1, hl2, -, -⟩ := chk_ok hc
    obtain ⟨m, rfl⟩ := Int.eq_ofNat_of_zero_le hn1
    have hdiv : ((m : Int)).tdiv xs.length = ((m / xs.length : Nat) : Int) := rfl
    have hz : ((xs.length : Int) == 0) = false := beq_eq_false_iff_ne.2 (by omega)
    have hdl : m / xs.length ≤ m := Nat.div_le_self _ _
    have HR : Hid (frameR xs m = (((m / xs.length : Nat) : Int), 0)) := Lib.hid (by unfold frameR; rw [if_pos h0, Int.toNat_natCast])
    rw [h0] at HT
    generalize m / xs.length = q at *
    have m1 : IntKind.i64.wrap (q : Int) = q := IntWalk.i64_in _ (by omega)
    clear hc h0 hn1 hs
    go_enter Try.func19, Try.ntmps19
    go_wp2_with fail
    refine HT.out.mono ?_
    rintro e w2 ⟨rfl, hw2⟩
    go_wp2
    go_ret2
    exact ⟨by rw [HR.out]; rfl, hw2⟩
  · have hq : (tkd xs n == 0) = false := beq_eq_false_iff_ne.2 h0
    have HR : Hid (frameR xs n = (0, tkd xs n)) := Lib.hid (by unfold frameR; rw [if_neg h0])
    clear h0
    go_enter Try.func19, Try.ntmps19
    go_wp2_with fail
    refine HT.out.mono ?_
    rintro e w2 ⟨rfl, hw2⟩
    go_wp2
    go_ret2
    exact ⟨by rw [HR.out]; rfl, hw2⟩
theorem bound_any (v : Value) (xs : List Sl) (n : Int) (w : World) (hw : Sat σ w Hs) (hH : H ∈ Hs) (hs : kSl.IsSl H v xs) :
    Calls Try.prog 21 #[v, .int .i64 n] w fun e w' => e = .returned (.tuple #[.bool (boundR xs n).1, .int .i64 (boundR xs n).2]) ∧ Sat σ w' Hs := by
  have HT := Lib.hid (ticked_any v xs n w hw hH hs)
  obtain ⟨A, c, rfl, hc1, hc2, _⟩ := hs.form
  by_cases h0 : tkd xs n = 0
  · obtain ⟨hc, hn1, hn2⟩ := tkd_ok h0
    obtain ⟨hl1, hl2, -, -⟩ := chk_ok hc
    obtain ⟨m, rfl⟩ := Int.eq_ofNat_of_zero_le hn1
    have hmod : ((m : Int)).tmod xs.length = ((m % xs.length : Nat) : Int) := rfl
    have hz : ((xs.length : Int) == 0) = false := beq_eq_false_iff_ne.2 (by omega)
    have HR : Hid (boundR xs m = (decide (m % xs.length = 0), 0)) := Lib.hid (by unfold boundR; rw [h0, Int.toNat_natCast]; rfl)
    rw [h0] at HT
    generalize m % xs.length = q at *
    clear hc h0 hn1 hs
    go_enter Try.func21, Try.ntmps21
    go_wp2_with fail
    refine HT.out.mono ?_
    rintro e w2 ⟨rfl, hw2⟩
    go_wp2
    go_ret2
    refine ⟨?_, hw2⟩
    rw [HR.out]
    by_cases hq0 : q = 0
    · subst hq0; rfl
    · have : ((q : Int) == 0) = false := beq_eq_false_iff_ne.2 (by omega)
      simp [hq0]
  · have hq : (tkd xs n == 0) = false := beq_eq_false_iff_ne.2 h0
    have HR : Hid (boundR xs n = (false, tkd xs n)) := Lib.hid (by unfold boundR; simp [h0])
    clear h0
    go_enter Try.func21, Try.ntmps21
    go_wp2_with fail
    refine HT.out.mono ?_
    rintro e w2 ⟨rfl, hw2⟩
    go_wp2
    go_ret2
    exact ⟨by rw [HR.out]; rfl, hw2⟩
theorem places_any (v : Value) (xs : List Sl) (t : Int) (w : World) (hw : Sat σ w Hs) (hH : H ∈ Hs) (hs : kSl.IsSl H v xs) (hl : xs.length ≤ 64) :
    Calls Try.prog 27 #[v, .int .i64 t] w fun e w' => ∃ v' N, e = .returned v' ∧ Sat σ w' (N :: Hs) ∧ kI.IsSl N v' (natsI (plK xs t xs.length)) := by
  obtain ⟨A, c, rfl, hc1, hc2, _⟩ := hs.form
  go_enter Try.func27, Try.ntmps27
  go_wp2
  go_loopw [10, 5, 6, 7] (fun i n _ _ wr => ∃ (k : Nat) (A1 : Option Addr) (c1 : Nat) (N : Hp), k ≤ xs.length ∧ i = .int .i64 k ∧ n = .slice A1 (plK xs t k).length c1 ∧ Sat σ wr (N :: Hs) ∧ Own N 3 1 (.slice A1 (plK xs t k).length c1) (plK xs t k).length (cellsI (plK xs t k))) (fun i _ _ _ _ => xs.length - (intOf i).toNat)
  case atStart => exact ⟨0, none, 0, Hp.emp, by omega, rfl, rfl, hw.emp, Own.nil _ _ _⟩
  case round =>
    obtain ⟨k, A1, c1', N, hk, rfl, rfl, hwr, ho⟩ := hrel
    clear hw
    by_cases hlt : k < xs.length
    · obtain ⟨gb, off, c', x, hx, hv, e0, e1⟩ := sl_get hs hlt
      injection hv with hv1 hv2 hv3
      subst hv1; subst hv3; clear hv2
      have hMN : H ∈ N :: Hs := by simp [hH]
      have c0 := hwr.cellAt hMN e0; have c1 := hwr.cellAt hMN e1
      have hgl : gb < wr.heap.size := World.block_lt_of_cell? wr _ c0
      have hki : (k : Int) < xs.length := by omega
      have hpl := plK_le xs t k
      have hps := plK_succ (t := t) hx
      have HPS := Lib.hid hps
      clear hx hs e0 e1 hMN hps
      generalize plK xs t k = ps at *
      by_cases ht : x.t = t
      · rw [if_pos ht] at HPS
        have htq : (x.t == t) = true := by simp [ht]
        clear ht
        go_wp2_with (at_builtin; refine wpList_app ((hwr.alloc' _).alloc' _) rfl (.tmp 19) (.tmp 21) 43 43 3 (.int .i64 0) 1 8 rfl Try.underlying43 (by kernel_rfl) rfl (by decide) _ _ ps.length 1 _ [.int .i64 k] rfl rfl ho (src_new Try.underlying43 _ [.int .i64 k] _ 1 1 1 (by simp) rfl rfl) (by omega) ?_; intro A2 c2 w2 N2 hw2 ho2 _ _)
        go_roundw
        case measure => simp [intOf]; omega
        case rel => exact ⟨k + 1, A2, c2, N2, by omega, by go_num, by rw [HPS.out]; simp, hw2, by rw [HPS.out]; simpa [cellsI] using ho2⟩
      · rw [if_neg ht, List.append_nil] at HPS
        have htq : (x.t == t) = false := beq_eq_false_iff_ne.2 ht
        clear ht
        go_wp2
        go_roundw
        case measure => simp [intOf]; omega
        case rel => exact ⟨k + 1, A1, c1', N, by omega, by go_num, by rw [HPS.out], hwr.alloc' _, by rw [HPS.out]; exact ho⟩
    · obtain rfl : k = xs.length := by omega
      go_wp2
      go_ret
      exact ⟨_, N, rfl, hwr, ho.isSl (d := kI) (natsI_reps N _) (by simp [natsI]) (Hp.le_refl _)⟩
end
end Go.Proofs.Ytiplmelpagiklaa
