/- Library: chains of faults, and what the statements' own error value is. -/
import Derived.Test.YtcndkpmeakaapaaDoorByt
set_option linter.unusedVariables false
set_option linter.unusedSimpArgs false
namespace Go.Proofs.YtcndkpmeakaapaaDoor
open Go Go.RowKit
section
variable {σ w w' : World} {Hs : List Hp} {H H1 H2 M N Y : Hp}
/-- Layers with places, the outermost first; and the number that stands innermost. -/
abbrev Ch := List (ByteArray × Int)
def chL (ch : Ch) (i : Nat) : ByteArray := (ch.getD i (⟨#[]⟩, 0)).1
def chA (ch : Ch) (i : Nat) : Int := (ch.getD i (⟨#[]⟩, 0)).2
def badC (ch : Ch) (c : Int) : Array Value := #[.int .i64 ch.length, .string (chL ch 0), .string (chL ch 1), .string (chL ch 2), .string (chL ch 3), .int .i64 (chA ch 0), .int .i64 (chA ch 1), .int .i64 (chA ch 2), .int .i64 (chA ch 3), .int .i64 c]
set_option maxHeartbeats 4000000
theorem fail_any (l : ByteArray) (a c : Int) (w : World) (hw : Sat σ w Hs) :
    Calls Tryd.prog 13 #[.string l, .int .i64 a, .int .i64 c] w fun e w' => e = .returned (.agg (badC [(l, a)] c)) ∧ Sat σ w' Hs := by
  go_enter Tryd.func13, Tryd.ntmps13
  go_wp2
  refine bodyPost_ret (results_cell_row rfl _ _ w.heap.size _ _ _ _ rfl ((hw.alloc _).alloc _).drop.heap Tryd.underlying41 rfl (by kernel_rfl)) rfl ?_
  exact ⟨rfl, ((hw.alloc _).alloc _).drop.drop⟩
theorem results_cell_row2 {P : Program} {fn : Func} {p u : Tmp} {ty : TypeId} (h : fn.results = #[.cell p ty, .tmp u]) (tmps : Array Value) (w : World) (g : Nat) (t : TypeId) (cs : Array Value) (fr : Nat × Nat) (d : TypeDesc)
    (hp : tmps.getD p undef = .pointer (some ⟨g, 0, none⟩)) (hg : w.heap[g]? = some (.cells cs t fr))
    (hu : P.underlying ty = some d) (hd : (match d with | .struct _ | .array _ _ => true | _ => false) = true) (hi : (P.info? ty).map (·.size) = some cs.size) :
    (results fn tmps).run P w = .ok (.tuple #[.agg cs, tmps.getD u undef]) w := by
  rw [results_cell_tmp h, hp]
  simp [asAddr, run_loadVar_row w g t ty cs fr d hg hu hd hi, Result.andThen]
/-- An error value that is a chain of faults. -/
def ErrV (H : Hp) : Value → Ch → Int → Prop
  | v, [], c => v = .iface 39 (.int .i64 c)
  | v, x :: r, c => ∃ b v', v = .iface 100 (.pointer (some ⟨b, 0, none⟩)) ∧ H b = some (.cells #[.string x.1, .int .i64 x.2, v'] 102 (0, 0)) ∧ ErrV H v' r c
theorem ErrV.le {H H' : Hp} (hl : Hp.le H H') : ∀ {v : Value} {ch : Ch} {c : Int}, ErrV H v ch c → ErrV H' v ch c
  | _, [], _, h => h
  | _, x :: r, _, ⟨b, v', h1, h2, h3⟩ => ⟨b, v', h1, hl _ _ h2, h3.le hl⟩
theorem chL_take (ch : Ch) (d i : Nat) : chL (ch.take d) i = if i < d then chL ch i else ⟨#[]⟩ := by
  unfold chL
  rw [List.getD_eq_getElem?_getD, List.getD_eq_getElem?_getD, List.getElem?_take]
  split <;> rfl
theorem chA_take (ch : Ch) (d i : Nat) : chA (ch.take d) i = if i < d then chA ch i else 0 := by
  unfold chA
  rw [List.getD_eq_getElem?_getD, List.getD_eq_getElem?_getD, List.getElem?_take]
  split <;> rfl
theorem chL_at {ch r : Ch} {x : ByteArray × Int} {d : Nat} (h : ch.drop d = x :: r) : chL ch d = x.1 ∧ chA ch d = x.2 ∧ d < ch.length ∧ ch.drop (d + 1) = r := by
  have h0 : ch[d]? = some x := by have := congrArg (fun l : Ch => l[0]?) h; simpa using this
  refine ⟨by unfold chL; rw [List.getD_eq_getElem?_getD, h0]; rfl, by unfold chA; rw [List.getD_eq_getElem?_getD, h0]; rfl, (List.getElem?_eq_some_iff.1 h0).1, ?_⟩
  rw [← List.drop_drop, h]
  rfl
theorem ta_errno (v : Value) (w : World) : (Instr.typeAssert (.iface 39 v) 31 39 true).run Tryd.prog w = .ok (.tuple #[v, .bool true]) w := by kernel_rfl
theorem ta_errno_no (v : Value) (w : World) : (Instr.typeAssert (.iface 100 v) 31 39 true).run Tryd.prog w = .ok (.tuple #[.int .i64 0, .bool false]) w := by kernel_rfl
theorem ta_fault (v : Value) (w : World) : (Instr.typeAssert (.iface 100 v) 31 100 true).run Tryd.prog w = .ok (.tuple #[v, .bool true]) w := by kernel_rfl
theorem badC0 (ch : Ch) (c : Int) : (badC ch c)[0]? = some (.int .i64 ch.length) := rfl
theorem chL_nil (i : Nat) : chL [] i = ⟨#[]⟩ := by unfold chL; simp
theorem chA_nil (i : Nat) : chA [] i = 0 := by unfold chA; simp
theorem badC_next {ch : Ch} {d : Nat} {l : ByteArray} {a : Int} (hd : d < 4) (hdl : d < ch.length) (h1 : chL ch d = l) (h2 : chA ch d = a) :
    (((badC (ch.take d) 0).setIfInBounds (1 + d) (.string l)).setIfInBounds (5 + d) (.int .i64 a)).setIfInBounds 0 (.int .i64 ((d + 1 : Nat) : Int)) = badC (ch.take (d + 1)) 0 := by
  have e1 : (ch.take (d + 1)).length = d + 1 := by rw [List.length_take]; omega
  subst h1; subst h2
  obtain rfl | rfl | rfl | rfl : d = 0 ∨ d = 1 ∨ d = 2 ∨ d = 3 := by omega
  all_goals
    apply Array.ext'
    unfold badC
    rw [e1]
    simp [Array.toList_setIfInBounds, chL_take, chA_take, chL_nil, chA_nil]
theorem badC_set (v0 v1 v2 v3 v4 v5 v6 v7 v8 v9 : Value) : (((((((((((badC [] 0).setIfInBounds 0 v0).setIfInBounds 1 v1).setIfInBounds 2 v2).setIfInBounds 3 v3).setIfInBounds 4 v4).setIfInBounds 5 v5).setIfInBounds 6 v6).setIfInBounds 7 v7).setIfInBounds 8 v8).setIfInBounds 9 v9) = #[v0, v1, v2, v3, v4, v5, v6, v7, v8, v9] := by
  apply Array.ext'
  simp only [Array.toList_setIfInBounds, badC, List.set_cons_zero, List.set_cons_succ]
theorem badC_size (ch : Ch) (c : Int) : (badC ch c).size = 10 := rfl
theorem badC_last (ch : Ch) (c : Int) : (badC ch 0).setIfInBounds 9 (.int .i64 c) = badC ch c := by
  apply Array.ext'
  simp only [Array.toList_setIfInBounds, badC, List.set_cons_zero, List.set_cons_succ]
set_option maxRecDepth 10000 in
theorem of_any (v : Value) (ch : Ch) (c : Int) (w : World) (hw : Sat σ w Hs) (hH : H ∈ Hs) (hv : ErrV H v ch c) (hl : ch.length ≤ 4) (h0 : 0 < ch.length) :
    Calls Tryd.prog 43 #[v] w fun e w' => e = .returned (.tuple #[.agg (badC ch c), .bool true]) ∧ Sat σ w' Hs := by
  have HL := Lib.hid hl; have HV := Lib.hid hv
  clear hl hv
  have ta1 := ta_errno; have ta2 := ta_errno_no; have ta3 := ta_fault
  go_enter Tryd.func43, Tryd.ntmps43
  go_wp2_with fail
  have hw2 := (hw.alloc (.cells #[.int .i64 0, .string ⟨#[]⟩, .string ⟨#[]⟩, .string ⟨#[]⟩, .string ⟨#[]⟩, .int .i64 0, .int .i64 0, .int .i64 0, .int .i64 0, .int .i64 0] 41)).alloc (.cells #[.int .i64 0, .string ⟨#[]⟩, .string ⟨#[]⟩, .string ⟨#[]⟩, .string ⟨#[]⟩, .int .i64 0, .int .i64 0, .int .i64 0, .int .i64 0, .int .i64 0] 41)
  rw [World.size_alloc] at hw2
  obtain ⟨nr, hnr⟩ : ∃ n, w.heap.size = n := ⟨_, rfl⟩
  obtain ⟨nb, hnb⟩ : ∃ n, nr + 1 = n := ⟨_, rfl⟩
  rw [hnr] at hw2 ⊢
  rw [hnb] at hw2 ⊢
  generalize World.alloc _ _ = w2 at *
  go_loopg [0, 5, 6, 7, 8] (ch.length + 1) (fun gk got _ _ _ _ wr => ∃ (d : Nat), Sat σ wr (Hp.one nb (.cells (badC (ch.take d) 0) 41 (0, 0)) :: Hp.one nr (.cells (badC [] 0) 41 (0, 0)) :: Hs) ∧ Eager (ErrV H got (ch.drop d) c ∧ d ≤ ch.length ∧ gk + d = ch.length + 1))
  case atStart => exact ⟨0, hw2, ⟨HV.out, by omega, by omega⟩⟩
  case round =>
    obtain ⟨d, hwr, hle⟩ := hrel
    obtain ⟨hv, hd, hgk⟩ := hle.out
    clear hw2 hle
    cases hdr : ch.drop d with
    | nil =>
      rw [hdr] at hv
      obtain rfl : u0 = _ := hv
      have hdl : d = ch.length := by have := congrArg List.length hdr; rw [List.length_drop] at this; simp at this; omega
      subst hdl
      rw [List.take_length] at hwr
      have c9 := hwr.one_cell (o := 9) rfl
      have f9 := heap_free (hwr.heap) 9
      have hw9 := hwr.set (o := 9) (.int .i64 c)
      rw [badC_last] at hw9
      go_upto_region 6 with fail
      generalize World.setCell wr _ _ = w9 at *
      clear hwr c9 f9
      have HW := Lib.hid hw9
      have hq : (0 : Int) < ch.length := by omega
      have d0 : w9.cell? ⟨nb, 0, none⟩ = some (.int .i64 ch.length) := hw9.one_cell rfl
      have d1 : w9.cell? ⟨nb, 1, none⟩ = some (.string (chL ch 0)) := hw9.one_cell rfl
      have d2 : w9.cell? ⟨nb, 2, none⟩ = some (.string (chL ch 1)) := hw9.one_cell rfl
      have d3 : w9.cell? ⟨nb, 3, none⟩ = some (.string (chL ch 2)) := hw9.one_cell rfl
      have d4 : w9.cell? ⟨nb, 4, none⟩ = some (.string (chL ch 3)) := hw9.one_cell rfl
      have d5 : w9.cell? ⟨nb, 5, none⟩ = some (.int .i64 (chA ch 0)) := hw9.one_cell rfl
      have d6 : w9.cell? ⟨nb, 6, none⟩ = some (.int .i64 (chA ch 1)) := hw9.one_cell rfl
      have d7 : w9.cell? ⟨nb, 7, none⟩ = some (.int .i64 (chA ch 2)) := hw9.one_cell rfl
      have d8 : w9.cell? ⟨nb, 8, none⟩ = some (.int .i64 (chA ch 3)) := hw9.one_cell rfl
      have d9 : w9.cell? ⟨nb, 9, none⟩ = some (.int .i64 c) := hw9.one_cell rfl
      have e0 : w9.cell? ⟨nr, 0, none⟩ = some (.int .i64 0) := hw9.swap.one_cell rfl
      have g0 := heap_free hw9.swap.heap 0
      have e1 : w9.cell? ⟨nr, 1, none⟩ = some (.string ⟨#[]⟩) := hw9.swap.one_cell rfl
      have g1 := heap_free hw9.swap.heap 1
      have e2 : w9.cell? ⟨nr, 2, none⟩ = some (.string ⟨#[]⟩) := hw9.swap.one_cell rfl
      have g2 := heap_free hw9.swap.heap 2
      have e3 : w9.cell? ⟨nr, 3, none⟩ = some (.string ⟨#[]⟩) := hw9.swap.one_cell rfl
      have g3 := heap_free hw9.swap.heap 3
      have e4 : w9.cell? ⟨nr, 4, none⟩ = some (.string ⟨#[]⟩) := hw9.swap.one_cell rfl
      have g4 := heap_free hw9.swap.heap 4
      have e5 : w9.cell? ⟨nr, 5, none⟩ = some (.int .i64 0) := hw9.swap.one_cell rfl
      have g5 := heap_free hw9.swap.heap 5
      have e6 : w9.cell? ⟨nr, 6, none⟩ = some (.int .i64 0) := hw9.swap.one_cell rfl
      have g6 := heap_free hw9.swap.heap 6
      have e7 : w9.cell? ⟨nr, 7, none⟩ = some (.int .i64 0) := hw9.swap.one_cell rfl
      have g7 := heap_free hw9.swap.heap 7
      have e8 : w9.cell? ⟨nr, 8, none⟩ = some (.int .i64 0) := hw9.swap.one_cell rfl
      have g8 := heap_free hw9.swap.heap 8
      have e9 : w9.cell? ⟨nr, 9, none⟩ = some (.int .i64 0) := hw9.swap.one_cell rfl
      have g9 := heap_free hw9.swap.heap 9
      have hne : ¬ nb = nr := by omega
      have hne2 : ¬ nr = nb := by omega
      go_region
      (try simp only [Exit.inBlock, Exit.then])
      go_wp2
      have hfin := ((((((((((HW.out.swap.set (o := 0) (.int .i64 ch.length)).set (o := 1) (.string (chL ch 0))).set (o := 2) (.string (chL ch 1))).set (o := 3) (.string (chL ch 2))).set (o := 4) (.string (chL ch 3))).set (o := 5) (.int .i64 (chA ch 0))).set (o := 6) (.int .i64 (chA ch 1))).set (o := 7) (.int .i64 (chA ch 2))).set (o := 8) (.int .i64 (chA ch 3))).set (o := 9) (.int .i64 c)).drew
      rw [badC_set] at hfin
      change Sat σ _ (Hp.one nr (.cells (badC ch c) 41 (0, 0)) :: _) at hfin
      have hheap := hfin.heap
      refine bodyPost_ret (results_cell_row2 rfl _ _ nr _ _ _ _ rfl hheap Tryd.underlying41 rfl (by rw [badC_size]; kernel_rfl)) rfl ?_
      exact ⟨rfl, hfin.drop.drop⟩
    | cons x r =>
      rw [hdr] at hv
      obtain ⟨b, v', rfl, hb, hv'⟩ := hv
      obtain ⟨hx1, hx2, hdl, hdr'⟩ := chL_at hdr
      have HX := Lib.hid (And.intro hx1 (And.intro hx2 (And.intro hdr' hv')))
      have h4 := HL.out
      clear hdr hx1 hx2 hdr' hv'
      obtain rfl | rfl | rfl | rfl : d = 0 ∨ d = 1 ∨ d = 2 ∨ d = 3 := by omega
      · have k0 := hwr.cellAt (H := H) (by simp [hH]) (Hp.cell_of hb (o := 0) rfl)
        have k1 := hwr.cellAt (H := H) (by simp [hH]) (Hp.cell_of hb (o := 1) rfl)
        have k2 := hwr.cellAt (H := H) (by simp [hH]) (Hp.cell_of hb (o := 2) rfl)
        have hbl := hwr.lt (H := H) (by simp [hH]) hb
        have HHB := Lib.hid hb
        have hbn : ¬ b = nb := fun e => by subst e; have := (List.pairwise_cons.1 hwr.dj).1 H (by simp [hH]) b _ (Hp.one_self _ _); rw [hb] at this; cases this
        have hbn2 : ¬ nb = b := fun e => hbn e.symm
        have ct : (ch.take 0).length = 0 := by rw [List.length_take]; omega
        have hC : (badC (ch.take 0) 0)[0]? = some (.int .i64 0) := by rw [badC0, ct]; rfl
        have c0 : wr.cell? ⟨nb, 0, none⟩ = some (.int .i64 0) := hwr.one_cell hC
        have c1 := hwr.one_cell (o := 1 + 0) rfl
        have c5 := hwr.one_cell (o := 5 + 0) rfl
        have f0 := heap_free (hwr.heap) 0
        have f1 := heap_free (hwr.heap) (1 + 0)
        have f5 := heap_free (hwr.heap) (5 + 0)
        have hA := hwr.set (o := 1 + 0) (.string x.1)
        have hB := hA.set (o := 5 + 0) (.int .i64 x.2)
        have hE := hB.set (o := 0) (.int .i64 (0 + 1))
        have hCA : ((badC (ch.take 0) 0).setIfInBounds (1 + 0) (.string x.1))[0]? = some (.int .i64 0) := by rw [Array.getElem?_setIfInBounds_ne (by omega)]; exact hC
        have hCB : (((badC (ch.take 0) 0).setIfInBounds (1 + 0) (.string x.1)).setIfInBounds (5 + 0) (.int .i64 x.2))[0]? = some (.int .i64 0) := by rw [Array.getElem?_setIfInBounds_ne (by omega)]; exact hCA
        have HS : Hid (∀ w' C, Sat σ w' (Hp.one nb (.cells C 41 (0, 0)) :: Hp.one nr (.cells (badC [] 0) 41 (0, 0)) :: Hs) → C[0]? = some (.int .i64 0) → (w'.cell? ⟨b, 0, none⟩ = some (.string x.1) ∧ w'.cell? ⟨b, 1, none⟩ = some (.int .i64 x.2) ∧ w'.cell? ⟨nb, 0, none⟩ = some (.int .i64 0))) := Lib.hid (fun w' C h hc => ⟨h.cellAt (H := H) (by simp [hH]) (Hp.cell_of HHB.out rfl), h.cellAt (H := H) (by simp [hH]) (Hp.cell_of HHB.out rfl), h.one_cell hc⟩)
        have HA := Lib.hid (And.intro hA (And.intro hCA (And.intro hB (And.intro hCB (And.intro hwr hC)))))
        have HE := Lib.hid hE
        clear hb ct hA hB hE hCA hCB hC hwr
        go_wp2
        go_region_held3 (fun w' => w'.cell? ⟨b, 0, none⟩ = some (.string x.1) ∧ w'.cell? ⟨b, 1, none⟩ = some (.int .i64 x.2) ∧ w'.cell? ⟨nb, 0, none⟩ = some (.int .i64 0))
          (first | exact HS.out _ _ HA.out.2.2.2.2.1.drew HA.out.2.2.2.2.2 | exact HS.out _ _ HA.out.1.drew HA.out.2.1 | exact HS.out _ _ HA.out.2.2.1.drew HA.out.2.2.2.1)
          (first | fail)
        go_wp2
        have hn := badC_next (d := 0) (by omega) hdl HX.out.1 HX.out.2.1
        have hfin := HE.out.drew
        rw [show ((0 : Int) + 1) = ((0 + 1 : Nat) : Int) by rfl] at hfin
        rw [hn] at hfin
        go_roundg (gk - 1)
        case measure => omega
        case rel => exact ⟨0 + 1, hfin, ⟨by rw [HX.out.2.2.1]; exact HX.out.2.2.2, by omega, by omega⟩⟩
      · have k0 := hwr.cellAt (H := H) (by simp [hH]) (Hp.cell_of hb (o := 0) rfl)
        have k1 := hwr.cellAt (H := H) (by simp [hH]) (Hp.cell_of hb (o := 1) rfl)
        have k2 := hwr.cellAt (H := H) (by simp [hH]) (Hp.cell_of hb (o := 2) rfl)
        have hbl := hwr.lt (H := H) (by simp [hH]) hb
        have HHB := Lib.hid hb
        have hbn : ¬ b = nb := fun e => by subst e; have := (List.pairwise_cons.1 hwr.dj).1 H (by simp [hH]) b _ (Hp.one_self _ _); rw [hb] at this; cases this
        have hbn2 : ¬ nb = b := fun e => hbn e.symm
        have ct : (ch.take 1).length = 1 := by rw [List.length_take]; omega
        have hC : (badC (ch.take 1) 0)[0]? = some (.int .i64 1) := by rw [badC0, ct]; rfl
        have c0 : wr.cell? ⟨nb, 0, none⟩ = some (.int .i64 1) := hwr.one_cell hC
        have c1 := hwr.one_cell (o := 1 + 1) rfl
        have c5 := hwr.one_cell (o := 5 + 1) rfl
        have f0 := heap_free (hwr.heap) 0
        have f1 := heap_free (hwr.heap) (1 + 1)
        have f5 := heap_free (hwr.heap) (5 + 1)
        have hA := hwr.set (o := 1 + 1) (.string x.1)
        have hB := hA.set (o := 5 + 1) (.int .i64 x.2)
        have hE := hB.set (o := 0) (.int .i64 (1 + 1))
        have hCA : ((badC (ch.take 1) 0).setIfInBounds (1 + 1) (.string x.1))[0]? = some (.int .i64 1) := by rw [Array.getElem?_setIfInBounds_ne (by omega)]; exact hC
        have hCB : (((badC (ch.take 1) 0).setIfInBounds (1 + 1) (.string x.1)).setIfInBounds (5 + 1) (.int .i64 x.2))[0]? = some (.int .i64 1) := by rw [Array.getElem?_setIfInBounds_ne (by omega)]; exact hCA
        have HS : Hid (∀ w' C, Sat σ w' (Hp.one nb (.cells C 41 (0, 0)) :: Hp.one nr (.cells (badC [] 0) 41 (0, 0)) :: Hs) → C[0]? = some (.int .i64 1) → (w'.cell? ⟨b, 0, none⟩ = some (.string x.1) ∧ w'.cell? ⟨b, 1, none⟩ = some (.int .i64 x.2) ∧ w'.cell? ⟨nb, 0, none⟩ = some (.int .i64 1))) := Lib.hid (fun w' C h hc => ⟨h.cellAt (H := H) (by simp [hH]) (Hp.cell_of HHB.out rfl), h.cellAt (H := H) (by simp [hH]) (Hp.cell_of HHB.out rfl), h.one_cell hc⟩)
        have HA := Lib.hid (And.intro hA (And.intro hCA (And.intro hB (And.intro hCB (And.intro hwr hC)))))
        have HE := Lib.hid hE
        clear hb ct hA hB hE hCA hCB hC hwr
        go_wp2
        go_region_held3 (fun w' => w'.cell? ⟨b, 0, none⟩ = some (.string x.1) ∧ w'.cell? ⟨b, 1, none⟩ = some (.int .i64 x.2) ∧ w'.cell? ⟨nb, 0, none⟩ = some (.int .i64 1))
          (first | exact HS.out _ _ HA.out.2.2.2.2.1.drew HA.out.2.2.2.2.2 | exact HS.out _ _ HA.out.1.drew HA.out.2.1 | exact HS.out _ _ HA.out.2.2.1.drew HA.out.2.2.2.1)
          (first | fail)
        go_wp2
        have hn := badC_next (d := 1) (by omega) hdl HX.out.1 HX.out.2.1
        have hfin := HE.out.drew
        rw [show ((1 : Int) + 1) = ((1 + 1 : Nat) : Int) by rfl] at hfin
        rw [hn] at hfin
        go_roundg (gk - 1)
        case measure => omega
        case rel => exact ⟨1 + 1, hfin, ⟨by rw [HX.out.2.2.1]; exact HX.out.2.2.2, by omega, by omega⟩⟩
      · have k0 := hwr.cellAt (H := H) (by simp [hH]) (Hp.cell_of hb (o := 0) rfl)
        have k1 := hwr.cellAt (H := H) (by simp [hH]) (Hp.cell_of hb (o := 1) rfl)
        have k2 := hwr.cellAt (H := H) (by simp [hH]) (Hp.cell_of hb (o := 2) rfl)
        have hbl := hwr.lt (H := H) (by simp [hH]) hb
        have HHB := Lib.hid hb
        have hbn : ¬ b = nb := fun e => by subst e; have := (List.pairwise_cons.1 hwr.dj).1 H (by simp [hH]) b _ (Hp.one_self _ _); rw [hb] at this; cases this
        have hbn2 : ¬ nb = b := fun e => hbn e.symm
        have ct : (ch.take 2).length = 2 := by rw [List.length_take]; omega
        have hC : (badC (ch.take 2) 0)[0]? = some (.int .i64 2) := by rw [badC0, ct]; rfl
        have c0 : wr.cell? ⟨nb, 0, none⟩ = some (.int .i64 2) := hwr.one_cell hC
        have c1 := hwr.one_cell (o := 1 + 2) rfl
        have c5 := hwr.one_cell (o := 5 + 2) rfl
        have f0 := heap_free (hwr.heap) 0
        have f1 := heap_free (hwr.heap) (1 + 2)
        have f5 := heap_free (hwr.heap) (5 + 2)
        have hA := hwr.set (o := 1 + 2) (.string x.1)
        have hB := hA.set (o := 5 + 2) (.int .i64 x.2)
        have hE := hB.set (o := 0) (.int .i64 (2 + 1))
        have hCA : ((badC (ch.take 2) 0).setIfInBounds (1 + 2) (.string x.1))[0]? = some (.int .i64 2) := by rw [Array.getElem?_setIfInBounds_ne (by omega)]; exact hC
        have hCB : (((badC (ch.take 2) 0).setIfInBounds (1 + 2) (.string x.1)).setIfInBounds (5 + 2) (.int .i64 x.2))[0]? = some (.int .i64 2) := by rw [Array.getElem?_setIfInBounds_ne (by omega)]; exact hCA
        have HS : Hid (∀ w' C, Sat σ w' (Hp.one nb (.cells C 41 (0, 0)) :: Hp.one nr (.cells (badC [] 0) 41 (0, 0)) :: Hs) → C[0]? = some (.int .i64 2) → (w'.cell? ⟨b, 0, none⟩ = some (.string x.1) ∧ w'.cell? ⟨b, 1, none⟩ = some (.int .i64 x.2) ∧ w'.cell? ⟨nb, 0, none⟩ = some (.int .i64 2))) := Lib.hid (fun w' C h hc => ⟨h.cellAt (H := H) (by simp [hH]) (Hp.cell_of HHB.out rfl), h.cellAt (H := H) (by simp [hH]) (Hp.cell_of HHB.out rfl), h.one_cell hc⟩)
        have HA := Lib.hid (And.intro hA (And.intro hCA (And.intro hB (And.intro hCB (And.intro hwr hC)))))
        have HE := Lib.hid hE
        clear hb ct hA hB hE hCA hCB hC hwr
        go_wp2
        go_region_held3 (fun w' => w'.cell? ⟨b, 0, none⟩ = some (.string x.1) ∧ w'.cell? ⟨b, 1, none⟩ = some (.int .i64 x.2) ∧ w'.cell? ⟨nb, 0, none⟩ = some (.int .i64 2))
          (first | exact HS.out _ _ HA.out.2.2.2.2.1.drew HA.out.2.2.2.2.2 | exact HS.out _ _ HA.out.1.drew HA.out.2.1 | exact HS.out _ _ HA.out.2.2.1.drew HA.out.2.2.2.1)
          (first | fail)
        go_wp2
        have hn := badC_next (d := 2) (by omega) hdl HX.out.1 HX.out.2.1
        have hfin := HE.out.drew
        rw [show ((2 : Int) + 1) = ((2 + 1 : Nat) : Int) by rfl] at hfin
        rw [hn] at hfin
        go_roundg (gk - 1)
        case measure => omega
        case rel => exact ⟨2 + 1, hfin, ⟨by rw [HX.out.2.2.1]; exact HX.out.2.2.2, by omega, by omega⟩⟩
      · have k0 := hwr.cellAt (H := H) (by simp [hH]) (Hp.cell_of hb (o := 0) rfl)
        have k1 := hwr.cellAt (H := H) (by simp [hH]) (Hp.cell_of hb (o := 1) rfl)
        have k2 := hwr.cellAt (H := H) (by simp [hH]) (Hp.cell_of hb (o := 2) rfl)
        have hbl := hwr.lt (H := H) (by simp [hH]) hb
        have HHB := Lib.hid hb
        have hbn : ¬ b = nb := fun e => by subst e; have := (List.pairwise_cons.1 hwr.dj).1 H (by simp [hH]) b _ (Hp.one_self _ _); rw [hb] at this; cases this
        have hbn2 : ¬ nb = b := fun e => hbn e.symm
        have ct : (ch.take 3).length = 3 := by rw [List.length_take]; omega
        have hC : (badC (ch.take 3) 0)[0]? = some (.int .i64 3) := by rw [badC0, ct]; rfl
        have c0 : wr.cell? ⟨nb, 0, none⟩ = some (.int .i64 3) := hwr.one_cell hC
        have c1 := hwr.one_cell (o := 1 + 3) rfl
        have c5 := hwr.one_cell (o := 5 + 3) rfl
        have f0 := heap_free (hwr.heap) 0
        have f1 := heap_free (hwr.heap) (1 + 3)
        have f5 := heap_free (hwr.heap) (5 + 3)
        have hA := hwr.set (o := 1 + 3) (.string x.1)
        have hB := hA.set (o := 5 + 3) (.int .i64 x.2)
        have hE := hB.set (o := 0) (.int .i64 (3 + 1))
        have hCA : ((badC (ch.take 3) 0).setIfInBounds (1 + 3) (.string x.1))[0]? = some (.int .i64 3) := by rw [Array.getElem?_setIfInBounds_ne (by omega)]; exact hC
        have hCB : (((badC (ch.take 3) 0).setIfInBounds (1 + 3) (.string x.1)).setIfInBounds (5 + 3) (.int .i64 x.2))[0]? = some (.int .i64 3) := by rw [Array.getElem?_setIfInBounds_ne (by omega)]; exact hCA
        have HS : Hid (∀ w' C, Sat σ w' (Hp.one nb (.cells C 41 (0, 0)) :: Hp.one nr (.cells (badC [] 0) 41 (0, 0)) :: Hs) → C[0]? = some (.int .i64 3) → (w'.cell? ⟨b, 0, none⟩ = some (.string x.1) ∧ w'.cell? ⟨b, 1, none⟩ = some (.int .i64 x.2) ∧ w'.cell? ⟨nb, 0, none⟩ = some (.int .i64 3))) := Lib.hid (fun w' C h hc => ⟨h.cellAt (H := H) (by simp [hH]) (Hp.cell_of HHB.out rfl), h.cellAt (H := H) (by simp [hH]) (Hp.cell_of HHB.out rfl), h.one_cell hc⟩)
        have HA := Lib.hid (And.intro hA (And.intro hCA (And.intro hB (And.intro hCB (And.intro hwr hC)))))
        have HE := Lib.hid hE
        clear hb ct hA hB hE hCA hCB hC hwr
        go_wp2
        go_region_held3 (fun w' => w'.cell? ⟨b, 0, none⟩ = some (.string x.1) ∧ w'.cell? ⟨b, 1, none⟩ = some (.int .i64 x.2) ∧ w'.cell? ⟨nb, 0, none⟩ = some (.int .i64 3))
          (first | exact HS.out _ _ HA.out.2.2.2.2.1.drew HA.out.2.2.2.2.2 | exact HS.out _ _ HA.out.1.drew HA.out.2.1 | exact HS.out _ _ HA.out.2.2.1.drew HA.out.2.2.2.1)
          (first | fail)
        go_wp2
        have hn := badC_next (d := 3) (by omega) hdl HX.out.1 HX.out.2.1
        have hfin := HE.out.drew
        rw [show ((3 : Int) + 1) = ((3 + 1 : Nat) : Int) by rfl] at hfin
        rw [hn] at hfin
        go_roundg (gk - 1)
        case measure => omega
        case rel => exact ⟨3 + 1, hfin, ⟨by rw [HX.out.2.2.1]; exact HX.out.2.2.2, by omega, by omega⟩⟩
end
end Go.Proofs.YtcndkpmeakaapaaDoor
