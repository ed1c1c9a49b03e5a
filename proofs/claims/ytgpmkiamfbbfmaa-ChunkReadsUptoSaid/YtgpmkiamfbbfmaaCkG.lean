/- Walk of the reference: line. -/
import Derived.Test.YtgpmkiamfbbfmaaCkF
set_option linter.unusedVariables false
set_option linter.unusedSimpArgs false
namespace Go.Proofs.Ytgpmkiamfbbfmaa
open Go Go.RowKit
theorem results_tmp_cell {P : Program} {fn : Func} {p u : Tmp} {ty : TypeId} (h : fn.results = #[.tmp u, .cell p ty]) (tmps : Array Value) (w : World) (g : Nat) (t : TypeId) (cs : Array Value) (fr : Nat × Nat) (d : TypeDesc)
    (hp : tmps.getD p undef = .pointer (some ⟨g, 0, none⟩)) (hg : w.heap[g]? = some (.cells cs t fr))
    (hu : P.underlying ty = some d) (hd : (match d with | .struct _ | .array _ _ => true | _ => false) = true) (hi : (P.info? ty).map (·.size) = some cs.size) :
    (results fn tmps).run P w = .ok (.tuple #[tmps.getD u undef, .agg cs]) w := by
  have hp' : tmps[p]?.getD undef = .pointer (some ⟨g, 0, none⟩) := by simpa using hp
  simp [results, h, hp', asAddr, run_loadVar_row w g t ty cs fr d hg hu hd hi]
theorem results_tmp3_cell {P : Program} {fn : Func} {p u1 u2 u3 : Tmp} {ty : TypeId} (h : fn.results = #[.tmp u1, .tmp u2, .tmp u3, .cell p ty]) (tmps : Array Value) (w : World) (g : Nat) (t : TypeId) (cs : Array Value) (fr : Nat × Nat) (d : TypeDesc)
    (hp : tmps.getD p undef = .pointer (some ⟨g, 0, none⟩)) (hg : w.heap[g]? = some (.cells cs t fr))
    (hu : P.underlying ty = some d) (hd : (match d with | .struct _ | .array _ _ => true | _ => false) = true) (hi : (P.info? ty).map (·.size) = some cs.size) :
    (results fn tmps).run P w = .ok (.tuple #[tmps.getD u1 undef, tmps.getD u2 undef, tmps.getD u3 undef, .agg cs]) w := by
  have hp' : tmps[p]?.getD undef = .pointer (some ⟨g, 0, none⟩) := by simpa using hp
  simp [results, h, hp', asAddr, run_loadVar_row w g t ty cs fr d hg hu hd hi]
/-- What is told of CR LF at a place. -/
def lineD (bs : List Int) (p : Nat) : Bool × Option (Nat × Int) :=
  match bs[p]? with
  | none => (false, none)
  | some x => if x = 13 then (match bs[p + 1]? with
      | none => (false, none)
      | some y => if y = 10 then (true, none) else (false, some (p + 1, 91)))
    else (false, some (p, 91))
theorem ix_cr (W : World) : (Instr.index 9 (.string ⟨#[13, 10]⟩) (.int .i64 0)).run Try.prog W = .ok (.int .u8 13) W := by kernel_rfl
theorem ix_lf (W : World) : (Instr.index 9 (.string ⟨#[13, 10]⟩) (.int .i64 1)).run Try.prog W = .ok (.int .u8 10) W := by kernel_rfl
def BE (e : Option (Nat × Int)) : Array Value := badC (chE (errE e)) (cE (errE e))
section
variable {σ w w' : World} {Hs : List Hp} {H H1 H2 M N Y : Hp}
set_option maxHeartbeats 8000000
theorem line_any (A : Option Addr) (c : Nat) (bs : List Int) (p : Nat) (w : World) (hw : Sat σ w Hs) (hH : H ∈ Hs) (hs : kB.IsSl H (.slice A bs.length c) bs) (hp : p + 2 ≤ 9223372036854775807) (hc : bs.length ≤ 9223372036854775807) :
    Calls Try.prog 21 #[.slice A bs.length c, .int .i64 p] w fun e w' => e = .returned (.tuple #[.bool (lineD bs p).1, .agg (BE (lineD bs p).2)]) ∧ Sat σ w' Hs := by
  have HB := Lib.hid hs
  clear hs
  have x0 := ix_cr; have x1 := ix_lf
  go_enter Try.func21, Try.ntmps21
  go_wp2_with fail
  have hw2 := hw.alloc (.cells #[.int .i64 0, .string ⟨#[]⟩, .string ⟨#[]⟩, .string ⟨#[]⟩, .string ⟨#[]⟩, .int .i64 0, .int .i64 0, .int .i64 0, .int .i64 0, .int .i64 0] 34)
  generalize World.alloc w _ = w2 at *
  generalize w.heap.size = nb at *
  clear hw
  go_loopw [6] (fun i wr => ∃ k : Nat, k ≤ 2 ∧ i = .int .i64 k ∧ Sat σ wr (Hp.one nb (.cells #[.int .i64 0, .string ⟨#[]⟩, .string ⟨#[]⟩, .string ⟨#[]⟩, .string ⟨#[]⟩, .int .i64 0, .int .i64 0, .int .i64 0, .int .i64 0, .int .i64 0] 34 (0, 0)) :: Hs) ∧ Eager ((1 ≤ k → bs[p]? = some 13) ∧ (k = 2 → bs[p + 1]? = some 10))) (fun i _ => 2 - (intOf i).toNat)
  case atStart => exact ⟨0, by omega, rfl, hw2, ⟨fun h => by omega, fun h => by omega⟩⟩
  case round =>
    obtain ⟨k, hk, rfl, hwr, hst⟩ := hrel
    have HST := Lib.hid hst.out
    clear hw2 hst
    obtain rfl | rfl | rfl : k = 0 ∨ k = 1 ∨ k = 2 := by omega
    · by_cases hlt : p < bs.length
      · obtain ⟨b, off, c', x, hx, hv, hcell⟩ := byte_get HB.out hlt
        injection hv with hv1 hv2 hv3
        subst hv1; subst hv3; clear hv2
        have cx := hwr.cellAt (H := H) (by simp [hH]) hcell
        have hpi : (p : Int) < bs.length := by omega
        have HX := Lib.hid hx
        clear hx hcell
        by_cases h13 : x = 13
        · subst h13
          go_wp2
          go_quiet (fail)
          go_wp2
          exact ⟨⟨1, by omega, rfl, hwr.drewN _, ⟨fun _ => HX.out, fun h => by omega⟩⟩, by simp [intOf]⟩
        · have b13 : (x != 13) = true := by simpa using h13
          have HD : Hid (lineD bs p = (false, some (p, 91))) := Lib.hid (by unfold lineD; rw [HX.out]; simp only; rw [if_neg h13])
          go_wp2
          go_quiet (fail)
          go_wp2_with fail
          refine (rfault_any (p : Int) 91 _ (hwr.drewN _)).mono ?_
          rintro e w3 ⟨rfl, hw3⟩
          clear hwr
          have e0 : w3.cell? ⟨nb, 0, none⟩ = some (.int .i64 0) := hw3.one_cell rfl
          have g0 := heap_free hw3.heap 0
          have e1 : w3.cell? ⟨nb, 1, none⟩ = some (.string ⟨#[]⟩) := hw3.one_cell rfl
          have g1 := heap_free hw3.heap 1
          have e2 : w3.cell? ⟨nb, 2, none⟩ = some (.string ⟨#[]⟩) := hw3.one_cell rfl
          have g2 := heap_free hw3.heap 2
          have e3 : w3.cell? ⟨nb, 3, none⟩ = some (.string ⟨#[]⟩) := hw3.one_cell rfl
          have g3 := heap_free hw3.heap 3
          have e4 : w3.cell? ⟨nb, 4, none⟩ = some (.string ⟨#[]⟩) := hw3.one_cell rfl
          have g4 := heap_free hw3.heap 4
          have e5 : w3.cell? ⟨nb, 5, none⟩ = some (.int .i64 0) := hw3.one_cell rfl
          have g5 := heap_free hw3.heap 5
          have e6 : w3.cell? ⟨nb, 6, none⟩ = some (.int .i64 0) := hw3.one_cell rfl
          have g6 := heap_free hw3.heap 6
          have e7 : w3.cell? ⟨nb, 7, none⟩ = some (.int .i64 0) := hw3.one_cell rfl
          have g7 := heap_free hw3.heap 7
          have e8 : w3.cell? ⟨nb, 8, none⟩ = some (.int .i64 0) := hw3.one_cell rfl
          have g8 := heap_free hw3.heap 8
          have e9 : w3.cell? ⟨nb, 9, none⟩ = some (.int .i64 0) := hw3.one_cell rfl
          have g9 := heap_free hw3.heap 9
          have HBQ : Hid (badC [(chunkB, (p : Int))] 91 = #[.int .i64 (((List.length [(chunkB, (p : Int))] : Nat) : Int)), .string (chL [(chunkB, (p : Int))] 0), .string (chL [(chunkB, (p : Int))] 1), .string (chL [(chunkB, (p : Int))] 2), .string (chL [(chunkB, (p : Int))] 3), .int .i64 (chA [(chunkB, (p : Int))] 0), .int .i64 (chA [(chunkB, (p : Int))] 1), .int .i64 (chA [(chunkB, (p : Int))] 2), .int .i64 (chA [(chunkB, (p : Int))] 3), .int .i64 91]) := Lib.hid rfl
          rw [HBQ.out]
          generalize ((List.length [(chunkB, (p : Int))] : Nat) : Int) = x0 at *
          generalize chL [(chunkB, (p : Int))] 0 = x1 at *
          generalize chL [(chunkB, (p : Int))] 1 = x2 at *
          generalize chL [(chunkB, (p : Int))] 2 = x3 at *
          generalize chL [(chunkB, (p : Int))] 3 = x4 at *
          generalize chA [(chunkB, (p : Int))] 0 = x5 at *
          generalize chA [(chunkB, (p : Int))] 1 = x6 at *
          generalize chA [(chunkB, (p : Int))] 2 = x7 at *
          generalize chA [(chunkB, (p : Int))] 3 = x8 at *
          have hfin := ((((((((((hw3.set (o := 0) (.int .i64 x0)).set (o := 1) (.string x1)).set (o := 2) (.string x2)).set (o := 3) (.string x3)).set (o := 4) (.string x4)).set (o := 5) (.int .i64 x5)).set (o := 6) (.int .i64 x6)).set (o := 7) (.int .i64 x7)).set (o := 8) (.int .i64 x8)).set (o := 9) (.int .i64 91))
          change Sat σ _ (Hp.one nb (.cells (((((((((((badC [] 0).setIfInBounds 0 _).setIfInBounds 1 _).setIfInBounds 2 _).setIfInBounds 3 _).setIfInBounds 4 _).setIfInBounds 5 _).setIfInBounds 6 _).setIfInBounds 7 _).setIfInBounds 8 _).setIfInBounds 9 _) 34 (0, 0)) :: _) at hfin
          rw [badC_set] at hfin
          have HFIN := Lib.hid hfin
          clear hfin hw3
          go_wp2
          refine bodyPost_ret (results_tmp_cell rfl _ _ nb _ _ _ _ rfl HFIN.out.heap Try.underlying34 rfl (by kernel_rfl)) rfl ?_
          rw [HD.out]
          refine ⟨?_, HFIN.out.drop⟩
          rw [← HBQ.out]
          rfl
      · have HD : Hid (lineD bs p = (false, none)) := Lib.hid (by unfold lineD; rw [List.getElem?_eq_none (by omega)])
        have HW := Lib.hid hwr
        have e0 : wr.cell? ⟨nb, 0, none⟩ = some (.int .i64 0) := hwr.one_cell rfl
        have g0 := heap_free hwr.heap 0
        have e1 : wr.cell? ⟨nb, 1, none⟩ = some (.string ⟨#[]⟩) := hwr.one_cell rfl
        have g1 := heap_free hwr.heap 1
        have e2 : wr.cell? ⟨nb, 2, none⟩ = some (.string ⟨#[]⟩) := hwr.one_cell rfl
        have g2 := heap_free hwr.heap 2
        have e3 : wr.cell? ⟨nb, 3, none⟩ = some (.string ⟨#[]⟩) := hwr.one_cell rfl
        have g3 := heap_free hwr.heap 3
        have e4 : wr.cell? ⟨nb, 4, none⟩ = some (.string ⟨#[]⟩) := hwr.one_cell rfl
        have g4 := heap_free hwr.heap 4
        have e5 : wr.cell? ⟨nb, 5, none⟩ = some (.int .i64 0) := hwr.one_cell rfl
        have g5 := heap_free hwr.heap 5
        have e6 : wr.cell? ⟨nb, 6, none⟩ = some (.int .i64 0) := hwr.one_cell rfl
        have g6 := heap_free hwr.heap 6
        have e7 : wr.cell? ⟨nb, 7, none⟩ = some (.int .i64 0) := hwr.one_cell rfl
        have g7 := heap_free hwr.heap 7
        have e8 : wr.cell? ⟨nb, 8, none⟩ = some (.int .i64 0) := hwr.one_cell rfl
        have g8 := heap_free hwr.heap 8
        have e9 : wr.cell? ⟨nb, 9, none⟩ = some (.int .i64 0) := hwr.one_cell rfl
        have g9 := heap_free hwr.heap 9
        clear hwr
        go_wp2
        have hfin := ((((((((((HW.out.set (o := 0) (.int .i64 0)).set (o := 1) (.string ⟨#[]⟩)).set (o := 2) (.string ⟨#[]⟩)).set (o := 3) (.string ⟨#[]⟩)).set (o := 4) (.string ⟨#[]⟩)).set (o := 5) (.int .i64 0)).set (o := 6) (.int .i64 0)).set (o := 7) (.int .i64 0)).set (o := 8) (.int .i64 0)).set (o := 9) (.int .i64 0))
        change Sat σ _ (Hp.one nb (.cells (((((((((((badC [] 0).setIfInBounds 0 _).setIfInBounds 1 _).setIfInBounds 2 _).setIfInBounds 3 _).setIfInBounds 4 _).setIfInBounds 5 _).setIfInBounds 6 _).setIfInBounds 7 _).setIfInBounds 8 _).setIfInBounds 9 _) 34 (0, 0)) :: _) at hfin
        rw [badC_set] at hfin
        refine bodyPost_ret (results_tmp_cell rfl _ _ nb _ _ _ _ rfl hfin.heap Try.underlying34 rfl (by kernel_rfl)) rfl ?_
        rw [HD.out]
        exact ⟨rfl, hfin.drop⟩
    · have h0 := HST.out.1 (Nat.le_refl _)
      have H0 := Lib.hid h0
      clear h0
      have mw : IntKind.i64.wrap ((p : Int) + 1) = (p : Int) + 1 := IntWalk.i64_in _ (by omega)
      by_cases hlt : p + 1 < bs.length
      · obtain ⟨b, off, c', x, hx, hv, hcell⟩ := byte_get HB.out hlt
        injection hv with hv1 hv2 hv3
        subst hv1; subst hv3; clear hv2
        have cx := hwr.cellAt (H := H) (by simp [hH]) hcell
        have hpi : (p : Int) + 1 < bs.length := by omega
        have hpn : (0 : Int) ≤ (p : Int) + 1 := by omega
        have HX := Lib.hid hx
        clear hx hcell
        by_cases h10 : x = 10
        · subst h10
          go_wp2
          go_quiet (fail)
          go_wp2
          exact ⟨⟨2, by omega, rfl, hwr.drewN _, ⟨fun _ => H0.out, fun _ => HX.out⟩⟩, by simp [intOf]⟩
        · have b10 : (x != 10) = true := by simpa using h10
          have HD : Hid (lineD bs p = (false, some (p + 1, 91))) := Lib.hid (by unfold lineD; simp [H0.out, HX.out, h10])
          go_wp2
          go_quiet (fail)
          go_wp2_with fail
          refine (rfault_any ((p : Int) + 1) 91 _ (hwr.drewN _)).mono ?_
          rintro e w3 ⟨rfl, hw3⟩
          clear hwr
          have e0 : w3.cell? ⟨nb, 0, none⟩ = some (.int .i64 0) := hw3.one_cell rfl
          have g0 := heap_free hw3.heap 0
          have e1 : w3.cell? ⟨nb, 1, none⟩ = some (.string ⟨#[]⟩) := hw3.one_cell rfl
          have g1 := heap_free hw3.heap 1
          have e2 : w3.cell? ⟨nb, 2, none⟩ = some (.string ⟨#[]⟩) := hw3.one_cell rfl
          have g2 := heap_free hw3.heap 2
          have e3 : w3.cell? ⟨nb, 3, none⟩ = some (.string ⟨#[]⟩) := hw3.one_cell rfl
          have g3 := heap_free hw3.heap 3
          have e4 : w3.cell? ⟨nb, 4, none⟩ = some (.string ⟨#[]⟩) := hw3.one_cell rfl
          have g4 := heap_free hw3.heap 4
          have e5 : w3.cell? ⟨nb, 5, none⟩ = some (.int .i64 0) := hw3.one_cell rfl
          have g5 := heap_free hw3.heap 5
          have e6 : w3.cell? ⟨nb, 6, none⟩ = some (.int .i64 0) := hw3.one_cell rfl
          have g6 := heap_free hw3.heap 6
          have e7 : w3.cell? ⟨nb, 7, none⟩ = some (.int .i64 0) := hw3.one_cell rfl
          have g7 := heap_free hw3.heap 7
          have e8 : w3.cell? ⟨nb, 8, none⟩ = some (.int .i64 0) := hw3.one_cell rfl
          have g8 := heap_free hw3.heap 8
          have e9 : w3.cell? ⟨nb, 9, none⟩ = some (.int .i64 0) := hw3.one_cell rfl
          have g9 := heap_free hw3.heap 9
          have HBQ : Hid (badC [(chunkB, ((p : Int) + 1))] 91 = #[.int .i64 (((List.length [(chunkB, ((p : Int) + 1))] : Nat) : Int)), .string (chL [(chunkB, ((p : Int) + 1))] 0), .string (chL [(chunkB, ((p : Int) + 1))] 1), .string (chL [(chunkB, ((p : Int) + 1))] 2), .string (chL [(chunkB, ((p : Int) + 1))] 3), .int .i64 (chA [(chunkB, ((p : Int) + 1))] 0), .int .i64 (chA [(chunkB, ((p : Int) + 1))] 1), .int .i64 (chA [(chunkB, ((p : Int) + 1))] 2), .int .i64 (chA [(chunkB, ((p : Int) + 1))] 3), .int .i64 91]) := Lib.hid rfl
          rw [HBQ.out]
          generalize ((List.length [(chunkB, ((p : Int) + 1))] : Nat) : Int) = x0 at *
          generalize chL [(chunkB, ((p : Int) + 1))] 0 = x1 at *
          generalize chL [(chunkB, ((p : Int) + 1))] 1 = x2 at *
          generalize chL [(chunkB, ((p : Int) + 1))] 2 = x3 at *
          generalize chL [(chunkB, ((p : Int) + 1))] 3 = x4 at *
          generalize chA [(chunkB, ((p : Int) + 1))] 0 = x5 at *
          generalize chA [(chunkB, ((p : Int) + 1))] 1 = x6 at *
          generalize chA [(chunkB, ((p : Int) + 1))] 2 = x7 at *
          generalize chA [(chunkB, ((p : Int) + 1))] 3 = x8 at *
          have hfin := ((((((((((hw3.set (o := 0) (.int .i64 x0)).set (o := 1) (.string x1)).set (o := 2) (.string x2)).set (o := 3) (.string x3)).set (o := 4) (.string x4)).set (o := 5) (.int .i64 x5)).set (o := 6) (.int .i64 x6)).set (o := 7) (.int .i64 x7)).set (o := 8) (.int .i64 x8)).set (o := 9) (.int .i64 91))
          change Sat σ _ (Hp.one nb (.cells (((((((((((badC [] 0).setIfInBounds 0 _).setIfInBounds 1 _).setIfInBounds 2 _).setIfInBounds 3 _).setIfInBounds 4 _).setIfInBounds 5 _).setIfInBounds 6 _).setIfInBounds 7 _).setIfInBounds 8 _).setIfInBounds 9 _) 34 (0, 0)) :: _) at hfin
          rw [badC_set] at hfin
          have HFIN := Lib.hid hfin
          clear hfin hw3
          go_wp2
          refine bodyPost_ret (results_tmp_cell rfl _ _ nb _ _ _ _ rfl HFIN.out.heap Try.underlying34 rfl (by kernel_rfl)) rfl ?_
          rw [HD.out]
          refine ⟨?_, HFIN.out.drop⟩
          rw [← HBQ.out]
          rfl
      · have HD : Hid (lineD bs p = (false, none)) := Lib.hid (by unfold lineD; simp [H0.out, List.getElem?_eq_none (show bs.length ≤ p + 1 by omega)])
        have HW := Lib.hid hwr
        have e0 : wr.cell? ⟨nb, 0, none⟩ = some (.int .i64 0) := hwr.one_cell rfl
        have g0 := heap_free hwr.heap 0
        have e1 : wr.cell? ⟨nb, 1, none⟩ = some (.string ⟨#[]⟩) := hwr.one_cell rfl
        have g1 := heap_free hwr.heap 1
        have e2 : wr.cell? ⟨nb, 2, none⟩ = some (.string ⟨#[]⟩) := hwr.one_cell rfl
        have g2 := heap_free hwr.heap 2
        have e3 : wr.cell? ⟨nb, 3, none⟩ = some (.string ⟨#[]⟩) := hwr.one_cell rfl
        have g3 := heap_free hwr.heap 3
        have e4 : wr.cell? ⟨nb, 4, none⟩ = some (.string ⟨#[]⟩) := hwr.one_cell rfl
        have g4 := heap_free hwr.heap 4
        have e5 : wr.cell? ⟨nb, 5, none⟩ = some (.int .i64 0) := hwr.one_cell rfl
        have g5 := heap_free hwr.heap 5
        have e6 : wr.cell? ⟨nb, 6, none⟩ = some (.int .i64 0) := hwr.one_cell rfl
        have g6 := heap_free hwr.heap 6
        have e7 : wr.cell? ⟨nb, 7, none⟩ = some (.int .i64 0) := hwr.one_cell rfl
        have g7 := heap_free hwr.heap 7
        have e8 : wr.cell? ⟨nb, 8, none⟩ = some (.int .i64 0) := hwr.one_cell rfl
        have g8 := heap_free hwr.heap 8
        have e9 : wr.cell? ⟨nb, 9, none⟩ = some (.int .i64 0) := hwr.one_cell rfl
        have g9 := heap_free hwr.heap 9
        clear hwr
        go_wp2
        have hfin := ((((((((((HW.out.set (o := 0) (.int .i64 0)).set (o := 1) (.string ⟨#[]⟩)).set (o := 2) (.string ⟨#[]⟩)).set (o := 3) (.string ⟨#[]⟩)).set (o := 4) (.string ⟨#[]⟩)).set (o := 5) (.int .i64 0)).set (o := 6) (.int .i64 0)).set (o := 7) (.int .i64 0)).set (o := 8) (.int .i64 0)).set (o := 9) (.int .i64 0))
        change Sat σ _ (Hp.one nb (.cells (((((((((((badC [] 0).setIfInBounds 0 _).setIfInBounds 1 _).setIfInBounds 2 _).setIfInBounds 3 _).setIfInBounds 4 _).setIfInBounds 5 _).setIfInBounds 6 _).setIfInBounds 7 _).setIfInBounds 8 _).setIfInBounds 9 _) 34 (0, 0)) :: _) at hfin
        rw [badC_set] at hfin
        refine bodyPost_ret (results_tmp_cell rfl _ _ nb _ _ _ _ rfl hfin.heap Try.underlying34 rfl (by kernel_rfl)) rfl ?_
        rw [HD.out]
        exact ⟨rfl, hfin.drop⟩
    · have h0 := HST.out.1 (by omega)
      have h1 := HST.out.2 rfl
      have HD : Hid (lineD bs p = (true, none)) := Lib.hid (by unfold lineD; simp [h0, h1])
      clear h0 h1
      have HW := Lib.hid hwr
      have e0 : wr.cell? ⟨nb, 0, none⟩ = some (.int .i64 0) := hwr.one_cell rfl
      have g0 := heap_free hwr.heap 0
      have e1 : wr.cell? ⟨nb, 1, none⟩ = some (.string ⟨#[]⟩) := hwr.one_cell rfl
      have g1 := heap_free hwr.heap 1
      have e2 : wr.cell? ⟨nb, 2, none⟩ = some (.string ⟨#[]⟩) := hwr.one_cell rfl
      have g2 := heap_free hwr.heap 2
      have e3 : wr.cell? ⟨nb, 3, none⟩ = some (.string ⟨#[]⟩) := hwr.one_cell rfl
      have g3 := heap_free hwr.heap 3
      have e4 : wr.cell? ⟨nb, 4, none⟩ = some (.string ⟨#[]⟩) := hwr.one_cell rfl
      have g4 := heap_free hwr.heap 4
      have e5 : wr.cell? ⟨nb, 5, none⟩ = some (.int .i64 0) := hwr.one_cell rfl
      have g5 := heap_free hwr.heap 5
      have e6 : wr.cell? ⟨nb, 6, none⟩ = some (.int .i64 0) := hwr.one_cell rfl
      have g6 := heap_free hwr.heap 6
      have e7 : wr.cell? ⟨nb, 7, none⟩ = some (.int .i64 0) := hwr.one_cell rfl
      have g7 := heap_free hwr.heap 7
      have e8 : wr.cell? ⟨nb, 8, none⟩ = some (.int .i64 0) := hwr.one_cell rfl
      have g8 := heap_free hwr.heap 8
      have e9 : wr.cell? ⟨nb, 9, none⟩ = some (.int .i64 0) := hwr.one_cell rfl
      have g9 := heap_free hwr.heap 9
      clear hwr
      go_wp2
      have hfin := ((((((((((HW.out.set (o := 0) (.int .i64 0)).set (o := 1) (.string ⟨#[]⟩)).set (o := 2) (.string ⟨#[]⟩)).set (o := 3) (.string ⟨#[]⟩)).set (o := 4) (.string ⟨#[]⟩)).set (o := 5) (.int .i64 0)).set (o := 6) (.int .i64 0)).set (o := 7) (.int .i64 0)).set (o := 8) (.int .i64 0)).set (o := 9) (.int .i64 0))
      change Sat σ _ (Hp.one nb (.cells (((((((((((badC [] 0).setIfInBounds 0 _).setIfInBounds 1 _).setIfInBounds 2 _).setIfInBounds 3 _).setIfInBounds 4 _).setIfInBounds 5 _).setIfInBounds 6 _).setIfInBounds 7 _).setIfInBounds 8 _).setIfInBounds 9 _) 34 (0, 0)) :: _) at hfin
      rw [badC_set] at hfin
      refine bodyPost_ret (results_tmp_cell rfl _ _ nb _ _ _ _ rfl hfin.heap Try.underlying34 rfl (by kernel_rfl)) rfl ?_
      rw [HD.out]
      exact ⟨rfl, hfin.drop⟩
end
end Go.Proofs.Ytgpmkiamfbbfmaa
