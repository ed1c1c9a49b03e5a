/- Walk of the reference: Read. -/
import Derived.Test.YtgpmkiamfbbfmaaCkH
set_option linter.unusedVariables false
set_option linter.unusedSimpArgs false
namespace Go.Proofs.Ytgpmkiamfbbfmaa
open Go Go.RowKit
section
variable {σ w w' : World} {Hs : List Hp} {H H1 H2 M N Y : Hp}
set_option maxHeartbeats 8000000
theorem zf_all {nb : Nat} (h : Sat σ w (Hp.one nb (.cells #[.int .i64 0, .string ⟨#[]⟩, .string ⟨#[]⟩, .string ⟨#[]⟩, .string ⟨#[]⟩, .int .i64 0, .int .i64 0, .int .i64 0, .int .i64 0, .int .i64 0] 34 (0, 0)) :: Hs)) :
    w.cell? ⟨nb, 0, none⟩ = some (.int .i64 0) ∧ w.cell? ⟨nb, 1, none⟩ = some (.string ⟨#[]⟩) ∧ w.cell? ⟨nb, 2, none⟩ = some (.string ⟨#[]⟩) ∧ w.cell? ⟨nb, 3, none⟩ = some (.string ⟨#[]⟩) ∧ w.cell? ⟨nb, 4, none⟩ = some (.string ⟨#[]⟩) ∧ w.cell? ⟨nb, 5, none⟩ = some (.int .i64 0) ∧ w.cell? ⟨nb, 6, none⟩ = some (.int .i64 0) ∧ w.cell? ⟨nb, 7, none⟩ = some (.int .i64 0) ∧ w.cell? ⟨nb, 8, none⟩ = some (.int .i64 0) ∧ w.cell? ⟨nb, 9, none⟩ = some (.int .i64 0) ∧
    w.frozen? ⟨nb, 0, none⟩ = false ∧ w.frozen? ⟨nb, 1, none⟩ = false ∧ w.frozen? ⟨nb, 2, none⟩ = false ∧ w.frozen? ⟨nb, 3, none⟩ = false ∧ w.frozen? ⟨nb, 4, none⟩ = false ∧ w.frozen? ⟨nb, 5, none⟩ = false ∧ w.frozen? ⟨nb, 6, none⟩ = false ∧ w.frozen? ⟨nb, 7, none⟩ = false ∧ w.frozen? ⟨nb, 8, none⟩ = false ∧ w.frozen? ⟨nb, 9, none⟩ = false :=
  ⟨h.one_cell rfl, h.one_cell rfl, h.one_cell rfl, h.one_cell rfl, h.one_cell rfl, h.one_cell rfl, h.one_cell rfl, h.one_cell rfl, h.one_cell rfl, h.one_cell rfl, heap_free h.heap 0, heap_free h.heap 1, heap_free h.heap 2, heap_free h.heap 3, heap_free h.heap 4, heap_free h.heap 5, heap_free h.heap 6, heap_free h.heap 7, heap_free h.heap 8, heap_free h.heap 9⟩
set_option maxRecDepth 20000 in
theorem rread_any (v : Value) (bs : List Int) (w : World) (hw : Sat σ w Hs) (hH : H ∈ Hs) (hs : kB.IsSl H v bs) (hby : ∀ x ∈ bs, 0 ≤ x ∧ x ≤ 255) (hlen : bs.length ≤ 4611686018427387904) :
    Calls Try.prog 9 #[v] w (ReadP σ Hs (runC cs0 bs)) := by
  unfold ReadP
  obtain ⟨A, c, rfl, hc1, hc2, _⟩ := hs.form
  have HB := Lib.hid hs; have HBY := Lib.hid hby
  have HRUN : Hid (RdO (runC cs0 bs) bs cs0 0 []) := Lib.hid ⟨rfl, rfl, ci0, rfl, rfl, by rw [List.drop_zero]; exact comb_zero _⟩
  generalize runC cs0 bs = r at *
  clear hs hby
  go_enter Try.func9, Try.ntmps9
  go_wp2_with fail
  have hw2 := (hw.alloc (.cells #[.int .i64 0, .string ⟨#[]⟩, .string ⟨#[]⟩, .string ⟨#[]⟩, .string ⟨#[]⟩, .int .i64 0, .int .i64 0, .int .i64 0, .int .i64 0, .int .i64 0] 34)).alloc (.cells #[] 5)
  rw [World.size_alloc] at hw2
  generalize w.heap.size = nb at *
  generalize World.alloc (World.alloc w _) _ = w2 at *
  clear hw
  go_loopw [6, 7, 8, 9, 10, 11, 12] (fun o i _ _ _ _ _ wr => ∃ (p : Nat) (s : CS) (N : Hp) (Ao : Option Addr) (co : Nat) (out : List Int), p ≤ bs.length ∧ i = .int .i64 p ∧ o = .slice Ao out.length co ∧ Sat σ wr (Hp.one nb (.cells #[.int .i64 0, .string ⟨#[]⟩, .string ⟨#[]⟩, .string ⟨#[]⟩, .string ⟨#[]⟩, .int .i64 0, .int .i64 0, .int .i64 0, .int .i64 0, .int .i64 0] 34 (0, 0)) :: N :: Hs) ∧ Eager (RdO r bs s p out ∧ Own N 5 1 (.slice Ao out.length co) out.length (ints .u8 out))) (fun _ i _ _ _ _ _ _ => bs.length - (intOf i).toNat)
  case atStart => exact ⟨0, cs0, _, some ⟨nb + 1, 0, none⟩, 0, [], by omega, rfl, rfl, hw2.swap, ⟨HRUN.out, own_lit0 _ _ _⟩⟩
  case round =>
    obtain ⟨p, s, N, Ao, co, out, hp, rfl, rfl, hwr, hst⟩ := hrel
    obtain ⟨hro, ho⟩ := hst.out
    have HO := Lib.hid ho
    have hI2 := hro.in
    clear hw2 hst HRUN ho hro
    go_wp2
    go_loopw [7, 9, 10] (fun i sz _ wi => ∃ (q n : Nat) (s : CS), p ≤ q ∧ q ≤ bs.length ∧ i = .int .i64 q ∧ sz = .int .i64 n ∧ Sat σ wi (Hp.one nb (.cells #[.int .i64 0, .string ⟨#[]⟩, .string ⟨#[]⟩, .string ⟨#[]⟩, .string ⟨#[]⟩, .int .i64 0, .int .i64 0, .int .i64 0, .int .i64 0, .int .i64 0] 34 (0, 0)) :: N :: Hs) ∧ Eager (RdI2 r bs s p q n out)) (fun i _ _ _ => bs.length - (intOf i).toNat)
    case atStart => exact ⟨p, 0, s, by omega, hp, rfl, rfl, hwr, ⟨hI2⟩⟩
    case round =>
      obtain ⟨q, n, s, hpq, hq, rfl, rfl, hwi, hst⟩ := hrel
      have hI := hst.out
      clear hwr hst hI2
      have hob : out.length ≤ 1048576 := by have := hI.ci.body; have := hI.body; omega
      have hn28 : n < 268435456 := by
        rcases hI.st with a | a
        · omega
        · have := hI.ci.big; omega
      have mk : IntKind.i64.wrap ((q : Int) - (p : Int)) = (q : Int) - (p : Int) := IntWalk.i64_in _ (by omega)
      by_cases hlt : q < bs.length
      · obtain ⟨gb, off, c', x, hx, hv, hcell⟩ := byte_get HB.out hlt
        injection hv with hv1 hv2 hv3
        subst hv1; subst hv3; clear hv2
        have cx := hwi.cellAt (H := H) (by simp [hH]) hcell
        have hqi : (q : Int) < bs.length := by omega
        have hxb := HBY.out x (List.mem_of_getElem? hx)
        have HX := Lib.hid hx
        clear hcell
        by_cases h13 : x = 13
        · subst h13
          by_cases hqp : p < q
          · have bqp : ((q : Int) == (p : Int)) = false := by simp; omega
            have mo : IntKind.i64.wrap ((1048576 : Int) - out.length) = (1048576 : Int) - out.length := IntWalk.i64_in _ (by omega)
            by_cases hbig : 1048576 < n + out.length
            · have HR := Lib.hid (size_big hI hqp hx hbig)
              have hbi : (1048576 : Int) - out.length < n := by omega
              clear hx hI
              go_wp2_with fail
              refine (rfault_any (q : Nat) 90 _ hwi).mono ?_
              rintro e w3 ⟨rfl, hw3⟩
              clear hwi
              have e0 : w3.cell? ⟨nb, 0, none⟩ = some (.int .i64 0) := hw3.one_cell rfl
              have g0 := heap_free hw3.heap 0
              have e1 : w3.cell? ⟨nb, 1, none⟩ = some (.string ⟨#[]⟩) := hw3.one_cell rfl
              have g1 := heap_free hw3.heap 1
              have e2 : w3.cell? ⟨nb, 2, none⟩ = some (.string ⟨#[]⟩) := hw3.one_cell rfl
              have g2 := heap_free hw3.heap 2
              have e3 : w3.cell? ⟨nb, 3, none⟩ = some (.string ⟨#[]⟩) := hw3.one_cell rfl
              have g3 := heap_free hw3.heap 3
              have e4 : w3.cell? ⟨nb, 4, none⟩ = some (.string ⟨#[]⟩) := hw3.one_cell rfl
              have g4 := heap_free hw3.heap 4
              have e5 : w3.cell? ⟨nb, 5, none⟩ = some (.int .i64 0) := hw3.one_cell rfl
              have g5 := heap_free hw3.heap 5
              have e6 : w3.cell? ⟨nb, 6, none⟩ = some (.int .i64 0) := hw3.one_cell rfl
              have g6 := heap_free hw3.heap 6
              have e7 : w3.cell? ⟨nb, 7, none⟩ = some (.int .i64 0) := hw3.one_cell rfl
              have g7 := heap_free hw3.heap 7
              have e8 : w3.cell? ⟨nb, 8, none⟩ = some (.int .i64 0) := hw3.one_cell rfl
              have g8 := heap_free hw3.heap 8
              have e9 : w3.cell? ⟨nb, 9, none⟩ = some (.int .i64 0) := hw3.one_cell rfl
              have g9 := heap_free hw3.heap 9
              have HBQ : Hid (badC [(chunkB, ((q : Nat) : Int))] 90 = #[.int .i64 (((List.length [(chunkB, ((q : Nat) : Int))] : Nat) : Int)), .string (chL [(chunkB, ((q : Nat) : Int))] 0), .string (chL [(chunkB, ((q : Nat) : Int))] 1), .string (chL [(chunkB, ((q : Nat) : Int))] 2), .string (chL [(chunkB, ((q : Nat) : Int))] 3), .int .i64 (chA [(chunkB, ((q : Nat) : Int))] 0), .int .i64 (chA [(chunkB, ((q : Nat) : Int))] 1), .int .i64 (chA [(chunkB, ((q : Nat) : Int))] 2), .int .i64 (chA [(chunkB, ((q : Nat) : Int))] 3), .int .i64 90]) := Lib.hid rfl
              rw [HBQ.out]
              generalize ((List.length [(chunkB, ((q : Nat) : Int))] : Nat) : Int) = x0 at *
              generalize chL [(chunkB, ((q : Nat) : Int))] 0 = x1 at *
              generalize chL [(chunkB, ((q : Nat) : Int))] 1 = x2 at *
              generalize chL [(chunkB, ((q : Nat) : Int))] 2 = x3 at *
              generalize chL [(chunkB, ((q : Nat) : Int))] 3 = x4 at *
              generalize chA [(chunkB, ((q : Nat) : Int))] 0 = x5 at *
              generalize chA [(chunkB, ((q : Nat) : Int))] 1 = x6 at *
              generalize chA [(chunkB, ((q : Nat) : Int))] 2 = x7 at *
              generalize chA [(chunkB, ((q : Nat) : Int))] 3 = x8 at *
              have hfin := ((((((((((hw3.set (o := 0) (.int .i64 x0)).set (o := 1) (.string x1)).set (o := 2) (.string x2)).set (o := 3) (.string x3)).set (o := 4) (.string x4)).set (o := 5) (.int .i64 x5)).set (o := 6) (.int .i64 x6)).set (o := 7) (.int .i64 x7)).set (o := 8) (.int .i64 x8)).set (o := 9) (.int .i64 90))
              change Sat σ _ (Hp.one nb (.cells (((((((((((badC [] 0).setIfInBounds 0 _).setIfInBounds 1 _).setIfInBounds 2 _).setIfInBounds 3 _).setIfInBounds 4 _).setIfInBounds 5 _).setIfInBounds 6 _).setIfInBounds 7 _).setIfInBounds 8 _).setIfInBounds 9 _) 34 (0, 0)) :: _) at hfin
              rw [badC_set] at hfin
              have HFIN := Lib.hid hfin
              clear hfin hw3
              go_wp2
              refine bodyPost_ret (results_tmp3_cell rfl _ _ nb _ _ _ _ rfl HFIN.out.heap Try.underlying34 rfl (by kernel_rfl)) rfl ?_
              obtain ⟨t, ht, te, t6⟩ := HR.out
              rw [ht]
              refine ⟨_, N, ?_, HFIN.out.drop, HO.out⟩
              rw [← HBQ.out, te, decide_eq_false t6]
              rfl
            · have hbi : ¬ (1048576 : Int) - out.length < n := by omega
              obtain ⟨hl1, hl2, hl3⟩ := size_line hI hqp hx (by omega)
              have mq1 : IntKind.i64.wrap ((q : Int) + 1) = (q : Int) + 1 := IntWalk.i64_in _ (by omega)
              clear hI
              go_wp2_with fail
              refine (line_any _ _ bs q _ hwi (by simp [hH]) HB.out (by omega) (by omega)).mono ?_
              rintro e w3 ⟨rfl, hw3⟩
              clear hwi cx
              rcases hy : bs[q + 1]? with _ | y
              · have HR := Lib.hid (hl1 hy)
                have hl1' : (lineD bs q).1 = false := by unfold lineD; rw [hx]; simp only [if_true]; rw [hy]
                have hl2' : (lineD bs q).2 = none := by unfold lineD; rw [hx]; simp only [if_true]; rw [hy]
                rw [hl1', hl2', show BE none = #[.int .i64 0, .string ⟨#[]⟩, .string ⟨#[]⟩, .string ⟨#[]⟩, .string ⟨#[]⟩, .int .i64 0, .int .i64 0, .int .i64 0, .int .i64 0, .int .i64 0] from rfl]
                clear hl1 hl2 hl3 hl1' hl2' hx hy
                have hlt := hw3.one_lt
                have hne : ¬ w3.heap.size = nb := by omega
                have hne2 : ¬ nb = w3.heap.size := by omega
                clear hlt
                have hfin := hw3.alloc (.cells #[.int .i64 0, .string ⟨#[]⟩, .string ⟨#[]⟩, .string ⟨#[]⟩, .string ⟨#[]⟩, .int .i64 0, .int .i64 0, .int .i64 0, .int .i64 0, .int .i64 0] 34)
                have q0 := hfin.one_cell (o := 0) (v := .int .i64 0) rfl
                clear hw3
                have hw3 := hfin.swap
                clear hfin
                have e0 := (hw3).one_cell (o := 0) (v := .int .i64 0) rfl
                have g0 := heap_free (hw3).heap 0
                have e1 := (hw3).one_cell (o := 1) (v := .string ⟨#[]⟩) rfl
                have g1 := heap_free (hw3).heap 1
                have e2 := (hw3).one_cell (o := 2) (v := .string ⟨#[]⟩) rfl
                have g2 := heap_free (hw3).heap 2
                have e3 := (hw3).one_cell (o := 3) (v := .string ⟨#[]⟩) rfl
                have g3 := heap_free (hw3).heap 3
                have e4 := (hw3).one_cell (o := 4) (v := .string ⟨#[]⟩) rfl
                have g4 := heap_free (hw3).heap 4
                have e5 := (hw3).one_cell (o := 5) (v := .int .i64 0) rfl
                have g5 := heap_free (hw3).heap 5
                have e6 := (hw3).one_cell (o := 6) (v := .int .i64 0) rfl
                have g6 := heap_free (hw3).heap 6
                have e7 := (hw3).one_cell (o := 7) (v := .int .i64 0) rfl
                have g7 := heap_free (hw3).heap 7
                have e8 := (hw3).one_cell (o := 8) (v := .int .i64 0) rfl
                have g8 := heap_free (hw3).heap 8
                have e9 := (hw3).one_cell (o := 9) (v := .int .i64 0) rfl
                have g9 := heap_free (hw3).heap 9
                have hfin := ((((((((((hw3.set (o := 0) (.int .i64 0)).set (o := 1) (.string ⟨#[]⟩)).set (o := 2) (.string ⟨#[]⟩)).set (o := 3) (.string ⟨#[]⟩)).set (o := 4) (.string ⟨#[]⟩)).set (o := 5) (.int .i64 0)).set (o := 6) (.int .i64 0)).set (o := 7) (.int .i64 0)).set (o := 8) (.int .i64 0)).set (o := 9) (.int .i64 0))
                change Sat σ _ (Hp.one nb (.cells (((((((((((badC [] 0).setIfInBounds 0 _).setIfInBounds 1 _).setIfInBounds 2 _).setIfInBounds 3 _).setIfInBounds 4 _).setIfInBounds 5 _).setIfInBounds 6 _).setIfInBounds 7 _).setIfInBounds 8 _).setIfInBounds 9 _) 34 (0, 0)) :: _) at hfin
                rw [badC_set] at hfin
                have HFIN := Lib.hid hfin
                clear hfin hw3
                go_wp2
                refine bodyPost_ret (results_tmp3_cell rfl _ _ nb _ _ _ _ rfl HFIN.out.heap Try.underlying34 rfl (by kernel_rfl)) rfl ?_
                obtain ⟨t, ht, te, t6⟩ := HR.out
                rw [ht]
                refine ⟨_, N, ?_, HFIN.out.drop.drop, HO.out⟩
                rw [te, decide_eq_false t6]
                rfl
              · by_cases h10 : y = 10
                · subst h10
                  obtain ⟨t, hM⟩ := hl3 hy
                  have hl1' : (lineD bs q).1 = true := by unfold lineD; rw [hx]; simp only [if_true]; rw [hy]; rfl
                  have hl2' : (lineD bs q).2 = none := by unfold lineD; rw [hx]; simp only [if_true]; rw [hy]; rfl
                  rw [hl1', hl2', show BE none = #[.int .i64 0, .string ⟨#[]⟩, .string ⟨#[]⟩, .string ⟨#[]⟩, .string ⟨#[]⟩, .int .i64 0, .int .i64 0, .int .i64 0, .int .i64 0, .int .i64 0] from rfl]
                  have hq2 := (List.getElem?_eq_some_iff.1 hy).1
                  clear hl1 hl2 hl3 hl1' hl2' hx hy
                  have hlt := hw3.one_lt
                  have hne : ¬ w3.heap.size = nb := by omega
                  have hne2 : ¬ nb = w3.heap.size := by omega
                  clear hlt
                  have hfin := hw3.alloc (.cells #[.int .i64 0, .string ⟨#[]⟩, .string ⟨#[]⟩, .string ⟨#[]⟩, .string ⟨#[]⟩, .int .i64 0, .int .i64 0, .int .i64 0, .int .i64 0, .int .i64 0] 34)
                  have q0 := hfin.one_cell (o := 0) (v := .int .i64 0) rfl
                  clear hw3
                  obtain ⟨k, hk⟩ : ∃ k : Nat, k = q + 2 := ⟨_, rfl⟩
                  rw [← hk] at hM
                  have hkl : k ≤ bs.length := by omega
                  have mk2 : IntKind.i64.wrap ((q : Int) + 2) = (k : Int) := (IntWalk.i64_in _ (by omega)).trans (by omega)
                  have mkl : IntKind.i64.wrap ((bs.length : Int) - k) = (bs.length : Int) - k := IntWalk.i64_in _ (by omega)
                  have hki : (k : Int) ≤ bs.length := by omega
                  have hkq : q + 2 ≤ k := by omega
                  clear hk
                  by_cases hsh : bs.length - k < n
                  · have hshi : (bs.length : Int) - k < n := by omega
                    have HR := Lib.hid (data_short hM hkl hsh)
                    clear hM
                    obtain ⟨m, hm⟩ : ∃ m : Nat, m = bs.length - k := ⟨_, rfl⟩
                    rw [show bs.drop k = (bs.drop k).take m from (List.take_of_length_le (by rw [List.length_drop]; omega)).symm] at HR
                    have hm1 : m ≤ bs.length - k := by omega
                    have hm2 : bs.length - k ≤ m := by omega
                    clear hm
                    have hsl := HB.out
                    have hcut : ∀ (A' : Option Addr) (hA : k < k + m → A' = some (⟨gb, off + k, none⟩ : Addr)), kB.IsSl H (.slice A' m (c - k)) ((bs.drop k).take m) := fun A' hA => by
                      have := hsl.cut k (k + m) (by omega) (by omega) (c - k) (by omega) (by omega) A' (fun h => by rw [hA h, Option.map_some, addr_add]; simp [kB, Kd.int])
                      rwa [Nat.add_sub_cancel_left] at this
                    have hxl : ((bs.drop k).take m).length = m := by rw [List.length_take, List.length_drop]; omega
                    have HSRC : Hid (∀ (A' : Option Addr) (ml mc : Nat) (hml : ml = m) (hmc : mc = c - k) (hA : k < k + m → A' = some (⟨gb, off + k, none⟩ : Addr)) (W : World), Hp.le H (hpOf W) → Src Try.prog 1 22 (.slice A' ml mc) m (ints .u8 ((bs.drop k).take m)) W) := Lib.hid (fun A' ml mc hml hmc hA => by
                      subst hml; subst hmc
                      obtain ⟨cells, hcs, hsrc⟩ := (hcut A' hA).src (P := Try.prog) (t := 22) Try.underlying22
                      obtain rfl := reps_is hcs
                      rw [hxl] at hsrc
                      exact hsrc)
                    have HXL := Lib.hid hxl
                    clear hsl hcut hxl
                    by_cases hkc2 : k < c
                    · have hkc : ¬ c - k = 0 := by omega
                      have hcki : (k : Int) ≤ c := by omega
                      go_wp2_with (at_builtin; go_must (refine wpList_app hfin.up2 rfl (.tmp 120) (.tmp 123) 22 22 5 (.int .u8 0) 1 1 rfl Try.underlying22 (by kernel_rfl) rfl (by decide) _ _ out.length m (ints .u8 out) _ rfl rfl HO.out (HSRC.out _ _ _ (by omega) (by omega) (fun _ => rfl) _ (hfin.has _ (by simp [hH]))) (by omega) ?_); intro A1 c1' w2 N2 hw2 ho3 _ _; clear q0; obtain ⟨e0, e1, e2, e3, e4, e5, e6, e7, e8, e9, g0, g1, g2, g3, g4, g5, g6, g7, g8, g9⟩ := zf_all hw2.up2)
                      have hown : Own N2 5 1 (.slice A1 (out ++ (bs.drop k).take m).length c1') (out ++ (bs.drop k).take m).length (ints .u8 (out ++ (bs.drop k).take m)) := by
                        rw [List.length_append, HXL.out, ints_append]
                        exact ho3
                      have HLEN : Hid (out.length + m = (out ++ (bs.drop k).take m).length) := Lib.hid (by rw [List.length_append, HXL.out])
                      have HW2 := Lib.hid hw2.up2
                      have hfin := (((((((((((HW2.out).set (o := 0) (.int .i64 0)).set (o := 1) (.string ⟨#[]⟩)).set (o := 2) (.string ⟨#[]⟩)).set (o := 3) (.string ⟨#[]⟩)).set (o := 4) (.string ⟨#[]⟩)).set (o := 5) (.int .i64 0)).set (o := 6) (.int .i64 0)).set (o := 7) (.int .i64 0)).set (o := 8) (.int .i64 0)).set (o := 9) (.int .i64 0))
                      change Sat σ _ (Hp.one _ (.cells (((((((((((badC [] 0).setIfInBounds 0 _).setIfInBounds 1 _).setIfInBounds 2 _).setIfInBounds 3 _).setIfInBounds 4 _).setIfInBounds 5 _).setIfInBounds 6 _).setIfInBounds 7 _).setIfInBounds 8 _).setIfInBounds 9 _) 34 (0, 0)) :: _) at hfin
                      rw [badC_set] at hfin
                      have HFIN := Lib.hid hfin
                      refine bodyPost_ret (results_tmp3_cell rfl _ _ nb _ _ _ _ rfl HFIN.out.heap Try.underlying34 rfl (by kernel_rfl)) rfl ?_
                      obtain ⟨t, ht, te, t6⟩ := HR.out
                      rw [ht]
                      refine ⟨_, N2, ?_, HFIN.out.drop.drop1, hown⟩
                      rw [te, decide_eq_false t6, ← HLEN.out]
                      rfl
                    · have hkc : c - k = 0 := by omega
                      have hcki : (k : Int) ≤ c := by omega
                      have hm0 : ¬ k < k + m := by omega
                      go_wp2_with (at_builtin; go_must (refine wpList_app hfin.up2 rfl (.tmp 120) (.tmp 123) 22 22 5 (.int .u8 0) 1 1 rfl Try.underlying22 (by kernel_rfl) rfl (by decide) _ _ out.length m (ints .u8 out) _ rfl rfl HO.out (HSRC.out _ _ _ (by omega) (by omega) (fun h => absurd h hm0) _ (hfin.has _ (by simp [hH]))) (by omega) ?_); intro A1 c1' w2 N2 hw2 ho3 _ _; clear q0; obtain ⟨e0, e1, e2, e3, e4, e5, e6, e7, e8, e9, g0, g1, g2, g3, g4, g5, g6, g7, g8, g9⟩ := zf_all hw2.up2)
                      have hown : Own N2 5 1 (.slice A1 (out ++ (bs.drop k).take m).length c1') (out ++ (bs.drop k).take m).length (ints .u8 (out ++ (bs.drop k).take m)) := by
                        rw [List.length_append, HXL.out, ints_append]
                        exact ho3
                      have HLEN : Hid (out.length + m = (out ++ (bs.drop k).take m).length) := Lib.hid (by rw [List.length_append, HXL.out])
                      have HW2 := Lib.hid hw2.up2
                      have hfin := (((((((((((HW2.out).set (o := 0) (.int .i64 0)).set (o := 1) (.string ⟨#[]⟩)).set (o := 2) (.string ⟨#[]⟩)).set (o := 3) (.string ⟨#[]⟩)).set (o := 4) (.string ⟨#[]⟩)).set (o := 5) (.int .i64 0)).set (o := 6) (.int .i64 0)).set (o := 7) (.int .i64 0)).set (o := 8) (.int .i64 0)).set (o := 9) (.int .i64 0))
                      change Sat σ _ (Hp.one _ (.cells (((((((((((badC [] 0).setIfInBounds 0 _).setIfInBounds 1 _).setIfInBounds 2 _).setIfInBounds 3 _).setIfInBounds 4 _).setIfInBounds 5 _).setIfInBounds 6 _).setIfInBounds 7 _).setIfInBounds 8 _).setIfInBounds 9 _) 34 (0, 0)) :: _) at hfin
                      rw [badC_set] at hfin
                      have HFIN := Lib.hid hfin
                      refine bodyPost_ret (results_tmp3_cell rfl _ _ nb _ _ _ _ rfl HFIN.out.heap Try.underlying34 rfl (by kernel_rfl)) rfl ?_
                      obtain ⟨t, ht, te, t6⟩ := HR.out
                      rw [ht]
                      refine ⟨_, N2, ?_, HFIN.out.drop.drop1, hown⟩
                      rw [te, decide_eq_false t6, ← HLEN.out]
                      rfl
                  · have hful : ¬ (bs.length : Int) - k < n := by omega
                    obtain ⟨t2, hE⟩ := data_full hM hkl (by omega)
                    clear hM
                    obtain ⟨l, hl⟩ : ∃ l : Nat, l = k + n := ⟨_, rfl⟩
                    rw [← hl] at hE
                    have hll : l ≤ bs.length := by omega
                    have mkn : IntKind.i64.wrap ((k : Int) + n) = (l : Int) := (IntWalk.i64_in _ (by omega)).trans (by omega)
                    have hl1 : k + n ≤ l := by omega
                    have hl2 : l ≤ k + n := by omega
                    have hl1i : (k : Int) ≤ l := by omega
                    clear hl
                    have hsl := HB.out
                    have hcut : ∀ (A' : Option Addr) (hA : k < k + n → A' = some (⟨gb, off + k, none⟩ : Addr)), kB.IsSl H (.slice A' n (c - k)) ((bs.drop k).take n) := fun A' hA => by
                      have := hsl.cut k (k + n) (by omega) (by omega) (c - k) (by omega) (by omega) A' (fun h => by rw [hA h, Option.map_some, addr_add]; simp [kB, Kd.int])
                      rwa [Nat.add_sub_cancel_left] at this
                    have hxl : ((bs.drop k).take n).length = n := by rw [List.length_take, List.length_drop]; omega
                    have HSRC : Hid (∀ (A' : Option Addr) (ml mc : Nat) (hml : ml = n) (hmc : mc = c - k) (hA : k < k + n → A' = some (⟨gb, off + k, none⟩ : Addr)) (W : World), Hp.le H (hpOf W) → Src Try.prog 1 22 (.slice A' ml mc) n (ints .u8 ((bs.drop k).take n)) W) := Lib.hid (fun A' ml mc hml hmc hA => by
                      subst hml; subst hmc
                      obtain ⟨cells, hcs, hsrc⟩ := (hcut A' hA).src (P := Try.prog) (t := 22) Try.underlying22
                      obtain rfl := reps_is hcs
                      rw [hxl] at hsrc
                      exact hsrc)
                    have HXL := Lib.hid hxl
                    clear hsl hcut hxl
                    by_cases hkc2 : k < c
                    · have hkc : ¬ c - k = 0 := by omega
                      have hcki : (k : Int) ≤ c := by omega
                      have hcli : (l : Int) ≤ c := by omega
                      go_wp2_with (at_builtin; go_must (refine wpList_app hfin.up2 rfl (.tmp 128) (.tmp 134) 22 22 5 (.int .u8 0) 1 1 rfl Try.underlying22 (by kernel_rfl) rfl (by decide) _ _ out.length n (ints .u8 out) _ rfl rfl HO.out (HSRC.out _ _ _ (by omega) (by omega) (fun _ => rfl) _ (hfin.has _ (by simp [hH]))) (by omega) ?_); intro A1 c1' w2 N2 hw2 ho3 _ _; clear q0; skip)
                      have hown : Own N2 5 1 (.slice A1 (out ++ (bs.drop k).take n).length c1') (out ++ (bs.drop k).take n).length (ints .u8 (out ++ (bs.drop k).take n)) := by
                        rw [List.length_append, HXL.out, ints_append]
                        exact ho3
                      have HLEN : Hid (out.length + n = (out ++ (bs.drop k).take n).length) := Lib.hid (by rw [List.length_append, HXL.out])
                      rw [HLEN.out]
                      have HO := Lib.hid hown
                      generalize out ++ (bs.drop k).take n = out2 at *
                      clear hown ho3 hfin HSRC HXL HLEN mk2 mkl mkn mq1
                      generalize w3.heap.size = ne at *
                      obtain ⟨y1, y2, y3, y4, y5, y6⟩ := end_line hE hll
                      clear hE
                      have hli0 : (0 : Int) ≤ l := by omega
                      have ml1 : IntKind.i64.wrap ((l : Int) + 1) = (l : Int) + 1 := IntWalk.i64_in _ (by omega)
                      have ml2 : IntKind.i64.wrap ((l : Int) + 2) = (l : Int) + 2 := IntWalk.i64_in _ (by omega)
                      refine (line_any _ _ bs l _ hw2 (by simp [hH]) HB.out (by omega) (by omega)).mono ?_
                      rintro e w5 ⟨rfl, hw5⟩
                      clear hw2
                      rcases hz : bs[l]? with _ | x
                      · have HR := Lib.hid (y1 hz)
                        have l1 : (lineD bs l).1 = false := by unfold lineD; rw [hz]
                        have l2 : (lineD bs l).2 = none := by unfold lineD; rw [hz]
                        rw [l1, l2, show BE none = #[.int .i64 0, .string ⟨#[]⟩, .string ⟨#[]⟩, .string ⟨#[]⟩, .string ⟨#[]⟩, .int .i64 0, .int .i64 0, .int .i64 0, .int .i64 0, .int .i64 0] from rfl]
                        clear y1 y2 y3 y4 y5 y6 l1 l2 hz
                        have hwn := hw5.swap
                        have a0 := (hwn).one_cell (o := 0) (v := .int .i64 0) rfl
                        have b0 := heap_free (hwn).heap 0
                        have a1 := (hwn).one_cell (o := 1) (v := .string ⟨#[]⟩) rfl
                        have b1 := heap_free (hwn).heap 1
                        have a2 := (hwn).one_cell (o := 2) (v := .string ⟨#[]⟩) rfl
                        have b2 := heap_free (hwn).heap 2
                        have a3 := (hwn).one_cell (o := 3) (v := .string ⟨#[]⟩) rfl
                        have b3 := heap_free (hwn).heap 3
                        have a4 := (hwn).one_cell (o := 4) (v := .string ⟨#[]⟩) rfl
                        have b4 := heap_free (hwn).heap 4
                        have a5 := (hwn).one_cell (o := 5) (v := .int .i64 0) rfl
                        have b5 := heap_free (hwn).heap 5
                        have a6 := (hwn).one_cell (o := 6) (v := .int .i64 0) rfl
                        have b6 := heap_free (hwn).heap 6
                        have a7 := (hwn).one_cell (o := 7) (v := .int .i64 0) rfl
                        have b7 := heap_free (hwn).heap 7
                        have a8 := (hwn).one_cell (o := 8) (v := .int .i64 0) rfl
                        have b8 := heap_free (hwn).heap 8
                        have a9 := (hwn).one_cell (o := 9) (v := .int .i64 0) rfl
                        have b9 := heap_free (hwn).heap 9
                        have hfin := (((((((((((hwn).set (o := 0) (.int .i64 0)).set (o := 1) (.string ⟨#[]⟩)).set (o := 2) (.string ⟨#[]⟩)).set (o := 3) (.string ⟨#[]⟩)).set (o := 4) (.string ⟨#[]⟩)).set (o := 5) (.int .i64 0)).set (o := 6) (.int .i64 0)).set (o := 7) (.int .i64 0)).set (o := 8) (.int .i64 0)).set (o := 9) (.int .i64 0))
                        change Sat σ _ (Hp.one _ (.cells (((((((((((badC [] 0).setIfInBounds 0 _).setIfInBounds 1 _).setIfInBounds 2 _).setIfInBounds 3 _).setIfInBounds 4 _).setIfInBounds 5 _).setIfInBounds 6 _).setIfInBounds 7 _).setIfInBounds 8 _).setIfInBounds 9 _) 34 (0, 0)) :: _) at hfin
                        rw [badC_set] at hfin
                        have q0 := hfin.one_cell (o := 0) (v := .int .i64 0) rfl
                        clear hw5 hwn
                        go_upto_if 147 with fail
                        clear a0 a1 a2 a3 a4 a5 a6 a7 a8 a9 b0 b1 b2 b3 b4 b5 b6 b7 b8 b9
                        generalize World.setCell _ _ _ = w6 at *
                        have hw3 := hfin.up2
                        clear hfin
                        have e0 := (hw3).one_cell (o := 0) (v := .int .i64 0) rfl
                        have g0 := heap_free (hw3).heap 0
                        have e1 := (hw3).one_cell (o := 1) (v := .string ⟨#[]⟩) rfl
                        have g1 := heap_free (hw3).heap 1
                        have e2 := (hw3).one_cell (o := 2) (v := .string ⟨#[]⟩) rfl
                        have g2 := heap_free (hw3).heap 2
                        have e3 := (hw3).one_cell (o := 3) (v := .string ⟨#[]⟩) rfl
                        have g3 := heap_free (hw3).heap 3
                        have e4 := (hw3).one_cell (o := 4) (v := .string ⟨#[]⟩) rfl
                        have g4 := heap_free (hw3).heap 4
                        have e5 := (hw3).one_cell (o := 5) (v := .int .i64 0) rfl
                        have g5 := heap_free (hw3).heap 5
                        have e6 := (hw3).one_cell (o := 6) (v := .int .i64 0) rfl
                        have g6 := heap_free (hw3).heap 6
                        have e7 := (hw3).one_cell (o := 7) (v := .int .i64 0) rfl
                        have g7 := heap_free (hw3).heap 7
                        have e8 := (hw3).one_cell (o := 8) (v := .int .i64 0) rfl
                        have g8 := heap_free (hw3).heap 8
                        have e9 := (hw3).one_cell (o := 9) (v := .int .i64 0) rfl
                        have g9 := heap_free (hw3).heap 9
                        have hfin := ((((((((((hw3.set (o := 0) (.int .i64 0)).set (o := 1) (.string ⟨#[]⟩)).set (o := 2) (.string ⟨#[]⟩)).set (o := 3) (.string ⟨#[]⟩)).set (o := 4) (.string ⟨#[]⟩)).set (o := 5) (.int .i64 0)).set (o := 6) (.int .i64 0)).set (o := 7) (.int .i64 0)).set (o := 8) (.int .i64 0)).set (o := 9) (.int .i64 0))
                        change Sat σ _ (Hp.one nb (.cells (((((((((((badC [] 0).setIfInBounds 0 _).setIfInBounds 1 _).setIfInBounds 2 _).setIfInBounds 3 _).setIfInBounds 4 _).setIfInBounds 5 _).setIfInBounds 6 _).setIfInBounds 7 _).setIfInBounds 8 _).setIfInBounds 9 _) 34 (0, 0)) :: _) at hfin
                        rw [badC_set] at hfin
                        have HFIN := Lib.hid hfin
                        clear hfin hw3
                        go_wp2
                        refine bodyPost_ret (results_tmp3_cell rfl _ _ nb _ _ _ _ rfl HFIN.out.heap Try.underlying34 rfl (by kernel_rfl)) rfl ?_
                        obtain ⟨t, ht, te, t6⟩ := HR.out
                        rw [ht]
                        refine ⟨_, N2, ?_, HFIN.out.drop.drop, HO.out⟩
                        rw [te, decide_eq_false t6]
                        rfl
                      · have hlt2 := (List.getElem?_eq_some_iff.1 hz).1
                        have hli : (l : Int) < bs.length := by omega
                        by_cases hx13 : x = 13
                        · subst hx13
                          rcases hy : bs[l + 1]? with _ | y
                          · have HR := Lib.hid (y3 hz hy)
                            have l1 : (lineD bs l).1 = false := by unfold lineD; rw [hz]; simp only [if_true]; rw [hy]
                            have l2 : (lineD bs l).2 = none := by unfold lineD; rw [hz]; simp only [if_true]; rw [hy]
                            rw [l1, l2, show BE none = #[.int .i64 0, .string ⟨#[]⟩, .string ⟨#[]⟩, .string ⟨#[]⟩, .string ⟨#[]⟩, .int .i64 0, .int .i64 0, .int .i64 0, .int .i64 0, .int .i64 0] from rfl]
                            clear y1 y2 y3 y4 y5 y6 l1 l2 hz hy
                            have hwn := hw5.swap
                            have a0 := (hwn).one_cell (o := 0) (v := .int .i64 0) rfl
                            have b0 := heap_free (hwn).heap 0
                            have a1 := (hwn).one_cell (o := 1) (v := .string ⟨#[]⟩) rfl
                            have b1 := heap_free (hwn).heap 1
                            have a2 := (hwn).one_cell (o := 2) (v := .string ⟨#[]⟩) rfl
                            have b2 := heap_free (hwn).heap 2
                            have a3 := (hwn).one_cell (o := 3) (v := .string ⟨#[]⟩) rfl
                            have b3 := heap_free (hwn).heap 3
                            have a4 := (hwn).one_cell (o := 4) (v := .string ⟨#[]⟩) rfl
                            have b4 := heap_free (hwn).heap 4
                            have a5 := (hwn).one_cell (o := 5) (v := .int .i64 0) rfl
                            have b5 := heap_free (hwn).heap 5
                            have a6 := (hwn).one_cell (o := 6) (v := .int .i64 0) rfl
                            have b6 := heap_free (hwn).heap 6
                            have a7 := (hwn).one_cell (o := 7) (v := .int .i64 0) rfl
                            have b7 := heap_free (hwn).heap 7
                            have a8 := (hwn).one_cell (o := 8) (v := .int .i64 0) rfl
                            have b8 := heap_free (hwn).heap 8
                            have a9 := (hwn).one_cell (o := 9) (v := .int .i64 0) rfl
                            have b9 := heap_free (hwn).heap 9
                            have hfin := (((((((((((hwn).set (o := 0) (.int .i64 0)).set (o := 1) (.string ⟨#[]⟩)).set (o := 2) (.string ⟨#[]⟩)).set (o := 3) (.string ⟨#[]⟩)).set (o := 4) (.string ⟨#[]⟩)).set (o := 5) (.int .i64 0)).set (o := 6) (.int .i64 0)).set (o := 7) (.int .i64 0)).set (o := 8) (.int .i64 0)).set (o := 9) (.int .i64 0))
                            change Sat σ _ (Hp.one _ (.cells (((((((((((badC [] 0).setIfInBounds 0 _).setIfInBounds 1 _).setIfInBounds 2 _).setIfInBounds 3 _).setIfInBounds 4 _).setIfInBounds 5 _).setIfInBounds 6 _).setIfInBounds 7 _).setIfInBounds 8 _).setIfInBounds 9 _) 34 (0, 0)) :: _) at hfin
                            rw [badC_set] at hfin
                            have q0 := hfin.one_cell (o := 0) (v := .int .i64 0) rfl
                            clear hw5 hwn
                            go_upto_if 147 with fail
                            clear a0 a1 a2 a3 a4 a5 a6 a7 a8 a9 b0 b1 b2 b3 b4 b5 b6 b7 b8 b9
                            generalize World.setCell _ _ _ = w6 at *
                            have hw3 := hfin.up2
                            clear hfin
                            have e0 := (hw3).one_cell (o := 0) (v := .int .i64 0) rfl
                            have g0 := heap_free (hw3).heap 0
                            have e1 := (hw3).one_cell (o := 1) (v := .string ⟨#[]⟩) rfl
                            have g1 := heap_free (hw3).heap 1
                            have e2 := (hw3).one_cell (o := 2) (v := .string ⟨#[]⟩) rfl
                            have g2 := heap_free (hw3).heap 2
                            have e3 := (hw3).one_cell (o := 3) (v := .string ⟨#[]⟩) rfl
                            have g3 := heap_free (hw3).heap 3
                            have e4 := (hw3).one_cell (o := 4) (v := .string ⟨#[]⟩) rfl
                            have g4 := heap_free (hw3).heap 4
                            have e5 := (hw3).one_cell (o := 5) (v := .int .i64 0) rfl
                            have g5 := heap_free (hw3).heap 5
                            have e6 := (hw3).one_cell (o := 6) (v := .int .i64 0) rfl
                            have g6 := heap_free (hw3).heap 6
                            have e7 := (hw3).one_cell (o := 7) (v := .int .i64 0) rfl
                            have g7 := heap_free (hw3).heap 7
                            have e8 := (hw3).one_cell (o := 8) (v := .int .i64 0) rfl
                            have g8 := heap_free (hw3).heap 8
                            have e9 := (hw3).one_cell (o := 9) (v := .int .i64 0) rfl
                            have g9 := heap_free (hw3).heap 9
                            have hfin := ((((((((((hw3.set (o := 0) (.int .i64 0)).set (o := 1) (.string ⟨#[]⟩)).set (o := 2) (.string ⟨#[]⟩)).set (o := 3) (.string ⟨#[]⟩)).set (o := 4) (.string ⟨#[]⟩)).set (o := 5) (.int .i64 0)).set (o := 6) (.int .i64 0)).set (o := 7) (.int .i64 0)).set (o := 8) (.int .i64 0)).set (o := 9) (.int .i64 0))
                            change Sat σ _ (Hp.one nb (.cells (((((((((((badC [] 0).setIfInBounds 0 _).setIfInBounds 1 _).setIfInBounds 2 _).setIfInBounds 3 _).setIfInBounds 4 _).setIfInBounds 5 _).setIfInBounds 6 _).setIfInBounds 7 _).setIfInBounds 8 _).setIfInBounds 9 _) 34 (0, 0)) :: _) at hfin
                            rw [badC_set] at hfin
                            have HFIN := Lib.hid hfin
                            clear hfin hw3
                            go_wp2
                            refine bodyPost_ret (results_tmp3_cell rfl _ _ nb _ _ _ _ rfl HFIN.out.heap Try.underlying34 rfl (by kernel_rfl)) rfl ?_
                            obtain ⟨t, ht, te, t6⟩ := HR.out
                            rw [ht]
                            refine ⟨_, N2, ?_, HFIN.out.drop.drop, HO.out⟩
                            rw [te, decide_eq_false t6]
                            rfl
                          · by_cases hy10 : y = 10
                            · subst hy10
                              have l1 : (lineD bs l).1 = true := by unfold lineD; rw [hz]; simp only [if_true]; rw [hy]; rfl
                              have l2 : (lineD bs l).2 = none := by unfold lineD; rw [hz]; simp only [if_true]; rw [hy]; rfl
                              rw [l1, l2, show BE none = #[.int .i64 0, .string ⟨#[]⟩, .string ⟨#[]⟩, .string ⟨#[]⟩, .string ⟨#[]⟩, .int .i64 0, .int .i64 0, .int .i64 0, .int .i64 0, .int .i64 0] from rfl]
                              clear l1 l2
                              by_cases hn0 : n = 0
                              · have HR := Lib.hid (y5 hz hy hn0)
                                have hn0i : ((n : Int) == 0) = true := by simp; exact hn0
                                clear y1 y2 y3 y4 y5 y6 hz hy hn0
                                have hwn := hw5.swap
                                have a0 := (hwn).one_cell (o := 0) (v := .int .i64 0) rfl
                                have b0 := heap_free (hwn).heap 0
                                have a1 := (hwn).one_cell (o := 1) (v := .string ⟨#[]⟩) rfl
                                have b1 := heap_free (hwn).heap 1
                                have a2 := (hwn).one_cell (o := 2) (v := .string ⟨#[]⟩) rfl
                                have b2 := heap_free (hwn).heap 2
                                have a3 := (hwn).one_cell (o := 3) (v := .string ⟨#[]⟩) rfl
                                have b3 := heap_free (hwn).heap 3
                                have a4 := (hwn).one_cell (o := 4) (v := .string ⟨#[]⟩) rfl
                                have b4 := heap_free (hwn).heap 4
                                have a5 := (hwn).one_cell (o := 5) (v := .int .i64 0) rfl
                                have b5 := heap_free (hwn).heap 5
                                have a6 := (hwn).one_cell (o := 6) (v := .int .i64 0) rfl
                                have b6 := heap_free (hwn).heap 6
                                have a7 := (hwn).one_cell (o := 7) (v := .int .i64 0) rfl
                                have b7 := heap_free (hwn).heap 7
                                have a8 := (hwn).one_cell (o := 8) (v := .int .i64 0) rfl
                                have b8 := heap_free (hwn).heap 8
                                have a9 := (hwn).one_cell (o := 9) (v := .int .i64 0) rfl
                                have b9 := heap_free (hwn).heap 9
                                have hfin := (((((((((((hwn).set (o := 0) (.int .i64 0)).set (o := 1) (.string ⟨#[]⟩)).set (o := 2) (.string ⟨#[]⟩)).set (o := 3) (.string ⟨#[]⟩)).set (o := 4) (.string ⟨#[]⟩)).set (o := 5) (.int .i64 0)).set (o := 6) (.int .i64 0)).set (o := 7) (.int .i64 0)).set (o := 8) (.int .i64 0)).set (o := 9) (.int .i64 0))
                                change Sat σ _ (Hp.one _ (.cells (((((((((((badC [] 0).setIfInBounds 0 _).setIfInBounds 1 _).setIfInBounds 2 _).setIfInBounds 3 _).setIfInBounds 4 _).setIfInBounds 5 _).setIfInBounds 6 _).setIfInBounds 7 _).setIfInBounds 8 _).setIfInBounds 9 _) 34 (0, 0)) :: _) at hfin
                                rw [badC_set] at hfin
                                have q0 := hfin.one_cell (o := 0) (v := .int .i64 0) rfl
                                clear hw5 hwn
                                go_upto_if 147 with fail
                                clear a0 a1 a2 a3 a4 a5 a6 a7 a8 a9 b0 b1 b2 b3 b4 b5 b6 b7 b8 b9
                                generalize World.setCell _ _ _ = w6 at *
                                have hw3 := hfin.up2
                                clear hfin
                                have e0 := (hw3).one_cell (o := 0) (v := .int .i64 0) rfl
                                have g0 := heap_free (hw3).heap 0
                                have e1 := (hw3).one_cell (o := 1) (v := .string ⟨#[]⟩) rfl
                                have g1 := heap_free (hw3).heap 1
                                have e2 := (hw3).one_cell (o := 2) (v := .string ⟨#[]⟩) rfl
                                have g2 := heap_free (hw3).heap 2
                                have e3 := (hw3).one_cell (o := 3) (v := .string ⟨#[]⟩) rfl
                                have g3 := heap_free (hw3).heap 3
                                have e4 := (hw3).one_cell (o := 4) (v := .string ⟨#[]⟩) rfl
                                have g4 := heap_free (hw3).heap 4
                                have e5 := (hw3).one_cell (o := 5) (v := .int .i64 0) rfl
                                have g5 := heap_free (hw3).heap 5
                                have e6 := (hw3).one_cell (o := 6) (v := .int .i64 0) rfl
                                have g6 := heap_free (hw3).heap 6
                                have e7 := (hw3).one_cell (o := 7) (v := .int .i64 0) rfl
                                have g7 := heap_free (hw3).heap 7
                                have e8 := (hw3).one_cell (o := 8) (v := .int .i64 0) rfl
                                have g8 := heap_free (hw3).heap 8
                                have e9 := (hw3).one_cell (o := 9) (v := .int .i64 0) rfl
                                have g9 := heap_free (hw3).heap 9
                                have hfin := ((((((((((hw3.set (o := 0) (.int .i64 0)).set (o := 1) (.string ⟨#[]⟩)).set (o := 2) (.string ⟨#[]⟩)).set (o := 3) (.string ⟨#[]⟩)).set (o := 4) (.string ⟨#[]⟩)).set (o := 5) (.int .i64 0)).set (o := 6) (.int .i64 0)).set (o := 7) (.int .i64 0)).set (o := 8) (.int .i64 0)).set (o := 9) (.int .i64 0))
                                change Sat σ _ (Hp.one nb (.cells (((((((((((badC [] 0).setIfInBounds 0 _).setIfInBounds 1 _).setIfInBounds 2 _).setIfInBounds 3 _).setIfInBounds 4 _).setIfInBounds 5 _).setIfInBounds 6 _).setIfInBounds 7 _).setIfInBounds 8 _).setIfInBounds 9 _) 34 (0, 0)) :: _) at hfin
                                rw [badC_set] at hfin
                                have HFIN := Lib.hid hfin
                                clear hfin hw3
                                go_wp2
                                refine bodyPost_ret (results_tmp3_cell rfl _ _ nb _ _ _ _ rfl HFIN.out.heap Try.underlying34 rfl (by kernel_rfl)) rfl ?_
                                obtain ⟨t, ht, te, t6⟩ := HR.out
                                rw [ht]
                                refine ⟨_, N2, ?_, HFIN.out.drop.drop, HO.out⟩
                                rw [te, decide_eq_true t6]
                                rfl
                              · have HS := Lib.hid (y6 hz hy hn0)
                                have hn0i : ((n : Int) == 0) = false := by simp; exact hn0
                                have hl2n := (List.getElem?_eq_some_iff.1 hy).1
                                clear y1 y2 y3 y4 y5 y6 hz hy hn0
                                have hwn := hw5.swap
                                have a0 := (hwn).one_cell (o := 0) (v := .int .i64 0) rfl
                                have b0 := heap_free (hwn).heap 0
                                have a1 := (hwn).one_cell (o := 1) (v := .string ⟨#[]⟩) rfl
                                have b1 := heap_free (hwn).heap 1
                                have a2 := (hwn).one_cell (o := 2) (v := .string ⟨#[]⟩) rfl
                                have b2 := heap_free (hwn).heap 2
                                have a3 := (hwn).one_cell (o := 3) (v := .string ⟨#[]⟩) rfl
                                have b3 := heap_free (hwn).heap 3
                                have a4 := (hwn).one_cell (o := 4) (v := .string ⟨#[]⟩) rfl
                                have b4 := heap_free (hwn).heap 4
                                have a5 := (hwn).one_cell (o := 5) (v := .int .i64 0) rfl
                                have b5 := heap_free (hwn).heap 5
                                have a6 := (hwn).one_cell (o := 6) (v := .int .i64 0) rfl
                                have b6 := heap_free (hwn).heap 6
                                have a7 := (hwn).one_cell (o := 7) (v := .int .i64 0) rfl
                                have b7 := heap_free (hwn).heap 7
                                have a8 := (hwn).one_cell (o := 8) (v := .int .i64 0) rfl
                                have b8 := heap_free (hwn).heap 8
                                have a9 := (hwn).one_cell (o := 9) (v := .int .i64 0) rfl
                                have b9 := heap_free (hwn).heap 9
                                have hfin := (((((((((((hwn).set (o := 0) (.int .i64 0)).set (o := 1) (.string ⟨#[]⟩)).set (o := 2) (.string ⟨#[]⟩)).set (o := 3) (.string ⟨#[]⟩)).set (o := 4) (.string ⟨#[]⟩)).set (o := 5) (.int .i64 0)).set (o := 6) (.int .i64 0)).set (o := 7) (.int .i64 0)).set (o := 8) (.int .i64 0)).set (o := 9) (.int .i64 0))
                                change Sat σ _ (Hp.one _ (.cells (((((((((((badC [] 0).setIfInBounds 0 _).setIfInBounds 1 _).setIfInBounds 2 _).setIfInBounds 3 _).setIfInBounds 4 _).setIfInBounds 5 _).setIfInBounds 6 _).setIfInBounds 7 _).setIfInBounds 8 _).setIfInBounds 9 _) 34 (0, 0)) :: _) at hfin
                                rw [badC_set] at hfin
                                have q0 := hfin.one_cell (o := 0) (v := .int .i64 0) rfl
                                clear hw5 hwn
                                go_upto_if 147 with fail
                                clear a0 a1 a2 a3 a4 a5 a6 a7 a8 a9 b0 b1 b2 b3 b4 b5 b6 b7 b8 b9
                                generalize World.setCell _ _ _ = w6 at *
                                go_wp2
                                obtain ⟨t, ht⟩ := HS.out
                                go_roundw
                                case measure => simp [intOf]; omega
                                case rel => exact ⟨l + 2, t, N2, A1, c1', out2, by omega, by go_num, rfl, hfin.drop.swap, ⟨ht, HO.out⟩⟩
                            · have HR := Lib.hid (y4 y hz hy hy10)
                              have l1 : (lineD bs l).1 = false := by unfold lineD; rw [hz]; simp only [if_true]; rw [hy]; simp only; rw [if_neg hy10]
                              have l2 : (lineD bs l).2 = some (l + 1, 91) := by unfold lineD; rw [hz]; simp only [if_true]; rw [hy]; simp only; rw [if_neg hy10]
                              rw [l1, l2]
                              obtain ⟨gb', off', c', x', hx', hv, hcell⟩ := byte_get HB.out hlt2
                              injection hv with hv1 hv2 hv3
                              injection hv1 with hv1
                              injection hv1 with ha hb hc'
                              subst ha; subst hb; subst hv3
                              obtain rfl := Option.some.inj (hx'.symm.trans hz)
                              clear hx' hv2 hc'
                              clear y1 y2 y3 y4 y5 y6 l1 l2 hz hy
                              have HBQ : Hid (BE (some ((l + 1), 91)) = #[.int .i64 (((List.length [(chunkB, (((l + 1) : Nat) : Int))] : Nat) : Int)), .string (chL [(chunkB, (((l + 1) : Nat) : Int))] 0), .string (chL [(chunkB, (((l + 1) : Nat) : Int))] 1), .string (chL [(chunkB, (((l + 1) : Nat) : Int))] 2), .string (chL [(chunkB, (((l + 1) : Nat) : Int))] 3), .int .i64 (chA [(chunkB, (((l + 1) : Nat) : Int))] 0), .int .i64 (chA [(chunkB, (((l + 1) : Nat) : Int))] 1), .int .i64 (chA [(chunkB, (((l + 1) : Nat) : Int))] 2), .int .i64 (chA [(chunkB, (((l + 1) : Nat) : Int))] 3), .int .i64 91]) := Lib.hid rfl
                              have hx0 : (0 : Int) < ((List.length [(chunkB, (((l + 1) : Nat) : Int))] : Nat) : Int) := by simp
                              rw [HBQ.out]
                              generalize ((List.length [(chunkB, (((l + 1) : Nat) : Int))] : Nat) : Int) = x0 at *
                              generalize chL [(chunkB, (((l + 1) : Nat) : Int))] 0 = x1 at *
                              generalize chL [(chunkB, (((l + 1) : Nat) : Int))] 1 = x2 at *
                              generalize chL [(chunkB, (((l + 1) : Nat) : Int))] 2 = x3 at *
                              generalize chL [(chunkB, (((l + 1) : Nat) : Int))] 3 = x4 at *
                              generalize chA [(chunkB, (((l + 1) : Nat) : Int))] 0 = x5 at *
                              generalize chA [(chunkB, (((l + 1) : Nat) : Int))] 1 = x6 at *
                              generalize chA [(chunkB, (((l + 1) : Nat) : Int))] 2 = x7 at *
                              generalize chA [(chunkB, (((l + 1) : Nat) : Int))] 3 = x8 at *
                              have hwn := hw5.swap
                              have a0 := (hwn).one_cell (o := 0) (v := .int .i64 0) rfl
                              have b0 := heap_free (hwn).heap 0
                              have a1 := (hwn).one_cell (o := 1) (v := .string ⟨#[]⟩) rfl
                              have b1 := heap_free (hwn).heap 1
                              have a2 := (hwn).one_cell (o := 2) (v := .string ⟨#[]⟩) rfl
                              have b2 := heap_free (hwn).heap 2
                              have a3 := (hwn).one_cell (o := 3) (v := .string ⟨#[]⟩) rfl
                              have b3 := heap_free (hwn).heap 3
                              have a4 := (hwn).one_cell (o := 4) (v := .string ⟨#[]⟩) rfl
                              have b4 := heap_free (hwn).heap 4
                              have a5 := (hwn).one_cell (o := 5) (v := .int .i64 0) rfl
                              have b5 := heap_free (hwn).heap 5
                              have a6 := (hwn).one_cell (o := 6) (v := .int .i64 0) rfl
                              have b6 := heap_free (hwn).heap 6
                              have a7 := (hwn).one_cell (o := 7) (v := .int .i64 0) rfl
                              have b7 := heap_free (hwn).heap 7
                              have a8 := (hwn).one_cell (o := 8) (v := .int .i64 0) rfl
                              have b8 := heap_free (hwn).heap 8
                              have a9 := (hwn).one_cell (o := 9) (v := .int .i64 0) rfl
                              have b9 := heap_free (hwn).heap 9
                              have hfin := (((((((((((hwn).set (o := 0) (.int .i64 x0)).set (o := 1) (.string x1)).set (o := 2) (.string x2)).set (o := 3) (.string x3)).set (o := 4) (.string x4)).set (o := 5) (.int .i64 x5)).set (o := 6) (.int .i64 x6)).set (o := 7) (.int .i64 x7)).set (o := 8) (.int .i64 x8)).set (o := 9) (.int .i64 91))
                              change Sat σ _ (Hp.one _ (.cells (((((((((((badC [] 0).setIfInBounds 0 _).setIfInBounds 1 _).setIfInBounds 2 _).setIfInBounds 3 _).setIfInBounds 4 _).setIfInBounds 5 _).setIfInBounds 6 _).setIfInBounds 7 _).setIfInBounds 8 _).setIfInBounds 9 _) 34 (0, 0)) :: _) at hfin
                              rw [badC_set] at hfin
                              have q0 := hfin.one_cell (o := 0) (v := .int .i64 x0) rfl
                              clear hw5 hwn
                              go_upto_if 147 with fail
                              clear a0 a1 a2 a3 a4 a5 a6 a7 a8 a9 b0 b1 b2 b3 b4 b5 b6 b7 b8 b9
                              generalize World.setCell _ _ _ = w6 at *
                              have cx := hfin.cellAt (H := H) (by simp [hH]) hcell
                              have hfin := hfin.swap1
                              clear hcell
                              have HW4 := Lib.hid hfin.swap
                              have d0 := (hfin).one_cell (o := 0) (v := .int .i64 x0) rfl
                              have d1 := (hfin).one_cell (o := 1) (v := .string x1) rfl
                              have d2 := (hfin).one_cell (o := 2) (v := .string x2) rfl
                              have d3 := (hfin).one_cell (o := 3) (v := .string x3) rfl
                              have d4 := (hfin).one_cell (o := 4) (v := .string x4) rfl
                              have d5 := (hfin).one_cell (o := 5) (v := .int .i64 x5) rfl
                              have d6 := (hfin).one_cell (o := 6) (v := .int .i64 x6) rfl
                              have d7 := (hfin).one_cell (o := 7) (v := .int .i64 x7) rfl
                              have d8 := (hfin).one_cell (o := 8) (v := .int .i64 x8) rfl
                              have d9 := (hfin).one_cell (o := 9) (v := .int .i64 91) rfl
                              have e0 := (hfin.swap).one_cell (o := 0) (v := .int .i64 0) rfl
                              have g0 := heap_free (hfin.swap).heap 0
                              have e1 := (hfin.swap).one_cell (o := 1) (v := .string ⟨#[]⟩) rfl
                              have g1 := heap_free (hfin.swap).heap 1
                              have e2 := (hfin.swap).one_cell (o := 2) (v := .string ⟨#[]⟩) rfl
                              have g2 := heap_free (hfin.swap).heap 2
                              have e3 := (hfin.swap).one_cell (o := 3) (v := .string ⟨#[]⟩) rfl
                              have g3 := heap_free (hfin.swap).heap 3
                              have e4 := (hfin.swap).one_cell (o := 4) (v := .string ⟨#[]⟩) rfl
                              have g4 := heap_free (hfin.swap).heap 4
                              have e5 := (hfin.swap).one_cell (o := 5) (v := .int .i64 0) rfl
                              have g5 := heap_free (hfin.swap).heap 5
                              have e6 := (hfin.swap).one_cell (o := 6) (v := .int .i64 0) rfl
                              have g6 := heap_free (hfin.swap).heap 6
                              have e7 := (hfin.swap).one_cell (o := 7) (v := .int .i64 0) rfl
                              have g7 := heap_free (hfin.swap).heap 7
                              have e8 := (hfin.swap).one_cell (o := 8) (v := .int .i64 0) rfl
                              have g8 := heap_free (hfin.swap).heap 8
                              have e9 := (hfin.swap).one_cell (o := 9) (v := .int .i64 0) rfl
                              have g9 := heap_free (hfin.swap).heap 9
                              clear hfin
                              go_upto_region 31 with fail
                              go_region
                              (try simp only [Exit.inBlock, Exit.then])
                              go_wp2
                              have hfin := (((((((((((HW4.out).set (o := 0) (.int .i64 x0)).set (o := 1) (.string x1)).set (o := 2) (.string x2)).set (o := 3) (.string x3)).set (o := 4) (.string x4)).set (o := 5) (.int .i64 x5)).set (o := 6) (.int .i64 x6)).set (o := 7) (.int .i64 x7)).set (o := 8) (.int .i64 x8)).set (o := 9) (.int .i64 91))
                              change Sat σ _ (Hp.one _ (.cells (((((((((((badC [] 0).setIfInBounds 0 _).setIfInBounds 1 _).setIfInBounds 2 _).setIfInBounds 3 _).setIfInBounds 4 _).setIfInBounds 5 _).setIfInBounds 6 _).setIfInBounds 7 _).setIfInBounds 8 _).setIfInBounds 9 _) 34 (0, 0)) :: _) at hfin
                              rw [badC_set] at hfin
                              have hfin := hfin.drew
                              have HFIN := Lib.hid hfin
                              refine bodyPost_ret (results_tmp3_cell rfl _ _ nb _ _ _ _ rfl HFIN.out.heap Try.underlying34 rfl (by kernel_rfl)) rfl ?_
                              obtain ⟨t, ht, te, t6⟩ := HR.out
                              rw [ht]
                              refine ⟨_, N2, ?_, HFIN.out.drop.drop, HO.out⟩
                              rw [← HBQ.out, te, decide_eq_false t6]
                              rfl
                        · have HR := Lib.hid (y2 x hz hx13)
                          have l1 : (lineD bs l).1 = false := by unfold lineD; rw [hz]; simp only; rw [if_neg hx13]
                          have l2 : (lineD bs l).2 = some (l, 91) := by unfold lineD; rw [hz]; simp only; rw [if_neg hx13]
                          rw [l1, l2]
                          obtain ⟨gb', off', c', x', hx', hv, hcell⟩ := byte_get HB.out hlt2
                          injection hv with hv1 hv2 hv3
                          injection hv1 with hv1
                          injection hv1 with ha hb hc'
                          subst ha; subst hb; subst hv3
                          obtain rfl := Option.some.inj (hx'.symm.trans hz)
                          clear hx' hv2 hc'
                          clear y1 y2 y3 y4 y5 y6 l1 l2 hz
                          have bx : (x' == 13) = false := by simpa using hx13
                          have HBQ : Hid (BE (some (l, 91)) = #[.int .i64 (((List.length [(chunkB, ((l : Nat) : Int))] : Nat) : Int)), .string (chL [(chunkB, ((l : Nat) : Int))] 0), .string (chL [(chunkB, ((l : Nat) : Int))] 1), .string (chL [(chunkB, ((l : Nat) : Int))] 2), .string (chL [(chunkB, ((l : Nat) : Int))] 3), .int .i64 (chA [(chunkB, ((l : Nat) : Int))] 0), .int .i64 (chA [(chunkB, ((l : Nat) : Int))] 1), .int .i64 (chA [(chunkB, ((l : Nat) : Int))] 2), .int .i64 (chA [(chunkB, ((l : Nat) : Int))] 3), .int .i64 91]) := Lib.hid rfl
                          have hx0 : (0 : Int) < ((List.length [(chunkB, ((l : Nat) : Int))] : Nat) : Int) := by simp
                          rw [HBQ.out]
                          generalize ((List.length [(chunkB, ((l : Nat) : Int))] : Nat) : Int) = x0 at *
                          generalize chL [(chunkB, ((l : Nat) : Int))] 0 = x1 at *
                          generalize chL [(chunkB, ((l : Nat) : Int))] 1 = x2 at *
                          generalize chL [(chunkB, ((l : Nat) : Int))] 2 = x3 at *
                          generalize chL [(chunkB, ((l : Nat) : Int))] 3 = x4 at *
                          generalize chA [(chunkB, ((l : Nat) : Int))] 0 = x5 at *
                          generalize chA [(chunkB, ((l : Nat) : Int))] 1 = x6 at *
                          generalize chA [(chunkB, ((l : Nat) : Int))] 2 = x7 at *
                          generalize chA [(chunkB, ((l : Nat) : Int))] 3 = x8 at *
                          have hwn := hw5.swap
                          have a0 := (hwn).one_cell (o := 0) (v := .int .i64 0) rfl
                          have b0 := heap_free (hwn).heap 0
                          have a1 := (hwn).one_cell (o := 1) (v := .string ⟨#[]⟩) rfl
                          have b1 := heap_free (hwn).heap 1
                          have a2 := (hwn).one_cell (o := 2) (v := .string ⟨#[]⟩) rfl
                          have b2 := heap_free (hwn).heap 2
                          have a3 := (hwn).one_cell (o := 3) (v := .string ⟨#[]⟩) rfl
                          have b3 := heap_free (hwn).heap 3
                          have a4 := (hwn).one_cell (o := 4) (v := .string ⟨#[]⟩) rfl
                          have b4 := heap_free (hwn).heap 4
                          have a5 := (hwn).one_cell (o := 5) (v := .int .i64 0) rfl
                          have b5 := heap_free (hwn).heap 5
                          have a6 := (hwn).one_cell (o := 6) (v := .int .i64 0) rfl
                          have b6 := heap_free (hwn).heap 6
                          have a7 := (hwn).one_cell (o := 7) (v := .int .i64 0) rfl
                          have b7 := heap_free (hwn).heap 7
                          have a8 := (hwn).one_cell (o := 8) (v := .int .i64 0) rfl
                          have b8 := heap_free (hwn).heap 8
                          have a9 := (hwn).one_cell (o := 9) (v := .int .i64 0) rfl
                          have b9 := heap_free (hwn).heap 9
                          have hfin := (((((((((((hwn).set (o := 0) (.int .i64 x0)).set (o := 1) (.string x1)).set (o := 2) (.string x2)).set (o := 3) (.string x3)).set (o := 4) (.string x4)).set (o := 5) (.int .i64 x5)).set (o := 6) (.int .i64 x6)).set (o := 7) (.int .i64 x7)).set (o := 8) (.int .i64 x8)).set (o := 9) (.int .i64 91))
                          change Sat σ _ (Hp.one _ (.cells (((((((((((badC [] 0).setIfInBounds 0 _).setIfInBounds 1 _).setIfInBounds 2 _).setIfInBounds 3 _).setIfInBounds 4 _).setIfInBounds 5 _).setIfInBounds 6 _).setIfInBounds 7 _).setIfInBounds 8 _).setIfInBounds 9 _) 34 (0, 0)) :: _) at hfin
                          rw [badC_set] at hfin
                          have q0 := hfin.one_cell (o := 0) (v := .int .i64 x0) rfl
                          clear hw5 hwn
                          go_upto_if 147 with fail
                          clear a0 a1 a2 a3 a4 a5 a6 a7 a8 a9 b0 b1 b2 b3 b4 b5 b6 b7 b8 b9
                          generalize World.setCell _ _ _ = w6 at *
                          have cx := hfin.cellAt (H := H) (by simp [hH]) hcell
                          have hfin := hfin.swap1
                          clear hcell
                          have HW4 := Lib.hid hfin.swap
                          have d0 := (hfin).one_cell (o := 0) (v := .int .i64 x0) rfl
                          have d1 := (hfin).one_cell (o := 1) (v := .string x1) rfl
                          have d2 := (hfin).one_cell (o := 2) (v := .string x2) rfl
                          have d3 := (hfin).one_cell (o := 3) (v := .string x3) rfl
                          have d4 := (hfin).one_cell (o := 4) (v := .string x4) rfl
                          have d5 := (hfin).one_cell (o := 5) (v := .int .i64 x5) rfl
                          have d6 := (hfin).one_cell (o := 6) (v := .int .i64 x6) rfl
                          have d7 := (hfin).one_cell (o := 7) (v := .int .i64 x7) rfl
                          have d8 := (hfin).one_cell (o := 8) (v := .int .i64 x8) rfl
                          have d9 := (hfin).one_cell (o := 9) (v := .int .i64 91) rfl
                          have e0 := (hfin.swap).one_cell (o := 0) (v := .int .i64 0) rfl
                          have g0 := heap_free (hfin.swap).heap 0
                          have e1 := (hfin.swap).one_cell (o := 1) (v := .string ⟨#[]⟩) rfl
                          have g1 := heap_free (hfin.swap).heap 1
                          have e2 := (hfin.swap).one_cell (o := 2) (v := .string ⟨#[]⟩) rfl
                          have g2 := heap_free (hfin.swap).heap 2
                          have e3 := (hfin.swap).one_cell (o := 3) (v := .string ⟨#[]⟩) rfl
                          have g3 := heap_free (hfin.swap).heap 3
                          have e4 := (hfin.swap).one_cell (o := 4) (v := .string ⟨#[]⟩) rfl
                          have g4 := heap_free (hfin.swap).heap 4
                          have e5 := (hfin.swap).one_cell (o := 5) (v := .int .i64 0) rfl
                          have g5 := heap_free (hfin.swap).heap 5
                          have e6 := (hfin.swap).one_cell (o := 6) (v := .int .i64 0) rfl
                          have g6 := heap_free (hfin.swap).heap 6
                          have e7 := (hfin.swap).one_cell (o := 7) (v := .int .i64 0) rfl
                          have g7 := heap_free (hfin.swap).heap 7
                          have e8 := (hfin.swap).one_cell (o := 8) (v := .int .i64 0) rfl
                          have g8 := heap_free (hfin.swap).heap 8
                          have e9 := (hfin.swap).one_cell (o := 9) (v := .int .i64 0) rfl
                          have g9 := heap_free (hfin.swap).heap 9
                          clear hfin
                          go_upto_region 31 with fail
                          go_region
                          (try simp only [Exit.inBlock, Exit.then])
                          go_wp2
                          have hfin := (((((((((((HW4.out).set (o := 0) (.int .i64 x0)).set (o := 1) (.string x1)).set (o := 2) (.string x2)).set (o := 3) (.string x3)).set (o := 4) (.string x4)).set (o := 5) (.int .i64 x5)).set (o := 6) (.int .i64 x6)).set (o := 7) (.int .i64 x7)).set (o := 8) (.int .i64 x8)).set (o := 9) (.int .i64 91))
                          change Sat σ _ (Hp.one _ (.cells (((((((((((badC [] 0).setIfInBounds 0 _).setIfInBounds 1 _).setIfInBounds 2 _).setIfInBounds 3 _).setIfInBounds 4 _).setIfInBounds 5 _).setIfInBounds 6 _).setIfInBounds 7 _).setIfInBounds 8 _).setIfInBounds 9 _) 34 (0, 0)) :: _) at hfin
                          rw [badC_set] at hfin
                          have hfin := hfin.drew
                          have HFIN := Lib.hid hfin
                          refine bodyPost_ret (results_tmp3_cell rfl _ _ nb _ _ _ _ rfl HFIN.out.heap Try.underlying34 rfl (by kernel_rfl)) rfl ?_
                          obtain ⟨t, ht, te, t6⟩ := HR.out
                          rw [ht]
                          refine ⟨_, N2, ?_, HFIN.out.drop.drop, HO.out⟩
                          rw [← HBQ.out, te, decide_eq_false t6]
                          rfl
                    · have hkc : c - k = 0 := by omega
                      have hcki : (k : Int) ≤ c := by omega
                      have hcli : (l : Int) ≤ c := by omega
                      have hm0 : ¬ k < k + n := by omega
                      go_wp2_with (at_builtin; go_must (refine wpList_app hfin.up2 rfl (.tmp 128) (.tmp 134) 22 22 5 (.int .u8 0) 1 1 rfl Try.underlying22 (by kernel_rfl) rfl (by decide) _ _ out.length n (ints .u8 out) _ rfl rfl HO.out (HSRC.out _ _ _ (by omega) (by omega) (fun h => absurd h hm0) _ (hfin.has _ (by simp [hH]))) (by omega) ?_); intro A1 c1' w2 N2 hw2 ho3 _ _; clear q0; skip)
                      have hown : Own N2 5 1 (.slice A1 (out ++ (bs.drop k).take n).length c1') (out ++ (bs.drop k).take n).length (ints .u8 (out ++ (bs.drop k).take n)) := by
                        rw [List.length_append, HXL.out, ints_append]
                        exact ho3
                      have HLEN : Hid (out.length + n = (out ++ (bs.drop k).take n).length) := Lib.hid (by rw [List.length_append, HXL.out])
                      rw [HLEN.out]
                      have HO := Lib.hid hown
                      generalize out ++ (bs.drop k).take n = out2 at *
                      clear hown ho3 hfin HSRC HXL HLEN mk2 mkl mkn mq1
                      generalize w3.heap.size = ne at *
                      obtain ⟨y1, y2, y3, y4, y5, y6⟩ := end_line hE hll
                      clear hE
                      have hli0 : (0 : Int) ≤ l := by omega
                      have ml1 : IntKind.i64.wrap ((l : Int) + 1) = (l : Int) + 1 := IntWalk.i64_in _ (by omega)
                      have ml2 : IntKind.i64.wrap ((l : Int) + 2) = (l : Int) + 2 := IntWalk.i64_in _ (by omega)
                      refine (line_any _ _ bs l _ hw2 (by simp [hH]) HB.out (by omega) (by omega)).mono ?_
                      rintro e w5 ⟨rfl, hw5⟩
                      clear hw2
                      have hz : bs[l]? = none := List.getElem?_eq_none (by omega)
                      have HR := Lib.hid (y1 hz)
                      have l1 : (lineD bs l).1 = false := by unfold lineD; rw [hz]
                      have l2 : (lineD bs l).2 = none := by unfold lineD; rw [hz]
                      rw [l1, l2, show BE none = #[.int .i64 0, .string ⟨#[]⟩, .string ⟨#[]⟩, .string ⟨#[]⟩, .string ⟨#[]⟩, .int .i64 0, .int .i64 0, .int .i64 0, .int .i64 0, .int .i64 0] from rfl]
                      clear y1 y2 y3 y4 y5 y6 l1 l2 hz
                      have hwn := hw5.swap
                      have a0 := (hwn).one_cell (o := 0) (v := .int .i64 0) rfl
                      have b0 := heap_free (hwn).heap 0
                      have a1 := (hwn).one_cell (o := 1) (v := .string ⟨#[]⟩) rfl
                      have b1 := heap_free (hwn).heap 1
                      have a2 := (hwn).one_cell (o := 2) (v := .string ⟨#[]⟩) rfl
                      have b2 := heap_free (hwn).heap 2
                      have a3 := (hwn).one_cell (o := 3) (v := .string ⟨#[]⟩) rfl
                      have b3 := heap_free (hwn).heap 3
                      have a4 := (hwn).one_cell (o := 4) (v := .string ⟨#[]⟩) rfl
                      have b4 := heap_free (hwn).heap 4
                      have a5 := (hwn).one_cell (o := 5) (v := .int .i64 0) rfl
                      have b5 := heap_free (hwn).heap 5
                      have a6 := (hwn).one_cell (o := 6) (v := .int .i64 0) rfl
                      have b6 := heap_free (hwn).heap 6
                      have a7 := (hwn).one_cell (o := 7) (v := .int .i64 0) rfl
                      have b7 := heap_free (hwn).heap 7
                      have a8 := (hwn).one_cell (o := 8) (v := .int .i64 0) rfl
                      have b8 := heap_free (hwn).heap 8
                      have a9 := (hwn).one_cell (o := 9) (v := .int .i64 0) rfl
                      have b9 := heap_free (hwn).heap 9
                      have hfin := (((((((((((hwn).set (o := 0) (.int .i64 0)).set (o := 1) (.string ⟨#[]⟩)).set (o := 2) (.string ⟨#[]⟩)).set (o := 3) (.string ⟨#[]⟩)).set (o := 4) (.string ⟨#[]⟩)).set (o := 5) (.int .i64 0)).set (o := 6) (.int .i64 0)).set (o := 7) (.int .i64 0)).set (o := 8) (.int .i64 0)).set (o := 9) (.int .i64 0))
                      change Sat σ _ (Hp.one _ (.cells (((((((((((badC [] 0).setIfInBounds 0 _).setIfInBounds 1 _).setIfInBounds 2 _).setIfInBounds 3 _).setIfInBounds 4 _).setIfInBounds 5 _).setIfInBounds 6 _).setIfInBounds 7 _).setIfInBounds 8 _).setIfInBounds 9 _) 34 (0, 0)) :: _) at hfin
                      rw [badC_set] at hfin
                      have q0 := hfin.one_cell (o := 0) (v := .int .i64 0) rfl
                      clear hw5 hwn
                      go_upto_if 147 with fail
                      clear a0 a1 a2 a3 a4 a5 a6 a7 a8 a9 b0 b1 b2 b3 b4 b5 b6 b7 b8 b9
                      generalize World.setCell _ _ _ = w6 at *
                      have hw3 := hfin.up2
                      clear hfin
                      have e0 := (hw3).one_cell (o := 0) (v := .int .i64 0) rfl
                      have g0 := heap_free (hw3).heap 0
                      have e1 := (hw3).one_cell (o := 1) (v := .string ⟨#[]⟩) rfl
                      have g1 := heap_free (hw3).heap 1
                      have e2 := (hw3).one_cell (o := 2) (v := .string ⟨#[]⟩) rfl
                      have g2 := heap_free (hw3).heap 2
                      have e3 := (hw3).one_cell (o := 3) (v := .string ⟨#[]⟩) rfl
                      have g3 := heap_free (hw3).heap 3
                      have e4 := (hw3).one_cell (o := 4) (v := .string ⟨#[]⟩) rfl
                      have g4 := heap_free (hw3).heap 4
                      have e5 := (hw3).one_cell (o := 5) (v := .int .i64 0) rfl
                      have g5 := heap_free (hw3).heap 5
                      have e6 := (hw3).one_cell (o := 6) (v := .int .i64 0) rfl
                      have g6 := heap_free (hw3).heap 6
                      have e7 := (hw3).one_cell (o := 7) (v := .int .i64 0) rfl
                      have g7 := heap_free (hw3).heap 7
                      have e8 := (hw3).one_cell (o := 8) (v := .int .i64 0) rfl
                      have g8 := heap_free (hw3).heap 8
                      have e9 := (hw3).one_cell (o := 9) (v := .int .i64 0) rfl
                      have g9 := heap_free (hw3).heap 9
                      have hfin := ((((((((((hw3.set (o := 0) (.int .i64 0)).set (o := 1) (.string ⟨#[]⟩)).set (o := 2) (.string ⟨#[]⟩)).set (o := 3) (.string ⟨#[]⟩)).set (o := 4) (.string ⟨#[]⟩)).set (o := 5) (.int .i64 0)).set (o := 6) (.int .i64 0)).set (o := 7) (.int .i64 0)).set (o := 8) (.int .i64 0)).set (o := 9) (.int .i64 0))
                      change Sat σ _ (Hp.one nb (.cells (((((((((((badC [] 0).setIfInBounds 0 _).setIfInBounds 1 _).setIfInBounds 2 _).setIfInBounds 3 _).setIfInBounds 4 _).setIfInBounds 5 _).setIfInBounds 6 _).setIfInBounds 7 _).setIfInBounds 8 _).setIfInBounds 9 _) 34 (0, 0)) :: _) at hfin
                      rw [badC_set] at hfin
                      have HFIN := Lib.hid hfin
                      clear hfin hw3
                      go_wp2
                      refine bodyPost_ret (results_tmp3_cell rfl _ _ nb _ _ _ _ rfl HFIN.out.heap Try.underlying34 rfl (by kernel_rfl)) rfl ?_
                      obtain ⟨t, ht, te, t6⟩ := HR.out
                      rw [ht]
                      refine ⟨_, N2, ?_, HFIN.out.drop.drop, HO.out⟩
                      rw [te, decide_eq_false t6]
                      rfl
                · have HR := Lib.hid (hl2 y hy h10)
                  have hl1' : (lineD bs q).1 = false := by unfold lineD; rw [hx]; simp only [if_true]; rw [hy]; simp only; rw [if_neg h10]
                  have hl2' : (lineD bs q).2 = some (q + 1, 91) := by unfold lineD; rw [hx]; simp only [if_true]; rw [hy]; simp only; rw [if_neg h10]
                  rw [hl1', hl2']
                  clear hl1 hl2 hl3 hl1' hl2' hx hy
                  have HBQ : Hid (BE (some ((q + 1), 91)) = #[.int .i64 (((List.length [(chunkB, (((q + 1) : Nat) : Int))] : Nat) : Int)), .string (chL [(chunkB, (((q + 1) : Nat) : Int))] 0), .string (chL [(chunkB, (((q + 1) : Nat) : Int))] 1), .string (chL [(chunkB, (((q + 1) : Nat) : Int))] 2), .string (chL [(chunkB, (((q + 1) : Nat) : Int))] 3), .int .i64 (chA [(chunkB, (((q + 1) : Nat) : Int))] 0), .int .i64 (chA [(chunkB, (((q + 1) : Nat) : Int))] 1), .int .i64 (chA [(chunkB, (((q + 1) : Nat) : Int))] 2), .int .i64 (chA [(chunkB, (((q + 1) : Nat) : Int))] 3), .int .i64 91]) := Lib.hid rfl
                  have hx0 : (0 : Int) < ((List.length [(chunkB, (((q + 1) : Nat) : Int))] : Nat) : Int) := by simp
                  rw [HBQ.out]
                  generalize ((List.length [(chunkB, (((q + 1) : Nat) : Int))] : Nat) : Int) = x0 at *
                  generalize chL [(chunkB, (((q + 1) : Nat) : Int))] 0 = x1 at *
                  generalize chL [(chunkB, (((q + 1) : Nat) : Int))] 1 = x2 at *
                  generalize chL [(chunkB, (((q + 1) : Nat) : Int))] 2 = x3 at *
                  generalize chL [(chunkB, (((q + 1) : Nat) : Int))] 3 = x4 at *
                  generalize chA [(chunkB, (((q + 1) : Nat) : Int))] 0 = x5 at *
                  generalize chA [(chunkB, (((q + 1) : Nat) : Int))] 1 = x6 at *
                  generalize chA [(chunkB, (((q + 1) : Nat) : Int))] 2 = x7 at *
                  generalize chA [(chunkB, (((q + 1) : Nat) : Int))] 3 = x8 at *
                  have hlt := hw3.one_lt
                  have hne : ¬ w3.heap.size = nb := by omega
                  have hne2 : ¬ nb = w3.heap.size := by omega
                  clear hlt
                  have hfin := hw3.alloc (.cells #[.int .i64 x0, .string x1, .string x2, .string x3, .string x4, .int .i64 x5, .int .i64 x6, .int .i64 x7, .int .i64 x8, .int .i64 91] 34)
                  have q0 := hfin.one_cell (o := 0) (v := .int .i64 x0) rfl
                  clear hw3
                  have HW4 := Lib.hid hfin.swap
                  have d0 := (hfin).one_cell (o := 0) (v := .int .i64 x0) rfl
                  have d1 := (hfin).one_cell (o := 1) (v := .string x1) rfl
                  have d2 := (hfin).one_cell (o := 2) (v := .string x2) rfl
                  have d3 := (hfin).one_cell (o := 3) (v := .string x3) rfl
                  have d4 := (hfin).one_cell (o := 4) (v := .string x4) rfl
                  have d5 := (hfin).one_cell (o := 5) (v := .int .i64 x5) rfl
                  have d6 := (hfin).one_cell (o := 6) (v := .int .i64 x6) rfl
                  have d7 := (hfin).one_cell (o := 7) (v := .int .i64 x7) rfl
                  have d8 := (hfin).one_cell (o := 8) (v := .int .i64 x8) rfl
                  have d9 := (hfin).one_cell (o := 9) (v := .int .i64 91) rfl
                  have e0 := (hfin.swap).one_cell (o := 0) (v := .int .i64 0) rfl
                  have g0 := heap_free (hfin.swap).heap 0
                  have e1 := (hfin.swap).one_cell (o := 1) (v := .string ⟨#[]⟩) rfl
                  have g1 := heap_free (hfin.swap).heap 1
                  have e2 := (hfin.swap).one_cell (o := 2) (v := .string ⟨#[]⟩) rfl
                  have g2 := heap_free (hfin.swap).heap 2
                  have e3 := (hfin.swap).one_cell (o := 3) (v := .string ⟨#[]⟩) rfl
                  have g3 := heap_free (hfin.swap).heap 3
                  have e4 := (hfin.swap).one_cell (o := 4) (v := .string ⟨#[]⟩) rfl
                  have g4 := heap_free (hfin.swap).heap 4
                  have e5 := (hfin.swap).one_cell (o := 5) (v := .int .i64 0) rfl
                  have g5 := heap_free (hfin.swap).heap 5
                  have e6 := (hfin.swap).one_cell (o := 6) (v := .int .i64 0) rfl
                  have g6 := heap_free (hfin.swap).heap 6
                  have e7 := (hfin.swap).one_cell (o := 7) (v := .int .i64 0) rfl
                  have g7 := heap_free (hfin.swap).heap 7
                  have e8 := (hfin.swap).one_cell (o := 8) (v := .int .i64 0) rfl
                  have g8 := heap_free (hfin.swap).heap 8
                  have e9 := (hfin.swap).one_cell (o := 9) (v := .int .i64 0) rfl
                  have g9 := heap_free (hfin.swap).heap 9
                  clear hfin
                  go_upto_region 19 with fail
                  go_region
                  (try simp only [Exit.inBlock, Exit.then])
                  go_wp2
                  have hfin := (((((((((((HW4.out).set (o := 0) (.int .i64 x0)).set (o := 1) (.string x1)).set (o := 2) (.string x2)).set (o := 3) (.string x3)).set (o := 4) (.string x4)).set (o := 5) (.int .i64 x5)).set (o := 6) (.int .i64 x6)).set (o := 7) (.int .i64 x7)).set (o := 8) (.int .i64 x8)).set (o := 9) (.int .i64 91))
                  change Sat σ _ (Hp.one _ (.cells (((((((((((badC [] 0).setIfInBounds 0 _).setIfInBounds 1 _).setIfInBounds 2 _).setIfInBounds 3 _).setIfInBounds 4 _).setIfInBounds 5 _).setIfInBounds 6 _).setIfInBounds 7 _).setIfInBounds 8 _).setIfInBounds 9 _) 34 (0, 0)) :: _) at hfin
                  rw [badC_set] at hfin
                  have hfin := hfin.drew
                  have HFIN := Lib.hid hfin
                  refine bodyPost_ret (results_tmp3_cell rfl _ _ nb _ _ _ _ rfl HFIN.out.heap Try.underlying34 rfl (by kernel_rfl)) rfl ?_
                  obtain ⟨t, ht, te, t6⟩ := HR.out
                  rw [ht]
                  refine ⟨_, N, ?_, HFIN.out.drop.drop, HO.out⟩
                  rw [← HBQ.out, te, decide_eq_false t6]
                  rfl
          · obtain rfl : p = q := by omega
            have HR := Lib.hid (size_empty hI hx)
            clear hx hI
            go_wp2_with fail
            refine (rfault_any (p : Nat) 90 _ hwi).mono ?_
            rintro e w3 ⟨rfl, hw3⟩
            clear hwi
            have e0 : w3.cell? ⟨nb, 0, none⟩ = some (.int .i64 0) := hw3.one_cell rfl
            have g0 := heap_free hw3.heap 0
            have e1 : w3.cell? ⟨nb, 1, none⟩ = some (.string ⟨#[]⟩) := hw3.one_cell rfl
            have g1 := heap_free hw3.heap 1
            have e2 : w3.cell? ⟨nb, 2, none⟩ = some (.string ⟨#[]⟩) := hw3.one_cell rfl
            have g2 := heap_free hw3.heap 2
            have e3 : w3.cell? ⟨nb, 3, none⟩ = some (.string ⟨#[]⟩) := hw3.one_cell rfl
            have g3 := heap_free hw3.heap 3
            have e4 : w3.cell? ⟨nb, 4, none⟩ = some (.string ⟨#[]⟩) := hw3.one_cell rfl
            have g4 := heap_free hw3.heap 4
            have e5 : w3.cell? ⟨nb, 5, none⟩ = some (.int .i64 0) := hw3.one_cell rfl
            have g5 := heap_free hw3.heap 5
            have e6 : w3.cell? ⟨nb, 6, none⟩ = some (.int .i64 0) := hw3.one_cell rfl
            have g6 := heap_free hw3.heap 6
            have e7 : w3.cell? ⟨nb, 7, none⟩ = some (.int .i64 0) := hw3.one_cell rfl
            have g7 := heap_free hw3.heap 7
            have e8 : w3.cell? ⟨nb, 8, none⟩ = some (.int .i64 0) := hw3.one_cell rfl
            have g8 := heap_free hw3.heap 8
            have e9 : w3.cell? ⟨nb, 9, none⟩ = some (.int .i64 0) := hw3.one_cell rfl
            have g9 := heap_free hw3.heap 9
            have HBQ : Hid (badC [(chunkB, ((p : Nat) : Int))] 90 = #[.int .i64 (((List.length [(chunkB, ((p : Nat) : Int))] : Nat) : Int)), .string (chL [(chunkB, ((p : Nat) : Int))] 0), .string (chL [(chunkB, ((p : Nat) : Int))] 1), .string (chL [(chunkB, ((p : Nat) : Int))] 2), .string (chL [(chunkB, ((p : Nat) : Int))] 3), .int .i64 (chA [(chunkB, ((p : Nat) : Int))] 0), .int .i64 (chA [(chunkB, ((p : Nat) : Int))] 1), .int .i64 (chA [(chunkB, ((p : Nat) : Int))] 2), .int .i64 (chA [(chunkB, ((p : Nat) : Int))] 3), .int .i64 90]) := Lib.hid rfl
            rw [HBQ.out]
            generalize ((List.length [(chunkB, ((p : Nat) : Int))] : Nat) : Int) = x0 at *
            generalize chL [(chunkB, ((p : Nat) : Int))] 0 = x1 at *
            generalize chL [(chunkB, ((p : Nat) : Int))] 1 = x2 at *
            generalize chL [(chunkB, ((p : Nat) : Int))] 2 = x3 at *
            generalize chL [(chunkB, ((p : Nat) : Int))] 3 = x4 at *
            generalize chA [(chunkB, ((p : Nat) : Int))] 0 = x5 at *
            generalize chA [(chunkB, ((p : Nat) : Int))] 1 = x6 at *
            generalize chA [(chunkB, ((p : Nat) : Int))] 2 = x7 at *
            generalize chA [(chunkB, ((p : Nat) : Int))] 3 = x8 at *
            have hfin := ((((((((((hw3.set (o := 0) (.int .i64 x0)).set (o := 1) (.string x1)).set (o := 2) (.string x2)).set (o := 3) (.string x3)).set (o := 4) (.string x4)).set (o := 5) (.int .i64 x5)).set (o := 6) (.int .i64 x6)).set (o := 7) (.int .i64 x7)).set (o := 8) (.int .i64 x8)).set (o := 9) (.int .i64 90))
            change Sat σ _ (Hp.one nb (.cells (((((((((((badC [] 0).setIfInBounds 0 _).setIfInBounds 1 _).setIfInBounds 2 _).setIfInBounds 3 _).setIfInBounds 4 _).setIfInBounds 5 _).setIfInBounds 6 _).setIfInBounds 7 _).setIfInBounds 8 _).setIfInBounds 9 _) 34 (0, 0)) :: _) at hfin
            rw [badC_set] at hfin
            have HFIN := Lib.hid hfin
            clear hfin hw3
            go_wp2
            refine bodyPost_ret (results_tmp3_cell rfl _ _ nb _ _ _ _ rfl HFIN.out.heap Try.underlying34 rfl (by kernel_rfl)) rfl ?_
            obtain ⟨t, ht, te, t6⟩ := HR.out
            rw [ht]
            refine ⟨_, N, ?_, HFIN.out.drop, HO.out⟩
            rw [← HBQ.out, te, decide_eq_false t6]
            rfl
        · have b13 : (x != 13) = true := by simpa using h13
          -- done<
          obtain ⟨hs1, hs2, hs3⟩ := step_size hI hx h13
          clear hx
          by_cases hval : valC x < 0
          · have HDD : Hid (digD x = 16) := Lib.hid (by unfold digD; rw [if_pos hval])
            by_cases hqp : p < q
            · have HR := Lib.hid (hs1 ⟨hval, hqp⟩)
              have hqp' : (p : Int) < q := by omega
              clear hs1 hs2 hs3 hI
              go_wp2_with fail
              refine (rdigit_any x _).mono ?_
              rintro e w4 ⟨rfl, rfl⟩
              rw [HDD.out]
              go_wp2_with fail
              refine (rfault_any (q : Nat) 91 _ hwi).mono ?_
              rintro e w3 ⟨rfl, hw3⟩
              clear hwi
              have e0 : w3.cell? ⟨nb, 0, none⟩ = some (.int .i64 0) := hw3.one_cell rfl
              have g0 := heap_free hw3.heap 0
              have e1 : w3.cell? ⟨nb, 1, none⟩ = some (.string ⟨#[]⟩) := hw3.one_cell rfl
              have g1 := heap_free hw3.heap 1
              have e2 : w3.cell? ⟨nb, 2, none⟩ = some (.string ⟨#[]⟩) := hw3.one_cell rfl
              have g2 := heap_free hw3.heap 2
              have e3 : w3.cell? ⟨nb, 3, none⟩ = some (.string ⟨#[]⟩) := hw3.one_cell rfl
              have g3 := heap_free hw3.heap 3
              have e4 : w3.cell? ⟨nb, 4, none⟩ = some (.string ⟨#[]⟩) := hw3.one_cell rfl
              have g4 := heap_free hw3.heap 4
              have e5 : w3.cell? ⟨nb, 5, none⟩ = some (.int .i64 0) := hw3.one_cell rfl
              have g5 := heap_free hw3.heap 5
              have e6 : w3.cell? ⟨nb, 6, none⟩ = some (.int .i64 0) := hw3.one_cell rfl
              have g6 := heap_free hw3.heap 6
              have e7 : w3.cell? ⟨nb, 7, none⟩ = some (.int .i64 0) := hw3.one_cell rfl
              have g7 := heap_free hw3.heap 7
              have e8 : w3.cell? ⟨nb, 8, none⟩ = some (.int .i64 0) := hw3.one_cell rfl
              have g8 := heap_free hw3.heap 8
              have e9 : w3.cell? ⟨nb, 9, none⟩ = some (.int .i64 0) := hw3.one_cell rfl
              have g9 := heap_free hw3.heap 9
              have HBQ : Hid (badC [(chunkB, ((q : Nat) : Int))] 91 = #[.int .i64 (((List.length [(chunkB, ((q : Nat) : Int))] : Nat) : Int)), .string (chL [(chunkB, ((q : Nat) : Int))] 0), .string (chL [(chunkB, ((q : Nat) : Int))] 1), .string (chL [(chunkB, ((q : Nat) : Int))] 2), .string (chL [(chunkB, ((q : Nat) : Int))] 3), .int .i64 (chA [(chunkB, ((q : Nat) : Int))] 0), .int .i64 (chA [(chunkB, ((q : Nat) : Int))] 1), .int .i64 (chA [(chunkB, ((q : Nat) : Int))] 2), .int .i64 (chA [(chunkB, ((q : Nat) : Int))] 3), .int .i64 91]) := Lib.hid rfl
              rw [HBQ.out]
              generalize ((List.length [(chunkB, ((q : Nat) : Int))] : Nat) : Int) = x0 at *
              generalize chL [(chunkB, ((q : Nat) : Int))] 0 = x1 at *
              generalize chL [(chunkB, ((q : Nat) : Int))] 1 = x2 at *
              generalize chL [(chunkB, ((q : Nat) : Int))] 2 = x3 at *
              generalize chL [(chunkB, ((q : Nat) : Int))] 3 = x4 at *
              generalize chA [(chunkB, ((q : Nat) : Int))] 0 = x5 at *
              generalize chA [(chunkB, ((q : Nat) : Int))] 1 = x6 at *
              generalize chA [(chunkB, ((q : Nat) : Int))] 2 = x7 at *
              generalize chA [(chunkB, ((q : Nat) : Int))] 3 = x8 at *
              have hfin := ((((((((((hw3.set (o := 0) (.int .i64 x0)).set (o := 1) (.string x1)).set (o := 2) (.string x2)).set (o := 3) (.string x3)).set (o := 4) (.string x4)).set (o := 5) (.int .i64 x5)).set (o := 6) (.int .i64 x6)).set (o := 7) (.int .i64 x7)).set (o := 8) (.int .i64 x8)).set (o := 9) (.int .i64 91))
              change Sat σ _ (Hp.one nb (.cells (((((((((((badC [] 0).setIfInBounds 0 _).setIfInBounds 1 _).setIfInBounds 2 _).setIfInBounds 3 _).setIfInBounds 4 _).setIfInBounds 5 _).setIfInBounds 6 _).setIfInBounds 7 _).setIfInBounds 8 _).setIfInBounds 9 _) 34 (0, 0)) :: _) at hfin
              rw [badC_set] at hfin
              have HFIN := Lib.hid hfin
              clear hfin hw3
              go_wp2
              refine bodyPost_ret (results_tmp3_cell rfl _ _ nb _ _ _ _ rfl HFIN.out.heap Try.underlying34 rfl (by kernel_rfl)) rfl ?_
              obtain ⟨t, ht, te, t6⟩ := HR.out
              rw [ht]
              refine ⟨_, N, ?_, HFIN.out.drop, HO.out⟩
              rw [← HBQ.out, te, decide_eq_false t6]
              rfl
            · have hqe : p = q := by omega
              subst hqe
              have HR := Lib.hid (hs2 (.inl ⟨hval, rfl⟩))
              have hqp' : ¬ (p : Int) < p := by omega
              clear hs1 hs2 hs3 hI
              go_wp2_with fail
              refine (rdigit_any x _).mono ?_
              rintro e w4 ⟨rfl, rfl⟩
              rw [HDD.out]
              go_wp2_with fail
              refine (rfault_any (p : Nat) 90 _ hwi).mono ?_
              rintro e w3 ⟨rfl, hw3⟩
              clear hwi
              have e0 : w3.cell? ⟨nb, 0, none⟩ = some (.int .i64 0) := hw3.one_cell rfl
              have g0 := heap_free hw3.heap 0
              have e1 : w3.cell? ⟨nb, 1, none⟩ = some (.string ⟨#[]⟩) := hw3.one_cell rfl
              have g1 := heap_free hw3.heap 1
              have e2 : w3.cell? ⟨nb, 2, none⟩ = some (.string ⟨#[]⟩) := hw3.one_cell rfl
              have g2 := heap_free hw3.heap 2
              have e3 : w3.cell? ⟨nb, 3, none⟩ = some (.string ⟨#[]⟩) := hw3.one_cell rfl
              have g3 := heap_free hw3.heap 3
              have e4 : w3.cell? ⟨nb, 4, none⟩ = some (.string ⟨#[]⟩) := hw3.one_cell rfl
              have g4 := heap_free hw3.heap 4
              have e5 : w3.cell? ⟨nb, 5, none⟩ = some (.int .i64 0) := hw3.one_cell rfl
              have g5 := heap_free hw3.heap 5
              have e6 : w3.cell? ⟨nb, 6, none⟩ = some (.int .i64 0) := hw3.one_cell rfl
              have g6 := heap_free hw3.heap 6
              have e7 : w3.cell? ⟨nb, 7, none⟩ = some (.int .i64 0) := hw3.one_cell rfl
              have g7 := heap_free hw3.heap 7
              have e8 : w3.cell? ⟨nb, 8, none⟩ = some (.int .i64 0) := hw3.one_cell rfl
              have g8 := heap_free hw3.heap 8
              have e9 : w3.cell? ⟨nb, 9, none⟩ = some (.int .i64 0) := hw3.one_cell rfl
              have g9 := heap_free hw3.heap 9
              have HBQ : Hid (badC [(chunkB, ((p : Nat) : Int))] 90 = #[.int .i64 (((List.length [(chunkB, ((p : Nat) : Int))] : Nat) : Int)), .string (chL [(chunkB, ((p : Nat) : Int))] 0), .string (chL [(chunkB, ((p : Nat) : Int))] 1), .string (chL [(chunkB, ((p : Nat) : Int))] 2), .string (chL [(chunkB, ((p : Nat) : Int))] 3), .int .i64 (chA [(chunkB, ((p : Nat) : Int))] 0), .int .i64 (chA [(chunkB, ((p : Nat) : Int))] 1), .int .i64 (chA [(chunkB, ((p : Nat) : Int))] 2), .int .i64 (chA [(chunkB, ((p : Nat) : Int))] 3), .int .i64 90]) := Lib.hid rfl
              rw [HBQ.out]
              generalize ((List.length [(chunkB, ((p : Nat) : Int))] : Nat) : Int) = x0 at *
              generalize chL [(chunkB, ((p : Nat) : Int))] 0 = x1 at *
              generalize chL [(chunkB, ((p : Nat) : Int))] 1 = x2 at *
              generalize chL [(chunkB, ((p : Nat) : Int))] 2 = x3 at *
              generalize chL [(chunkB, ((p : Nat) : Int))] 3 = x4 at *
              generalize chA [(chunkB, ((p : Nat) : Int))] 0 = x5 at *
              generalize chA [(chunkB, ((p : Nat) : Int))] 1 = x6 at *
              generalize chA [(chunkB, ((p : Nat) : Int))] 2 = x7 at *
              generalize chA [(chunkB, ((p : Nat) : Int))] 3 = x8 at *
              have hfin := ((((((((((hw3.set (o := 0) (.int .i64 x0)).set (o := 1) (.string x1)).set (o := 2) (.string x2)).set (o := 3) (.string x3)).set (o := 4) (.string x4)).set (o := 5) (.int .i64 x5)).set (o := 6) (.int .i64 x6)).set (o := 7) (.int .i64 x7)).set (o := 8) (.int .i64 x8)).set (o := 9) (.int .i64 90))
              change Sat σ _ (Hp.one nb (.cells (((((((((((badC [] 0).setIfInBounds 0 _).setIfInBounds 1 _).setIfInBounds 2 _).setIfInBounds 3 _).setIfInBounds 4 _).setIfInBounds 5 _).setIfInBounds 6 _).setIfInBounds 7 _).setIfInBounds 8 _).setIfInBounds 9 _) 34 (0, 0)) :: _) at hfin
              rw [badC_set] at hfin
              have HFIN := Lib.hid hfin
              clear hfin hw3
              go_wp2
              refine bodyPost_ret (results_tmp3_cell rfl _ _ nb _ _ _ _ rfl HFIN.out.heap Try.underlying34 rfl (by kernel_rfl)) rfl ?_
              obtain ⟨t, ht, te, t6⟩ := HR.out
              rw [ht]
              refine ⟨_, N, ?_, HFIN.out.drop, HO.out⟩
              rw [← HBQ.out, te, decide_eq_false t6]
              rfl
          · obtain ⟨d, hd⟩ : ∃ d : Nat, valC x = d := ⟨(valC x).toNat, by omega⟩
            have HDD : Hid (digD x = d) := Lib.hid (by unfold digD; rw [if_neg hval, hd])
            have hd16 : d < 16 := by have := valC_lt x; omega
            have hdi : ¬ (d : Int) > 15 := by omega
            have hdi' : ¬ (15 : Int) < d := by omega
            have mq : IntKind.i64.wrap ((q : Int) + 1) = (q : Int) + 1 := IntWalk.i64_in _ (by omega)
            have mm : IntKind.i64.wrap ((n : Int) * 16) = (n : Int) * 16 := IntWalk.i64_in _ (by omega)
            have ma : IntKind.i64.wrap ((n : Int) * 16 + d) = (n : Int) * 16 + d := IntWalk.i64_in _ (by omega)
            rw [hd, Int.toNat_natCast] at hs3
            rw [hd] at hs2
            by_cases h7 : q - p = 7
            · have HR := Lib.hid (hs2 (.inr ⟨by omega, .inl h7⟩))
              have b7 : ((q : Int) - (p : Int) == 7) = true := by simp; omega
              clear hs1 hs2 hs3 hI hd hval h7
              go_wp2_with fail
              refine (rdigit_any x _).mono ?_
              rintro e w4 ⟨rfl, rfl⟩
              rw [HDD.out]
              go_wp2_with fail
              refine (rfault_any (q : Nat) 90 _ hwi).mono ?_
              rintro e w3 ⟨rfl, hw3⟩
              clear hwi
              have e0 : w3.cell? ⟨nb, 0, none⟩ = some (.int .i64 0) := hw3.one_cell rfl
              have g0 := heap_free hw3.heap 0
              have e1 : w3.cell? ⟨nb, 1, none⟩ = some (.string ⟨#[]⟩) := hw3.one_cell rfl
              have g1 := heap_free hw3.heap 1
              have e2 : w3.cell? ⟨nb, 2, none⟩ = some (.string ⟨#[]⟩) := hw3.one_cell rfl
              have g2 := heap_free hw3.heap 2
              have e3 : w3.cell? ⟨nb, 3, none⟩ = some (.string ⟨#[]⟩) := hw3.one_cell rfl
              have g3 := heap_free hw3.heap 3
              have e4 : w3.cell? ⟨nb, 4, none⟩ = some (.string ⟨#[]⟩) := hw3.one_cell rfl
              have g4 := heap_free hw3.heap 4
              have e5 : w3.cell? ⟨nb, 5, none⟩ = some (.int .i64 0) := hw3.one_cell rfl
              have g5 := heap_free hw3.heap 5
              have e6 : w3.cell? ⟨nb, 6, none⟩ = some (.int .i64 0) := hw3.one_cell rfl
              have g6 := heap_free hw3.heap 6
              have e7 : w3.cell? ⟨nb, 7, none⟩ = some (.int .i64 0) := hw3.one_cell rfl
              have g7 := heap_free hw3.heap 7
              have e8 : w3.cell? ⟨nb, 8, none⟩ = some (.int .i64 0) := hw3.one_cell rfl
              have g8 := heap_free hw3.heap 8
              have e9 : w3.cell? ⟨nb, 9, none⟩ = some (.int .i64 0) := hw3.one_cell rfl
              have g9 := heap_free hw3.heap 9
              have HBQ : Hid (badC [(chunkB, ((q : Nat) : Int))] 90 = #[.int .i64 (((List.length [(chunkB, ((q : Nat) : Int))] : Nat) : Int)), .string (chL [(chunkB, ((q : Nat) : Int))] 0), .string (chL [(chunkB, ((q : Nat) : Int))] 1), .string (chL [(chunkB, ((q : Nat) : Int))] 2), .string (chL [(chunkB, ((q : Nat) : Int))] 3), .int .i64 (chA [(chunkB, ((q : Nat) : Int))] 0), .int .i64 (chA [(chunkB, ((q : Nat) : Int))] 1), .int .i64 (chA [(chunkB, ((q : Nat) : Int))] 2), .int .i64 (chA [(chunkB, ((q : Nat) : Int))] 3), .int .i64 90]) := Lib.hid rfl
              rw [HBQ.out]
              generalize ((List.length [(chunkB, ((q : Nat) : Int))] : Nat) : Int) = x0 at *
              generalize chL [(chunkB, ((q : Nat) : Int))] 0 = x1 at *
              generalize chL [(chunkB, ((q : Nat) : Int))] 1 = x2 at *
              generalize chL [(chunkB, ((q : Nat) : Int))] 2 = x3 at *
              generalize chL [(chunkB, ((q : Nat) : Int))] 3 = x4 at *
              generalize chA [(chunkB, ((q : Nat) : Int))] 0 = x5 at *
              generalize chA [(chunkB, ((q : Nat) : Int))] 1 = x6 at *
              generalize chA [(chunkB, ((q : Nat) : Int))] 2 = x7 at *
              generalize chA [(chunkB, ((q : Nat) : Int))] 3 = x8 at *
              have hfin := ((((((((((hw3.set (o := 0) (.int .i64 x0)).set (o := 1) (.string x1)).set (o := 2) (.string x2)).set (o := 3) (.string x3)).set (o := 4) (.string x4)).set (o := 5) (.int .i64 x5)).set (o := 6) (.int .i64 x6)).set (o := 7) (.int .i64 x7)).set (o := 8) (.int .i64 x8)).set (o := 9) (.int .i64 90))
              change Sat σ _ (Hp.one nb (.cells (((((((((((badC [] 0).setIfInBounds 0 _).setIfInBounds 1 _).setIfInBounds 2 _).setIfInBounds 3 _).setIfInBounds 4 _).setIfInBounds 5 _).setIfInBounds 6 _).setIfInBounds 7 _).setIfInBounds 8 _).setIfInBounds 9 _) 34 (0, 0)) :: _) at hfin
              rw [badC_set] at hfin
              have HFIN := Lib.hid hfin
              clear hfin hw3
              go_wp2
              refine bodyPost_ret (results_tmp3_cell rfl _ _ nb _ _ _ _ rfl HFIN.out.heap Try.underlying34 rfl (by kernel_rfl)) rfl ?_
              obtain ⟨t, ht, te, t6⟩ := HR.out
              rw [ht]
              refine ⟨_, N, ?_, HFIN.out.drop, HO.out⟩
              rw [← HBQ.out, te, decide_eq_false t6]
              rfl
            · have b7 : ((q : Int) - (p : Int) == 7) = false := by simp; omega
              by_cases h1 : q - p = 1
              · have b1 : ((q : Int) - (p : Int) == 1) = true := by simp; omega
                by_cases hn0 : n = 0
                · subst hn0
                  have HR := Lib.hid (hs2 (.inr ⟨by omega, .inr ⟨h1, rfl⟩⟩))
                  clear hs1 hs2 hs3 hI hd hval h7
                  go_wp2_with fail
                  refine (rdigit_any x _).mono ?_
                  rintro e w4 ⟨rfl, rfl⟩
                  rw [HDD.out]
                  go_wp2_with fail
                  refine (rfault_any (q : Nat) 90 _ hwi).mono ?_
                  rintro e w3 ⟨rfl, hw3⟩
                  clear hwi
                  have e0 : w3.cell? ⟨nb, 0, none⟩ = some (.int .i64 0) := hw3.one_cell rfl
                  have g0 := heap_free hw3.heap 0
                  have e1 : w3.cell? ⟨nb, 1, none⟩ = some (.string ⟨#[]⟩) := hw3.one_cell rfl
                  have g1 := heap_free hw3.heap 1
                  have e2 : w3.cell? ⟨nb, 2, none⟩ = some (.string ⟨#[]⟩) := hw3.one_cell rfl
                  have g2 := heap_free hw3.heap 2
                  have e3 : w3.cell? ⟨nb, 3, none⟩ = some (.string ⟨#[]⟩) := hw3.one_cell rfl
                  have g3 := heap_free hw3.heap 3
                  have e4 : w3.cell? ⟨nb, 4, none⟩ = some (.string ⟨#[]⟩) := hw3.one_cell rfl
                  have g4 := heap_free hw3.heap 4
                  have e5 : w3.cell? ⟨nb, 5, none⟩ = some (.int .i64 0) := hw3.one_cell rfl
                  have g5 := heap_free hw3.heap 5
                  have e6 : w3.cell? ⟨nb, 6, none⟩ = some (.int .i64 0) := hw3.one_cell rfl
                  have g6 := heap_free hw3.heap 6
                  have e7 : w3.cell? ⟨nb, 7, none⟩ = some (.int .i64 0) := hw3.one_cell rfl
                  have g7 := heap_free hw3.heap 7
                  have e8 : w3.cell? ⟨nb, 8, none⟩ = some (.int .i64 0) := hw3.one_cell rfl
                  have g8 := heap_free hw3.heap 8
                  have e9 : w3.cell? ⟨nb, 9, none⟩ = some (.int .i64 0) := hw3.one_cell rfl
                  have g9 := heap_free hw3.heap 9
                  have HBQ : Hid (badC [(chunkB, ((q : Nat) : Int))] 90 = #[.int .i64 (((List.length [(chunkB, ((q : Nat) : Int))] : Nat) : Int)), .string (chL [(chunkB, ((q : Nat) : Int))] 0), .string (chL [(chunkB, ((q : Nat) : Int))] 1), .string (chL [(chunkB, ((q : Nat) : Int))] 2), .string (chL [(chunkB, ((q : Nat) : Int))] 3), .int .i64 (chA [(chunkB, ((q : Nat) : Int))] 0), .int .i64 (chA [(chunkB, ((q : Nat) : Int))] 1), .int .i64 (chA [(chunkB, ((q : Nat) : Int))] 2), .int .i64 (chA [(chunkB, ((q : Nat) : Int))] 3), .int .i64 90]) := Lib.hid rfl
                  rw [HBQ.out]
                  generalize ((List.length [(chunkB, ((q : Nat) : Int))] : Nat) : Int) = x0 at *
                  generalize chL [(chunkB, ((q : Nat) : Int))] 0 = x1 at *
                  generalize chL [(chunkB, ((q : Nat) : Int))] 1 = x2 at *
                  generalize chL [(chunkB, ((q : Nat) : Int))] 2 = x3 at *
                  generalize chL [(chunkB, ((q : Nat) : Int))] 3 = x4 at *
                  generalize chA [(chunkB, ((q : Nat) : Int))] 0 = x5 at *
                  generalize chA [(chunkB, ((q : Nat) : Int))] 1 = x6 at *
                  generalize chA [(chunkB, ((q : Nat) : Int))] 2 = x7 at *
                  generalize chA [(chunkB, ((q : Nat) : Int))] 3 = x8 at *
                  have hfin := ((((((((((hw3.set (o := 0) (.int .i64 x0)).set (o := 1) (.string x1)).set (o := 2) (.string x2)).set (o := 3) (.string x3)).set (o := 4) (.string x4)).set (o := 5) (.int .i64 x5)).set (o := 6) (.int .i64 x6)).set (o := 7) (.int .i64 x7)).set (o := 8) (.int .i64 x8)).set (o := 9) (.int .i64 90))
                  change Sat σ _ (Hp.one nb (.cells (((((((((((badC [] 0).setIfInBounds 0 _).setIfInBounds 1 _).setIfInBounds 2 _).setIfInBounds 3 _).setIfInBounds 4 _).setIfInBounds 5 _).setIfInBounds 6 _).setIfInBounds 7 _).setIfInBounds 8 _).setIfInBounds 9 _) 34 (0, 0)) :: _) at hfin
                  rw [badC_set] at hfin
                  have HFIN := Lib.hid hfin
                  clear hfin hw3
                  go_wp2
                  refine bodyPost_ret (results_tmp3_cell rfl _ _ nb _ _ _ _ rfl HFIN.out.heap Try.underlying34 rfl (by kernel_rfl)) rfl ?_
                  obtain ⟨t, ht, te, t6⟩ := HR.out
                  rw [ht]
                  refine ⟨_, N, ?_, HFIN.out.drop, HO.out⟩
                  rw [← HBQ.out, te, decide_eq_false t6]
                  rfl
                · have b0 : ((n : Int) == 0) = false := by simp; omega
                  have HS := Lib.hid (hs3 ⟨by omega, h7, by omega⟩)
                  clear hs1 hs2 hs3 hI hd hval h7
                  go_wp2_with fail
                  refine (rdigit_any x _).mono ?_
                  rintro e w4 ⟨rfl, rfl⟩
                  rw [HDD.out]
                  go_wp2
                  obtain ⟨t, ht⟩ := HS.out
                  go_roundw
                  case measure => simp [intOf]; omega
                  case rel => exact ⟨q + 1, n * 16 + d, t, by omega, by omega, by go_num, by go_num, hwi, ⟨ht⟩⟩
              · have b1 : ((q : Int) - (p : Int) == 1) = false := by simp; omega
                have HS := Lib.hid (hs3 ⟨by omega, h7, by omega⟩)
                clear hs1 hs2 hs3 hI hd hval h7
                go_wp2_with fail
                refine (rdigit_any x _).mono ?_
                rintro e w4 ⟨rfl, rfl⟩
                rw [HDD.out]
                go_wp2
                obtain ⟨t, ht⟩ := HS.out
                go_roundw
                case measure => simp [intOf]; omega
                case rel => exact ⟨q + 1, n * 16 + d, t, by omega, by omega, by go_num, by go_num, hwi, ⟨ht⟩⟩
          -- done>
      · obtain rfl : q = bs.length := by omega
        have HR := Lib.hid (size_end hI)
        have hw3 := hwi
        clear hwi hI
        have e0 := (hw3).one_cell (o := 0) (v := .int .i64 0) rfl
        have g0 := heap_free (hw3).heap 0
        have e1 := (hw3).one_cell (o := 1) (v := .string ⟨#[]⟩) rfl
        have g1 := heap_free (hw3).heap 1
        have e2 := (hw3).one_cell (o := 2) (v := .string ⟨#[]⟩) rfl
        have g2 := heap_free (hw3).heap 2
        have e3 := (hw3).one_cell (o := 3) (v := .string ⟨#[]⟩) rfl
        have g3 := heap_free (hw3).heap 3
        have e4 := (hw3).one_cell (o := 4) (v := .string ⟨#[]⟩) rfl
        have g4 := heap_free (hw3).heap 4
        have e5 := (hw3).one_cell (o := 5) (v := .int .i64 0) rfl
        have g5 := heap_free (hw3).heap 5
        have e6 := (hw3).one_cell (o := 6) (v := .int .i64 0) rfl
        have g6 := heap_free (hw3).heap 6
        have e7 := (hw3).one_cell (o := 7) (v := .int .i64 0) rfl
        have g7 := heap_free (hw3).heap 7
        have e8 := (hw3).one_cell (o := 8) (v := .int .i64 0) rfl
        have g8 := heap_free (hw3).heap 8
        have e9 := (hw3).one_cell (o := 9) (v := .int .i64 0) rfl
        have g9 := heap_free (hw3).heap 9
        have hfin := ((((((((((hw3.set (o := 0) (.int .i64 0)).set (o := 1) (.string ⟨#[]⟩)).set (o := 2) (.string ⟨#[]⟩)).set (o := 3) (.string ⟨#[]⟩)).set (o := 4) (.string ⟨#[]⟩)).set (o := 5) (.int .i64 0)).set (o := 6) (.int .i64 0)).set (o := 7) (.int .i64 0)).set (o := 8) (.int .i64 0)).set (o := 9) (.int .i64 0))
        change Sat σ _ (Hp.one nb (.cells (((((((((((badC [] 0).setIfInBounds 0 _).setIfInBounds 1 _).setIfInBounds 2 _).setIfInBounds 3 _).setIfInBounds 4 _).setIfInBounds 5 _).setIfInBounds 6 _).setIfInBounds 7 _).setIfInBounds 8 _).setIfInBounds 9 _) 34 (0, 0)) :: _) at hfin
        rw [badC_set] at hfin
        have HFIN := Lib.hid hfin
        clear hfin hw3
        go_wp2
        refine bodyPost_ret (results_tmp3_cell rfl _ _ nb _ _ _ _ rfl HFIN.out.heap Try.underlying34 rfl (by kernel_rfl)) rfl ?_
        obtain ⟨t, ht, te, t6⟩ := HR.out
        rw [ht]
        refine ⟨_, N, ?_, HFIN.out.drop, HO.out⟩
        rw [te, decide_eq_false t6]
        rfl
end
end Go.Proofs.Ytgpmkiamfbbfmaa
