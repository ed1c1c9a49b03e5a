/- Walk: AuditChecks. -/
import Derived.Test.YteggcfcjajpcgaaDoorAuS
import Derived.Test.YteggcfcjajpcgaaDoorAuH
set_option linter.unusedVariables false
set_option linter.unusedSimpArgs false
namespace Go.Proofs.YteggcfcjajpcgaaDoor
open Go Go.RowKit
theorem reps_sum {H : Hp} : ∀ (xs : List Ent), (∀ x ∈ xs, x.sum.length = 32) → kE.reps H xs (entC xs)
  | [], _ => rfl
  | x :: xs, h => ⟨_, _, rfl, ⟨h x (by simp), rfl⟩, reps_sum xs (fun y hy => h y (by simp [hy]))⟩
section
variable {σ w w' : World} {Hs : List Hp} {H H1 H2 M N Y G : Hp}
set_option maxHeartbeats 4000000
set_option maxRecDepth 10000 in
theorem checks_any (v : Value) (xs : List Ent) (h : List Int) (hxs : ∀ x ∈ xs, anyE x) (hl : h.length = 32) (hlen : xs.length ≤ 2000000) (w : World) (hw : Sat σ w Hs) (hH1 : H1 ∈ Hs) (hs : kE.IsSl H1 v xs) (hH : H ∈ Hs) {tt : TypeId} {fr : Nat × Nat} (hk : H 1 = some (.cells powV tt fr)) (hk0 : H 0 = some (.cells kV 90 (0, 0))) :
    Calls Tryd.prog 7 #[v, .agg (outV h)] w fun e w' => e = .returned (.bool true) ∧ Sat σ w' Hs := by
  obtain ⟨cells, hcs, hsrc⟩ := hs.src (P := Tryd.prog) (t := 26) Tryd.underlying26
  obtain rfl := reps_entC hcs
  have HS1 := Lib.hid hs
  obtain ⟨A, c, rfl, hc1, hc2, _⟩ := hs.form
  have HWK := Lib.hid (fun w' Hs' (h : Sat σ w' Hs') (hm : H ∈ Hs') => aworks_any w' h hm hk hk0)
  have HCH := Lib.hid (fun v N w' Hs' (h : Sat σ w' Hs') (hN : N ∈ Hs') (hs : kE.IsSl N v xs) (hm : H ∈ Hs') => check_any v xs hxs w' h hN hs hm hk hk0)
  have HRC := Lib.hid (fun v N w' Hs' (h : Sat σ w' Hs') (hN : N ∈ Hs') (hs : kE.IsSl N v xs) => rcheck_any v xs hxs w' h hN hs)
  have HFD := Lib.hid (fun v N w' Hs' (h' : Sat σ w' Hs') (hN : N ∈ Hs') (hs : kE.IsSl N v xs) (hm : H ∈ Hs') => find_any v xs h hxs hl w' h' hN hs hm hk hk0)
  have HRF := Lib.hid (fun v N w' Hs' (h' : Sat σ w' Hs') (hN : N ∈ Hs') (hs : kE.IsSl N v xs) => rfind_any v xs h hxs hl w' h' hN hs)
  have HOP := Lib.hid (fun v N w' Hs' (h : Sat σ w' Hs') (hN : N ∈ Hs') (ho : Own N 32 34 v xs.length (entC xs)) (hs : kE.IsSl N v xs) (hm : H ∈ Hs') => open_any v xs hxs w' h hN ho hs hm hk hk0)
  have HSM := Lib.hid (fun v u N M w' Hs' (h : Sat σ w' Hs') (hN : N ∈ Hs') (hM : M ∈ Hs') (h1 : kE.IsSl N v xs) (h2 : kE.IsSl M u xs) => asame_any v u xs xs w' h hN hM h1 h2)
  rw [decide_eq_true rfl] at HSM
  unfold OpenP at HOP
  obtain ⟨cn, ce, hce⟩ : ∃ cn ce, checkE xs = (cn, ce) := ⟨_, _, rfl⟩
  obtain ⟨fk, fe, hfe⟩ : ∃ fk fe, findE xs h = (fk, fe) := ⟨_, _, rfl⟩
  rw [hce] at HCH HRC HOP
  rw [hfe] at HFD HRF
  have HREP := Lib.hid (fun H => reps_sum (H := H) xs fun x hx => (hxs x hx).1)
  have hw2 := (hw.alloc (.cells (outV h) 29)).alloc (.cells #[] 32)
  rw [World.size_alloc] at hw2
  have HW2 := Lib.hid hw2
  have HSRC := Lib.hid (hsrc _ (hw2.has _ (List.mem_cons_of_mem _ (List.mem_cons_of_mem _ hH1))))
  have hoh : (outV h).size = 32 := by rw [outV_size, hl]
  clear hs hcs hsrc hc1 hce hfe hk hk0 hw hw2 hxs
  go_enter Tryd.func7, Tryd.ntmps7
  go_wp2_with (at_builtin; go_must (refine wpList_app HW2.out rfl (.tmp 17) (.tmp 18) 26 26 32 (.agg #[.int .i64 0, .string ⟨#[]⟩, .int .u8 0, .int .u8 0, .int .u8 0, .int .u8 0, .int .u8 0, .int .u8 0, .int .u8 0, .int .u8 0, .int .u8 0, .int .u8 0, .int .u8 0, .int .u8 0, .int .u8 0, .int .u8 0, .int .u8 0, .int .u8 0, .int .u8 0, .int .u8 0, .int .u8 0, .int .u8 0, .int .u8 0, .int .u8 0, .int .u8 0, .int .u8 0, .int .u8 0, .int .u8 0, .int .u8 0, .int .u8 0, .int .u8 0, .int .u8 0, .int .u8 0, .int .u8 0]) 34 56 rfl Tryd.underlying26 (by kernel_rfl) rfl (by decide) _ _ 0 xs.length [] (entC xs) rfl rfl (own_lit0 _ _ _) HSRC.out (by omega) ?_); intro A7 c7 w7 N7 hw7 ho7 _ _)
  have ho8 : Own N7 32 34 (.slice A7 xs.length c7) xs.length (entC xs) := by simpa using ho7
  have HO8 := Lib.hid ho8
  have HS8 := Lib.hid (ho8.isSl (d := kE) (HREP.out _) rfl (Hp.le_refl _))
  clear ho7 HSRC HW2
  generalize w.heap.size = nb at *
  have hm8 : H ∈ (N7 :: Hp.one nb (.cells (outV h) 29 (0, 0)) :: Hs) := List.mem_cons_of_mem _ (List.mem_cons_of_mem _ hH)
  have hm1 : H1 ∈ (N7 :: Hp.one nb (.cells (outV h) 29 (0, 0)) :: Hs) := List.mem_cons_of_mem _ (List.mem_cons_of_mem _ hH1)
  have hmn : Hp.one nb (.cells (outV h) 29 (0, 0)) ∈ (N7 :: Hp.one nb (.cells (outV h) 29 (0, 0)) :: Hs) := List.mem_cons_of_mem _ List.mem_cons_self
  clear ho8
  go_wp2_with fail
  refine (HCH.out _ N7 w7 _ hw7 List.mem_cons_self HS8.out hm8).mono ?_
  rintro e w8 ⟨rfl, hw8⟩
  clear hw7 HCH
  go_wp2_with fail
  refine (HRC.out _ H1 w8 _ hw8 hm1 HS1.out).mono ?_
  rintro e w9 ⟨rfl, hw9⟩
  have HB : Hid (w9.heap[nb]? = some (.cells (outV h) 29 (0, 0))) := Lib.hid (hw9.blk hmn (Hp.one_self _ _))
  clear hw8 HRC
  go_wp2_with (with_reducible show wpList _ _ _ (_ :: _ :: _ :: _ :: _ :: _ :: _ :: []) _ _; refine wpList_load_row rfl 29 (.tmp 3) rfl nb rfl 29 (outV h) (0, 0) _ HB.out Tryd.underlying29 rfl (by rw [hoh]; kernel_rfl) ?_)
  refine (HFD.out _ N7 w9 _ hw9 List.mem_cons_self HS8.out hm8).mono ?_
  rintro e w10 ⟨rfl, hw10⟩
  clear hw9 HFD HB
  have HB : Hid (w10.heap[nb]? = some (.cells (outV h) 29 (0, 0))) := Lib.hid (hw10.blk hmn (Hp.one_self _ _))
  go_wp2_with (with_reducible show wpList _ _ _ (_ :: _ :: _ :: _ :: _ :: _ :: _ :: []) _ _; refine wpList_load_row rfl 29 (.tmp 3) rfl nb rfl 29 (outV h) (0, 0) _ HB.out Tryd.underlying29 rfl (by rw [hoh]; kernel_rfl) ?_)
  refine (HRF.out _ H1 w10 _ hw10 hm1 HS1.out).mono ?_
  rintro e w11 ⟨rfl, hw11⟩
  clear hw10 HRF HB
  go_wp2_with fail
  refine (HOP.out _ N7 w11 _ hw11 List.mem_cons_self HO8.out HS8.out hm8).mono ?_
  rintro e w12 (⟨he, rfl, hw12⟩ | ⟨he, g, G, N, rfl, hw12, hlr⟩)
  · have heb : (ce != 0) = true := by simpa using he
    have HS9 : Hid (∀ w', Sat σ w' (N7 :: Hp.one nb (.cells (outV h) 29 (0, 0)) :: Hs) → Calls Tryd.prog 11 #[.slice A7 xs.length c7, .slice A xs.length c] w' fun e w2 => e = .returned (.bool true) ∧ Sat σ w2 (N7 :: Hp.one nb (.cells (outV h) 29 (0, 0)) :: Hs)) := Lib.hid (fun w' h => HSM.out _ _ N7 H1 w' _ h List.mem_cons_self hm1 HS8.out HS1.out)
    have HWK2 : Hid (∀ w', Sat σ w' (N7 :: Hp.one nb (.cells (outV h) 29 (0, 0)) :: Hs) → Calls Tryd.prog 8 #[] w' fun e w2 => e = .returned (.bool true) ∧ Sat σ w2 (N7 :: Hp.one nb (.cells (outV h) 29 (0, 0)) :: Hs)) := Lib.hid (fun w' h => HWK.out w' _ h hm8)
    clear he hw11 HSM HWK HOP
    go_wp2_with (first
      | (go_at_call 11; refine (HS9.out _ (by assumption)).mono ?_; rintro e wn ⟨rfl, hwn⟩)
      | (go_at_call 8; refine (HWK2.out _ (by assumption)).mono ?_; rintro e wm ⟨rfl, hwm⟩))
    go_ret
    exact ⟨rfl, hwm.drop.drop⟩
  · subst he
    have HLR := Lib.hid hlr
    have hx4 : xs.length ≤ 4096 := hlr.out.2.2
    have HOWN : Hid (0 < xs.length → ∃ ge cur, A7 = some ⟨ge, 0, none⟩ ∧ N7 ge = some (.cells cur 32 (0, 0)) ∧ xs.length * 34 ≤ cur.size) := Lib.hid (fun h0 => by
      rcases HO8.out.out.2 with ⟨e, h⟩ | ⟨ge, cap, cur, e, h1, h2, _, h3, _⟩
      · omega
      · injection e with e _ _
        exact ⟨ge, cur, e, h1, by rw [h3]; omega⟩)
    have hw13 := Sat.bring (l₁ := [G, N]) hw12
    clear hw11 hw12 hlr HOP
    go_wp2_with fail
    go_loopw [16] (fun i wr => ∃ (q : Nat) (E : Hp), q ≤ xs.length ∧ i = .int .i64 q ∧ Sat σ wr (E :: G :: N :: Hp.one nb (.cells (outV h) 29 (0, 0)) :: Hs) ∧ Eager (0 < xs.length → ∃ ge cur, A7 = some ⟨ge, 0, none⟩ ∧ E ge = some (.cells cur 32 (0, 0)) ∧ xs.length * 34 ≤ cur.size)) (fun i _ => xs.length - (intOf i).toNat)
    case atStart => exact ⟨0, N7, by omega, rfl, hw13, ⟨HOWN.out⟩⟩
    case round =>
      obtain ⟨q, E, hq, rfl, hwl, hb⟩ := hrel
      clear hw13 HOWN
      by_cases hql : q < xs.length
      · obtain ⟨ge, cur, rfl, hE, hsz⟩ := hb.out (by omega)
        have hqi : (q : Int) < xs.length := by omega
        have hq0 : (0 : Int) ≤ q := by omega
        have hqc : q * 34 < cur.size := by omega
        obtain ⟨cv, hcv⟩ : ∃ cv, cur[q * 34]? = some cv := ⟨_, Array.getElem?_eq_getElem hqc⟩
        have hcell : wr.cell? ⟨ge, q * 34, none⟩ = some cv := hwl.m_cell hE hcv
        have hfree := heap_free (hwl.le _ _ hE) (q * 34)
        have hbl := hwl.lt List.mem_cons_self hE
        have HU := Lib.hid (hwl.upd hE (o := q * 34) (.int .i64 99))
        have HN : Hid (∃ ge' cur', (some ⟨ge, 0, none⟩ : Option Addr) = some ⟨ge', 0, none⟩ ∧ (Hp.upd E ge (.cells (cur.setIfInBounds (q * 34) (.int .i64 99)) 32 (0, 0))) ge' = some (.cells cur' 32 (0, 0)) ∧ xs.length * 34 ≤ cur'.size) := Lib.hid ⟨ge, _, rfl, Hp.upd_self _ _ _, by rw [Array.size_setIfInBounds]; exact hsz⟩
        clear hb hE hsz hwl hqc hcv
        go_wp2
        exact ⟨⟨q + 1, _, by omega, by go_num, HU.out, ⟨fun _ => HN.out⟩⟩, by simp [intOf]; omega⟩
      · obtain rfl : q = xs.length := by omega
        clear hb hql
        go_wp2_with fail
        refine (entries_any wr hwl (List.mem_cons_of_mem _ List.mem_cons_self) (List.mem_cons_of_mem _ (List.mem_cons_of_mem _ List.mem_cons_self)) HLR.out).mono ?_
        rintro e w14 ⟨v9, E9, rfl, hw14, ho9⟩
        have HS9 := Lib.hid (ho9.isSl (d := kE) (HREP.out _) rfl (Hp.le_refl _))
        obtain ⟨A9, c9, rfl, _⟩ := ho9.slice
        have HSN : Hid (∀ w', Sat σ w' (E9 :: (E :: G :: N :: Hp.one nb (.cells (outV h) 29 (0, 0)) :: Hs)) → Calls Tryd.prog 11 #[.slice A9 xs.length c9, .slice A xs.length c] w' fun e w2 => e = .returned (.bool true) ∧ Sat σ w2 (E9 :: (E :: G :: N :: Hp.one nb (.cells (outV h) 29 (0, 0)) :: Hs))) := Lib.hid (fun w' h => HSM.out _ _ E9 H1 w' _ h List.mem_cons_self (List.mem_cons_of_mem _ (List.mem_cons_of_mem _ (List.mem_cons_of_mem _ (List.mem_cons_of_mem _ (List.mem_cons_of_mem _ hH1))))) HS9.out HS1.out)
        have HWK2 : Hid (∀ w', Sat σ w' (E9 :: (E :: G :: N :: Hp.one nb (.cells (outV h) 29 (0, 0)) :: Hs)) → Calls Tryd.prog 8 #[] w' fun e w2 => e = .returned (.bool true) ∧ Sat σ w2 (E9 :: (E :: G :: N :: Hp.one nb (.cells (outV h) 29 (0, 0)) :: Hs))) := Lib.hid (fun w' h => HWK.out w' _ h (List.mem_cons_of_mem _ (List.mem_cons_of_mem _ (List.mem_cons_of_mem _ (List.mem_cons_of_mem _ (List.mem_cons_of_mem _ hH))))))
        clear hwl ho9 HSM HWK
        go_wp2_with (first
          | (go_at_call 11; refine (HSN.out _ (by assumption)).mono ?_; rintro e wn ⟨rfl, hwn⟩)
          | (go_at_call 8; refine (HWK2.out _ (by assumption)).mono ?_; rintro e wm ⟨rfl, hwm⟩))
        go_ret
        exact ⟨rfl, hwm.drop.drop.drop.drop.drop⟩
end
end Go.Proofs.YteggcfcjajpcgaaDoor
