/- Walks: the reference's Put, where an entry is kept. -/
import Derived.Test.YtfieipigbdopaaaT5
set_option linter.unusedVariables false
set_option linter.unusedSimpArgs false
namespace Go.Proofs.Ytfieipigbdopaaa
open Go.RowKit
set_option maxHeartbeats 20000000
section
variable {σ : World} {Hs : List Hp} {H M N Ha : Hp}
theorem RSto.hand {b : Nat} {keep : Int} {hand : Nat} {xs : List SE} (h : RSto M b keep hand xs) {h' : Nat} (hh : h' < xs.length) {v : Int} (hv : v = h') (w : World) (hw : Sat σ w (M :: Hs)) :
    ∃ M', Sat σ (w.setCell ⟨b, 1, none⟩ (.int .i64 v)) (M' :: Hs) ∧ RSto M' b keep h' xs := by
  subst hv
  obtain ⟨A, c, hb, hsl, hhead⟩ := h.tab.head
  obtain ⟨h1, h2⟩ := hhead [.int .i64 keep, .int .i64 h'] [] (by simp [Value.ownBlock])
  exact ⟨_, hw.upd hb (o := 1) (.int .i64 h'), ⟨h1, h.ok.hand hh⟩⟩
def RPutP (σ : World) (Hs : List Hp) (b : Nat) (keep : Int) (code : Int) (r : List SE × Nat) (e : Ending) (w' : World) : Prop := e = .returned (.int .i64 code) ∧ ∃ M', Sat σ w' (M' :: Hs) ∧ RSto M' b keep r.2 r.1
theorem rput_ok (b : Nat) (keep : Int) (hand : Nat) (xs : List SE) (now age : Int) (k : ByteArray) (v : Value) (bs : List Int) (w : World) (hw : Sat σ w (M :: Hs)) (hS : RSto M b keep hand xs) (hHa : Ha ∈ Hs) (hv : kB.IsSl Ha v bs) (hs : k.size ≤ 9223372036854775807) (hE : putE keep xs now k bs.length age = 0) :
    Calls Try.prog 23 #[.pointer (some ⟨b, 0, none⟩), .int .i64 now, .string k, v, .int .i64 age] w (RPutP σ Hs b keep 0 (putS xs hand now k bs age)) := by
  obtain ⟨A', c', hb, hsl⟩ := hS.cells
  obtain ⟨cells, hcs, hsrc⟩ := src_any (P := Try.prog) (σ := σ) (w := w) (Hs := Hs) hv (t := 23) Try.underlying23
  have HSRC := Lib.hid hsrc; have HCS := Lib.hid hcs
  obtain ⟨Av, cv, rfl, hcv1, hcv2, _⟩ := hv.form
  have hkp := hS.ok.kp
  have hlen := hS.ok.len
  have hcap := hsl.cap
  have cb0 : w.cell? ⟨b, 2, none⟩ = some (.slice A' xs.length c') := hw.m_cell hb rfl
  have cb1 : w.cell? ⟨b, 0, none⟩ = some (.int .i64 keep) := hw.m_cell hb rfl
  have HS := Lib.hid hS
  have h1 : askE true now k = 0 := by
    unfold putE at hE
    by_cases h : askE true now k = 0
    · exact h
    · rw [if_pos h] at hE; exact absurd hE h
  unfold putE at hE
  rw [if_neg (by rw [h1]; simp)] at hE
  have h2 : ¬ (age < 1 ∨ 1048576 < age) := fun h => by rw [if_pos h] at hE; cases hE
  rw [if_neg h2] at hE
  have h3 : ¬ (keep < bs.length) := fun h => by rw [if_pos h] at hE; cases hE
  rw [if_neg h3] at hE
  have h4 : ¬ (xs.length = 0) := fun h => by rw [if_pos h] at hE; cases hE
  clear hE
  have hnow := (askE_ok h1).1
  have h5 : 1 ≤ age ∧ age ≤ 1048576 := by omega
  have hlz : ((xs.length : Int) == 0) = false := beq_eq_false_iff_ne.2 (by omega)
  have HOKE : Hid (OkSE ⟨k, bs, now, age, false⟩) := Lib.hid ⟨hnow.1, hnow.2, by show bs.length ≤ 65536; omega⟩
  have g2 : momB now = true := by simp [momB, hnow]
  have g3 : keyB k = true := by obtain ⟨_, g, g'⟩ := askE_ok h1; simp [keyB, g, g']
  clear hb hsl hS hv hsrc hcs h1
  go_enter Try.func23, Try.ntmps23
  go_wp2_with (first | (go_at_call 35; refine (when_any _ _).mono ?_; rintro e w3 ⟨rfl, rfl⟩) | (go_at_call 36; refine (key_any _ hs _).mono ?_; rintro e w3 ⟨rfl, rfl⟩))
  refine (find_any b keep hand xs HS.out k w _ hw (by simp)).mono ?_
  rintro e w4 ⟨rfl, hw4⟩
  rcases idx_cases (keyP k) xs with ⟨hi, _⟩ | ⟨q, x, hi, hx, hx2, hx3, hx4⟩
  rotate_left
  · have hq := (List.getElem?_eq_some_iff.1 hx).1
    have HR : Hid ((xs.set q ⟨k, bs, now, age, false⟩, hand) = putS xs hand now k bs age) := Lib.hid (by unfold putS placeS; rw [if_pos (by rw [hi]; omega), hi]; rfl)
    rw [hi]
    clear hi hx hx2 hx3 hx4 x cb0 cb1 hw
    -- done<
    obtain ⟨x, hx⟩ : ∃ x, xs[q]? = some x := ⟨_, List.getElem?_eq_getElem hq⟩
    obtain ⟨g, c', cur, Au, cu, hb, hsl, hgb, hg, k0, k1, k2, k3, k4, _, _, hput⟩ := tab_at HS.out.tab hx
    have hcap := hsl.cap
    have hylen := HS.out.ok.len
    have HG := Lib.hid hg; have HB := Lib.hid hb
    have HK := Lib.hid (And.intro k0 (And.intro k1 (And.intro k2 (And.intro k3 k4))))
    have HPUT := Lib.hid hput
    have hati : (q : Int) < xs.length := by omega
    have HSS : Hid (∀ w' Hs', Sat σ w' Hs' → M ∈ Hs' → (w'.cell? ⟨b, 2, none⟩ = some (.slice (some ⟨g, 0, none⟩) xs.length c'))) := Lib.hid (fun w' Hs' h hm => h.cellAt hm (Hp.cell_of HB.out rfl))
    clear hx hb hsl hg k0 k1 k2 k3 k4 hput
    go_wp2
    go_region_held3 (fun w' => w'.cell? ⟨b, 2, none⟩ = some (.slice (some ⟨g, 0, none⟩) xs.length c'))
      (first | exact HSS.out _ _ hw4.drew (by simp) | exact HSS.out _ _ (hw4.drew.alloc _) (by simp) | exact HSS.out _ _ hw8 (by simp) | (rw [World.cell?_setCell_far _ _ _ _ hgb, World.cell?_setCell_far _ _ _ _ hgb, World.cell?_setCell_far _ _ _ _ hgb, World.cell?_setCell_far _ _ _ _ hgb, World.cell?_setCell_far _ _ _ _ hgb]; exact HSS.out _ _ hw8 (by simp)))
      (first
        | (refine step_app (hw4.drew.alloc _) rfl (.tmp 126) (.tmp 127) 23 23 5 (.int .u8 0) 1 1 rfl Try.underlying23 (by kernel_rfl) rfl (by decide) _ _ 0 bs.length [] cells rfl rfl (own_lit0 _ _ _) (HSRC.out _ _ (hw4.drew.alloc _) (by simp [hHa])) (by omega) ?_
           intro A8 c8 w8 N8 hw8 ho8 _ _
           rw [Nat.zero_add, List.nil_append] at ho8
           have e0 := hw8.drop.m_cell HG.out HK.out.1
           have e1 := hw8.drop.m_cell HG.out HK.out.2.1
           have e2 := hw8.drop.m_cell HG.out HK.out.2.2.1
           have e3 := hw8.drop.m_cell HG.out HK.out.2.2.2.1
           have e4 := hw8.drop.m_cell HG.out HK.out.2.2.2.2
           have hgf := hw8.drop.le g _ HG.out
           have f0 := heap_free hgf (q * 5); have f1 := heap_free hgf (q * 5 + 1); have f2 := heap_free hgf (q * 5 + 2); have f3 := heap_free hgf (q * 5 + 3); have f4 := heap_free hgf (q * 5 + 4)
           have HFIN := Lib.hid (HPUT.out ⟨k, bs, now, age, false⟩ _ _ _ _ _ hw8.swap (ho8.isSl (d := kB) (bytes_reps HCS.out) rfl (Hp.le_refl _)))
           clear hgf))
    go_wp2
    go_ret
    obtain ⟨M9, h1, h2, h3, _⟩ := HFIN.out
    exact ⟨rfl, M9, h1, by rw [← HR.out]; exact ⟨h2, HS.out.ok.put q HOKE.out⟩⟩
    -- done>
  have HI := Lib.hid hi
  rw [hi]
  clear hi
  go_wp2_with fail
  refine (find_any b keep hand xs HS.out ⟨#[]⟩ w4 _ hw4 (by simp)).mono ?_
  rintro e w5 ⟨rfl, hw5⟩
  rcases idx_cases (keyP ⟨#[]⟩) xs with ⟨hi, _⟩ | ⟨q, x, hi, hx, hx2, hx3, hx4⟩
  rotate_left
  · have hq := (List.getElem?_eq_some_iff.1 hx).1
    have HR : Hid ((xs.set q ⟨k, bs, now, age, false⟩, hand) = putS xs hand now k bs age) := Lib.hid (by unfold putS placeS; rw [if_neg (by rw [HI.out]; omega), if_pos (by rw [hi]; omega), hi]; rfl)
    rw [hi]
    clear hi hx hx2 hx3 hx4 x cb0 cb1 hw hw4
    -- done<
    obtain ⟨x, hx⟩ : ∃ x, xs[q]? = some x := ⟨_, List.getElem?_eq_getElem hq⟩
    obtain ⟨g, c', cur, Au, cu, hb, hsl, hgb, hg, k0, k1, k2, k3, k4, _, _, hput⟩ := tab_at HS.out.tab hx
    have hcap := hsl.cap
    have hylen := HS.out.ok.len
    have HG := Lib.hid hg; have HB := Lib.hid hb
    have HK := Lib.hid (And.intro k0 (And.intro k1 (And.intro k2 (And.intro k3 k4))))
    have HPUT := Lib.hid hput
    have hati : (q : Int) < xs.length := by omega
    have HSS : Hid (∀ w' Hs', Sat σ w' Hs' → M ∈ Hs' → (w'.cell? ⟨b, 2, none⟩ = some (.slice (some ⟨g, 0, none⟩) xs.length c'))) := Lib.hid (fun w' Hs' h hm => h.cellAt hm (Hp.cell_of HB.out rfl))
    clear hx hb hsl hg k0 k1 k2 k3 k4 hput
    go_wp2
    go_region_held3 (fun w' => w'.cell? ⟨b, 2, none⟩ = some (.slice (some ⟨g, 0, none⟩) xs.length c'))
      (first | exact HSS.out _ _ hw5.drew (by simp) | exact HSS.out _ _ (hw5.drew.alloc _) (by simp) | exact HSS.out _ _ hw8 (by simp) | (rw [World.cell?_setCell_far _ _ _ _ hgb, World.cell?_setCell_far _ _ _ _ hgb, World.cell?_setCell_far _ _ _ _ hgb, World.cell?_setCell_far _ _ _ _ hgb, World.cell?_setCell_far _ _ _ _ hgb]; exact HSS.out _ _ hw8 (by simp)))
      (first
        | (refine step_app (hw5.drew.alloc _) rfl (.tmp 126) (.tmp 127) 23 23 5 (.int .u8 0) 1 1 rfl Try.underlying23 (by kernel_rfl) rfl (by decide) _ _ 0 bs.length [] cells rfl rfl (own_lit0 _ _ _) (HSRC.out _ _ (hw5.drew.alloc _) (by simp [hHa])) (by omega) ?_
           intro A8 c8 w8 N8 hw8 ho8 _ _
           rw [Nat.zero_add, List.nil_append] at ho8
           have e0 := hw8.drop.m_cell HG.out HK.out.1
           have e1 := hw8.drop.m_cell HG.out HK.out.2.1
           have e2 := hw8.drop.m_cell HG.out HK.out.2.2.1
           have e3 := hw8.drop.m_cell HG.out HK.out.2.2.2.1
           have e4 := hw8.drop.m_cell HG.out HK.out.2.2.2.2
           have hgf := hw8.drop.le g _ HG.out
           have f0 := heap_free hgf (q * 5); have f1 := heap_free hgf (q * 5 + 1); have f2 := heap_free hgf (q * 5 + 2); have f3 := heap_free hgf (q * 5 + 3); have f4 := heap_free hgf (q * 5 + 4)
           have HFIN := Lib.hid (HPUT.out ⟨k, bs, now, age, false⟩ _ _ _ _ _ hw8.swap (ho8.isSl (d := kB) (bytes_reps HCS.out) rfl (Hp.le_refl _)))
           clear hgf))
    go_wp2
    go_ret
    obtain ⟨M9, h1, h2, h3, _⟩ := HFIN.out
    exact ⟨rfl, M9, h1, by rw [← HR.out]; exact ⟨h2, HS.out.ok.put q HOKE.out⟩⟩
    -- done>
  have HI2 := Lib.hid hi
  rw [hi]
  clear hi
  have HR0 : Hid (((turnS now (askedN xs + 1) xs hand).1.set (turnS now (askedN xs + 1) xs hand).2.2 ⟨k, bs, now, age, false⟩, (turnS now (askedN xs + 1) xs hand).2.1) = putS xs hand now k bs age) := Lib.hid (by unfold putS placeS; rw [if_neg (by rw [HI.out]; omega), if_neg (by rw [HI2.out]; omega)])
  generalize hr0 : turnS now (askedN xs + 1) xs hand = r at *
  have HRR := Lib.hid hr0
  clear hr0 hw hw4 cb0 cb1
  go_wp2
  go_loopg [] (askedN xs + 1) (fun gk wr => ∃ (M1 : Hp) (ys : List SE) (h : Nat), Sat σ wr (M1 :: Hs) ∧ RSto M1 b keep h ys ∧ Eager (askedN ys < gk ∧ 0 < ys.length ∧ ys.length = xs.length ∧ turnS now gk ys h = r))
  case atStart => exact ⟨M, xs, hand, hw5, HS.out, ⟨by omega, by omega, rfl, HRR.out⟩⟩
  case round =>
    obtain ⟨M1, ys, h, hwr, hSr, hE⟩ := hrel
    obtain ⟨f, rfl⟩ : ∃ f, gk = f + 1 := ⟨gk - 1, by have := hE.out.1; omega⟩
    clear hw5
    have hh : h < ys.length := by have := hSr.ok.hnd; have := hE.out.2.1; omega
    obtain ⟨x, hx⟩ : ∃ x, ys[h]? = some x := ⟨_, List.getElem?_eq_getElem hh⟩
    have hyl := hSr.ok.len
    have hok := hSr.ok.ok x (List.mem_of_getElem? hx)
    have HX := Lib.hid hx; have HSR := Lib.hid hSr
    obtain ⟨g, c, cur, Au, cu, hb, hsl, hgb, hg, k0, k1, k2, k3, k4, hu, hflag, _⟩ := tab_at hSr.tab hx
    have hcap := hsl.cap
    have HB := Lib.hid hb; have HG := Lib.hid hg; have HFLAG := Lib.hid hflag
    have HK := Lib.hid (And.intro k0 (And.intro k1 (And.intro k2 (And.intro k3 k4))))
    have hhi : (h : Int) < ys.length := by omega
    have hlz2 : ((ys.length : Int) == 0) = false := beq_eq_false_iff_ne.2 (by omega)
    have m1 : IntKind.i64.wrap ((h : Int) + 1) = (h : Int) + 1 := IntWalk.i64_in _ (by omega)
    have hmod : ((h : Int) + 1).tmod ys.length = (((h + 1) % ys.length : Nat) : Int) := by
      rw [Int.tmod_eq_emod_of_nonneg (by omega)]; simp
    have hml : (h + 1) % ys.length < ys.length := Nat.mod_lt _ (by omega)
    have HSS : Hid (∀ w' Hs', Sat σ w' Hs' → M1 ∈ Hs' → (w'.cell? ⟨b, 2, none⟩ = some (.slice (some ⟨g, 0, none⟩) ys.length c) ∧ w'.cell? ⟨b, 1, none⟩ = some (.int .i64 h) ∧ w'.cell? ⟨g, h * 5, none⟩ = some (.string x.key) ∧ w'.cell? ⟨g, h * 5 + 1, none⟩ = some (.slice Au x.b.length cu) ∧ w'.cell? ⟨g, h * 5 + 2, none⟩ = some (.int .i64 x.at_) ∧ w'.cell? ⟨g, h * 5 + 3, none⟩ = some (.int .i64 x.age) ∧ w'.cell? ⟨g, h * 5 + 4, none⟩ = some (.bool x.asked))) := Lib.hid (fun w' Hs' h hm => ⟨h.cellAt hm (Hp.cell_of HB.out rfl), h.cellAt hm (Hp.cell_of HB.out rfl), h.cellAt hm (Hp.cell_of HG.out HK.out.1), h.cellAt hm (Hp.cell_of HG.out HK.out.2.1), h.cellAt hm (Hp.cell_of HG.out HK.out.2.2.1), h.cellAt hm (Hp.cell_of HG.out HK.out.2.2.2.1), h.cellAt hm (Hp.cell_of HG.out HK.out.2.2.2.2)⟩)
    clear hx hSr hb hsl hg k0 k1 k2 k3 k4 hu hflag
    cases ha : x.asked
    · have HC := Lib.hid (turnS_cold (f := f) HX.out (show hotB now x = false by unfold hotB; rw [ha]; rfl))
      rw [ha] at HSS
      obtain ⟨cb0, cb1, e0, e1, e2, e3, e4⟩ := HSS.out _ _ hwr (by simp)
      go_wp2
      go_quiet (fail)
      clear cb0 cb1 e0 e1 e2 e3 e4
      have hw6 := hwr.drewN nq
      generalize World.drewN wr nq = w6 at *
      clear hwr
      have HR : Hid ((ys.set h ⟨k, bs, now, age, false⟩, (h + 1) % ys.length) = putS xs hand now k bs age) := Lib.hid (by rw [← HR0.out, ← hE.out.2.2.2, HC.out])
      have cb0 : w6.cell? ⟨b, 2, none⟩ = some (.slice (some ⟨g, 0, none⟩) ys.length c) := hw6.m_cell HB.out rfl
      have cb1 : w6.cell? ⟨b, 1, none⟩ = some (.int .i64 h) := hw6.m_cell HB.out rfl
      have fb1 := heap_free (hw6.le b _ HB.out) 1
      go_wp2
      refine wp_region_quiet_tail 14 (by kernel_rfl) (by kernel_rfl) ?_
      simp only [List.take_succ_cons, List.take_zero, List.drop_succ_cons, List.drop_zero]
      repeat (go_big_quiet_step (fail))
      refine wpQuiet_nil ?_
      intro _ hw'
      obtain ⟨nq, hw''⟩ := hw'
      subst hw''
      obtain ⟨M2, hw7, hS7⟩ := HSR.out.hand hml (v := ((h : Int) + 1) % ys.length) (by simp) _ (hw6.drewN nq)
      have HS7 := Lib.hid hS7
      go_wp2
      generalize World.setCell _ _ _ = w7 at *
      clear cb0 cb1 fb1 hS7 hgb hhi hml hcap hyl hw6
      -- done<
      obtain ⟨x, hx⟩ : ∃ x, ys[h]? = some x := ⟨_, List.getElem?_eq_getElem hh⟩
      obtain ⟨g, c', cur, Au, cu, hb, hsl, hgb, hg, k0, k1, k2, k3, k4, _, _, hput⟩ := tab_at HS7.out.tab hx
      have hcap := hsl.cap
      have hylen := HS7.out.ok.len
      have HG := Lib.hid hg; have HB := Lib.hid hb
      have HK := Lib.hid (And.intro k0 (And.intro k1 (And.intro k2 (And.intro k3 k4))))
      have HPUT := Lib.hid hput
      have hati : (h : Int) < ys.length := by omega
      have HSS : Hid (∀ w' Hs', Sat σ w' Hs' → M2 ∈ Hs' → (w'.cell? ⟨b, 2, none⟩ = some (.slice (some ⟨g, 0, none⟩) ys.length c'))) := Lib.hid (fun w' Hs' h hm => h.cellAt hm (Hp.cell_of HB.out rfl))
      clear hx hb hsl hg k0 k1 k2 k3 k4 hput
      go_wp2
      go_region_held3 (fun w' => w'.cell? ⟨b, 2, none⟩ = some (.slice (some ⟨g, 0, none⟩) ys.length c'))
        (first | exact HSS.out _ _ hw7.drew (by simp) | exact HSS.out _ _ (hw7.drew.alloc _) (by simp) | exact HSS.out _ _ hw8 (by simp) | (rw [World.cell?_setCell_far _ _ _ _ hgb, World.cell?_setCell_far _ _ _ _ hgb, World.cell?_setCell_far _ _ _ _ hgb, World.cell?_setCell_far _ _ _ _ hgb, World.cell?_setCell_far _ _ _ _ hgb]; exact HSS.out _ _ hw8 (by simp)))
        (first
          | (refine step_app (hw7.drew.alloc _) rfl (.tmp 126) (.tmp 127) 23 23 5 (.int .u8 0) 1 1 rfl Try.underlying23 (by kernel_rfl) rfl (by decide) _ _ 0 bs.length [] cells rfl rfl (own_lit0 _ _ _) (HSRC.out _ _ (hw7.drew.alloc _) (by simp [hHa])) (by omega) ?_
             intro A8 c8 w8 N8 hw8 ho8 _ _
             rw [Nat.zero_add, List.nil_append] at ho8
             have e0 := hw8.drop.m_cell HG.out HK.out.1
             have e1 := hw8.drop.m_cell HG.out HK.out.2.1
             have e2 := hw8.drop.m_cell HG.out HK.out.2.2.1
             have e3 := hw8.drop.m_cell HG.out HK.out.2.2.2.1
             have e4 := hw8.drop.m_cell HG.out HK.out.2.2.2.2
             have hgf := hw8.drop.le g _ HG.out
             have f0 := heap_free hgf (h * 5); have f1 := heap_free hgf (h * 5 + 1); have f2 := heap_free hgf (h * 5 + 2); have f3 := heap_free hgf (h * 5 + 3); have f4 := heap_free hgf (h * 5 + 4)
             have HFIN := Lib.hid (HPUT.out ⟨k, bs, now, age, false⟩ _ _ _ _ _ hw8.swap (ho8.isSl (d := kB) (bytes_reps HCS.out) rfl (Hp.le_refl _)))
             clear hgf))
      go_wp2
      go_ret
      obtain ⟨M9, h1, h2, h3, _⟩ := HFIN.out
      exact ⟨rfl, M9, h1, by rw [← HR.out]; exact ⟨h2, HS7.out.ok.put h HOKE.out⟩⟩
      -- done>
    · have HA := Lib.hid ha
      rw [ha] at HSS
      cases hf : freshB x.at_ x.age now
      · have HC := Lib.hid (turnS_cold (f := f) HX.out (show hotB now x = false by unfold hotB; rw [hf, Bool.and_false]))
        go_wp2
        go_region_held3 (fun w' => w'.cell? ⟨b, 2, none⟩ = some (.slice (some ⟨g, 0, none⟩) ys.length c) ∧ w'.cell? ⟨b, 1, none⟩ = some (.int .i64 h) ∧ w'.cell? ⟨g, h * 5, none⟩ = some (.string x.key) ∧ w'.cell? ⟨g, h * 5 + 1, none⟩ = some (.slice Au x.b.length cu) ∧ w'.cell? ⟨g, h * 5 + 2, none⟩ = some (.int .i64 x.at_) ∧ w'.cell? ⟨g, h * 5 + 3, none⟩ = some (.int .i64 x.age) ∧ w'.cell? ⟨g, h * 5 + 4, none⟩ = some (.bool true))
          (first | exact HSS.out _ _ hwr.drew (by simp) | exact HSS.out _ _ hw6 (by simp))
          (first | (go_at_call 38; refine (rfresh_any x.key _ x.at_ x.age now true _ hnow ⟨hok.1, hok.2.1⟩ (by rfl) hwr.drew).mono ?_; rintro e w6 ⟨rfl, hw6⟩; rw [hf]))
        clear hwr
        have HR : Hid ((ys.set h ⟨k, bs, now, age, false⟩, (h + 1) % ys.length) = putS xs hand now k bs age) := Lib.hid (by rw [← HR0.out, ← hE.out.2.2.2, HC.out])
        have cb0 : w6.cell? ⟨b, 2, none⟩ = some (.slice (some ⟨g, 0, none⟩) ys.length c) := hw6.m_cell HB.out rfl
        have cb1 : w6.cell? ⟨b, 1, none⟩ = some (.int .i64 h) := hw6.m_cell HB.out rfl
        have fb1 := heap_free (hw6.le b _ HB.out) 1
        go_wp2
        refine wp_region_quiet_tail 14 (by kernel_rfl) (by kernel_rfl) ?_
        simp only [List.take_succ_cons, List.take_zero, List.drop_succ_cons, List.drop_zero]
        repeat (go_big_quiet_step (fail))
        refine wpQuiet_nil ?_
        intro _ hw'
        obtain ⟨nq, hw''⟩ := hw'
        subst hw''
        obtain ⟨M2, hw7, hS7⟩ := HSR.out.hand hml (v := ((h : Int) + 1) % ys.length) (by simp) _ (hw6.drewN nq)
        have HS7 := Lib.hid hS7
        go_wp2
        generalize World.setCell _ _ _ = w7 at *
        clear cb0 cb1 fb1 hS7 hgb hhi hml hcap hyl hw6
        -- done<
        obtain ⟨x, hx⟩ : ∃ x, ys[h]? = some x := ⟨_, List.getElem?_eq_getElem hh⟩
        obtain ⟨g, c', cur, Au, cu, hb, hsl, hgb, hg, k0, k1, k2, k3, k4, _, _, hput⟩ := tab_at HS7.out.tab hx
        have hcap := hsl.cap
        have hylen := HS7.out.ok.len
        have HG := Lib.hid hg; have HB := Lib.hid hb
        have HK := Lib.hid (And.intro k0 (And.intro k1 (And.intro k2 (And.intro k3 k4))))
        have HPUT := Lib.hid hput
        have hati : (h : Int) < ys.length := by omega
        have HSS : Hid (∀ w' Hs', Sat σ w' Hs' → M2 ∈ Hs' → (w'.cell? ⟨b, 2, none⟩ = some (.slice (some ⟨g, 0, none⟩) ys.length c'))) := Lib.hid (fun w' Hs' h hm => h.cellAt hm (Hp.cell_of HB.out rfl))
        clear hx hb hsl hg k0 k1 k2 k3 k4 hput
        go_wp2
        go_region_held3 (fun w' => w'.cell? ⟨b, 2, none⟩ = some (.slice (some ⟨g, 0, none⟩) ys.length c'))
          (first | exact HSS.out _ _ hw7.drew (by simp) | exact HSS.out _ _ (hw7.drew.alloc _) (by simp) | exact HSS.out _ _ hw8 (by simp) | (rw [World.cell?_setCell_far _ _ _ _ hgb, World.cell?_setCell_far _ _ _ _ hgb, World.cell?_setCell_far _ _ _ _ hgb, World.cell?_setCell_far _ _ _ _ hgb, World.cell?_setCell_far _ _ _ _ hgb]; exact HSS.out _ _ hw8 (by simp)))
          (first
            | (refine step_app (hw7.drew.alloc _) rfl (.tmp 126) (.tmp 127) 23 23 5 (.int .u8 0) 1 1 rfl Try.underlying23 (by kernel_rfl) rfl (by decide) _ _ 0 bs.length [] cells rfl rfl (own_lit0 _ _ _) (HSRC.out _ _ (hw7.drew.alloc _) (by simp [hHa])) (by omega) ?_
               intro A8 c8 w8 N8 hw8 ho8 _ _
               rw [Nat.zero_add, List.nil_append] at ho8
               have e0 := hw8.drop.m_cell HG.out HK.out.1
               have e1 := hw8.drop.m_cell HG.out HK.out.2.1
               have e2 := hw8.drop.m_cell HG.out HK.out.2.2.1
               have e3 := hw8.drop.m_cell HG.out HK.out.2.2.2.1
               have e4 := hw8.drop.m_cell HG.out HK.out.2.2.2.2
               have hgf := hw8.drop.le g _ HG.out
               have f0 := heap_free hgf (h * 5); have f1 := heap_free hgf (h * 5 + 1); have f2 := heap_free hgf (h * 5 + 2); have f3 := heap_free hgf (h * 5 + 3); have f4 := heap_free hgf (h * 5 + 4)
               have HFIN := Lib.hid (HPUT.out ⟨k, bs, now, age, false⟩ _ _ _ _ _ hw8.swap (ho8.isSl (d := kB) (bytes_reps HCS.out) rfl (Hp.le_refl _)))
               clear hgf))
        go_wp2
        go_ret
        obtain ⟨M9, h1, h2, h3, _⟩ := HFIN.out
        exact ⟨rfl, M9, h1, by rw [← HR.out]; exact ⟨h2, HS7.out.ok.put h HOKE.out⟩⟩
        -- done>
      · have HC := Lib.hid (turnS_hot (f := f) HX.out (show hotB now x = true by unfold hotB; rw [hf, HA.out]; rfl))
        have HAC := Lib.hid (asked_clr HX.out HA.out)
        go_wp2
        go_region_held3 (fun w' => w'.cell? ⟨b, 2, none⟩ = some (.slice (some ⟨g, 0, none⟩) ys.length c) ∧ w'.cell? ⟨b, 1, none⟩ = some (.int .i64 h) ∧ w'.cell? ⟨g, h * 5, none⟩ = some (.string x.key) ∧ w'.cell? ⟨g, h * 5 + 1, none⟩ = some (.slice Au x.b.length cu) ∧ w'.cell? ⟨g, h * 5 + 2, none⟩ = some (.int .i64 x.at_) ∧ w'.cell? ⟨g, h * 5 + 3, none⟩ = some (.int .i64 x.age) ∧ w'.cell? ⟨g, h * 5 + 4, none⟩ = some (.bool true))
          (first | exact HSS.out _ _ hwr.drew (by simp) | exact HSS.out _ _ hw6 (by simp))
          (first | (go_at_call 38; refine (rfresh_any x.key _ x.at_ x.age now true _ hnow ⟨hok.1, hok.2.1⟩ (by rfl) hwr.drew).mono ?_; rintro e w6 ⟨rfl, hw6⟩; rw [hf]))
        clear hwr
        obtain ⟨cb0, cb1, e0, e1, e2, e3, e4⟩ := HSS.out _ _ hw6 (by simp)
        have fg4 := heap_free (hw6.le g _ HG.out) (h * 5 + 4)
        go_wp2
        refine wp_region_quiet_tail 10 (by kernel_rfl) (by kernel_rfl) ?_
        simp only [List.take_succ_cons, List.take_zero, List.drop_succ_cons, List.drop_zero]
        repeat (go_big_quiet_step (fail))
        refine wpQuiet_nil ?_
        intro _ hw'
        obtain ⟨nq, hw''⟩ := hw'
        subst hw''
        obtain ⟨M2, hw7, hT2, hk2, hb2⟩ := HFLAG.out false _ _ _ (hw6.drewN nq)
        have hb3 := hb2.trans HB.out
        go_wp2
        clear cb0 cb1 e0 e1 e2 e3 e4 fg4
        generalize World.setCell _ _ _ = w7 at *
        have cb0 : w7.cell? ⟨b, 2, none⟩ = some (.slice (some ⟨g, 0, none⟩) ys.length c) := hw7.m_cell hb3 rfl
        have cb1 : w7.cell? ⟨b, 1, none⟩ = some (.int .i64 h) := hw7.m_cell hb3 rfl
        have fb1 := heap_free (hw7.le b _ hb3) 1
        have HS7 : Hid (RSto M2 b keep h (ys.set h (clr x))) := Lib.hid ⟨hT2, HSR.out.ok.put h hok⟩
        clear hb3 hT2 hk2 hb2
        refine wp_region_quiet_tail 14 (by kernel_rfl) (by kernel_rfl) ?_
        simp only [List.take_succ_cons, List.take_zero, List.drop_succ_cons, List.drop_zero]
        repeat (go_big_quiet_step (fail))
        refine wpQuiet_nil ?_
        intro _ hw'
        obtain ⟨nq, hw''⟩ := hw'
        subst hw''
        go_wp2
        obtain ⟨M3, hw8, hS8⟩ := HS7.out.hand (h' := (h + 1) % ys.length) (by rw [List.length_set]; exact hml) (v := ((h : Int) + 1) % ys.length) (by simp) _ (hw7.drewN nq)
        go_roundg f
        case measure => omega
        case rel =>
          exact ⟨M3, _, _, hw8, hS8, ⟨by have i1 := HAC.out; have i2 := hE.out.1; omega, by simp; omega, by rw [List.length_set]; exact hE.out.2.2.1, by rw [← hE.out.2.2.2, HC.out]⟩⟩
end
end Go.Proofs.Ytfieipigbdopaaa
