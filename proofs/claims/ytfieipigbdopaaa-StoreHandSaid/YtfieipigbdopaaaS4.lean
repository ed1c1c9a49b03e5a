/- Walks: Put of a store. -/
import Derived.Test.YtfieipigbdopaaaS3
import Derived.Deep.RegionHeld3
set_option linter.unusedVariables false
set_option linter.unusedSimpArgs false
namespace Go.Proofs.Ytfieipigbdopaaa
open Go.RowKit
set_option maxHeartbeats 2000000
def putE (keep : Int) (xs : List SE) (now : Int) (k : ByteArray) (n : Nat) (age : Int) : Int :=
  if askE true now k ≠ 0 then askE true now k else if age < 1 ∨ 1048576 < age then 2 else if keep < n then 3 else if xs.length = 0 then 4 else 0
/-- The slot of a new entry, the hand, the slots ahead of it. -/
def placeS (xs : List SE) (hand : Nat) (now : Int) (k : ByteArray) : List SE × Nat × Nat :=
  if 0 ≤ idxI (keyP k) xs then (xs, hand, (idxI (keyP k) xs).toNat) else if 0 ≤ idxI (keyP ⟨#[]⟩) xs then (xs, hand, (idxI (keyP ⟨#[]⟩) xs).toNat) else turnS now (askedN xs + 1) xs hand
def putS (xs : List SE) (hand : Nat) (now : Int) (k : ByteArray) (bs : List Int) (age : Int) : List SE × Nat :=
  ((placeS xs hand now k).1.set (placeS xs hand now k).2.2 ⟨k, bs, now, age, false⟩, (placeS xs hand now k).2.1)
section
variable {σ : World} {Hs : List Hp} {H M N Ha : Hp}
theorem put_bad (b : Nat) (keep : Int) (hand : Nat) (xs : List SE) (now age : Int) (k : ByteArray) (A : Option Addr) (m c : Nat) (w : World) (hw : Sat σ w (M :: Hs)) (hS : Sto M b keep hand xs) (hs : k.size ≤ 9223372036854775807) (hm : m ≤ 9223372036854775807) (hE : putE keep xs now k m age ≠ 0) :
    Calls Try.prog 12 #[.pointer (some ⟨b, 0, none⟩), .int .i64 now, .string k, .slice A m c, .int .i64 age] w fun e w' => e = .returned (.int .i64 (putE keep xs now k m age)) ∧ Sat σ w' (M :: Hs) := by
  have HIS := Lib.hid (hS.is w hw (by simp))
  obtain ⟨A', c', hb, hsl⟩ := hS.cells
  have hkp := hS.ok.kp
  have hlen := hS.ok.len
  have cb0 : w.cell? ⟨b, 0, none⟩ = some (.slice A' xs.length c') := hw.m_cell hb rfl
  have cb1 : w.cell? ⟨b, 1, none⟩ = some (.int .i64 keep) := hw.m_cell hb rfl
  have HE := Lib.hid hE
  clear hb hsl hS hE
  by_cases h1 : askE true now k = 0
  rotate_left
  · have hq : (askE true now k != 0) = true := by rw [bne_iff_ne]; exact h1
    have H1 := Lib.hid h1
    clear h1
    go_enter Try.func12, Try.ntmps12
    go_wp2_with (go_at_call 29; refine (asks_any _ true now k _ HIS.out hs).mono ?_; rintro e w3 ⟨rfl, rfl⟩)
    go_ret
    exact ⟨by unfold putE; rw [if_pos H1.out]; rfl, hw⟩
  have H1 := Lib.hid h1
  by_cases h2 : age < 1
  · go_enter Try.func12, Try.ntmps12
    go_wp2_with (go_at_call 29; refine (asks_any _ true now k _ HIS.out hs).mono ?_; rintro e w3 ⟨rfl, rfl⟩)
    go_ret
    exact ⟨by unfold putE; rw [if_neg (by rw [H1.out]; simp), if_pos (.inl h2)]; rfl, hw⟩
  by_cases h3 : 1048576 < age
  · go_enter Try.func12, Try.ntmps12
    go_wp2_with (go_at_call 29; refine (asks_any _ true now k _ HIS.out hs).mono ?_; rintro e w3 ⟨rfl, rfl⟩)
    go_ret
    exact ⟨by unfold putE; rw [if_neg (by rw [H1.out]; simp), if_pos (.inr h3)]; rfl, hw⟩
  by_cases h4 : keep < m
  · go_enter Try.func12, Try.ntmps12
    go_wp2_with (go_at_call 29; refine (asks_any _ true now k _ HIS.out hs).mono ?_; rintro e w3 ⟨rfl, rfl⟩)
    go_ret
    exact ⟨by unfold putE; rw [if_neg (by rw [H1.out]; simp), if_neg (by omega), if_pos h4]; rfl, hw⟩
  by_cases h5 : xs.length = 0
  · rw [h5] at cb0
    go_enter Try.func12, Try.ntmps12
    go_wp2_with (go_at_call 29; refine (asks_any _ true now k _ HIS.out hs).mono ?_; rintro e w3 ⟨rfl, rfl⟩)
    go_ret
    exact ⟨by unfold putE; rw [if_neg (by rw [H1.out]; simp), if_neg (by omega), if_neg (by omega), if_pos h5]; rfl, hw⟩
  · exfalso
    apply HE.out
    unfold putE
    rw [if_neg (by rw [H1.out]; simp), if_neg (by omega), if_neg h4, if_neg h5]
def PutP (σ : World) (Hs : List Hp) (M : Hp) (b : Nat) (keep : Int) (code : Int) (r : List SE × Nat) (e : Ending) (w' : World) : Prop := e = .returned (.int .i64 code) ∧ ∃ M', Sat σ w' (M' :: Hs) ∧ Sto M' b keep r.2 r.1 ∧ Keep M b M'
theorem keyP_zero (x : SE) : keyP ⟨#[]⟩ x = sEq x.key ⟨#[]⟩ := rfl
/-- The end of Put: the slot is known. -/
theorem put_ok (b : Nat) (keep : Int) (hand : Nat) (xs : List SE) (now age : Int) (k : ByteArray) (v : Value) (bs : List Int) (w : World) (hw : Sat σ w (M :: Hs)) (hS : Sto M b keep hand xs) (hHa : Ha ∈ Hs) (hv : kB.IsSl Ha v bs) (hs : k.size ≤ 9223372036854775807) (hE : putE keep xs now k bs.length age = 0) :
    Calls Try.prog 12 #[.pointer (some ⟨b, 0, none⟩), .int .i64 now, .string k, v, .int .i64 age] w (PutP σ Hs M b keep 0 (putS xs hand now k bs age)) := by
  have HIS := Lib.hid (hS.is w hw (by simp))
  obtain ⟨A', c', hb, hsl⟩ := hS.cells
  obtain ⟨Av, cv, rfl, hcv1, hcv2, _⟩ := hv.form
  have hkp := hS.ok.kp
  have hlen := hS.ok.len
  have hcap := hsl.cap
  have cb0 : w.cell? ⟨b, 0, none⟩ = some (.slice A' xs.length c') := hw.m_cell hb rfl
  have cb1 : w.cell? ⟨b, 1, none⟩ = some (.int .i64 keep) := hw.m_cell hb rfl
  have HV := Lib.hid hv
  have HS := Lib.hid hS
  have h1 : askE true now k = 0 := by
    unfold putE at hE
    by_cases h : askE true now k = 0
    · exact h
    · rw [if_pos h] at hE; exact absurd hE h
  unfold putE at hE
  rw [if_neg (by rw [h1]; simp)] at hE
  have h2 : ¬ (age < 1 ∨ 1048576 < age) := fun h => by rw [if_pos h] at hE; cases hE
  rw [if_neg h2] at hE
  have h3 : ¬ (keep < bs.length) := fun h => by rw [if_pos h] at hE; cases hE
  rw [if_neg h3] at hE
  have h4 : ¬ (xs.length = 0) := fun h => by rw [if_pos h] at hE; cases hE
  clear hE
  have hnow := (askE_ok h1).1
  have h5 : 1 ≤ age ∧ age ≤ 1048576 := by omega
  have hlz : ((xs.length : Int) == 0) = false := beq_eq_false_iff_ne.2 (by omega)
  have HOKE : Hid (OkSE ⟨k, bs, now, age, false⟩) := Lib.hid ⟨hnow.1, hnow.2, by show bs.length ≤ 65536; omega⟩
  clear hb hsl hS hv
  go_enter Try.func12, Try.ntmps12
  go_wp2_with (go_at_call 29; refine (asks_any _ true now k _ HIS.out hs).mono ?_; rintro e w3 ⟨rfl, rfl⟩)
  refine (HS.out.slot k w hw (by simp)).mono ?_
  rintro e w4 ⟨rfl, hw4⟩
  rcases idx_cases (keyP k) xs with ⟨hi, _⟩ | ⟨q, x, hi, hx, hx2, hx3, hx4⟩
  rotate_left
  · have hq := (List.getElem?_eq_some_iff.1 hx).1
    have HR : Hid ((xs.set q ⟨k, bs, now, age, false⟩, hand) = putS xs hand now k bs age) := Lib.hid (by unfold putS placeS; rw [if_pos (by rw [hi]; omega), hi]; rfl)
    have HKEEP := Lib.hid (keep_refl M b)
    rw [hi]
    clear hi hx hx2 hx3 hx4 x cb0 cb1 hw
    obtain ⟨x, hx⟩ : ∃ x, xs[q]? = some x := ⟨_, List.getElem?_eq_getElem hq⟩
    obtain ⟨g, c', cur, Au, cu, hb, hsl, hgb, hg, k0, k1, k2, k3, k4, _, _, hput⟩ := tab_at HS.out.tab hx
    have hcap := hsl.cap
    have hylen := HS.out.ok.len
    have HG := Lib.hid hg; have HB := Lib.hid hb
    have HK := Lib.hid (And.intro k0 (And.intro k1 (And.intro k2 (And.intro k3 k4))))
    have HPUT := Lib.hid hput
    have hati : (q : Int) < xs.length := by omega
    have HSS : Hid (∀ w' Hs', Sat σ w' Hs' → M ∈ Hs' → (w'.cell? ⟨b, 0, none⟩ = some (.slice (some ⟨g, 0, none⟩) xs.length c'))) := Lib.hid (fun w' Hs' h hm => h.cellAt hm (Hp.cell_of HB.out rfl))
    clear hx hb hsl hg k0 k1 k2 k3 k4 hput
    go_wp2
    go_region_held3 (fun w' => w'.cell? ⟨b, 0, none⟩ = some (.slice (some ⟨g, 0, none⟩) xs.length c'))
      (first | exact HSS.out _ _ hw4.drew (by simp) | exact HSS.out _ _ hw8 (by simp) | (rw [World.cell?_setCell_far _ _ _ _ hgb, World.cell?_setCell_far _ _ _ _ hgb, World.cell?_setCell_far _ _ _ _ hgb, World.cell?_setCell_far _ _ _ _ hgb, World.cell?_setCell_far _ _ _ _ hgb]; exact HSS.out _ _ hw8 (by simp)))
      (first
        | (go_at_call 32
           refine (cloneB_any _ bs _ hw4.drew (by simp [hHa]) HV.out (by omega)).mono ?_
           rintro e w8 ⟨A8, c8, N8, cl8, rfl, hw8, ho8, hr8⟩
           have e0 := hw8.drop.m_cell HG.out HK.out.1
           have e1 := hw8.drop.m_cell HG.out HK.out.2.1
           have e2 := hw8.drop.m_cell HG.out HK.out.2.2.1
           have e3 := hw8.drop.m_cell HG.out HK.out.2.2.2.1
           have e4 := hw8.drop.m_cell HG.out HK.out.2.2.2.2
           have hgf := hw8.drop.le g _ HG.out
           have f0 := heap_free hgf (q * 5); have f1 := heap_free hgf (q * 5 + 1); have f2 := heap_free hgf (q * 5 + 2); have f3 := heap_free hgf (q * 5 + 3); have f4 := heap_free hgf (q * 5 + 4)
           have HFIN := Lib.hid (HPUT.out ⟨k, bs, now, age, false⟩ _ _ _ _ _ hw8.swap (ho8.isSl (d := kB) hr8 rfl (Hp.le_refl _)))
           clear hgf))
    go_wp2
    go_ret
    obtain ⟨M9, h1, h2, h3, _⟩ := HFIN.out
    exact ⟨rfl, M9, h1, by rw [← HR.out]; exact ⟨h2, HS.out.ok.put q HOKE.out⟩, HKEEP.out.trans h3⟩
  have HI := Lib.hid hi
  rw [hi]
  clear hi
  go_wp2_with fail
  refine (HS.out.slot ⟨#[]⟩ w4 hw4 (by simp)).mono ?_
  rintro e w5 ⟨rfl, hw5⟩
  rcases idx_cases (keyP ⟨#[]⟩) xs with ⟨hi, _⟩ | ⟨q, x, hi, hx, hx2, hx3, hx4⟩
  rotate_left
  · have hq := (List.getElem?_eq_some_iff.1 hx).1
    have HR : Hid ((xs.set q ⟨k, bs, now, age, false⟩, hand) = putS xs hand now k bs age) := Lib.hid (by unfold putS placeS; rw [if_neg (by rw [HI.out]; omega), if_pos (by rw [hi]; omega), hi]; rfl)
    have HKEEP := Lib.hid (keep_refl M b)
    rw [hi]
    clear hi hx hx2 hx3 hx4 x cb0 cb1 hw hw4
    obtain ⟨x, hx⟩ : ∃ x, xs[q]? = some x := ⟨_, List.getElem?_eq_getElem hq⟩
    obtain ⟨g, c', cur, Au, cu, hb, hsl, hgb, hg, k0, k1, k2, k3, k4, _, _, hput⟩ := tab_at HS.out.tab hx
    have hcap := hsl.cap
    have hylen := HS.out.ok.len
    have HG := Lib.hid hg; have HB := Lib.hid hb
    have HK := Lib.hid (And.intro k0 (And.intro k1 (And.intro k2 (And.intro k3 k4))))
    have HPUT := Lib.hid hput
    have hati : (q : Int) < xs.length := by omega
    have HSS : Hid (∀ w' Hs', Sat σ w' Hs' → M ∈ Hs' → (w'.cell? ⟨b, 0, none⟩ = some (.slice (some ⟨g, 0, none⟩) xs.length c'))) := Lib.hid (fun w' Hs' h hm => h.cellAt hm (Hp.cell_of HB.out rfl))
    clear hx hb hsl hg k0 k1 k2 k3 k4 hput
    go_wp2
    go_region_held3 (fun w' => w'.cell? ⟨b, 0, none⟩ = some (.slice (some ⟨g, 0, none⟩) xs.length c'))
      (first | exact HSS.out _ _ hw5.drew (by simp) | exact HSS.out _ _ hw8 (by simp) | (rw [World.cell?_setCell_far _ _ _ _ hgb, World.cell?_setCell_far _ _ _ _ hgb, World.cell?_setCell_far _ _ _ _ hgb, World.cell?_setCell_far _ _ _ _ hgb, World.cell?_setCell_far _ _ _ _ hgb]; exact HSS.out _ _ hw8 (by simp)))
      (first
        | (go_at_call 32
           refine (cloneB_any _ bs _ hw5.drew (by simp [hHa]) HV.out (by omega)).mono ?_
           rintro e w8 ⟨A8, c8, N8, cl8, rfl, hw8, ho8, hr8⟩
           have e0 := hw8.drop.m_cell HG.out HK.out.1
           have e1 := hw8.drop.m_cell HG.out HK.out.2.1
           have e2 := hw8.drop.m_cell HG.out HK.out.2.2.1
           have e3 := hw8.drop.m_cell HG.out HK.out.2.2.2.1
           have e4 := hw8.drop.m_cell HG.out HK.out.2.2.2.2
           have hgf := hw8.drop.le g _ HG.out
           have f0 := heap_free hgf (q * 5); have f1 := heap_free hgf (q * 5 + 1); have f2 := heap_free hgf (q * 5 + 2); have f3 := heap_free hgf (q * 5 + 3); have f4 := heap_free hgf (q * 5 + 4)
           have HFIN := Lib.hid (HPUT.out ⟨k, bs, now, age, false⟩ _ _ _ _ _ hw8.swap (ho8.isSl (d := kB) hr8 rfl (Hp.le_refl _)))
           clear hgf))
    go_wp2
    go_ret
    obtain ⟨M9, h1, h2, h3, _⟩ := HFIN.out
    exact ⟨rfl, M9, h1, by rw [← HR.out]; exact ⟨h2, HS.out.ok.put q HOKE.out⟩, HKEEP.out.trans h3⟩
  have HI2 := Lib.hid hi
  rw [hi]
  clear hi
  go_wp2_with fail
  refine (turn_any b keep hand xs now w5 hw5 HS.out (by omega) hnow).mono ?_
  rintro e w6 ⟨rfl, hat, hyl, M7, hw6, hS6, hk6⟩
  have HR : Hid (((turnS now (askedN xs + 1) xs hand).1.set (turnS now (askedN xs + 1) xs hand).2.2 ⟨k, bs, now, age, false⟩, (turnS now (askedN xs + 1) xs hand).2.1) = putS xs hand now k bs age) := Lib.hid (by unfold putS placeS; rw [if_neg (by rw [HI.out]; omega), if_neg (by rw [HI2.out]; omega)])
  generalize turnS now (askedN xs + 1) xs hand = r at *
  obtain ⟨ys, h7, at_⟩ := r
  have HS6 := Lib.hid hS6
  have HKEEP := Lib.hid hk6
  clear hS6 hk6 cb0 cb1 hw hw4 hw5
  simp only at hat hyl
  clear hyl
  obtain ⟨x, hx⟩ : ∃ x, ys[at_]? = some x := ⟨_, List.getElem?_eq_getElem hat⟩
  obtain ⟨g, c', cur, Au, cu, hb, hsl, hgb, hg, k0, k1, k2, k3, k4, _, _, hput⟩ := tab_at HS6.out.tab hx
  have hcap := hsl.cap
  have hylen := HS6.out.ok.len
  have HG := Lib.hid hg; have HB := Lib.hid hb
  have HK := Lib.hid (And.intro k0 (And.intro k1 (And.intro k2 (And.intro k3 k4))))
  have HPUT := Lib.hid hput
  have hati : (at_ : Int) < ys.length := by omega
  have HSS : Hid (∀ w' Hs', Sat σ w' Hs' → M7 ∈ Hs' → (w'.cell? ⟨b, 0, none⟩ = some (.slice (some ⟨g, 0, none⟩) ys.length c'))) := Lib.hid (fun w' Hs' h hm => h.cellAt hm (Hp.cell_of HB.out rfl))
  clear hx hb hsl hg k0 k1 k2 k3 k4 hput
  go_wp2
  go_region_held3 (fun w' => w'.cell? ⟨b, 0, none⟩ = some (.slice (some ⟨g, 0, none⟩) ys.length c'))
    (first | exact HSS.out _ _ hw6.drew (by simp) | exact HSS.out _ _ hw8 (by simp) | (rw [World.cell?_setCell_far _ _ _ _ hgb, World.cell?_setCell_far _ _ _ _ hgb, World.cell?_setCell_far _ _ _ _ hgb, World.cell?_setCell_far _ _ _ _ hgb, World.cell?_setCell_far _ _ _ _ hgb]; exact HSS.out _ _ hw8 (by simp)))
    (first
      | (go_at_call 32
         refine (cloneB_any _ bs _ hw6.drew (by simp [hHa]) HV.out (by omega)).mono ?_
         rintro e w8 ⟨A8, c8, N8, cl8, rfl, hw8, ho8, hr8⟩
         have e0 := hw8.drop.m_cell HG.out HK.out.1
         have e1 := hw8.drop.m_cell HG.out HK.out.2.1
         have e2 := hw8.drop.m_cell HG.out HK.out.2.2.1
         have e3 := hw8.drop.m_cell HG.out HK.out.2.2.2.1
         have e4 := hw8.drop.m_cell HG.out HK.out.2.2.2.2
         have hgf := hw8.drop.le g _ HG.out
         have f0 := heap_free hgf (at_ * 5); have f1 := heap_free hgf (at_ * 5 + 1); have f2 := heap_free hgf (at_ * 5 + 2); have f3 := heap_free hgf (at_ * 5 + 3); have f4 := heap_free hgf (at_ * 5 + 4)
         have HFIN := Lib.hid (HPUT.out ⟨k, bs, now, age, false⟩ _ _ _ _ _ hw8.swap (ho8.isSl (d := kB) hr8 rfl (Hp.le_refl _)))
         clear hgf))
  go_wp2
  go_ret
  obtain ⟨M9, h1, h2, h3, _⟩ := HFIN.out
  exact ⟨rfl, M9, h1, by rw [← HR.out]; exact ⟨h2, HS6.out.ok.put at_ HOKE.out⟩, HKEEP.out.trans h3⟩
end
end Go.Proofs.Ytfieipigbdopaaa
