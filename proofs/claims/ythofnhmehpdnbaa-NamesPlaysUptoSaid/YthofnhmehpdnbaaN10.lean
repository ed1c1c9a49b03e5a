/- Walks: Put, where an entry is kept. -/
import Derived.Test.YthofnhmehpdnbaaN9
set_option linter.unusedVariables false
namespace Go.Proofs.Ythofnhmehpdnbaa
open Go.RowKit
set_option maxHeartbeats 2000000
section
variable {σ : World} {Hs : List Hp} {H M N Ha : Hp}
theorem Sat.to_m {w : World} {H1 H2 : Hp} (h : Sat σ w (N :: H1 :: H2 :: M :: Hs)) : Sat σ w (M :: N :: H1 :: H2 :: Hs) :=
  h.perm (by
    have : List.Perm (N :: H1 :: H2 :: M :: Hs) (M :: ([N, H1, H2] ++ Hs)) := List.perm_middle (l₁ := [N, H1, H2])
    exact this)
theorem put_some (b : Nat) (xs : List Ent) (now ttl : Int) (nm : ByteArray) (v : Value) (addrs : List Ad) (w : World) (hw : Sat σ w (M :: Hs)) (hT : TabRep M b xs) (h0 : 0 < xs.length) (hHa : Ha ∈ Hs) (hv : kAd.IsSl Ha v addrs) (hs : nm.size ≤ 9223372036854775807) (hbad : putBad now nm addrs.length ttl = false) (httl : ttl ≠ 0) :
    Calls Try.prog 11 #[.pointer (some ⟨b, 0, none⟩), .int .i64 now, .string nm, v, .int .i64 ttl] w (PutPost σ Hs M b (putL xs now nm addrs ttl)) := by
  simp [putBad] at hbad
  obtain ⟨⟨⟨⟨⟨h1, h2⟩, h3⟩, h4⟩, h5⟩, h6⟩ := hbad
  have h2 : nm.toList.isEmpty = false := by simpa using h2
  have hnow : 0 ≤ now ∧ now ≤ 1099511627776 := by simpa [momB] using h1
  have m1 : IntKind.i64.wrap (now + ttl) = now + ttl := IntWalk.i64_in _ (by omega)
  have httl' : (ttl == 0) = false := beq_eq_false_iff_ne.2 httl
  obtain ⟨Aa, ca, rfl, hca1, hca2, _⟩ := hv.form
  obtain ⟨g, cap, cur, hb, hg, hsz, hput⟩ := hT.put h0
  obtain ⟨A', c', hb', hsl⟩ := hT.sl
  obtain ⟨rfl, rfl⟩ : A' = some ⟨g, 0, none⟩ ∧ c' = cap := by rw [hb] at hb'; simpa [eq_comm] using hb'
  have hlen := hT.facts.2.1
  have HTILL := Lib.hid hT.facts.1
  have hcap := hsl.cap
  have hz : ((xs.length : Int) == 0) = false := beq_eq_false_iff_ne.2 (by omega)
  have HB := Lib.hid hb; have HG := Lib.hid hg; have HPUT := Lib.hid hput; have HT := Lib.hid hT; have HSL := Lib.hid hsl; have HADR := Lib.hid hv
  have HGB : Hid (g ≠ b) := Lib.hid (fun e => by subst e; have := HB.out.symm.trans HG.out; simp at this)
  clear hb hb' hg hput hT hsl hv
  go_enter Try.func11, Try.ntmps11
  go_wp2_with fail
  have hw2 := (hw.alloc (.cells #[.int .i64 now] 3)).alloc (.cells #[.string nm] 9)
  generalize hW : World.alloc (World.alloc w _) _ = w2 at *
  simp only [World.size_alloc] at hw2
  clear hW hw
  generalize w.heap.size = n0 at *
  have HS : Hid (∀ w', Sat σ w' (Hp.one (n0 + 1) (.cells #[.string nm] 9 (0, 0)) :: Hp.one n0 (.cells #[.int .i64 now] 3 (0, 0)) :: M :: Hs) → (w'.cell? ⟨b, 0, none⟩ = some (.slice (some ⟨g, 0, none⟩) xs.length c') ∧ w'.cell? ⟨n0, 0, none⟩ = some (.int .i64 now) ∧ w'.cell? ⟨n0 + 1, 0, none⟩ = some (.string nm))) := Lib.hid (fun w' h => ⟨h.drop.drop.m_cell HB.out rfl, h.drop.one_cell rfl, h.one_cell rfl⟩)
  have HS2 : Hid (∀ w' (g' : Nat) (o : Obj) (N' : Hp), g' ≠ b → Sat σ w' (Hp.or (Hp.upd M g' o) N' :: Hp.one (n0 + 1) (.cells #[.string nm] 9 (0, 0)) :: Hp.one n0 (.cells #[.int .i64 now] 3 (0, 0)) :: Hs) → (w'.cell? ⟨b, 0, none⟩ = some (.slice (some ⟨g, 0, none⟩) xs.length c') ∧ w'.cell? ⟨n0, 0, none⟩ = some (.int .i64 now) ∧ w'.cell? ⟨n0 + 1, 0, none⟩ = some (.string nm))) := Lib.hid (fun w' g' o N' hgb h => ⟨h.m_cell (Hp.le_or_left _ _ _ _ (by rw [Hp.upd_ne hgb.symm]; exact HB.out)) rfl, h.drop.drop.one_cell rfl, h.drop.one_cell rfl⟩)
  have cb1 : w2.cell? ⟨b, 1, none⟩ = some (.bool true) := hw2.drop.drop.m_cell HB.out rfl
  have cb0 : w2.cell? ⟨b, 0, none⟩ = some (.slice (some ⟨g, 0, none⟩) xs.length c') := hw2.drop.drop.m_cell HB.out rfl
  have ct : w2.cell? ⟨n0, 0, none⟩ = some (.int .i64 now) := hw2.drop.one_cell rfl
  have cn : w2.cell? ⟨n0 + 1, 0, none⟩ = some (.string nm) := hw2.one_cell rfl
  refine (is_any b true w2 cb1).mono ?_
  rintro e w3 ⟨rfl, rfl⟩
  go_wp2_with (go_at_call 25; refine (moment_any _ _).mono ?_; rintro e w3 ⟨rfl, rfl⟩)
  refine (first_any (H := M) _ xs 27 _ (fun x => #[x, .pointer (some ⟨n0 + 1, 0, none⟩)]) (fun x => by simp) (nmP nm) _ hw2 (by simp) HSL.out E_put1 (fun i x hx u hu w' hw' => (put1_any nm x.name u x.till (n0 + 1) w' (hw'.one_cell rfl) hw'.one_lt hu.oneCell).mono (fun e w3 ⟨he, hb⟩ => ⟨he, hw'.below hb⟩))).mono ?_
  rintro e w3 ⟨rfl, hw3⟩
  clear cb1 cb0 ct cn hw2 w2
  rcases idx_cases (nmP nm) xs with ⟨hi, hf⟩ | ⟨k, x, hi, hx, hf, hp, _⟩
  rotate_left
  · have hk := (List.getElem?_eq_some_iff.1 hx).1
    have HI : Hid (placeI xs now nm = k) := Lib.hid (by unfold placeI; rw [hi, if_pos (by omega)])
    rw [hi]
    clear hi hf hx hp
    have cb0 : w3.cell? ⟨b, 0, none⟩ = some (.slice (some ⟨g, 0, none⟩) xs.length c') := hw3.drop.drop.m_cell HB.out rfl
    have ct : w3.cell? ⟨n0, 0, none⟩ = some (.int .i64 now) := hw3.drop.one_cell rfl
    have cn : w3.cell? ⟨n0 + 1, 0, none⟩ = some (.string nm) := hw3.one_cell rfl
    have hki : (k : Int) < xs.length := by omega
    go_wp2
    go_region_held3 (fun w' => w'.cell? ⟨b, 0, none⟩ = some (.slice (some ⟨g, 0, none⟩) xs.length c') ∧ w'.cell? ⟨n0, 0, none⟩ = some (.int .i64 now) ∧ w'.cell? ⟨n0 + 1, 0, none⟩ = some (.string nm)) (first | exact HS.out _ (Sat.drop (by assumption)) | exact HS.out _ (Sat.drew (by assumption)) | exact HS2.out _ _ _ _ HGB.out HFIN.out.1) 
        (first | (
          go_at_call 33
          refine (cloneA_any _ addrs _ hw3.drew (by simp [hHa]) HADR.out (by omega)).mono ?_
          rintro e w4 ⟨A1, c1, N, cl, rfl, hw4, ho, hr⟩
          have k0 : w4.cell? ⟨g, k * 3, none⟩ = some cur[k * 3] := hw4.drop.drop.drop.m_cell HG.out (Array.getElem?_eq_getElem (by omega))
          have k1 : w4.cell? ⟨g, k * 3 + 1, none⟩ = some cur[k * 3 + 1] := hw4.drop.drop.drop.m_cell HG.out (Array.getElem?_eq_getElem (by omega))
          have k2 : w4.cell? ⟨g, k * 3 + 2, none⟩ = some cur[k * 3 + 2] := hw4.drop.drop.drop.m_cell HG.out (Array.getElem?_eq_getElem (by omega))
          have hgb := hw4.drop.drop.drop.le g _ HG.out
          have f0 := heap_free hgb (k * 3)
          have f1 := heap_free hgb (k * 3 + 1)
          have f2 := heap_free hgb (k * 3 + 2)
          have HFIN := Lib.hid (HPUT.out _ _ _ _ (hw4.to_m) k hk ⟨nm, addrs, now + ttl⟩ (.slice A1 addrs.length c1) (ho.isSl (kAd_reps hr) rfl (Hp.le_refl _)) (by show 0 ≤ now + ttl; omega) (by show now + ttl ≤ _; omega) (by show addrs.length ≤ 16; omega))
          clear hgb))
    go_wp2
    go_ret
    exact ⟨rfl, _, HFIN.out.1.drop2, by unfold putL; rw [if_neg (by omega), HI.out, Int.toNat_natCast]; exact HFIN.out.2, keep_put HB.out (fun e => by subst e; have := HB.out.symm.trans HG.out; simp at this)⟩
  have HI1 := Lib.hid hi
  rw [hi]
  clear hi hf
  have cb0 : w3.cell? ⟨b, 0, none⟩ = some (.slice (some ⟨g, 0, none⟩) xs.length c') := hw3.drop.drop.m_cell HB.out rfl
  go_wp2_with fail
  refine (first_any (H := M) _ xs 28 _ (fun x => #[x, .pointer (some ⟨n0, 0, none⟩)]) (fun x => by simp) (deadP now) _ hw3 (by simp) HSL.out E_put2 (fun i x hx u hu w' hw' => (put2_any x.name u x.till now n0 w' (hw'.drop.one_cell rfl) hw'.drop.one_lt hu.oneCell).mono (fun e w3 ⟨he, hb⟩ => ⟨he, hw'.below hb⟩))).mono ?_
  rintro e w5 ⟨rfl, hw5⟩
  clear cb0 hw3 w3
  obtain ⟨w3, rfl⟩ : ∃ w3, w3 = w5 := ⟨_, rfl⟩
  have hw3 := hw5
  clear hw5
  rcases idx_cases (deadP now) xs with ⟨hi, hf⟩ | ⟨k, x, hi, hx, hf, hp, _⟩
  rotate_left
  · have hk := (List.getElem?_eq_some_iff.1 hx).1
    have HI : Hid (placeI xs now nm = k) := Lib.hid (by unfold placeI; rw [HI1.out, if_neg (by omega), hi, if_pos (by omega)])
    rw [hi]
    clear hi hf hx hp
    have cb0 : w3.cell? ⟨b, 0, none⟩ = some (.slice (some ⟨g, 0, none⟩) xs.length c') := hw3.drop.drop.m_cell HB.out rfl
    have ct : w3.cell? ⟨n0, 0, none⟩ = some (.int .i64 now) := hw3.drop.one_cell rfl
    have cn : w3.cell? ⟨n0 + 1, 0, none⟩ = some (.string nm) := hw3.one_cell rfl
    have hki : (k : Int) < xs.length := by omega
    go_wp2
    go_region_held3 (fun w' => w'.cell? ⟨b, 0, none⟩ = some (.slice (some ⟨g, 0, none⟩) xs.length c') ∧ w'.cell? ⟨n0, 0, none⟩ = some (.int .i64 now) ∧ w'.cell? ⟨n0 + 1, 0, none⟩ = some (.string nm)) (first | exact HS.out _ (Sat.drop (by assumption)) | exact HS.out _ (Sat.drew (by assumption)) | exact HS2.out _ _ _ _ HGB.out HFIN.out.1) 
        (first | (
          go_at_call 33
          refine (cloneA_any _ addrs _ hw3.drew (by simp [hHa]) HADR.out (by omega)).mono ?_
          rintro e w4 ⟨A1, c1, N, cl, rfl, hw4, ho, hr⟩
          have k0 : w4.cell? ⟨g, k * 3, none⟩ = some cur[k * 3] := hw4.drop.drop.drop.m_cell HG.out (Array.getElem?_eq_getElem (by omega))
          have k1 : w4.cell? ⟨g, k * 3 + 1, none⟩ = some cur[k * 3 + 1] := hw4.drop.drop.drop.m_cell HG.out (Array.getElem?_eq_getElem (by omega))
          have k2 : w4.cell? ⟨g, k * 3 + 2, none⟩ = some cur[k * 3 + 2] := hw4.drop.drop.drop.m_cell HG.out (Array.getElem?_eq_getElem (by omega))
          have hgb := hw4.drop.drop.drop.le g _ HG.out
          have f0 := heap_free hgb (k * 3)
          have f1 := heap_free hgb (k * 3 + 1)
          have f2 := heap_free hgb (k * 3 + 2)
          have HFIN := Lib.hid (HPUT.out _ _ _ _ (hw4.to_m) k hk ⟨nm, addrs, now + ttl⟩ (.slice A1 addrs.length c1) (ho.isSl (kAd_reps hr) rfl (Hp.le_refl _)) (by show 0 ≤ now + ttl; omega) (by show now + ttl ≤ _; omega) (by show addrs.length ≤ 16; omega))
          clear hgb))
    go_wp2
    go_ret
    exact ⟨rfl, _, HFIN.out.1.drop2, by unfold putL; rw [if_neg (by omega), HI.out, Int.toNat_natCast]; exact HFIN.out.2, keep_put HB.out (fun e => by subst e; have := HB.out.symm.trans HG.out; simp at this)⟩
  have HI2 := Lib.hid hi
  rw [hi]
  clear hi hf
  have cb0 : w3.cell? ⟨b, 0, none⟩ = some (.slice (some ⟨g, 0, none⟩) xs.length c') := hw3.drop.drop.m_cell HB.out rfl
  go_wp2_with fail
  refine (min_any (H := M) _ xs _ hw3 (by simp) HSL.out h0 HTILL.out).mono ?_
  rintro e w5 ⟨nm5, A5, l5, c5, m5, rfl, hw5, hmin, hex⟩
  have HMIN := Lib.hid hmin; have HEX := Lib.hid hex
  clear cb0 hw3 w3 hmin hex
  have cb0 : w5.cell? ⟨b, 0, none⟩ = some (.slice (some ⟨g, 0, none⟩) xs.length c') := hw5.drop.drop.m_cell HB.out rfl
  have hfd : ∀ w, (Instr.field 59 (.agg #[.string nm5, .slice A5 l5 c5, .int .i64 m5]) 2).run Try.prog w = .ok (.int .i64 m5) w := fun _ => by kernel_rfl
  have hbl : b < w5.heap.size := hw5.drop.drop.blk_lt List.mem_cons_self HB.out
  go_wp2_with fail
  have hw6 := hw5.alloc (.cells #[.int .i64 m5] 3)
  generalize hW : World.alloc w5 _ = w6 at *
  clear hW hw5 cb0 hbl hfd
  generalize w5.heap.size = n5 at *
  refine (first_any (H := M) _ xs 32 _ (fun x => #[x, .pointer (some ⟨n5, 0, none⟩)]) (fun x => by simp) (fun x => x.till == m5) _ hw6 (by simp) HSL.out E_put4 (fun i x hx u hu w' hw' => (put4_any x.name u x.till m5 n5 w' (hw'.one_cell rfl) hw'.one_lt hu.oneCell).mono (fun e w3 ⟨he, hb⟩ => ⟨he, hw'.below hb⟩))).mono ?_
  rintro e w3 ⟨rfl, hw7⟩
  have hw3 := hw7.drop
  clear hw7 hw6 w6
  rcases idx_cases (fun x : Ent => x.till == m5) xs with ⟨hi, hf⟩ | ⟨k, x, hi, hx, hf, hp, _⟩
  · obtain ⟨x, hx, hxm⟩ := HEX.out
    have := List.find?_eq_none.1 hf x hx
    simp [hxm] at this
  · have hk := (List.getElem?_eq_some_iff.1 hx).1
    have HI : Hid (placeI xs now nm = k) := Lib.hid (by
      unfold placeI
      rw [HI1.out, if_neg (by omega), HI2.out, if_neg (by omega), ← hi]
      refine idxI_congr fun y hy => ?_
      rw [Bool.eq_iff_iff]
      unfold leastP
      simp only [List.all_eq_true, decide_eq_true_eq, beq_iff_eq]
      obtain ⟨z, hz, hzm⟩ := HEX.out
      constructor
      · intro h; have := h z hz; have := HMIN.out y hy; omega
      · intro h z hz; have := HMIN.out z hz; omega)
    rw [hi]
    clear hi hf hx hp
    have cb0 : w3.cell? ⟨b, 0, none⟩ = some (.slice (some ⟨g, 0, none⟩) xs.length c') := hw3.drop.drop.m_cell HB.out rfl
    have ct : w3.cell? ⟨n0, 0, none⟩ = some (.int .i64 now) := hw3.drop.one_cell rfl
    have cn : w3.cell? ⟨n0 + 1, 0, none⟩ = some (.string nm) := hw3.one_cell rfl
    have hki : (k : Int) < xs.length := by omega
    go_wp2
    go_region_held3 (fun w' => w'.cell? ⟨b, 0, none⟩ = some (.slice (some ⟨g, 0, none⟩) xs.length c') ∧ w'.cell? ⟨n0, 0, none⟩ = some (.int .i64 now) ∧ w'.cell? ⟨n0 + 1, 0, none⟩ = some (.string nm)) (first | exact HS.out _ (Sat.drop (by assumption)) | exact HS.out _ (Sat.drew (by assumption)) | exact HS2.out _ _ _ _ HGB.out HFIN.out.1) 
        (first | (
          go_at_call 33
          refine (cloneA_any _ addrs _ hw3.drew (by simp [hHa]) HADR.out (by omega)).mono ?_
          rintro e w4 ⟨A1, c1, N, cl, rfl, hw4, ho, hr⟩
          have k0 : w4.cell? ⟨g, k * 3, none⟩ = some cur[k * 3] := hw4.drop.drop.drop.m_cell HG.out (Array.getElem?_eq_getElem (by omega))
          have k1 : w4.cell? ⟨g, k * 3 + 1, none⟩ = some cur[k * 3 + 1] := hw4.drop.drop.drop.m_cell HG.out (Array.getElem?_eq_getElem (by omega))
          have k2 : w4.cell? ⟨g, k * 3 + 2, none⟩ = some cur[k * 3 + 2] := hw4.drop.drop.drop.m_cell HG.out (Array.getElem?_eq_getElem (by omega))
          have hgb := hw4.drop.drop.drop.le g _ HG.out
          have f0 := heap_free hgb (k * 3)
          have f1 := heap_free hgb (k * 3 + 1)
          have f2 := heap_free hgb (k * 3 + 2)
          have HFIN := Lib.hid (HPUT.out _ _ _ _ (hw4.to_m) k hk ⟨nm, addrs, now + ttl⟩ (.slice A1 addrs.length c1) (ho.isSl (kAd_reps hr) rfl (Hp.le_refl _)) (by show 0 ≤ now + ttl; omega) (by show now + ttl ≤ _; omega) (by show addrs.length ≤ 16; omega))
          clear hgb))
    go_wp2
    go_ret
    exact ⟨rfl, _, HFIN.out.1.drop2, by unfold putL; rw [if_neg (by omega), HI.out, Int.toNat_natCast]; exact HFIN.out.2, keep_put HB.out (fun e => by subst e; have := HB.out.symm.trans HG.out; simp at this)⟩
end
end Go.Proofs.Ythofnhmehpdnbaa
