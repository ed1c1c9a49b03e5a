/- Walks: the reference's Put, where an entry is kept; a table's clone. -/
import Derived.Test.YthofnhmehpdnbaaR3
set_option linter.unusedVariables false
namespace Go.Proofs.Ythofnhmehpdnbaa
open Go.RowKit
set_option maxHeartbeats 2000000
section
variable {σ : World} {Hs : List Hp} {H M N Ha : Hp}
set_option maxRecDepth 100000 in
theorem rput_some (b : Nat) (xs : List Ent) (now ttl : Int) (nm : ByteArray) (v : Value) (addrs : List Ad) (w : World) (hw : Sat σ w (M :: Hs)) (hT : RTab M b xs) (h0 : 0 < xs.length) (hHa : Ha ∈ Hs) (hv : kAd.IsSl Ha v addrs) (hs : nm.size ≤ 9223372036854775807) (hbad : putBad now nm addrs.length ttl = false) (httl : ttl ≠ 0) :
    Calls Try.prog 17 #[.pointer (some ⟨b, 0, none⟩), .int .i64 now, .string nm, v, .int .i64 ttl] w (RPutP σ Hs b 0 (rputL xs now nm addrs ttl)) := by
  simp [putBad] at hbad
  obtain ⟨⟨⟨⟨⟨h1, h2⟩, h3⟩, h4⟩, h5⟩, h6⟩ := hbad
  have h2 : nm.toList.isEmpty = false := by simpa using h2
  have hnow : 0 ≤ now ∧ now ≤ 1099511627776 := by simpa [momB] using h1
  have m1 : IntKind.i64.wrap (now + ttl) = now + ttl := IntWalk.i64_in _ (by omega)
  have httl' : (ttl == 0) = false := beq_eq_false_iff_ne.2 httl
  obtain ⟨k, hk, hkl⟩ := place_lt now nm h0
  have HFL : Hid (rputL xs now nm addrs ttl = xs.set k ⟨nm, addrs, now + ttl⟩) := Lib.hid (by unfold rputL; rw [if_neg httl, hk, Int.toNat_natCast])
  have HPL : Hid (∀ w' Hs', Sat σ w' (M :: Hs') → Calls Try.prog 36 #[.pointer (some ⟨b, 0, none⟩), .int .i64 now, .string nm] w' fun e w2 => e = .returned (.int .i64 k) ∧ Sat σ w2 (M :: Hs')) := Lib.hid (fun w' Hs' h => by
    have := place_any b xs now nm w' h hT h0
    rw [hk] at this
    exact this)
  obtain ⟨Aa, ca, rfl, hca1, hca2, _⟩ := hv.form
  obtain ⟨cells, hcs, hsrc⟩ := src_any (P := Try.prog) (σ := σ) (w := w) (Hs := Hs) hv (t := 29) Try.underlying29
  have HSRC := Lib.hid hsrc; have HCS := Lib.hid hcs
  obtain ⟨g, cap, cur, hb, hg, hsz, hput⟩ := hT.put h0
  obtain ⟨A', c', hb', hsl⟩ := hT.sl
  obtain ⟨rfl, rfl⟩ : A' = some ⟨g, 0, none⟩ ∧ c' = cap := by rw [hb] at hb'; simpa [eq_comm] using hb'
  have hlen := hT.facts.2.1
  have hcap := hsl.cap
  have hz : ((xs.length : Int) == 0) = false := beq_eq_false_iff_ne.2 (by omega)
  have HB := Lib.hid hb; have HG := Lib.hid hg; have HPUT := Lib.hid hput
  have HGB : Hid (g ≠ b) := Lib.hid (fun e => by subst e; have := HB.out.symm.trans HG.out; simp at this)
  have hki : (k : Int) < xs.length := by omega
  have cb0 : w.cell? ⟨b, 0, none⟩ = some (.slice (some ⟨g, 0, none⟩) xs.length c') := hw.m_cell hb rfl
  have hbl : b < w.heap.size := hw.blk_lt List.mem_cons_self hb
  clear hb hb' hg hput hT hsl hv hsrc hcs hk
  have HS : Hid (∀ w' Hs', Sat σ w' Hs' → M ∈ Hs' → (w'.cell? ⟨b, 0, none⟩ = some (.slice (some ⟨g, 0, none⟩) xs.length c'))) := Lib.hid (fun w' Hs' h hm => h.cellAt hm (Hp.cell_of HB.out rfl))
  have HS2 : Hid (∀ w' (g' : Nat) (o : Obj) (N' : Hp) Hs', g' ≠ b → Sat σ w' (Hp.or (Hp.upd M g' o) N' :: Hs') → (w'.cell? ⟨b, 0, none⟩ = some (.slice (some ⟨g, 0, none⟩) xs.length c'))) := Lib.hid (fun w' g' o N' Hs' hgb h => h.m_cell (Hp.le_or_left _ _ _ _ (by rw [Hp.upd_ne hgb.symm]; exact HB.out)) rfl)
  go_enter Try.func17, Try.ntmps17
  go_wp2_with (go_at_call 35; refine (when_any _ _).mono ?_; rintro e w3 ⟨rfl, rfl⟩)
  clear cb0
  go_region_held3 (fun w' => w'.cell? ⟨b, 0, none⟩ = some (.slice (some ⟨g, 0, none⟩) xs.length c'))
    (first | exact HS.out _ _ hw.drew (by simp) | exact HS2.out _ _ _ _ _ HGB.out HFIN.out.1 | exact HS.out _ _ hw5 (by simp) | exact HS.out _ _ (hw4.alloc _) (by simp) | exact HS.out _ _ hw4 (by simp) | exact HS.out _ _ (hw.drew.alloc _) (by simp))
    (first | (
      go_at_call 36
      (first | with_reducible refine (HPL.out _ _ hw.drew).mono ?_ | refine (HPL.out _ _ (hw.drew.alloc (.cells #[] 39)).swap).mono ?_)
      rintro e w4 ⟨rfl, hw4⟩) | (
      (first | refine step_app (hw4.alloc _) rfl (.tmp 80) (.tmp 81) 29 29 39 (.agg #[.int .u8 0, .int .u8 0, .int .u8 0, .int .u8 0]) 4 4 rfl Try.underlying29 (by kernel_rfl) rfl (by decide) _ _ 0 addrs.length [] cells rfl rfl (own_lit0 _ _ _) (HSRC.out _ _ (hw4.alloc _) (by simp [hHa])) (by omega) ?_ | refine step_app hw4.swap rfl (.tmp 80) (.tmp 81) 29 29 39 (.agg #[.int .u8 0, .int .u8 0, .int .u8 0, .int .u8 0]) 4 4 rfl Try.underlying29 (by kernel_rfl) rfl (by decide) _ _ 0 addrs.length [] cells rfl rfl (own_lit0 _ _ _) (HSRC.out _ _ hw4.swap (by simp [hHa])) (by omega) ?_)
      intro A1 c1 w5 N1 hw5 ho5 _ _
      rw [Nat.zero_add, List.nil_append] at ho5
      have k0 : w5.cell? ⟨g, k * 3, none⟩ = some cur[k * 3] := hw5.drop.m_cell HG.out (Array.getElem?_eq_getElem (by omega))
      have k1 : w5.cell? ⟨g, k * 3 + 1, none⟩ = some cur[k * 3 + 1] := hw5.drop.m_cell HG.out (Array.getElem?_eq_getElem (by omega))
      have k2 : w5.cell? ⟨g, k * 3 + 2, none⟩ = some cur[k * 3 + 2] := hw5.drop.m_cell HG.out (Array.getElem?_eq_getElem (by omega))
      have hgb := hw5.drop.le g _ HG.out
      have f0 := heap_free hgb (k * 3)
      have f1 := heap_free hgb (k * 3 + 1)
      have f2 := heap_free hgb (k * 3 + 2)
      have HFIN := Lib.hid (HPUT.out _ _ _ _ hw5.swap k hkl ⟨nm, addrs, now + ttl⟩ (.slice A1 addrs.length c1) (ho5.isSl (d := kAd) (kAd_reps HCS.out) rfl (Hp.le_refl _)) (by show 0 ≤ now + ttl; omega) (by show now + ttl ≤ _; omega) (by show addrs.length ≤ 16; omega))
      clear hgb))
  all_goals
    go_wp2
    go_ret
    exact ⟨rfl, _, HFIN.out.1, by rw [HFL.out]; exact HFIN.out.2⟩
end
end Go.Proofs.Ythofnhmehpdnbaa
