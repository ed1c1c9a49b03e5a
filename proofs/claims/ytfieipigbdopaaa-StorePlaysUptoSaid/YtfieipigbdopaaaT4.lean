/- Walks: the reference's Get. -/
import Derived.Test.YtfieipigbdopaaaT3
import Derived.Test.YtfieipigbdopaaaS8
set_option linter.unusedVariables false
set_option linter.unusedSimpArgs false
namespace Go.Proofs.Ytfieipigbdopaaa
open Go.RowKit
set_option maxHeartbeats 2000000
theorem askE_key (now : Int) (k : ByteArray) : askE true now k = if momB now && keyB k then 0 else 2 := by
  unfold askE keyB
  rw [if_pos rfl, Bool.and_assoc]
section
variable {σ : World} {Hs : List Hp} {H M N Ha : Hp}
def RGetP (σ : World) (Hs : List Hp) (b : Nat) (keep : Int) (hand : Nat) (r : (List Int × Int × Int) × List SE) (e : Ending) (w' : World) : Prop :=
  ∃ v N M', e = .returned (.tuple #[v, .int .i64 r.1.2.1, .int .i64 r.1.2.2]) ∧ Sat σ w' (N :: M' :: Hs) ∧ kB.IsSl N v r.1.1 ∧ RSto M' b keep hand r.2
theorem rget_any (b : Nat) (keep : Int) (hand : Nat) (xs : List SE) (now : Int) (k : ByteArray) (w : World) (hw : Sat σ w (M :: Hs)) (hS : RSto M b keep hand xs) (hs : k.size ≤ 9223372036854775807) :
    Calls Try.prog 24 #[.pointer (some ⟨b, 0, none⟩), .int .i64 now, .string k] w (RGetP σ Hs b keep hand (getS xs now k)) := by
  have HS := Lib.hid hS
  have hlen := hS.ok.len
  clear hS
  cases h2 : momB now
  · have HR : Hid (getS xs now k = (([], 0, 2), xs)) := Lib.hid (by unfold getS; rw [askE_key, h2]; rfl)
    go_enter Try.func24, Try.ntmps24
    go_wp2_with (first | (go_at_call 35; refine (when_any _ _).mono ?_; rintro e w3 ⟨rfl, rfl⟩) | (go_at_call 36; refine (key_any _ hs _).mono ?_; rintro e w3 ⟨rfl, rfl⟩))
    go_ret3
    rw [HR.out]
    exact ⟨.slice none 0 0, Hp.emp, M, rfl, hw.emp, Kd.IsSl.nil, HS.out⟩
  cases h3 : keyB k
  · have HR : Hid (getS xs now k = (([], 0, 2), xs)) := Lib.hid (by unfold getS; rw [askE_key, h3, Bool.and_false]; rfl)
    go_enter Try.func24, Try.ntmps24
    go_wp2_with (first | (go_at_call 35; refine (when_any _ _).mono ?_; rintro e w3 ⟨rfl, rfl⟩) | (go_at_call 36; refine (key_any _ hs _).mono ?_; rintro e w3 ⟨rfl, rfl⟩))
    go_ret3
    rw [HR.out]
    exact ⟨.slice none 0 0, Hp.emp, M, rfl, hw.emp, Kd.IsSl.nil, HS.out⟩
  have h1 : askE true now k = 0 := by rw [askE_key, h2, h3]; rfl
  have hnow := (askE_ok h1).1
  have H1 := Lib.hid h1
  go_enter Try.func24, Try.ntmps24
  go_wp2_with (first | (go_at_call 35; refine (when_any _ _).mono ?_; rintro e w3 ⟨rfl, rfl⟩) | (go_at_call 36; refine (key_any _ hs _).mono ?_; rintro e w3 ⟨rfl, rfl⟩))
  refine (find_any b keep hand xs HS.out k w _ hw (by simp)).mono ?_
  rintro e w4 ⟨rfl, hw4⟩
  clear hw
  rcases idx_cases (keyP k) xs with ⟨hi, hf⟩ | ⟨q, x, hi, hx, hf, hx3, hx4⟩
  · have HR : Hid (getS xs now k = (([], 0, 5), xs)) := Lib.hid (by unfold getS; rw [if_neg (by rw [H1.out]; simp), hf])
    rw [hi]
    clear hi hf
    go_wp2
    go_ret3
    rw [HR.out]
    exact ⟨.slice none 0 0, Hp.emp, M, rfl, hw4.emp, Kd.IsSl.nil, HS.out⟩
  have hq := (List.getElem?_eq_some_iff.1 hx).1
  have hqi : (q : Int) < xs.length := by omega
  obtain ⟨g, c', cur, Au, cu, hb, hsl, hgb, hg, k0, k1, k2, k3, k4, hu, hflag, _⟩ := tab_at HS.out.tab hx
  have hcap := hsl.cap
  have cb0 : w4.cell? ⟨b, 2, none⟩ = some (.slice (some ⟨g, 0, none⟩) xs.length c') := hw4.m_cell hb rfl
  have e0 := hw4.m_cell hg k0
  have e1 := hw4.m_cell hg k1
  have e2 := hw4.m_cell hg k2
  have e3 := hw4.m_cell hg k3
  have e4 := hw4.m_cell hg k4
  have hok := HS.out.ok.ok x (List.mem_of_getElem? hx)
  have HX := Lib.hid hx; have HB := Lib.hid hb; have HG := Lib.hid hg; have HFL := Lib.hid hflag
  have HK := Lib.hid (And.intro k1 (And.intro k2 (And.intro k3 k4))); have HU := Lib.hid hu
  have HR : Hid (getS xs now k = if freshB x.at_ x.age now then ((x.b, now - x.at_, 0), xs.set q (ask1 x)) else (([], 0, 5), xs)) := Lib.hid (by unfold getS; rw [if_neg (by rw [H1.out]; simp), hf, hi]; rfl)
  rw [hi]
  clear hi hx hf hx3 hx4 hb hsl hg k0 k1 k2 k3 k4 hflag hu
  have hq0 : ¬ ((q : Int) < 0) := by omega
  go_wp2_with fail
  refine (rfresh_any x.key _ x.at_ x.age now x.asked w4 hnow ⟨hok.1, hok.2.1⟩ (by rfl) hw4).mono ?_
  rintro e w5 ⟨rfl, hw5⟩
  clear hw4 cb0 e0 e1 e2 e3 e4
  cases hf : freshB x.at_ x.age now
  · have HF := Lib.hid hf
    go_wp2
    go_ret3
    rw [HR.out, HF.out]
    exact ⟨.slice none 0 0, Hp.emp, M, rfl, hw5.emp, Kd.IsSl.nil, HS.out⟩
  have HF := Lib.hid hf
  have cb0 : w5.cell? ⟨b, 2, none⟩ = some (.slice (some ⟨g, 0, none⟩) xs.length c') := hw5.m_cell HB.out rfl
  have e4 := hw5.m_cell HG.out HK.out.2.2.2
  have f4 := heap_free (hw5.le g _ HG.out) (q * 5 + 4)
  obtain ⟨M6, hw6, hT6, hk6, hb6⟩ := HFL.out true _ _ _ hw5
  have HT6 := Lib.hid hT6
  obtain ⟨g', c6, cur6, Au6, cu6, hb7, hsl6, hgb6, hg6, _, j1, j2, _, _, hu6, _, _⟩ := tab_at hT6 (x := ask1 x) (by rw [List.getElem?_set_self hq]; rfl)
  obtain rfl : g' = g := by
    rw [hb6, HB.out] at hb7
    simp at hb7
    exact hb7.1.symm
  have HB6 : Hid (M6 b = some (.cells #[.int .i64 keep, .int .i64 hand, .slice (some ⟨g', 0, none⟩) xs.length c'] 54 (0, 0))) := Lib.hid (hb6.trans HB.out)
  have HSS : Hid (∀ w' Hs', Sat σ w' Hs' → M6 ∈ Hs' → (w'.cell? ⟨b, 2, none⟩ = some (.slice (some ⟨g', 0, none⟩) xs.length c') ∧ w'.cell? ⟨g', q * 5 + 1, none⟩ = some (.slice Au6 x.b.length cu6) ∧ w'.cell? ⟨g', q * 5 + 2, none⟩ = some (.int .i64 x.at_))) := Lib.hid (fun w' Hs' h hm => ⟨h.cellAt hm (Hp.cell_of HB6.out rfl), h.cellAt hm (Hp.cell_of hg6 j1), h.cellAt hm (Hp.cell_of hg6 j2)⟩)
  obtain ⟨cells, hcs, hsrc⟩ := src_any (P := Try.prog) (σ := σ) (w := w5) (Hs := Hs) hu6 (t := 23) Try.underlying23
  have HSRC := Lib.hid hsrc; have HCS := Lib.hid hcs
  have m1 : IntKind.i64.wrap (now - x.at_) = now - x.at_ := IntWalk.i64_in _ (by have := hok.1; have := hok.2.1; omega)
  have hxl := hok.2.2
  clear hT6 hk6 hb6 hb7 hsl6 hg6 j1 j2 hu6 hw5 hsrc hcs
  go_wp2
  generalize World.setCell w5 _ _ = w6 at *
  clear cb0 e4 f4
  go_region_held3 (fun w' => w'.cell? ⟨b, 2, none⟩ = some (.slice (some ⟨g', 0, none⟩) xs.length c') ∧ w'.cell? ⟨g', q * 5 + 1, none⟩ = some (.slice Au6 x.b.length cu6) ∧ w'.cell? ⟨g', q * 5 + 2, none⟩ = some (.int .i64 x.at_))
    (first | exact HSS.out _ _ hw6.drew (by simp) | exact HSS.out _ _ (hw6.drew.alloc _) (by simp) | exact HSS.out _ _ hw8 (by simp))
    (first | (refine step_app (hw6.drew.alloc _) rfl (.tmp 42) (.tmp 50) 23 23 5 (.int .u8 0) 1 1 rfl Try.underlying23 (by kernel_rfl) rfl (by decide) _ _ 0 x.b.length [] cells rfl rfl (own_lit0 _ _ _) (HSRC.out _ _ (hw6.drew.alloc _) (by simp)) (by omega) ?_; intro A8 c8 w8 N8 hw8 ho8 _ _))
  go_wp2
  go_ret3
  rw [HR.out, HF.out]
  rw [Nat.zero_add, List.nil_append] at ho8
  exact ⟨.slice A8 x.b.length c8, N8, M6, rfl, hw8, ho8.isSl (d := kB) (bytes_reps HCS.out) rfl (Hp.le_refl _), ⟨HT6.out, HS.out.ok.put q hok⟩⟩
end
end Go.Proofs.Ytfieipigbdopaaa
