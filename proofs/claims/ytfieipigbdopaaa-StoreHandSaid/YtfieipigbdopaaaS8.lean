/- Walks: Get of a store. -/
import Derived.Test.YtfieipigbdopaaaS5
import Derived.Deep.RegionHeld3
set_option linter.unusedVariables false
set_option linter.unusedSimpArgs false
namespace Go.Proofs.Ytfieipigbdopaaa
open Go.RowKit
set_option maxHeartbeats 2000000
def ask1 (x : SE) : SE := { x with asked := true }
/-- What Get tells, and what it leaves. -/
def getS (xs : List SE) (now : Int) (k : ByteArray) : (List Int × Int × Int) × List SE :=
  if askE true now k ≠ 0 then (([], 0, askE true now k), xs) else
  match xs.find? (keyP k) with
  | none => (([], 0, 5), xs)
  | some x => if freshB x.at_ x.age now then ((x.b, now - x.at_, 0), xs.set (idxI (keyP k) xs).toNat (ask1 x)) else (([], 0, 5), xs)
section
variable {σ : World} {Hs : List Hp} {H M N Ha : Hp}
def GetP (σ : World) (Hs : List Hp) (M : Hp) (b : Nat) (keep : Int) (hand : Nat) (r : (List Int × Int × Int) × List SE) (e : Ending) (w' : World) : Prop :=
  ∃ v N cells M', e = .returned (.tuple #[v, .int .i64 r.1.2.1, .int .i64 r.1.2.2]) ∧ Sat σ w' (N :: M' :: Hs) ∧ Own N 5 1 v r.1.1.length cells ∧ kB.reps N r.1.1 cells ∧ Sto M' b keep hand r.2 ∧ Keep M b M'
theorem get_any (b : Nat) (keep : Int) (hand : Nat) (xs : List SE) (now : Int) (k : ByteArray) (w : World) (hw : Sat σ w (M :: Hs)) (hS : Sto M b keep hand xs) (hs : k.size ≤ 9223372036854775807) :
    Calls Try.prog 13 #[.pointer (some ⟨b, 0, none⟩), .int .i64 now, .string k] w (GetP σ Hs M b keep hand (getS xs now k)) := by
  have HIS := Lib.hid (hS.is w hw (by simp))
  have HS := Lib.hid hS
  have hlen := hS.ok.len
  clear hS
  by_cases h1 : askE true now k = 0
  rotate_left
  · have hq : (askE true now k != 0) = true := by rw [bne_iff_ne]; exact h1
    have HR : Hid (getS xs now k = (([], 0, askE true now k), xs)) := Lib.hid (by unfold getS; rw [if_pos h1])
    clear h1
    go_enter Try.func13, Try.ntmps13
    go_wp2_with (go_at_call 29; refine (asks_any _ true now k _ HIS.out hs).mono ?_; rintro e w3 ⟨rfl, rfl⟩)
    go_ret3
    rw [HR.out]
    exact ⟨.slice none 0 0, Hp.emp, [], M, rfl, hw.emp, Own.nil _ _ _, rfl, HS.out, keep_refl _ _⟩
  have hnow := (askE_ok h1).1
  have H1 := Lib.hid h1
  go_enter Try.func13, Try.ntmps13
  go_wp2_with (go_at_call 29; refine (asks_any _ true now k _ HIS.out hs).mono ?_; rintro e w3 ⟨rfl, rfl⟩)
  refine (HS.out.slot k w hw (by simp)).mono ?_
  rintro e w4 ⟨rfl, hw4⟩
  clear hw
  rcases idx_cases (keyP k) xs with ⟨hi, hf⟩ | ⟨q, x, hi, hx, hf, hx3, hx4⟩
  · have HR : Hid (getS xs now k = (([], 0, 5), xs)) := Lib.hid (by unfold getS; rw [if_neg (by rw [H1.out]; simp), hf])
    rw [hi]
    clear hi hf
    go_wp2
    go_ret3
    rw [HR.out]
    exact ⟨.slice none 0 0, Hp.emp, [], M, rfl, hw4.emp, Own.nil _ _ _, rfl, HS.out, keep_refl _ _⟩
  have hq := (List.getElem?_eq_some_iff.1 hx).1
  have hqi : (q : Int) < xs.length := by omega
  obtain ⟨g, c', cur, Au, cu, hb, hsl, hgb, hg, k0, k1, k2, k3, k4, hu, hflag, _⟩ := tab_at HS.out.tab hx
  have hcap := hsl.cap
  have cb0 : w4.cell? ⟨b, 0, none⟩ = some (.slice (some ⟨g, 0, none⟩) xs.length c') := hw4.m_cell hb rfl
  have e2 := hw4.m_cell hg k2
  have e3 := hw4.m_cell hg k3
  have hok := HS.out.ok.ok x (List.mem_of_getElem? hx)
  have HX := Lib.hid hx; have HB := Lib.hid hb; have HG := Lib.hid hg; have HFL := Lib.hid hflag
  have HK := Lib.hid (And.intro k1 (And.intro k2 (And.intro k3 k4))); have HU := Lib.hid hu
  have HR : Hid (getS xs now k = if freshB x.at_ x.age now then ((x.b, now - x.at_, 0), xs.set q (ask1 x)) else (([], 0, 5), xs)) := Lib.hid (by unfold getS; rw [if_neg (by rw [H1.out]; simp), hf, hi]; rfl)
  rw [hi]
  clear hi hx hf hx3 hx4 hb hsl hg k0 k1 k2 k3 k4 hflag hu
  have hq0 : ¬ ((q : Int) < 0) := by omega
  go_wp2_with fail
  refine (fresh_any g (q * 5) x.at_ x.age now w4 e2 e3 hnow ⟨hok.1, hok.2.1⟩ hw4).mono ?_
  rintro e w5 ⟨rfl, hw5⟩
  clear hw4 cb0 e2 e3
  cases hf : freshB x.at_ x.age now
  · have HF := Lib.hid hf
    go_wp2
    go_ret3
    rw [HR.out, HF.out]
    exact ⟨.slice none 0 0, Hp.emp, [], M, rfl, hw5.emp, Own.nil _ _ _, rfl, HS.out, keep_refl _ _⟩
  have HF := Lib.hid hf
  have cb0 : w5.cell? ⟨b, 0, none⟩ = some (.slice (some ⟨g, 0, none⟩) xs.length c') := hw5.m_cell HB.out rfl
  have e4 := hw5.m_cell HG.out HK.out.2.2.2
  have f4 := heap_free (hw5.le g _ HG.out) (q * 5 + 4)
  obtain ⟨M6, hw6, hT6, hk6, hb6⟩ := HFL.out true _ _ _ hw5
  have HT6 := Lib.hid hT6; have HK6 := Lib.hid hk6
  obtain ⟨g', c6, cur6, Au6, cu6, hb7, hsl6, hgb6, hg6, _, j1, j2, _, _, hu6, _, _⟩ := tab_at hT6 (x := ask1 x) (by rw [List.getElem?_set_self hq]; rfl)
  obtain rfl : g' = g := by
    rw [hb6, HB.out] at hb7
    simp at hb7
    exact hb7.1.symm
  have HSS : Hid (∀ w' Hs', Sat σ w' Hs' → M6 ∈ Hs' → (w'.cell? ⟨g', q * 5 + 1, none⟩ = some (.slice Au6 x.b.length cu6) ∧ w'.cell? ⟨g', q * 5 + 2, none⟩ = some (.int .i64 x.at_))) := Lib.hid (fun w' Hs' h hm => ⟨h.cellAt hm (Hp.cell_of hg6 j1), h.cellAt hm (Hp.cell_of hg6 j2)⟩)
  have HU6 := Lib.hid hu6
  have m1 : IntKind.i64.wrap (now - x.at_) = now - x.at_ := IntWalk.i64_in _ (by have := hok.1; have := hok.2.1; omega)
  have hxl := hok.2.2
  clear hT6 hk6 hb6 hb7 hsl6 hg6 j1 j2 hu6 hw5
  go_wp2
  generalize World.setCell w5 _ _ = w6 at *
  clear cb0 e4 f4
  go_region_held3 (fun w' => w'.cell? ⟨g', q * 5 + 1, none⟩ = some (.slice Au6 x.b.length cu6) ∧ w'.cell? ⟨g', q * 5 + 2, none⟩ = some (.int .i64 x.at_))
    (first | exact HSS.out _ _ hw6.drew (by simp) | exact HSS.out _ _ hw8 (by simp))
    (first
      | (go_at_call 32
         refine (cloneB_any _ x.b _ hw6.drew (by simp) HU6.out (by omega)).mono ?_
         rintro e w8 ⟨A8, c8, N8, cl8, rfl, hw8, ho8, hr8⟩))
  go_wp2
  go_ret3
  rw [HR.out, HF.out]
  exact ⟨.slice A8 x.b.length c8, N8, cl8, M6, rfl, hw8, ho8, hr8, ⟨HT6.out, HS.out.ok.put q hok⟩, HK6.out⟩
end
end Go.Proofs.Ytfieipigbdopaaa
