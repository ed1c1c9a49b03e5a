/- Walks: five.short, Choice, Verdict. -/
import Derived.Test.YtcndkpmeakaapaaDoorFvF
set_option linter.unusedVariables false
set_option linter.unusedSimpArgs false
namespace Go.Proofs.YtcndkpmeakaapaaDoor
open Go Go.RowKit
def sh2 (bs : List Int) (v : Int) : Int × St := oneL bs (versL bs v st0)
def shO (bs : List Int) (v : Int) : Int × Int := if (sh2 bs v).2.err = none then ((sh2 bs v).1, (sh2 bs v).2.at_) else (0, 0)
def ShP (σ : World) (Hs : List Hp) (bs : List Int) (v : Int) (e : Ending) (w' : World) : Prop := ∃ u E', e = .returned (.tuple #[.int .i64 (shO bs v).1, .int .i64 (shO bs v).2, u]) ∧ Sat σ w' (E' :: Hs) ∧ EV E' u (sh2 bs v).2.err
section
variable {σ w w' : World} {Hs : List Hp} {H H1 H2 M N Y R E X HB : Hp}
set_option maxHeartbeats 4000000
theorem short_any (bv : Value) (bs : List Int) (v : Int) (hbs : ∀ x ∈ bs, 0 ≤ x ∧ x < 256) (w : World) (hw : Sat σ w Hs) (hB : HB ∈ Hs) (hb : kB.IsSl HB bv bs) :
    Calls Tryd.prog 52 #[bv, .int .i64 v] w (ShP σ Hs bs v) := by
  obtain ⟨A, c, rfl, hc1, hc2, _⟩ := hb.form
  have hw2 := hw.alloc (.cells #[.slice A bs.length c, .int .i64 0, .nilIface] 75)
  obtain ⟨nd, hnd⟩ : ∃ nd, w.heap.size = nd := ⟨_, rfl⟩
  rw [hnd] at hw2
  have hw3 := hw2.emp.swap
  have h0 : FvR (Hp.one nd (.cells #[.slice A bs.length c, .int .i64 0, .nilIface] 75 (0, 0))) Hp.emp nd (.slice A bs.length c) (st0.at_ : Int) st0.err := ⟨⟨.nilIface, rfl, rfl⟩⟩
  have HV := Lib.hid (version_any v hbs st0 (Nat.zero_le _) _ hw3 hB hb h0)
  have HO := Lib.hid (fun R E w' (h : Sat σ w' (R :: E :: Hs)) (hf : FvR R E nd (.slice A bs.length c) ((versL bs v st0).at_ : Int) (versL bs v st0).err) => one_any hbs (versL bs v st0) (versL_at bs v st0 (Nat.zero_le _)) w' h hB hb hf)
  have HR2 : Hid (oneL bs (versL bs v st0) = sh2 bs v) := Lib.hid rfl
  unfold RdP at HO
  rw [HR2.out] at HO
  have HSO : Hid (shO bs v = if (sh2 bs v).2.err = none then ((sh2 bs v).1, ((sh2 bs v).2.at_ : Int)) else (0, 0)) := Lib.hid rfl
  have HSP : Hid (∀ e w', (∃ u E', e = .returned (.tuple #[.int .i64 (shO bs v).1, .int .i64 (shO bs v).2, u]) ∧ Sat σ w' (E' :: Hs) ∧ EV E' u (sh2 bs v).2.err) → ShP σ Hs bs v e w') := Lib.hid (fun e w' h => h)
  generalize shO bs v = o at *
  generalize ShP σ Hs bs v = PP at *
  clear hb hc1 hw hw2 hw3 h0
  go_enter Tryd.func52, Tryd.ntmps52
  go_wp2_with fail
  refine HV.out.mono ?_
  rintro e w3 ⟨u3, R3, E3, rfl, hw3, h3⟩
  go_wp2_with fail
  refine (HO.out R3 E3 w3 hw3 h3).mono ?_
  rintro e w4 ⟨R4, E4, rfl, hw4, h4⟩
  clear hw3 h3 HV HO
  obtain ⟨ev, q0, q1, q2, qn, qi⟩ := fvr_cells hw4 h4
  obtain ⟨evx, hRx, hevx⟩ := h4.out
  have hev2 : evx = ev := by
    rw [hRx] at hw4
    have := hw4.one_cell (o := 2) rfl
    rw [q2] at this
    exact (Option.some.inj this).symm
  rw [hev2] at hevx
  have HEV := Lib.hid hevx
  clear hevx hev2 hRx h4
  generalize sh2 bs v = s2 at *
  by_cases he : s2.2.err = none
  · obtain rfl := qn he
    have HE := Lib.hid he
    clear qn qi he
    go_wp2
    go_quiet (fail)
    go_wp2
    go_ret3
    exact HSP.out _ _ ⟨_, E4, by rw [HSO.out, if_pos HE.out]; rfl, (hw4.drewN _).drop, HEV.out⟩
  · obtain ⟨tv, uv, rfl⟩ := qi he
    have HE := Lib.hid he
    clear qn qi he
    go_wp2
    go_quiet (fail)
    go_wp2
    go_ret3
    exact HSP.out _ _ ⟨_, E4, by rw [HSO.out, if_neg HE.out]; rfl, (hw4.drewN _).drop, HEV.out⟩
theorem choice_any (bv : Value) (bs : List Int) (hbs : ∀ x ∈ bs, 0 ≤ x ∧ x < 256) (w : World) (hw : Sat σ w Hs) (hB : HB ∈ Hs) (hb : kB.IsSl HB bv bs) :
    Calls Tryd.prog 23 #[bv] w (ShP σ Hs bs 5) := by
  obtain ⟨A, c, rfl, _⟩ := hb.form
  have HC := Lib.hid (short_any _ bs 5 hbs w hw hB hb)
  unfold ShP at HC ⊢
  clear hb
  go_enter Tryd.func23, Tryd.ntmps23
  go_wp2_with (go_at_call 52; refine HC.out.mono ?_; rintro e w2 ⟨u, E', rfl, hw2, h2⟩)
  go_ret3
  exact ⟨u, E', rfl, hw2, h2⟩
theorem verdict_any (bv : Value) (bs : List Int) (hbs : ∀ x ∈ bs, 0 ≤ x ∧ x < 256) (w : World) (hw : Sat σ w Hs) (hB : HB ∈ Hs) (hb : kB.IsSl HB bv bs) :
    Calls Tryd.prog 25 #[bv] w (ShP σ Hs bs 1) := by
  obtain ⟨A, c, rfl, _⟩ := hb.form
  have HC := Lib.hid (short_any _ bs 1 hbs w hw hB hb)
  unfold ShP at HC ⊢
  clear hb
  go_enter Tryd.func25, Tryd.ntmps25
  go_wp2_with (go_at_call 52; refine HC.out.mono ?_; rintro e w2 ⟨u, E', rfl, hw2, h2⟩)
  go_ret3
  exact ⟨u, E', rfl, hw2, h2⟩
end
end Go.Proofs.YtcndkpmeakaapaaDoor
