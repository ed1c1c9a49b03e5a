/- Walks: the reader's one, version, text. -/
import Derived.Test.YtcndkpmeakaapaaDoorFvB
set_option linter.unusedVariables false
set_option linter.unusedSimpArgs false
namespace Go.Proofs.YtcndkpmeakaapaaDoor
open Go Go.RowKit
theorem takeL_len (bs : List Int) (n : Nat) (s : St) : (takeL bs n s).1.length = n := by
  unfold takeL
  split
  · exact List.length_replicate
  · rename_i h
    have h2 := (not_or.1 h).2
    show ((bs.drop s.at_).take n).length = n
    rw [List.length_take, List.length_drop]; omega
theorem takeL_at (bs : List Int) (n : Nat) (s : St) (h : s.at_ ≤ bs.length) : (takeL bs n s).2.at_ ≤ bs.length := by
  unfold takeL
  split
  · exact h
  · rename_i h1
    have h2 := (not_or.1 h1).2
    show s.at_ + n ≤ bs.length
    omega
theorem takeL_byte {bs : List Int} (hb : ∀ x ∈ bs, 0 ≤ x ∧ x < 256) (n : Nat) (s : St) : ∀ x ∈ (takeL bs n s).1, 0 ≤ x ∧ x < 256 := by
  unfold takeL
  split
  · intro x hx
    rw [List.eq_of_mem_replicate hx]; decide
  · intro x hx
    exact hb x (List.mem_of_mem_drop (List.mem_of_mem_take hx))
def oneL (bs : List Int) (s : St) : Int × St := ((takeL bs 1 s).1.getD 0 0, (takeL bs 1 s).2)
def failL (s : St) (a c : Int) : St := ⟨s.at_, keep s.err (some ([(fiveB, a)], c))⟩
def versL (bs : List Int) (v : Int) (s : St) : St := if (oneL bs s).2.err = none ∧ (oneL bs s).1 ≠ v then failL (oneL bs s).2 0 70 else (oneL bs s).2
section
variable {σ w w' : World} {Hs : List Hp} {H H1 H2 M N Y R E X HB : Hp}
set_option maxHeartbeats 4000000
def RdP (σ : World) (Hs : List Hp) (r : Nat) (bv : Value) (s : St) (v : Value) (e : Ending) (w' : World) : Prop :=
  ∃ R' E', e = .returned v ∧ Sat σ w' (R' :: E' :: Hs) ∧ FvR R' E' r bv (s.at_ : Int) s.err
theorem one_any {r : Nat} {bv : Value} {bs : List Int} (hbs : ∀ x ∈ bs, 0 ≤ x ∧ x < 256) (s : St) (hs : s.at_ ≤ bs.length) (w : World) (hw : Sat σ w (R :: E :: Hs)) (hB : HB ∈ Hs) (hb : kB.IsSl HB bv bs) (h : FvR R E r bv (s.at_ : Int) s.err) :
    Calls Tryd.prog 39 #[.pointer (some ⟨r, 0, none⟩)] w (RdP σ Hs r bv (oneL bs s).2 (.int .i64 (oneL bs s).1)) := by
  have HT := Lib.hid (take_any 1 (by decide) (by decide) s hs w hw hB hb h)
  have hlen := takeL_len bs 1 s
  have hby := takeL_byte hbs 1 s
  have HO : Hid (oneL bs s = ((takeL bs 1 s).1.getD 0 0, (takeL bs 1 s).2)) := Lib.hid rfl
  unfold TakeP at HT
  generalize oneL bs s = o at *
  obtain ⟨l, s2, hts⟩ : ∃ l s2, takeL bs 1 s = (l, s2) := ⟨_, _, rfl⟩
  rw [hts] at HT HO hlen hby
  obtain ⟨x, rfl⟩ : ∃ x, l = [x] := by
    cases l with
    | nil => cases hlen
    | cons x l =>
      cases l with
      | nil => exact ⟨x, rfl⟩
      | cons y l => simp at hlen
  have hx := hby x (by simp)
  have HX : Hid (o = (x, s2)) := Lib.hid HO.out
  have m1 : IntKind.i64.wrap x = x := IntWalk.i64_in _ (by omega)
  clear hw h hb hts hlen hby HO hx
  go_enter Tryd.func39, Tryd.ntmps39
  go_wp2_with fail
  refine HT.out.mono ?_
  rintro e w2 ⟨v, R', E', Z, K, rfl, hw2, h2, hK, hsl⟩
  obtain ⟨A, c, rfl, hc1, _, _⟩ := hsl.form
  obtain ⟨b, off, cs, rfl, hcs, hcell⟩ := hsl.get 0 x rfl
  obtain rfl : cs = [.int .u8 x] := hcs
  have hc0 := hw2.cellAt (takeK hK hB) (hcell 0 _ rfl)
  simp only [show kB.sz = 1 from rfl, Nat.mul_one, Nat.add_zero] at hc0
  have H2 := Lib.hid h2
  clear h2 hsl hcell hK
  go_wp2
  go_ret
  unfold RdP
  rw [HX.out]
  exact ⟨R', E', rfl, hw2.sub (List.Sublist.cons_cons _ (List.Sublist.cons_cons _ (List.sublist_cons_self _ _))), H2.out⟩
theorem failS_any {r : Nat} {bv : Value} (s : St) (a c : Int) (w : World) (hw : Sat σ w (R :: E :: Hs)) (h : FvR R E r bv (s.at_ : Int) s.err) :
    Calls Tryd.prog 40 #[.pointer (some ⟨r, 0, none⟩), .int .i64 a, .iface 39 (.int .i64 c)] w fun e w' => ∃ v R' E', e = .returned v ∧ Sat σ w' (R' :: E' :: Hs) ∧ FvR R' E' r bv ((failL s a c).at_ : Int) (failL s a c).err :=
  fail5_any a (.iface 39 (.int .i64 c)) [] c w (hw.emp.down2) h (show ErrV Hp.emp _ [] c from rfl) (by decide)
theorem fvr_cells {r : Nat} {bv : Value} {a : Int} {er : Option (Ch × Int)} (hw : Sat σ w (R :: E :: Hs)) (h : FvR R E r bv a er) : ∃ ev, w.cell? ⟨r, 0, none⟩ = some bv ∧ w.cell? ⟨r, 1, none⟩ = some (.int .i64 a) ∧ w.cell? ⟨r, 2, none⟩ = some ev ∧ (er = none → ev = .nilIface) ∧ (er ≠ none → ∃ t u, ev = .iface t u) := by
  obtain ⟨ev, rfl, hev⟩ := h.out
  refine ⟨ev, hw.one_cell rfl, hw.one_cell rfl, hw.one_cell rfl, fun e => by subst e; exact hev, fun e => ?_⟩
  cases er with
  | none => exact absurd rfl e
  | some x => exact ev_form hev
theorem version_any {r : Nat} {bv : Value} {bs : List Int} (v : Int) (hbs : ∀ x ∈ bs, 0 ≤ x ∧ x < 256) (s : St) (hs : s.at_ ≤ bs.length) (w : World) (hw : Sat σ w (R :: E :: Hs)) (hB : HB ∈ Hs) (hb : kB.IsSl HB bv bs) (h : FvR R E r bv (s.at_ : Int) s.err) :
    Calls Tryd.prog 38 #[.pointer (some ⟨r, 0, none⟩), .int .i64 v] w fun e w' => ∃ u R' E', e = .returned u ∧ Sat σ w' (R' :: E' :: Hs) ∧ FvR R' E' r bv ((versL bs v s).at_ : Int) (versL bs v s).err := by
  have HO := Lib.hid (one_any hbs s hs w hw hB hb h)
  have HV : Hid (versL bs v s = if (oneL bs s).2.err = none ∧ (oneL bs s).1 ≠ v then failL (oneL bs s).2 0 70 else (oneL bs s).2) := Lib.hid rfl
  unfold RdP at HO
  generalize versL bs v s = o at *
  obtain ⟨x, s2, hox⟩ : ∃ x s2, oneL bs s = (x, s2) := ⟨_, _, rfl⟩
  rw [hox] at HO HV
  clear hw h hb hox
  go_enter Tryd.func38, Tryd.ntmps38
  go_wp2_with fail
  refine HO.out.mono ?_
  rintro e w2 ⟨R', E', rfl, hw2, h2⟩
  obtain ⟨ev, c0, c1, c2, hn, hi⟩ := fvr_cells hw2 h2
  have HF := Lib.hid (failS_any s2 0 70 w2 hw2 h2)
  have H2 := Lib.hid h2
  by_cases he : s2.err = none
  · obtain rfl := hn he
    by_cases hx : x = v
    · have hxb : (x != v) = false := by simp [hx]
      have HR : Hid (o = s2) := Lib.hid (by rw [HV.out]; exact if_neg (fun h => h.2 hx))
      clear hn hi h2 HV he hx
      go_wp2
      go_end0
      exact ⟨_, R', E', rfl, hw2, by rw [HR.out]; exact H2.out⟩
    · have hxb : (x != v) = true := by simpa using hx
      have HR : Hid (o = failL s2 0 70) := Lib.hid (by rw [HV.out]; exact if_pos ⟨he, hx⟩)
      clear hn hi h2 HV he hx
      go_wp2_with (go_at_call 40; refine HF.out.mono ?_; rintro e w3 ⟨v3, R3, E3, rfl, hw3, h3⟩; have H3 := Lib.hid h3; clear h3)
      go_end0
      exact ⟨_, R3, E3, rfl, hw3, by rw [HR.out]; exact H3.out⟩
  · obtain ⟨t, u, rfl⟩ := hi he
    have HR : Hid (o = s2) := Lib.hid (by rw [HV.out]; exact if_neg (fun h => he h.1))
    clear hn hi h2 HV he
    go_wp2
    go_end0
    exact ⟨_, R', E', rfl, hw2, by rw [HR.out]; exact H2.out⟩
end
end Go.Proofs.YtcndkpmeakaapaaDoor
