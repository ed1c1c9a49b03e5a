/- Walk: the reader's take. -/
import Derived.Test.YtcndkpmeakaapaaDoorFvA
set_option linter.unusedVariables false
set_option linter.unusedSimpArgs false
namespace Go.Proofs.YtcndkpmeakaapaaDoor
open Go Go.RowKit
structure St where
  at_ : Nat
  err : Option (Ch × Int)
/-- What take hands back, and how the reader stands then. -/
def takeL (bs : List Int) (n : Nat) (s : St) : List Int × St :=
  if s.err.isSome ∨ bs.length < s.at_ + n then (List.replicate n 0, ⟨s.at_, keep s.err (some ([(fiveB, (bs.length : Int))], 6))⟩) else ((bs.drop s.at_).take n, ⟨s.at_ + n, none⟩)
theorem sub_sl {H : Hp} {b off len c : Nat} {bs : List Int} (h : kB.IsSl H (.slice (some ⟨b, off, none⟩) len c) bs) {at_ n : Nat} (hn : at_ + n ≤ bs.length) :
    kB.IsSl H (.slice (some ⟨b, off + at_, none⟩) n (c - at_)) ((bs.drop at_).take n) := by
  obtain ⟨A, c', e, h1, h2, h3⟩ := h.form
  injection e with e1 e2 e3
  subst e1; subst e2; subst e3
  have hlen : ((bs.drop at_).take n).length = n := by rw [List.length_take, List.length_drop]; omega
  refine ⟨⟨_, _, by rw [hlen], by omega, by omega, fun h0 => ⟨b, off + at_, ints .u8 ((bs.drop at_).take n), rfl, reps_ints _, fun j u hu => ?_⟩⟩⟩
  have hj : j < n := by
    have := (List.getElem?_eq_some_iff.1 hu).1
    have hil : (ints .u8 ((bs.drop at_).take n)).length = n := by rw [show (ints .u8 ((bs.drop at_).take n)).length = ((bs.drop at_).take n).length from by simp [ints], hlen]
    omega
  obtain ⟨x, hx⟩ : ∃ x, bs[at_ + j]? = some x := ⟨_, List.getElem?_eq_getElem (by omega)⟩
  obtain ⟨b2, o2, cs, e, hcs, hcell⟩ := h.get (at_ + j) x hx
  injection e with e
  injection e with e1 e2 _
  subst e1; subst e2
  obtain rfl : cs = [.int .u8 x] := hcs
  have h4 := hcell 0 _ rfl
  have h5 : (ints .u8 ((bs.drop at_).take n))[j]? = some (.int .u8 x) := by
    simp only [ints, List.getElem?_map]
    rw [List.getElem?_take, if_pos hj, List.getElem?_drop, hx]; rfl
  rw [hu] at h5
  injection h5 with h5
  subst h5
  have h6 : off + (at_ + j) * kB.sz + 0 = off + at_ + j := by
    show off + (at_ + j) * 1 + 0 = _
    omega
  rw [h6] at h4
  exact h4
theorem bytes_lit (b : Nat) (zs : List Int) (hl : zs.length ≤ 9223372036854775807) (t : TypeId) : kB.IsSl (Hp.one b (.cells (ints .u8 zs).toArray t (0, 0))) (.slice (some ⟨b, 0, none⟩) zs.length zs.length) zs :=
  ⟨⟨_, _, rfl, Nat.le_refl _, hl, fun _ => ⟨b, 0, ints .u8 zs, rfl, reps_ints zs, fun j u hu => by
    rw [Hp.one_cell, Nat.zero_add]; simpa using hu⟩⟩⟩
section
variable {σ w w' : World} {Hs : List Hp} {H H1 H2 M N Y R E X HB : Hp}
set_option maxHeartbeats 4000000
def TakeP (σ : World) (Hs : List Hp) (HB : Hp) (r : Nat) (bv : Value) (o : List Int × St) (e : Ending) (w' : World) : Prop :=
  ∃ v R' E' Z K, e = .returned v ∧ Sat σ w' (R' :: E' :: Z :: Hs) ∧ FvR R' E' r bv (o.2.at_ : Int) o.2.err ∧ (K = Z ∨ K = HB) ∧ kB.IsSl K v o.1
theorem takeK {K Z R' E' : Hp} (hK : K = Z ∨ K = HB) (hB : HB ∈ Hs) : K ∈ R' :: E' :: Z :: Hs := by
  rcases hK with rfl | rfl
  · exact List.mem_cons_of_mem _ (List.mem_cons_of_mem _ List.mem_cons_self)
  · exact List.mem_cons_of_mem _ (List.mem_cons_of_mem _ (List.mem_cons_of_mem _ hB))
theorem take_any {r : Nat} {bv : Value} {bs : List Int} (n : Nat) (hn : 1 ≤ n) (hn2 : n ≤ 1000) (s : St) (hs : s.at_ ≤ bs.length) (w : World) (hw : Sat σ w (R :: E :: Hs)) (hB : HB ∈ Hs) (hb : kB.IsSl HB bv bs) (h : FvR R E r bv (s.at_ : Int) s.err) :
    Calls Tryd.prog 42 #[.pointer (some ⟨r, 0, none⟩), .int .i64 n] w (TakeP σ Hs HB r bv (takeL bs n s)) := by
  obtain ⟨A, c, rfl, hc1, hc2, _⟩ := hb.form
  have hlb : bs.length ≤ 9223372036854775807 := Nat.le_trans hc1 hc2
  obtain ⟨ev, rfl, hev⟩ := h.out
  have c0 : w.cell? ⟨r, 0, none⟩ = some (.slice A bs.length c) := hw.one_cell rfl
  have c1 : w.cell? ⟨r, 1, none⟩ = some (.int .i64 (s.at_ : Int)) := hw.one_cell rfl
  have c2 : w.cell? ⟨r, 2, none⟩ = some ev := hw.one_cell rfl
  have hrl := hw.one_lt
  have hsub : IntKind.i64.wrap ((bs.length : Int) - s.at_) = (bs.length : Int) - s.at_ := IntWalk.i64_in _ (by omega)
  have HFAIL := Lib.hid (fun w' (h' : Sat σ w' (Hp.one r (.cells #[.slice A bs.length c, .int .i64 (s.at_ : Int), ev] 75 (0, 0)) :: E :: Hs)) => fail5_any (bs.length : Int) (.iface 39 (.int .i64 6)) [] 6 w' (h'.emp.down2) h (show ErrV Hp.emp _ [] 6 from rfl) (by decide))
  have hmk := fun w => make_bytes w n (by omega)
  cases her : s.err with
  | some e0 =>
    rw [her] at hev
    obtain ⟨t0, u0, rfl⟩ := ev_form hev
    have HT : Hid (takeL bs n s = (List.replicate n 0, ⟨s.at_, keep s.err (some ([(fiveB, (bs.length : Int))], 6))⟩)) := Lib.hid (if_pos (.inl (by rw [her]; rfl)))
    clear h hb
    generalize takeL bs n s = o at *
    go_enter Tryd.func42, Tryd.ntmps42
    go_wp2
    go_quiet (fail)
    go_wp2_with fail
    refine (HFAIL.out _ (hw.drewN _)).mono ?_
    rintro e w3 ⟨v3, R3, E3, rfl, hw3, h3⟩
    have H3 := Lib.hid h3
    clear hw h3 HFAIL c0 c1 c2 hrl
    go_wp2
    go_ret
    unfold TakeP
    rw [HT.out]
    have hlr : (List.replicate n (0 : Int)).length = n := List.length_replicate
    have hbl := bytes_lit w3.heap.size (List.replicate n 0) (by rw [hlr]; omega) 5
    rw [hlr] at hbl
    exact ⟨_, R3, E3, _, _, rfl, (hw3.alloc _).down2, H3.out, .inl rfl, hbl⟩
  | none =>
    rw [her] at hev
    obtain rfl : ev = .nilIface := hev
    by_cases hshort : bs.length < s.at_ + n
    · have hsi : (bs.length : Int) - s.at_ < n := by omega
      have HT : Hid (takeL bs n s = (List.replicate n 0, ⟨s.at_, keep s.err (some ([(fiveB, (bs.length : Int))], 6))⟩)) := Lib.hid (if_pos (.inr hshort))
      clear h hb
      generalize takeL bs n s = o at *
      go_enter Tryd.func42, Tryd.ntmps42
      go_wp2
      go_quiet (fail)
      go_wp2_with fail
      refine (HFAIL.out _ (hw.drewN _)).mono ?_
      rintro e w3 ⟨v3, R3, E3, rfl, hw3, h3⟩
      have H3 := Lib.hid h3
      clear hw h3 HFAIL c0 c1 c2 hrl
      go_wp2
      go_ret
      unfold TakeP
      rw [HT.out]
      have hlr : (List.replicate n (0 : Int)).length = n := List.length_replicate
      have hbl := bytes_lit w3.heap.size (List.replicate n 0) (by rw [hlr]; omega) 5
      rw [hlr] at hbl
      exact ⟨_, R3, E3, _, _, rfl, (hw3.alloc _).down2, H3.out, .inl rfl, hbl⟩
    · have hsi : ¬ (bs.length : Int) - s.at_ < n := by omega
      have HT : Hid (takeL bs n s = ((bs.drop s.at_).take n, ⟨s.at_ + n, none⟩)) := Lib.hid (if_neg (by rw [her]; simp; omega))
      obtain ⟨b, off, rfl⟩ : ∃ b off, A = some ⟨b, off, none⟩ := by
        obtain ⟨b, off, _, e, _⟩ := hb.get 0 _ (List.getElem?_eq_getElem (show 0 < bs.length by omega))
        exact ⟨b, off, e⟩
      have HSL := Lib.hid (sub_sl hb (at_ := s.at_) (n := n) (by omega))
      have madd : IntKind.i64.wrap ((s.at_ : Int) + n) = (s.at_ : Int) + n := IntWalk.i64_in _ (by omega)
      have msub : IntKind.i64.wrap ((s.at_ : Int) + n - n) = (s.at_ : Int) := by rw [Int.add_sub_cancel]; exact IntWalk.i64_in _ (by omega)
      have f1 := heap_free hw.heap 1
      clear h HFAIL
      generalize takeL bs n s = o at *
      go_enter Tryd.func42, Tryd.ntmps42
      go_wp2
      go_quiet (fail)
      go_wp2
      have hw4 := (hw.drewN nq).set (o := 1) (.int .i64 ((s.at_ : Int) + n))
      clear hw c0 c1 c2 f1 hrl
      generalize World.setCell _ _ _ = w4 at *
      have c0 : w4.cell? ⟨r, 0, none⟩ = some (.slice (some ⟨b, off, none⟩) bs.length c) := hw4.one_cell rfl
      have c1 : w4.cell? ⟨r, 1, none⟩ = some (.int .i64 ((s.at_ : Int) + n)) := hw4.one_cell rfl
      have hrl := hw4.one_lt
      have hle : (s.at_ : Int) ≤ (s.at_ : Int) + n := by omega
      have hle2 : (s.at_ : Int) + n ≤ c := by omega
      have hge : (0 : Int) ≤ s.at_ := by omega
      go_quiet (fail)
      go_wp2
      go_ret
      unfold TakeP
      rw [HT.out]
      refine ⟨_, _, E, Hp.emp, HB, rfl, (hw4.drewN _).emp.down2, ⟨⟨.nilIface, rfl, rfl⟩⟩, .inr rfl, ?_⟩
      have h9 := HSL.out
      simpa using h9
end
end Go.Proofs.YtcndkpmeakaapaaDoor
