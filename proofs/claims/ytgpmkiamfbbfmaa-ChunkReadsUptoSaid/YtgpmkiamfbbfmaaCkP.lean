/- Walk: ChunkPieces. -/
import Derived.Test.YtgpmkiamfbbfmaaCkL
import Derived.Test.YtgpmkiamfbbfmaaCkO
import Derived.Lib.SlBytesConst
set_option linter.unusedVariables false
set_option linter.unusedSimpArgs false
namespace Go.Proofs.Ytgpmkiamfbbfmaa
open Go Go.RowKit
def kI : Kd Int := Kd.int .i64
theorem int_get {H : Hp} {v : Value} {xs : List Int} (hs : kI.IsSl H v xs) {k : Nat} (hk : k < xs.length) : ∃ b off c x, xs[k]? = some x ∧ v = .slice (some ⟨b, off, none⟩) xs.length c ∧ Hp.cell H b (off + k) = some (.int .i64 x) := by
  obtain ⟨A, c, rfl, _⟩ := hs.form
  obtain ⟨b, off, cs, rfl, hcs, hcell⟩ := hs.get k _ (List.getElem?_eq_getElem hk)
  obtain rfl : cs = _ := hcs
  exact ⟨b, off, c, _, List.getElem?_eq_getElem hk, rfl, by have := hcell 0 _ rfl; simpa [kI, Kd.int] using this⟩
/-- What is left to be read, told by the state at hand: the whole's result. -/
def PSt (r : CR) (s : CS) (rest got : List Int) (m : Nat) : Prop := comb got m (runC s rest) = r
theorem pst_step {r : CR} {s : CS} {rest got : List Int} {m k : Nat} (h : PSt r s rest got m) (he : s.err = none) (hk : k ≤ rest.length) :
    PSt r (runC s (rest.take k)).1 (rest.drop k) (got ++ (runC s (rest.take k)).2.1) (m + (runC s (rest.take k)).2.2) := by
  unfold PSt at *
  have e : rest = rest.take k ++ rest.drop k := (List.take_append_drop k rest).symm
  by_cases hf : (runC s (rest.take k)).1.err = none
  · rw [← h, e]
    conv => rhs; rw [run_append_ok _ _ _ hf]
    rw [comb_comb]
    conv => lhs; rw [← e]
  · rw [run_stop _ _ (.inl hf), ← h]
    have := run_append_err (rest.take k) (rest.drop k) s he hf
    rw [← e] at this
    rw [this]
    unfold comb
    simp
theorem pst_end {r : CR} {s : CS} {rest got : List Int} {m : Nat} (h : PSt r s rest got m) (hd : s.err ≠ none ∨ rest = []) : r = (s, got, m) := by
  unfold PSt at h
  rw [← h]
  rcases hd with hd | rfl
  · rw [run_stop _ _ (.inl hd)]; unfold comb; simp
  · rw [run_nil]; unfold comb; simp
theorem run_pb : ∀ (cs : List Int) (s : CS), CI s → (runC s cs).1.pos = s.pos + (runC s cs).2.2 ∧ (runC s cs).1.body = s.body + (runC s cs).2.1.length
  | [], s, _ => ⟨rfl, rfl⟩
  | c :: cs, s, hI => by
    by_cases h0 : s.err ≠ none ∨ s.st = 6
    · rw [run_stop s _ h0]; exact ⟨rfl, rfl⟩
    · have he : s.err = none := by simpa using (not_or.1 h0).1
      have h6 := (not_or.1 h0).2
      by_cases h3 : s.st = 3
      · rw [run_data1 s c cs he h3]
        obtain ⟨h1, h2⟩ := run_pb cs (dataC s 1) (hI.take 1 h3 (hI.data h3).1)
        refine ⟨?_, ?_⟩
        · show (runC (dataC s 1) cs).1.pos = s.pos + (1 + (runC (dataC s 1) cs).2.2)
          rw [h1]; show s.pos + 1 + _ = _; omega
        · show (runC (dataC s 1) cs).1.body = s.body + ([c] ++ (runC (dataC s 1) cs).2.1).length
          rw [h2, List.length_append]; show s.body + 1 + _ = _; simp; omega
      · obtain ⟨p1, p2⟩ := step_pb s c
        by_cases hf : (stepC s c).err = none
        · rw [run_ok s c cs he h6 h3 hf]
          obtain ⟨h1, h2⟩ := run_pb cs (posC (stepC s c)) (hI.step c).pos
          refine ⟨?_, ?_⟩
          · show (runC (posC (stepC s c)) cs).1.pos = s.pos + (1 + (runC (posC (stepC s c)) cs).2.2)
            rw [h1]; show (stepC s c).pos + 1 + _ = _; rw [p1]; omega
          · show (runC (posC (stepC s c)) cs).1.body = s.body + ([] ++ (runC (posC (stepC s c)) cs).2.1).length
            rw [h2, List.nil_append]; show (stepC s c).body + _ = _; rw [p2]
        · rw [run_fail s c cs he h6 h3 hf]
          exact ⟨p1, p2⟩
section
variable {σ w w' : World} {Hs : List Hp} {H H1 H2 M N Y : Hp}
set_option maxHeartbeats 20000000
set_option maxRecDepth 10000 in
theorem pieces_any (A : Option Addr) (c : Nat) (bs : List Int) (v : Value) (cuts : List Int) (cl : Bool) (w : World) (hw : Sat σ w Hs) (hH : H ∈ Hs) (hs : kB.IsSl H (.slice A bs.length c) bs) (hA : A = none → c = 0) (hH2 : H2 ∈ Hs) (hs2 : kI.IsSl H2 v cuts) (hby : ∀ x ∈ bs, 0 ≤ x ∧ x ≤ 255) (hcl : cuts.length ≤ 1048576) :
    Calls Try.prog 4 #[.slice A bs.length c, v, .bool cl] w fun e w' => e = .returned (.bool true) ∧ Sat σ w' Hs := by
  obtain ⟨A', c', e, hc1, hc2, _⟩ := id hs.form
  injection e with e1 _ e3
  subst e1; subst e3
  obtain ⟨A2, c2, rfl, hd1, hd2, _⟩ := id hs2.form
  have HB := Lib.hid hs; have HCU := Lib.hid hs2; have HBY := Lib.hid hby
  have hADD := Lib.hid (fun g M w' Hs' (h : Sat σ w' (M :: Hs')) (hm : H ∈ Hs') (hr : Rdr M g cs0) => add_any (.slice A bs.length c) bs w' h hm hs hr ci0 hby (by show 0 + bs.length ≤ _; omega))
  obtain ⟨r, hr⟩ : ∃ r, runC cs0 bs = r := ⟨_, rfl⟩
  rw [hr] at hADD
  have HR0 : Hid (PSt r cs0 bs [] 0) := Lib.hid (by unfold PSt; rw [hr]; exact comb_zero _)
  have HCI := Lib.hid (CI.run bs ci0)
  rw [hr] at HCI
  clear hs hs2 hby hr
  have kc := fun (w : World) (C : Array Value) (n c : Nat) => Lib.run_convert_bytes_const (P := Try.prog) w 22 5 C n c Try.underlying22 Try.underlying5
  go_enter Try.func4, Try.ntmps4
  go_wp2_with fail
  refine (works_any w hw).mono ?_
  rintro e w1 ⟨rfl, hw1⟩
  go_wp2_with fail
  refine (new_c w1 hw1).mono ?_
  rintro e w2 ⟨g1, M1, rfl, hw2, h1⟩
  go_wp2_with fail
  refine (new_c w2 hw2).mono ?_
  rintro e w3 ⟨g2, M2, rfl, hw3, h2⟩
  clear hw hw1 hw2
  go_wp2_with fail
  refine (hADD.out g1 M1 _ _ hw3.swap (by simp [hH]) h1).mono ?_
  rintro e w4 ⟨v1, ve1, MR, NA, rfl, hw4, hr1, ho1, hev1⟩
  obtain ⟨A1, c1, rfl, _⟩ := ho1.slice
  have HO1 := Lib.hid ho1; have HE1 := Lib.hid hev1; have HR1 := Lib.hid hr1
  have hw5 := hw4.third
  clear hw3 hADD h1 hw4 ho1 hev1 hr1
  have HM2 := Lib.hid h2
  clear h2
  have hw6 := hw5.alloc (.cells #[] 5)
  go_wp2_with fail
  clear hw5
  generalize hW6 : World.alloc w4 _ = w6 at *
  generalize w4.heap.size = n6 at *
  clear hW6
  go_loopg [16, 8, 12, 13, 14, 15, 17, 18, 19, 20, 21] (cuts.length + 1) (fun gk iv sv gv mv vf rv _ _ _ _ _ wr => ∃ (i g : Nat) (s : CS) (M G : Hp) (got : List Int) (Ag : Option Addr) (cg m : Nat) (rest : List Int) (Ar : Option Addr) (cr : Nat), iv = .int .i64 i ∧ sv = .pointer (some ⟨g, 0, none⟩) ∧ gv = .slice Ag got.length cg ∧ mv = .int .i64 m ∧ rv = .slice Ar rest.length cr ∧ Sat σ wr (G :: M :: NA :: MR :: Hs) ∧ Eager (gk + i = cuts.length + 1 ∧ Rdr M g s ∧ CI s ∧ Own G 5 1 (.slice Ag got.length cg) got.length (ints .u8 got) ∧ kB.IsSl H (.slice Ar rest.length cr) rest ∧ (Ar = none → cr = 0) ∧ EV M vf (errE s.err) ∧ PSt r s rest got m ∧ got.length = s.body ∧ m = s.pos ∧ s.pos + rest.length ≤ bs.length ∧ (i = cuts.length + 1 → rest = []) ∧ (∀ x ∈ rest, 0 ≤ x ∧ x ≤ 255) ∧ (s.err = none → PB s)))
  case atStart => exact ⟨0, g2, cs0, M2, _, [], some ⟨n6, 0, none⟩, 0, 0, bs, A, c, rfl, rfl, rfl, rfl, rfl, hw6, ⟨by omega, HM2.out, ci0, own_lit0 _ _ _, HB.out, hA, rfl, HR0.out, rfl, rfl, by show 0 + bs.length ≤ _; omega, fun h => by omega, HBY.out, fun _ => pb0⟩⟩
  case round =>
    obtain ⟨i, g, s, M, G, got, Ag, cg, m, rest, Ar, cr, rfl, rfl, rfl, rfl, rfl, hwr, hst⟩ := hrel
    obtain ⟨hgk, hT, hI, hG, hsl, hAr, hev, hp, hgl, hms, hpr, hir, hbr, hpb⟩ := hst.out
    clear hw6 hst
    have HG := Lib.hid hG; have HSL := Lib.hid hsl; have HEV := Lib.hid hev; have HP := Lib.hid hp; have HBR := Lib.hid hbr
    have HGL := Lib.hid hgl; have HMS := Lib.hid hms; have HPR := Lib.hid hpr
    clear hG hsl hev hp hbr hgl
    by_cases hf : s.err = none
    · have hv := HEV.out
      rw [hf] at hv
      obtain rfl : u14 = .nilIface := hv
      by_cases hi : i ≤ cuts.length
      · have hii : (i : Int) ≤ cuts.length := by omega
        have hPB := (hpb hf).small hI
        have HPB := Lib.hid (hpb hf)
        have HT := Lib.hid hT; have HI := Lib.hid hI; have HF := Lib.hid hf
        clear hpb hms hpr
        obtain ⟨Aq, cq, eq, hrc, hrc2, _⟩ := id HSL.out.form
        injection eq with eq1 _ eq3
        subst eq1; subst eq3
        go_upto_if 60 with fail
        go_cut [17] (fun kv wc => ∃ kk : Nat, kv = .int .i64 kk ∧ wc = wr ∧ Eager (kk ≤ rest.length ∧ (i = cuts.length → kk = rest.length)))
        case first =>
          by_cases hlt : i < cuts.length
          · have hli : (i : Int) < cuts.length := by omega
            obtain ⟨b9, o9, c9, x, hx, hv9, hcell⟩ := int_get HCU.out hlt
            injection hv9 with hv1 hv2 hv3
            subst hv1; subst hv3; clear hv2 hx
            have cx := hwr.cellAt (H := H2) (by simp [hH2]) hcell
            clear hcell
            by_cases h1 : (rest.length : Int) < x
            · by_cases h2 : (0 : Int) < rest.length
              · go_wp2_with fail
                go_meet
                exact ⟨rest.length, rfl, rfl, ⟨by omega, fun _ => rfl⟩⟩
              · have h2n : ¬ 0 < rest.length := by omega
                go_wp2_with fail
                go_meet
                exact ⟨0, rfl, rfl, ⟨by omega, fun h => by omega⟩⟩
            · by_cases h2 : (0 : Int) < x
              · go_wp2_with fail
                go_meet
                exact ⟨x.toNat, by rw [Int.toNat_of_nonneg (by omega)], rfl, ⟨by omega, fun h => by omega⟩⟩
              · go_wp2_with fail
                go_meet
                exact ⟨0, rfl, rfl, ⟨by omega, fun h => by omega⟩⟩
          · obtain rfl : i = cuts.length := by omega
            go_wp2_with fail
            go_meet
            exact ⟨rest.length, rfl, rfl, ⟨by omega, fun _ => rfl⟩⟩
        case rest =>
          obtain ⟨kk, rfl, rfl, hkk⟩ := hcut
          obtain ⟨hk1, hk2⟩ := hkk.out
          clear hkk
          go_upto_if 69 with fail
          go_cut [8, 18] (fun sv _ wc => ∃ (g' : Nat) (M' : Hp), sv = .pointer (some ⟨g', 0, none⟩) ∧ Sat σ wc (G :: M' :: NA :: MR :: Hs) ∧ Eager (Rdr M' g' s))
          case first =>
            cases cl
            · go_wp2_with fail
              go_meet
              exact ⟨g, M, rfl, hwr, ⟨HT.out⟩⟩
            · go_wp2_with fail
              refine (clone_c wc hwr (M := M) (by simp) HT.out HF.out).mono ?_
              rintro e w7 ⟨g3, M3, rfl, hw7, h7⟩
              have hw8 := Sat.bring (l₁ := [Hp.one w7.heap.size (.cells (ints .u8 [122, 122]).toArray 5 (2, 3)), M3, G]) (hw7.alloc (.cells (ints .u8 [122, 122]).toArray 5 (2, 3)))
              have hl := lit_sl w7.heap.size [122, 122] 5 (2, 3) (by decide)
              have HADD := Lib.hid (add_any (.slice (some ⟨w7.heap.size, 0, none⟩) 2 2) [122, 122] _ hw8 (H := Hp.one w7.heap.size (.cells (ints .u8 [122, 122]).toArray 5 (2, 3))) (by simp) hl HT.out HI.out (by decide) (by show s.pos + 2 ≤ _; omega))
              have H7 := Lib.hid h7
              clear hw8 hl h7 hwr
              go_wp2_with fail
              refine HADD.out.mono ?_
              rintro e w9 ⟨v9, ve9, M9, N9, rfl, hw9, _, _, _⟩
              have hL := hw9.drop.drop.drop.swap
              clear hw9 HADD hw7
              go_wp2_with fail
              go_meet
              exact ⟨g3, M3, rfl, hL, ⟨H7.out⟩⟩
          case rest =>
            clear hwr
            obtain ⟨g', M', rfl, hwr, hT'⟩ := hcut
            have HT' := Lib.hid hT'.out
            clear hT'
            have HPOS : Hid (s.pos + kk ≤ 9223372036854775807) := Lib.hid (by have := HPR.out; omega)
            have HL := Lib.hid (run_le (rest.take kk) s)
            have HPBY := Lib.hid (run_pb (rest.take kk) s HI.out)
            have HCI2 := Lib.hid (CI.run (rest.take kk) HI.out)
            have HPB2 := Lib.hid (fun h => PB.run (rest.take kk) HI.out HPB.out h)
            have HP2 := Lib.hid (pst_step HP.out HF.out hk1)
            have htl : (rest.take kk).length = kk := by rw [List.length_take]; omega
            have HTL := Lib.hid htl
            have hadd : ∀ (v : Value) w' Hs', Sat σ w' (M' :: Hs') → H ∈ Hs' → kB.IsSl H v (rest.take kk) → Calls Try.prog 8 #[.pointer (some ⟨g', 0, none⟩), v] w' (AddP σ Hs' g' (runC s (rest.take kk))) := fun v w' Hs' h hm hsl => add_any v (rest.take kk) w' h hm hsl HT'.out HI.out (fun x hx => HBR.out x (List.mem_of_mem_take hx)) (by rw [htl]; exact HPOS.out)
            have HADD := Lib.hid hadd
            clear hadd htl
            obtain ⟨r', hr'⟩ : ∃ r', runC s (rest.take kk) = r' := ⟨_, rfl⟩
            rw [hr'] at HADD HL HPBY HCI2 HPB2 HP2
            clear hr'
            obtain ⟨s', out, k'⟩ := r'
            cases Ar with
            | none =>
              have hcr0 := hAr rfl
              subst hcr0
              have hr0 : rest.length = 0 := by omega
              obtain rfl : rest = [] := List.eq_nil_of_length_eq_zero hr0
              obtain rfl : kk = 0 := by simpa using hk1
              have HS1 : Hid (kB.IsSl H (.slice none 0 0) (([] : List Int).take 0)) := Lib.hid (by
                have := HSL.out.cut 0 0 (by omega) hk1 0 (by omega) (by omega) none (fun h => absurd h (by omega))
                simpa using this)
              have HS2 : Hid (∀ Ax : Option Addr, (0 < ([] : List Int).length → Ax = (none : Option Addr).map (·.add 0)) → kB.IsSl H (.slice Ax (([] : List Int).length - 0) (0 - 0)) (([] : List Int).drop 0)) := Lib.hid (fun Ax hAx => by
                have := HSL.out.cut 0 ([] : List Int).length hk1 (Nat.le_refl _) (0 - 0) (by omega) (by omega) Ax (fun h => by rw [hAx h]; simp [kB, Kd.int])
                rwa [List.take_of_length_le (by rw [List.length_drop]; omega)] at this)
              go_wp2_with fail
              refine (HADD.out _ _ _ hwr.swap (by simp [hH]) HS1.out).mono ?_
              rintro e w7 ⟨vo, ve, M7, N7, rfl, hw7, hR7, ho7, hev7⟩
              have hsl7 := ho7.isSl (d := kB) (reps_ints _) rfl (Hp.le_refl _)
              obtain ⟨cells, hcs, hsrc⟩ := hsl7.src (P := Try.prog) (t := 22) Try.underlying22
              obtain rfl := reps_is hcs
              obtain ⟨A7, c7, rfl, _⟩ := ho7.slice
              have HSRC := Lib.hid hsrc; have HR7 := Lib.hid hR7; have HE7 := Lib.hid hev7
              have hkl : k' ≤ 0 := by have := HL.out; rw [HTL.out] at this; exact this
              have hkli : (k' : Int) ≤ 0 := by omega
              have hgo : got.length + out.length ≤ 1048576 := by have h1 : s'.body ≤ 1048576 := HCI2.out.body; have h2 : s'.body = s.body + out.length := HPBY.out.2; have h3 := HGL.out; omega
              have hmk : m + k' ≤ 9223372036854775807 := by have := HMS.out; have := HPOS.out; omega
              have hw8 := hw7.third
              clear hwr hsl7 hcs hsrc ho7 hR7 hev7 HADD hw7
              have hck : 0 - 0 = 0 := rfl
              have hs2x := HS2.out none (fun h => absurd h (by omega))
              rw [hck] at hs2x
              go_wp2_with (at_builtin; go_must (refine wpList_app hw8 rfl (.tmp 95) (.tmp 96) 22 22 5 (.int .u8 0) 1 1 rfl Try.underlying22 (by kernel_rfl) rfl (by decide) _ _ got.length out.length (ints .u8 got) (ints .u8 out) rfl rfl HG.out (HSRC.out _ (hw8.has _ (by simp))) (by omega) ?_); intro A9 c9 w9 G9 hw9 ho9 _ _)
              go_roundg (gk - 1)
              case measure => omega
              case rel =>
                have h2 : s'.body = s.body + out.length := HPBY.out.2
                have h1 : s'.pos = s.pos + k' := HPBY.out.1
                have h3 := HGL.out; have h4 := HMS.out; have h5 := HPR.out
                have hown : Own G9 5 1 (.slice A9 (got ++ out).length c9) (got ++ out).length (ints .u8 (got ++ out)) := by
                  rw [List.length_append]
                  have := ho9
                  rw [show ints .u8 got ++ ints .u8 out = ints .u8 (got ++ out) from by unfold ints; rw [List.map_append]] at this
                  exact this
                exact ⟨i + 1, g', s', M7, G9, got ++ out, A9, c9, m + k', ([] : List Int).drop 0, none, 0, by go_num, rfl, by rw [List.length_append], by go_num, by first | (rw [List.length_drop]; done) | rfl, hw9.drop1, ⟨by omega, HR7.out, HCI2.out, hown, by rw [List.length_drop]; exact hs2x, (fun _ => rfl), HE7.out, HP2.out, by rw [List.length_append, h2]; omega, by omega, by rw [List.length_drop]; omega, fun h => by rw [hk2 (by omega)]; exact List.drop_length, fun x hx => HBR.out x (List.mem_of_mem_drop hx), HPB2.out⟩⟩
            | some a =>
              have HS1 : Hid (kB.IsSl H (.slice (some a) kk cr) (rest.take kk)) := Lib.hid (by
                have := HSL.out.cut 0 kk (by omega) hk1 cr (by omega) (by omega) (some a) (fun h => by obtain ⟨b0, o0, _, e0, _⟩ := HSL.out.row (by omega); injection e0 with e0; subst e0; simp [addr_add])
                simpa using this)
              have HS2 : Hid (∀ Ax : Option Addr, (kk < rest.length → Ax = ((some a) : Option Addr).map (·.add kk)) → kB.IsSl H (.slice Ax (rest.length - kk) (cr - kk)) (rest.drop kk)) := Lib.hid (fun Ax hAx => by
                have := HSL.out.cut kk rest.length hk1 (Nat.le_refl _) (cr - kk) (by omega) (by omega) Ax (fun h => by rw [hAx h]; simp [kB, Kd.int])
                rwa [List.take_of_length_le (by rw [List.length_drop]; omega)] at this)
              go_wp2_with fail
              refine (HADD.out _ _ _ hwr.swap (by simp [hH]) HS1.out).mono ?_
              rintro e w7 ⟨vo, ve, M7, N7, rfl, hw7, hR7, ho7, hev7⟩
              have hsl7 := ho7.isSl (d := kB) (reps_ints _) rfl (Hp.le_refl _)
              obtain ⟨cells, hcs, hsrc⟩ := hsl7.src (P := Try.prog) (t := 22) Try.underlying22
              obtain rfl := reps_is hcs
              obtain ⟨A7, c7, rfl, _⟩ := ho7.slice
              have HSRC := Lib.hid hsrc; have HR7 := Lib.hid hR7; have HE7 := Lib.hid hev7
              have hkl : k' ≤ kk := by have := HL.out; rw [HTL.out] at this; exact this
              have hkli : (k' : Int) ≤ kk := by omega
              have hgo : got.length + out.length ≤ 1048576 := by have h1 : s'.body ≤ 1048576 := HCI2.out.body; have h2 : s'.body = s.body + out.length := HPBY.out.2; have h3 := HGL.out; omega
              have hmk : m + k' ≤ 9223372036854775807 := by have := HMS.out; have := HPOS.out; omega
              have hw8 := hw7.third
              clear hwr hsl7 hcs hsrc ho7 hR7 hev7 HADD hw7
              by_cases hck : cr - kk = 0
              · have hs2x := HS2.out (some a) (fun h => absurd h (by omega))
                rw [hck] at hs2x
                go_wp2_with (at_builtin; go_must (refine wpList_app hw8 rfl (.tmp 95) (.tmp 96) 22 22 5 (.int .u8 0) 1 1 rfl Try.underlying22 (by kernel_rfl) rfl (by decide) _ _ got.length out.length (ints .u8 got) (ints .u8 out) rfl rfl HG.out (HSRC.out _ (hw8.has _ (by simp))) (by omega) ?_); intro A9 c9 w9 G9 hw9 ho9 _ _)
                go_roundg (gk - 1)
                case measure => omega
                case rel =>
                  have h2 : s'.body = s.body + out.length := HPBY.out.2
                  have h1 : s'.pos = s.pos + k' := HPBY.out.1
                  have h3 := HGL.out; have h4 := HMS.out; have h5 := HPR.out
                  have hown : Own G9 5 1 (.slice A9 (got ++ out).length c9) (got ++ out).length (ints .u8 (got ++ out)) := by
                    rw [List.length_append]
                    have := ho9
                    rw [show ints .u8 got ++ ints .u8 out = ints .u8 (got ++ out) from by unfold ints; rw [List.map_append]] at this
                    exact this
                  exact ⟨i + 1, g', s', M7, G9, got ++ out, A9, c9, m + k', rest.drop kk, (some a), 0, by go_num, rfl, by rw [List.length_append], by go_num, by first | (rw [List.length_drop]; done) | rfl, hw9.drop1, ⟨by omega, HR7.out, HCI2.out, hown, by rw [List.length_drop]; exact hs2x, (fun _ => rfl), HE7.out, HP2.out, by rw [List.length_append, h2]; omega, by omega, by rw [List.length_drop]; omega, fun h => by rw [hk2 (by omega)]; exact List.drop_length, fun x hx => HBR.out x (List.mem_of_mem_drop hx), HPB2.out⟩⟩
              · have hs2x := HS2.out (some (a.add kk)) (fun _ => rfl)
                go_wp2_with (at_builtin; go_must (refine wpList_app hw8 rfl (.tmp 95) (.tmp 96) 22 22 5 (.int .u8 0) 1 1 rfl Try.underlying22 (by kernel_rfl) rfl (by decide) _ _ got.length out.length (ints .u8 got) (ints .u8 out) rfl rfl HG.out (HSRC.out _ (hw8.has _ (by simp))) (by omega) ?_); intro A9 c9 w9 G9 hw9 ho9 _ _)
                go_roundg (gk - 1)
                case measure => omega
                case rel =>
                  have h2 : s'.body = s.body + out.length := HPBY.out.2
                  have h1 : s'.pos = s.pos + k' := HPBY.out.1
                  have h3 := HGL.out; have h4 := HMS.out; have h5 := HPR.out
                  have hown : Own G9 5 1 (.slice A9 (got ++ out).length c9) (got ++ out).length (ints .u8 (got ++ out)) := by
                    rw [List.length_append]
                    have := ho9
                    rw [show ints .u8 got ++ ints .u8 out = ints .u8 (got ++ out) from by unfold ints; rw [List.map_append]] at this
                    exact this
                  exact ⟨i + 1, g', s', M7, G9, got ++ out, A9, c9, m + k', rest.drop kk, (some (a.add kk)), (cr - kk), by go_num, rfl, by rw [List.length_append], by go_num, by first | (rw [List.length_drop]; done) | rfl, hw9.drop1, ⟨by omega, HR7.out, HCI2.out, hown, by rw [List.length_drop]; exact hs2x, (fun h => by cases h), HE7.out, HP2.out, by rw [List.length_append, h2]; omega, by omega, by rw [List.length_drop]; omega, fun h => by rw [hk2 (by omega)]; exact List.drop_length, fun x hx => HBR.out x (List.mem_of_mem_drop hx), HPB2.out⟩⟩
      · have hend : s.err ≠ none ∨ rest = [] := .inr (hir (by omega))
        have hii : ¬ (i : Int) ≤ cuts.length := by omega
        have hrs := pst_end HP.out hend
        have HD1 : Hid (∀ w' Hs', Sat σ w' Hs' → MR ∈ Hs' → Calls Try.prog 12 #[.pointer (some ⟨g1, 0, none⟩)] w' fun e w2 => e = .returned (.bool (decide (s.st = 6))) ∧ w2 = w') := Lib.hid (fun w' Hs' h hm => by have := done_c w' h hm HR1.out; rw [hrs] at this; exact this)
        have HD2 := Lib.hid (fun w' Hs' (h : Sat σ w' Hs') (hm : M ∈ Hs') => done_c w' h hm hT)
        have HLK := Lib.hid (fun w' Hs' (h : Sat σ w' Hs') (hm : MR ∈ Hs') (hm2 : M ∈ Hs') => likeE_any ve1 .nilIface (errE s.err) w' h hm hm2 (by have := HE1.out; rw [hrs] at this; exact this) HEV.out)
        have hv1 := HO1.out.isSl (d := kB) (reps_ints _) rfl (Hp.le_refl _)
        have HV2 := Lib.hid (HG.out.isSl (d := kB) (reps_ints _) rfl (Hp.le_refl _))
        have hRR := HR1.out
        rw [hrs] at hRR hv1
        have HV1 := Lib.hid hv1
        have HT := Lib.hid hT; have HRR := Lib.hid hRR
        have e1 : r.2.1.length = got.length := by rw [hrs]
        have e2 : r.2.2 = m := by rw [hrs]
        clear hv1 hT hRR hrs
        go_wp2_with fail
        refine (read_c wr hwr (M := MR) (by simp) HRR.out).mono ?_
        rintro e w7 ⟨rfl, hw7⟩
        go_wp2_with fail
        refine (read_c w7 hw7 (M := M) (by simp) HT.out).mono ?_
        rintro e w8 ⟨rfl, hw8⟩
        clear hwr hw7
        go_wp2_with (first
          | (go_at_call 11; (try rw [e1]); (try rw [e2]); refine (sameB_any (H1 := NA) (H2 := G) _ _ got w8 hw8 (by simp) (by simp) (HV1.out) HV2.out).mono ?_; rintro e w9 ⟨rfl, hw9⟩)
          | (go_at_call 16; refine (HLK.out _ _ hw9 (by simp) (by simp)).mono ?_; rintro e wa ⟨rfl, hwa⟩)
          | (go_at_call 12; first | (with_reducible refine (HD1.out _ _ hwa (by simp)).mono ?_; rintro e wb ⟨rfl, rfl⟩) | (with_reducible refine (HD2.out _ _ hwa (by simp)).mono ?_; rintro e wb ⟨rfl, rfl⟩)))
        go_ret
        exact ⟨rfl, hwa.drop.drop.drop.drop⟩
    · have hend : s.err ≠ none ∨ rest = [] := .inl hf
      obtain ⟨y, hy⟩ := Option.ne_none_iff_exists'.1 hf
      have hv := HEV.out
      rw [hy] at hv
      obtain ⟨⟨fb, v', hvf, _⟩, _⟩ := hv
      subst hvf
      clear hy hf
      have hrs := pst_end HP.out hend
      have HD1 : Hid (∀ w' Hs', Sat σ w' Hs' → MR ∈ Hs' → Calls Try.prog 12 #[.pointer (some ⟨g1, 0, none⟩)] w' fun e w2 => e = .returned (.bool (decide (s.st = 6))) ∧ w2 = w') := Lib.hid (fun w' Hs' h hm => by have := done_c w' h hm HR1.out; rw [hrs] at this; exact this)
      have HD2 := Lib.hid (fun w' Hs' (h : Sat σ w' Hs') (hm : M ∈ Hs') => done_c w' h hm hT)
      have HLK := Lib.hid (fun w' Hs' (h : Sat σ w' Hs') (hm : MR ∈ Hs') (hm2 : M ∈ Hs') => likeE_any ve1 (.iface 46 (.pointer (some ⟨fb, 0, none⟩))) (errE s.err) w' h hm hm2 (by have := HE1.out; rw [hrs] at this; exact this) HEV.out)
      have hv1 := HO1.out.isSl (d := kB) (reps_ints _) rfl (Hp.le_refl _)
      have HV2 := Lib.hid (HG.out.isSl (d := kB) (reps_ints _) rfl (Hp.le_refl _))
      have hRR := HR1.out
      rw [hrs] at hRR hv1
      have HV1 := Lib.hid hv1
      have HT := Lib.hid hT; have HRR := Lib.hid hRR
      have e1 : r.2.1.length = got.length := by rw [hrs]
      have e2 : r.2.2 = m := by rw [hrs]
      clear hv1 hT hRR hrs
      go_wp2_with fail
      refine (read_c wr hwr (M := MR) (by simp) HRR.out).mono ?_
      rintro e w7 ⟨rfl, hw7⟩
      go_wp2_with fail
      refine (read_c w7 hw7 (M := M) (by simp) HT.out).mono ?_
      rintro e w8 ⟨rfl, hw8⟩
      clear hwr hw7
      go_wp2_with (first
        | (go_at_call 11; (try rw [e1]); (try rw [e2]); refine (sameB_any (H1 := NA) (H2 := G) _ _ got w8 hw8 (by simp) (by simp) (HV1.out) HV2.out).mono ?_; rintro e w9 ⟨rfl, hw9⟩)
        | (go_at_call 16; refine (HLK.out _ _ hw9 (by simp) (by simp)).mono ?_; rintro e wa ⟨rfl, hwa⟩)
        | (go_at_call 12; first | (with_reducible refine (HD1.out _ _ hwa (by simp)).mono ?_; rintro e wb ⟨rfl, rfl⟩) | (with_reducible refine (HD2.out _ _ hwa (by simp)).mono ?_; rintro e wb ⟨rfl, rfl⟩)))
      go_ret
      exact ⟨rfl, hwa.drop.drop.drop.drop⟩
end
end Go.Proofs.Ytgpmkiamfbbfmaa
