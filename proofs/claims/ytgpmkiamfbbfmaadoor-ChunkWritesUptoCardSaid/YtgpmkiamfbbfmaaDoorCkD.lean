/- Walks: a chunk's reader: Add. -/
import Derived.Test.YtgpmkiamfbbfmaaDoorCkC
set_option linter.unusedVariables false
set_option linter.unusedSimpArgs false
namespace Go.Proofs.YtgpmkiamfbbfmaaDoor
open Go Go.RowKit
section
variable {σ w w' : World} {Hs : List Hp} {H H1 H2 M N Y : Hp}
set_option maxHeartbeats 8000000
def errE (e : Option (Nat × Int)) : Option (Ch × Int) := e.map fun x => ([(chunkB, (x.1 : Int))], x.2)
theorem ev_of {M : Hp} {fb : Nat} {x : Nat × Int} (h : M fb = some (.cells #[.string chunkB, .int .i64 x.1, .iface 24 (.int .i64 x.2)] 50 (0, 0))) : EV M (.iface 46 (.pointer (some ⟨fb, 0, none⟩))) (errE (some x)) :=
  ⟨⟨fb, _, rfl, h, rfl⟩, by show 1 ≤ 4; omega, by show 0 < 1; omega⟩
def AddP (σ : World) (Hs : List Hp) (g : Nat) (r : CR) (e : Ending) (w' : World) : Prop :=
  ∃ vo ve M' N, e = .returned (.tuple #[vo, .int .i64 (r.2.2 : Nat), ve]) ∧ Sat σ w' (N :: M' :: Hs) ∧ Rdr M' g r.1 ∧ Own N 5 1 vo r.2.1.length (ints .u8 r.2.1) ∧ EV M' ve (errE r.1.err)
theorem upd3 (s : CS) (pe : Value) (n : Nat) (hn : n ≤ s.left) : (((rdA s pe).setIfInBounds 4 (.int .i64 ((s.pos : Int) + n))).setIfInBounds 2 (.int .i64 ((s.left : Int) - n))).setIfInBounds 5 (.int .i64 ((s.body : Int) + n)) = rdA { s with pos := s.pos + n, left := s.left - n, body := s.body + n } pe := by
  have e : ((s.left - n : Nat) : Int) = (s.left : Int) - n := by omega
  apply Array.ext'
  simp only [Array.toList_setIfInBounds, rdA, List.set_cons_zero, List.set_cons_succ, e, Int.natCast_add]
theorem upd4 (s : CS) (pe : Value) : (rdA s pe).setIfInBounds 0 (.int .i64 4) = rdA { s with st := 4 } pe := by
  apply Array.ext'
  simp only [Array.toList_setIfInBounds, rdA, List.set_cons_zero, List.set_cons_succ]
  rfl
theorem updP (s : CS) (pe : Value) : (rdA s pe).setIfInBounds 4 (.int .i64 ((s.pos : Int) + 1)) = rdA (posC s) pe := by
  apply Array.ext'
  simp only [Array.toList_setIfInBounds, rdA, posC, List.set_cons_zero, List.set_cons_succ]
  rfl
theorem drop_cons {bs : List Int} {k : Nat} {x : Int} (h : bs[k]? = some x) : bs.drop k = x :: bs.drop (k + 1) := by
  obtain ⟨h1, h2⟩ := List.getElem?_eq_some_iff.1 h
  rw [← h2]
  exact List.drop_eq_getElem_cons h1
theorem add_err {g : Nat} {s : CS} (v : Value) (bs : List Int) (x : Nat × Int) (w : World) (hw : Sat σ w (M :: Hs)) (h : Rdr M g s) (he : s.err = some x) :
    Calls Tryd.prog 8 #[.pointer (some ⟨g, 0, none⟩), v] w (AddP σ Hs g (runC s bs)) := by
  rw [run_stop s bs (.inl (by simp [he]))]
  unfold AddP
  obtain ⟨pe, h1, h2⟩ := id h.ex
  have HH := Lib.hid h
  rw [he] at h2
  obtain ⟨fb, rfl, hfb⟩ := h2
  have c7 : w.cell? ⟨g, 7, none⟩ = some (.bool true) := hw.m_cell h1 (o := 7) rfl
  have c6 : w.cell? ⟨g, 6, none⟩ = some (.pointer (some ⟨fb, 0, none⟩)) := hw.m_cell h1 (o := 6) rfl
  have HEV := Lib.hid (ev_of hfb)
  have HE := Lib.hid he
  clear h1 hfb h he
  go_enter Tryd.func8, Tryd.ntmps8
  go_wp2
  go_quiet (fail)
  go_wp2
  go_ret3
  exact ⟨.slice none 0 0, _, M, _, rfl, (hw.drewN _).emp, HH.out, Own.nil _ _ _, by show EV M _ (errE s.err); rw [HE.out]; exact HEV.out⟩
theorem fail_pos (s : CS) (c : Int) : (failC s c).pos = s.pos ∧ (failC s c).body = s.body := ⟨rfl, rfl⟩
theorem must_pos (s : CS) (c a : Int) (n : Nat) : (mustC s c a n).pos = s.pos ∧ (mustC s c a n).body = s.body := by
  unfold mustC; split <;> exact ⟨rfl, rfl⟩
theorem dig_pos (s : CS) (c : Int) : (digC s c).pos = s.pos ∧ (digC s c).body = s.body := by
  unfold digC; split
  · exact ⟨rfl, rfl⟩
  · split <;> exact ⟨rfl, rfl⟩
theorem head_pos (s : CS) (c : Int) : (headC s c).pos = s.pos ∧ (headC s c).body = s.body := by
  unfold headC; split
  · exact dig_pos s c
  · split <;> exact ⟨rfl, rfl⟩
theorem step_pb (s : CS) (c : Int) : (stepC s c).pos = s.pos ∧ (stepC s c).body = s.body := by
  unfold stepC
  split
  · exact head_pos (zeroC s) c
  · split
    · exact head_pos s c
    · split
      · exact must_pos (leftC s) c _ _
      · split <;> exact must_pos s c _ _
set_option maxRecDepth 10000 in
theorem add_any {g : Nat} {s : CS} (v : Value) (bs : List Int) (w : World) (hw : Sat σ w (M :: Hs)) (hH : H ∈ Hs) (hs : kB.IsSl H v bs) (h : Rdr M g s) (hI : CI s) (hby : ∀ x ∈ bs, 0 ≤ x ∧ x ≤ 255) (hpos : s.pos + bs.length ≤ 9223372036854775807) :
    Calls Tryd.prog 8 #[.pointer (some ⟨g, 0, none⟩), v] w (AddP σ Hs g (runC s bs)) := by
  by_cases he : s.err = none
  case neg =>
    obtain ⟨x, hx⟩ := Option.ne_none_iff_exists'.1 he
    exact add_err v bs x w hw h hx
  unfold AddP
  obtain ⟨A, c, rfl, hc1, hc2, _⟩ := hs.form
  obtain ⟨pe, h1, h2⟩ := id h.ex
  have HB := Lib.hid hs; have HBY := Lib.hid hby
  have c7 : w.cell? ⟨g, 7, none⟩ = some (.bool true) := hw.m_cell h1 (o := 7) rfl
  rw [he] at h2
  obtain rfl : pe = _ := h2
  have c6 : w.cell? ⟨g, 6, none⟩ = some (.pointer none) := hw.m_cell h1 (o := 6) rfl
  have HH := Lib.hid (And.intro h (And.intro hI he))
  clear h1 h hI he hs hby
  go_enter Tryd.func8, Tryd.ntmps8
  go_wp2
  clear c7 c6
  go_loopw [8, 7, 9] (fun i o _ wr => ∃ (k : Nat) (s1 : CS) (M' N : Hp) (Ao : Option Addr) (co : Nat) (out : List Int), k ≤ bs.length ∧ i = .int .i64 k ∧ o = .slice Ao out.length co ∧ Sat σ wr (N :: M' :: Hs) ∧ Eager (Rdr M' g s1 ∧ CI s1 ∧ s1.err = none ∧ Own N 5 1 (.slice Ao out.length co) out.length (ints .u8 out) ∧ comb out k (runC s1 (bs.drop k)) = runC s bs ∧ out.length ≤ s1.body ∧ s1.pos = s.pos + k)) (fun i _ _ _ => bs.length - (intOf i).toNat)
  case atStart => exact ⟨0, s, M, Hp.emp, none, 0, [], by omega, rfl, rfl, hw.emp, ⟨HH.out.1, HH.out.2.1, HH.out.2.2, Own.nil _ _ _, by rw [List.drop_zero]; exact comb_zero _, Nat.zero_le _, rfl⟩⟩
  case round =>
    obtain ⟨k, s1, M1, N1, Ao, co, out, hk, rfl, rfl, hwr, hst⟩ := hrel
    obtain ⟨hT, hI, he, ho, hrun, hol, hsp⟩ := hst.out
    clear hw hst
    obtain ⟨pe, h1, h2⟩ := id hT.ex
    rw [he] at h2
    obtain rfl : pe = _ := h2
    have c0 : wr.cell? ⟨g, 0, none⟩ = some (.int .i64 s1.st) := hwr.drop.m_cell h1 (o := 0) rfl
    have HO := Lib.hid ho; have HRUN := Lib.hid hrun
    clear ho hrun
    by_cases hlt : k < bs.length
    · have hki : (k : Int) < bs.length := by omega
      by_cases h6 : s1.st = 6
      · have HT := Lib.hid hT
        have HE : Hid (runC s bs = (s1, out, k)) := Lib.hid (by rw [← HRUN.out, run_stop s1 _ (.inr h6)]; unfold comb; simp)
        rw [h6] at c0
        clear hT h1
        go_wp2
        go_ret3
        rw [HE.out]
        exact ⟨.slice Ao out.length co, .nilIface, M1, N1, rfl, hwr, HT.out, HO.out, by show EV M1 _ (errE s1.err); rw [he]; rfl⟩
      · have hb6 : ((s1.st : Int) != 6) = true := by simp; omega
        by_cases h3 : s1.st = 3
        · have hb3 : ((s1.st : Int) == 3) = true := by simp; omega
          obtain ⟨hl0, hlb⟩ := hI.data h3
          have c2 : wr.cell? ⟨g, 2, none⟩ = some (.int .i64 s1.left) := hwr.drop.m_cell h1 (o := 2) rfl
          obtain ⟨gb, off, c', x, hx, hv, hcell⟩ := byte_get HB.out hlt
          injection hv with hv1 hv2 hv3
          subst hv1; subst hv3; clear hv2 hcell hx
          rw [h3] at c0
          by_cases hmin : bs.length - k < s1.left
          · obtain ⟨m, hm⟩ : ∃ m : Nat, (bs.length : Int) - k = m := ⟨bs.length - k, by omega⟩
            have hmm : bs.length - k = m := by omega
            have hn0 : 0 < m := by omega
            have hnl : m ≤ s1.left := by omega
            have hnb : k + m ≤ bs.length := by omega
            have hmi : (m : Int) < s1.left := by omega
            have hd0 : ¬ s1.left - m = 0 := by omega
            have HML : Hid (s1.left = s1.left) := Lib.hid rfl
            have HD3 : Hid (dataC s1 m = { s1 with pos := s1.pos + m, left := s1.left - m, body := s1.body + m }) := Lib.hid (by unfold dataC; rw [if_neg hd0, ← h3])
            clear hmm hmin hd0
            have hsl := HB.out
            have hcut : ∀ (A' : Option Addr) (hA : k < k + m → A' = some (⟨gb, off + k, none⟩ : Addr)), kB.IsSl H (.slice A' m (c - k)) ((bs.drop k).take m) := fun A' hA => by
              have := hsl.cut k (k + m) (by omega) (by omega) (c - k) (by omega) (by omega) A' (fun h => by rw [hA h, Option.map_some, addr_add]; simp [kB, Kd.int])
              rwa [Nat.add_sub_cancel_left] at this
            have hxl : ((bs.drop k).take m).length = m := by rw [List.length_take, List.length_drop]; omega
            have HSRC : Hid (∀ (A' : Option Addr) (ml mc : Nat) (hml : ml = m) (hmc : mc = c - k) (hA : k < k + m → A' = some (⟨gb, off + k, none⟩ : Addr)) (W : World), Hp.le H (hpOf W) → Src Tryd.prog 1 22 (.slice A' ml mc) m (ints .u8 ((bs.drop k).take m)) W) := Lib.hid (fun A' ml mc hml hmc hA => by
              subst hml; subst hmc
              obtain ⟨cells, hcs, hsrc⟩ := (hcut A' hA).src (P := Tryd.prog) (t := 22) Tryd.underlying22
              obtain rfl := reps_is hcs
              rw [hxl] at hsrc
              exact hsrc)
            have HXL := Lib.hid hxl
            have HR := Lib.hid (run_data m s1 (bs.drop k) he h3 hn0 hnl (by rw [List.length_drop]; omega))
            have HI := Lib.hid (hI.take m h3 hnl)
            have HE1 := Lib.hid he
            have c4 : wr.cell? ⟨g, 4, none⟩ = some (.int .i64 s1.pos) := hwr.drop.m_cell h1 (o := 4) rfl
            have c5 : wr.cell? ⟨g, 5, none⟩ = some (.int .i64 s1.body) := hwr.drop.m_cell h1 (o := 5) rfl
            have HC : Hid (∀ w' Hs', Sat σ w' Hs' → M1 ∈ Hs' → w'.cell? ⟨g, 0, none⟩ = some (.int .i64 3) ∧ w'.cell? ⟨g, 2, none⟩ = some (.int .i64 s1.left) ∧ w'.cell? ⟨g, 4, none⟩ = some (.int .i64 s1.pos) ∧ w'.cell? ⟨g, 5, none⟩ = some (.int .i64 s1.body)) := Lib.hid (fun w' Hs' h hm => ⟨by have e : w'.cell? ⟨g, 0, none⟩ = some (.int .i64 s1.st) := h.cellAt hm (Hp.cell_of h1 (o := 0) rfl); rw [h3] at e; exact e, by have e : w'.cell? ⟨g, 2, none⟩ = some (.int .i64 s1.left) := h.cellAt hm (Hp.cell_of h1 (o := 2) rfl); rw [HML.out] at e; exact e, h.cellAt hm (Hp.cell_of h1 (o := 4) rfl), h.cellAt hm (Hp.cell_of h1 (o := 5) rfl)⟩)
            have H1 := Lib.hid h1
            have HOL := Lib.hid hol; have HSP := Lib.hid hsp
            have hob : out.length + m ≤ 1048576 := by omega
            have hpp : s1.pos + m ≤ 9223372036854775807 := by omega
            have hkc : ¬ c - k = 0 := by omega
            have hkc2 : k < c := by omega
            have hcki : (k : Int) + m ≤ c := by omega
            have hbn : s1.body + m ≤ 1048576 := by omega
            have hln : (m : Int) ≤ s1.left := by have := HML.out; omega
            clear hsl hcut hxl h1 hT hol hsp c4 c5
            go_wp2_with (at_builtin; go_must (refine wpList_app hwr rfl (.tmp 58) (.tmp 64) 22 22 5 (.int .u8 0) 1 1 rfl Tryd.underlying22 (by kernel_rfl) rfl (by decide) _ _ out.length m (ints .u8 out) _ rfl rfl HO.out (HSRC.out _ _ _ (by omega) (by omega) (fun _ => rfl) _ (hwr.has _ (by simp [hH]))) (by omega) ?_); intro A1 c1' w2 N2 hw2 ho3 _ _; clear hwr c0 c2; obtain ⟨c0, c2, c4, c5⟩ := HC.out _ _ hw2 (by simp); have f0 := heap_free (hw2.drop.le _ _ H1.out) 0; have f2 := heap_free (hw2.drop.le _ _ H1.out) 2; have f4 := heap_free (hw2.drop.le _ _ H1.out) 4; have f5 := heap_free (hw2.drop.le _ _ H1.out) 5)
            have U1 := hw2.swap.upd H1.out (o := 4) (.int .i64 ((s1.pos : Int) + m))
            have U2 := U1.upd (Hp.upd_self _ _ _) (o := 2) (.int .i64 ((s1.left : Int) - m))
            have U3 := U2.upd (Hp.upd_self _ _ _) (o := 5) (.int .i64 ((s1.body : Int) + m))
            rw [Hp.upd_upd, Hp.upd_upd, upd3 _ _ _ hnl] at U3
            have hTT := Rdr.to (s' := { s1 with pos := s1.pos + m, left := s1.left - m, body := s1.body + m }) H1.out (show EP M1 _ s1.err from by rw [HE1.out]; rfl) rfl
            rw [← HD3.out] at U3 hTT
            have hown : Own N2 5 1 (.slice A1 (out ++ (bs.drop k).take m).length c1') (out ++ (bs.drop k).take m).length (ints .u8 (out ++ (bs.drop k).take m)) := by
              rw [List.length_append, HXL.out]
              have := ho3
              rw [show ints .u8 out ++ ints .u8 ((bs.drop k).take m) = ints .u8 (out ++ (bs.drop k).take m) from by unfold ints; rw [List.map_append]] at this
              exact this
            exact ⟨⟨k + m, dataC s1 m, _, N2, A1, c1', out ++ (bs.drop k).take m, by omega, by go_num, by rw [List.length_append, HXL.out], U3.swap, ⟨hTT, HI.out, HE1.out, hown, by rw [← HRUN.out, HR.out, comb_comb, List.drop_drop], by rw [List.length_append, HXL.out]; show _ ≤ s1.body + m; have := HOL.out; omega, by show s1.pos + m = _; rw [HSP.out]; omega⟩⟩, by simp [intOf]; omega⟩
          · obtain ⟨m, hml⟩ : ∃ m : Nat, s1.left = m := ⟨_, rfl⟩
            rw [hml] at hmin hl0 hlb c2
            have hn0 : 0 < m := hl0
            have hnl : m ≤ s1.left := by omega
            have hnb : k + m ≤ bs.length := by omega
            have hmi : ¬ (bs.length : Int) - k < m := by omega
            have HML : Hid (s1.left = m) := Lib.hid hml
            have HD3 : Hid (dataC s1 m = { ({ s1 with pos := s1.pos + m, left := s1.left - m, body := s1.body + m } : CS) with st := 4 }) := Lib.hid (by unfold dataC; rw [if_pos (by omega)])
            have HZ : Hid (((s1.left : Nat) : Int) - m = 0) := Lib.hid (by omega)
            clear hmin hml
            have hsl := HB.out
            have hcut : ∀ (A' : Option Addr) (hA : k < k + m → A' = some (⟨gb, off + k, none⟩ : Addr)), kB.IsSl H (.slice A' m (c - k)) ((bs.drop k).take m) := fun A' hA => by
              have := hsl.cut k (k + m) (by omega) (by omega) (c - k) (by omega) (by omega) A' (fun h => by rw [hA h, Option.map_some, addr_add]; simp [kB, Kd.int])
              rwa [Nat.add_sub_cancel_left] at this
            have hxl : ((bs.drop k).take m).length = m := by rw [List.length_take, List.length_drop]; omega
            have HSRC : Hid (∀ (A' : Option Addr) (ml mc : Nat) (hml : ml = m) (hmc : mc = c - k) (hA : k < k + m → A' = some (⟨gb, off + k, none⟩ : Addr)) (W : World), Hp.le H (hpOf W) → Src Tryd.prog 1 22 (.slice A' ml mc) m (ints .u8 ((bs.drop k).take m)) W) := Lib.hid (fun A' ml mc hml hmc hA => by
              subst hml; subst hmc
              obtain ⟨cells, hcs, hsrc⟩ := (hcut A' hA).src (P := Tryd.prog) (t := 22) Tryd.underlying22
              obtain rfl := reps_is hcs
              rw [hxl] at hsrc
              exact hsrc)
            have HXL := Lib.hid hxl
            have HR := Lib.hid (run_data m s1 (bs.drop k) he h3 hn0 hnl (by rw [List.length_drop]; omega))
            have HI := Lib.hid (hI.take m h3 hnl)
            have HE1 := Lib.hid he
            have c4 : wr.cell? ⟨g, 4, none⟩ = some (.int .i64 s1.pos) := hwr.drop.m_cell h1 (o := 4) rfl
            have c5 : wr.cell? ⟨g, 5, none⟩ = some (.int .i64 s1.body) := hwr.drop.m_cell h1 (o := 5) rfl
            have HC : Hid (∀ w' Hs', Sat σ w' Hs' → M1 ∈ Hs' → w'.cell? ⟨g, 0, none⟩ = some (.int .i64 3) ∧ w'.cell? ⟨g, 2, none⟩ = some (.int .i64 m) ∧ w'.cell? ⟨g, 4, none⟩ = some (.int .i64 s1.pos) ∧ w'.cell? ⟨g, 5, none⟩ = some (.int .i64 s1.body)) := Lib.hid (fun w' Hs' h hm => ⟨by have e : w'.cell? ⟨g, 0, none⟩ = some (.int .i64 s1.st) := h.cellAt hm (Hp.cell_of h1 (o := 0) rfl); rw [h3] at e; exact e, by have e : w'.cell? ⟨g, 2, none⟩ = some (.int .i64 s1.left) := h.cellAt hm (Hp.cell_of h1 (o := 2) rfl); rw [HML.out] at e; exact e, h.cellAt hm (Hp.cell_of h1 (o := 4) rfl), h.cellAt hm (Hp.cell_of h1 (o := 5) rfl)⟩)
            have H1 := Lib.hid h1
            have HOL := Lib.hid hol; have HSP := Lib.hid hsp
            have hob : out.length + m ≤ 1048576 := by omega
            have hpp : s1.pos + m ≤ 9223372036854775807 := by omega
            have hkc : ¬ c - k = 0 := by omega
            have hkc2 : k < c := by omega
            have hcki : (k : Int) + m ≤ c := by omega
            have hbn : s1.body + m ≤ 1048576 := by omega
            have hln : (m : Int) ≤ m := by have := HML.out; omega
            clear hsl hcut hxl h1 hT hol hsp c4 c5
            go_wp2_with (at_builtin; go_must (refine wpList_app hwr rfl (.tmp 58) (.tmp 64) 22 22 5 (.int .u8 0) 1 1 rfl Tryd.underlying22 (by kernel_rfl) rfl (by decide) _ _ out.length m (ints .u8 out) _ rfl rfl HO.out (HSRC.out _ _ _ (by omega) (by omega) (fun _ => rfl) _ (hwr.has _ (by simp [hH]))) (by omega) ?_); intro A1 c1' w2 N2 hw2 ho3 _ _; clear hwr c0 c2; obtain ⟨c0, c2, c4, c5⟩ := HC.out _ _ hw2 (by simp); have f0 := heap_free (hw2.drop.le _ _ H1.out) 0; have f2 := heap_free (hw2.drop.le _ _ H1.out) 2; have f4 := heap_free (hw2.drop.le _ _ H1.out) 4; have f5 := heap_free (hw2.drop.le _ _ H1.out) 5)
            have U1 := hw2.swap.upd H1.out (o := 4) (.int .i64 ((s1.pos : Int) + m))
            have U2 := U1.upd (Hp.upd_self _ _ _) (o := 2) (.int .i64 ((s1.left : Int) - m))
            have U3 := U2.upd (Hp.upd_self _ _ _) (o := 5) (.int .i64 ((s1.body : Int) + m))
            rw [Hp.upd_upd, Hp.upd_upd, upd3 _ _ _ hnl] at U3
            have U4 := U3.upd (Hp.upd_self _ _ _) (o := 0) (.int .i64 4)
            rw [Hp.upd_upd, upd4, HZ.out] at U4
            have hTT := Rdr.to (s' := { ({ s1 with pos := s1.pos + m, left := s1.left - m, body := s1.body + m } : CS) with st := 4 }) H1.out (show EP M1 _ s1.err from by rw [HE1.out]; rfl) rfl
            rw [← HD3.out] at U4 hTT
            have U3 := U4
            have hown : Own N2 5 1 (.slice A1 (out ++ (bs.drop k).take m).length c1') (out ++ (bs.drop k).take m).length (ints .u8 (out ++ (bs.drop k).take m)) := by
              rw [List.length_append, HXL.out]
              have := ho3
              rw [show ints .u8 out ++ ints .u8 ((bs.drop k).take m) = ints .u8 (out ++ (bs.drop k).take m) from by unfold ints; rw [List.map_append]] at this
              exact this
            exact ⟨⟨k + m, dataC s1 m, _, N2, A1, c1', out ++ (bs.drop k).take m, by omega, by go_num, by rw [List.length_append, HXL.out], U3.swap, ⟨hTT, HI.out, HE1.out, hown, by rw [← HRUN.out, HR.out, comb_comb, List.drop_drop], by rw [List.length_append, HXL.out]; show _ ≤ s1.body + m; have := HOL.out; omega, by show s1.pos + m = _; rw [HSP.out]; omega⟩⟩, by simp [intOf]; omega⟩
        · have hb3 : ((s1.st : Int) == 3) = false := by simp; omega
          obtain ⟨gb, off, c', x, hx, hv, hcell⟩ := byte_get HB.out hlt
          injection hv with hv1 hv2 hv3
          subst hv1; subst hv3; clear hv2
          have cx := hwr.cellAt (H := H) (by simp [hH]) hcell
          have hxb := HBY.out x (List.mem_of_getElem? hx)
          have HD := Lib.hid (drop_cons hx)
          have HST := Lib.hid (step_c x wr hwr.swap hT he hxb hI h3 h6)
          have HI := Lib.hid (hI.step x)
          have HPB := Lib.hid (step_pb s1 x)
          have HE1 := Lib.hid he
          clear hcell hx hT h1
          by_cases hf : (stepC s1 x).err = none
          · have HF := Lib.hid hf
            unfold StepP at HST
            rw [show decide ((stepC s1 x).err = none) = true from decide_eq_true hf] at HST
            have HR := Lib.hid (run_ok s1 x (bs.drop (k + 1)) he h6 h3 hf)
            have HSP := Lib.hid hsp; have HOL := Lib.hid hol
            clear hf he hsp hol hI
            generalize stepC s1 x = s2 at *
            go_wp2_with fail
            refine HST.out.mono ?_
            rintro e w2 ⟨rfl, M2, hw2, hR2⟩
            obtain ⟨pe2, k1, k2⟩ := hR2.ex
            have c4 : w2.cell? ⟨g, 4, none⟩ = some (.int .i64 s2.pos) := hw2.m_cell k1 (o := 4) rfl
            have f4 := heap_free (hw2.le _ _ k1) 4
            have hU := hw2.upd k1 (o := 4) (.int .i64 ((s2.pos : Int) + 1))
            rw [updP] at hU
            have HU := Lib.hid hU
            have HT := Lib.hid (Rdr.to (s' := posC s2) k1 k2 rfl)
            have hp2 : s2.pos + 1 ≤ 9223372036854775807 := by have := HPB.out.1; have := HSP.out; omega
            clear hU k1 k2 hR2 hw2 cx hwr c0
            go_wp2
            go_roundw
            case measure => simp [intOf]; omega
            case rel => exact ⟨k + 1, posC s2, _, N1, Ao, co, out, by omega, by go_num, rfl, HU.out.swap, ⟨HT.out, HI.out.pos, HF.out, HO.out, by rw [← HRUN.out, HD.out, HR.out, comb_comb, List.append_nil], by show out.length ≤ s2.body; rw [HPB.out.2]; exact HOL.out, by show s2.pos + 1 = _; rw [HPB.out.1, HSP.out]; omega⟩⟩
          · have HF := Lib.hid hf
            unfold StepP at HST
            rw [show decide ((stepC s1 x).err = none) = false from decide_eq_false hf] at HST
            have HE : Hid (runC s bs = (stepC s1 x, out, k)) := Lib.hid (by rw [← HRUN.out, HD.out, run_fail s1 x (bs.drop (k + 1)) he h6 h3 hf]; unfold comb; simp)
            obtain ⟨y, hy⟩ := Option.ne_none_iff_exists'.1 hf
            have HY := Lib.hid hy
            clear hf he hsp hol hI hy
            generalize stepC s1 x = s2 at *
            go_wp2_with fail
            refine HST.out.mono ?_
            rintro e w2 ⟨rfl, M2, hw2, hR2⟩
            obtain ⟨pe2, k1, k2⟩ := id hR2.ex
            rw [HY.out] at k2
            obtain ⟨fb, rfl, hfb⟩ := k2
            have c6 : w2.cell? ⟨g, 6, none⟩ = some (.pointer (some ⟨fb, 0, none⟩)) := hw2.m_cell k1 (o := 6) rfl
            have HEV := Lib.hid (ev_of hfb)
            have HT := Lib.hid hR2
            clear k1 hR2 hfb cx hwr c0
            go_wp2
            go_quiet (fail)
            go_wp2
            go_ret3
            rw [HE.out]
            exact ⟨.slice Ao out.length co, _, M2, N1, rfl, (hw2.drewN _).swap, HT.out, HO.out, by show EV M2 _ (errE s2.err); rw [HY.out]; exact HEV.out⟩
    · obtain rfl : k = bs.length := by omega
      have HT := Lib.hid hT
      have HE : Hid (runC s bs = (s1, out, bs.length)) := Lib.hid (by rw [← HRUN.out, List.drop_length, run_nil]; unfold comb; simp)
      clear hT h1
      go_wp2
      go_ret3
      rw [HE.out]
      exact ⟨.slice Ao out.length co, .nilIface, M1, N1, rfl, hwr, HT.out, HO.out, by show EV M1 _ (errE s1.err); rw [he]; rfl⟩
end
end Go.Proofs.YtgpmkiamfbbfmaaDoor
