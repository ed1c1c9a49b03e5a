/- Walk: five.Request. -/
import Derived.Test.YtcndkpmeakaapaaDoorFvE
import Derived.Deep.DeepCutAuto
import Derived.Laws.BitsLemmas
set_option linter.unusedVariables false
set_option linter.unusedSimpArgs false
namespace Go.Proofs.YtcndkpmeakaapaaDoor
open Go Go.RowKit
def st0 : St := ⟨0, none⟩
def req1 (bs : List Int) : St := versL bs 5 st0
def req2 (bs : List Int) : Int × St := oneL bs (req1 bs)
def req3 (bs : List Int) : Int × St := oneL bs (req2 bs).2
def req4 (bs : List Int) : St := if (req3 bs).2.err = none ∧ (req3 bs).1 ≠ 0 then failL (req3 bs).2 2 72 else (req3 bs).2
def req5 (bs : List Int) : HostV × St := hostL bs (req4 bs)
def req6 (bs : List Int) : List Int × St := takeL bs 2 (req5 bs).2
theorem versL_at (bs : List Int) (v : Int) (s : St) (h : s.at_ ≤ bs.length) : (versL bs v s).at_ ≤ bs.length := by
  unfold versL
  split
  · exact oneL_at bs s h
  · exact oneL_at bs s h
theorem textL_at (bs : List Int) (m : Int) (s : St) (h : s.at_ ≤ bs.length) : (textL bs m s).2.at_ ≤ bs.length := by
  have h1 : (text1 bs m s).2.at_ ≤ bs.length := by
    unfold text1
    show (if _ then failL (oneL bs s).2 s.at_ 72 else (oneL bs s).2).at_ ≤ _
    split
    · exact oneL_at bs s h
    · exact oneL_at bs s h
  unfold textL
  split
  · exact takeL_at bs _ _ h1
  · exact h1
theorem nameH_at (r : ByteArray × Option (Ch × Int)) (a : Int) (s : St) : (nameH r a s).2.at_ = s.at_ := by
  unfold nameH
  obtain ⟨n, e⟩ := r
  cases e <;> rfl
theorem hostL_at (bs : List Int) (s : St) (h : s.at_ ≤ bs.length) : (hostL bs s).2.at_ ≤ bs.length := by
  have h1 := oneL_at bs s h
  unfold hostL
  split
  · exact takeL_at bs 4 _ h1
  · split
    · split
      · rw [nameH_at]; exact textL_at bs 253 _ h1
      · exact textL_at bs 253 _ h1
    · exact h1
theorem req1_at (bs : List Int) : (req1 bs).at_ ≤ bs.length := versL_at bs 5 st0 (Nat.zero_le _)
theorem req2_at (bs : List Int) : (req2 bs).2.at_ ≤ bs.length := oneL_at bs _ (req1_at bs)
theorem req3_at (bs : List Int) : (req3 bs).2.at_ ≤ bs.length := oneL_at bs _ (req2_at bs)
theorem req4_at (bs : List Int) : (req4 bs).at_ ≤ bs.length := by
  unfold req4
  split
  · exact req3_at bs
  · exact req3_at bs
theorem oneL_le (bs : List Int) (s : St) : (oneL bs s).2.at_ ≤ s.at_ + 1 := by
  unfold oneL takeL
  split
  · exact Nat.le_add_right _ _
  · exact Nat.le_refl _
theorem req4_small (bs : List Int) : (req4 bs).at_ ≤ 1000 := by
  have h1 : (req1 bs).at_ ≤ 1 := by
    have := oneL_le bs st0
    unfold req1 versL
    split
    · exact this
    · exact this
  have h2 := oneL_le bs (req1 bs)
  have h3 := oneL_le bs (req2 bs).2
  have h4 : (req4 bs).at_ = (req3 bs).2.at_ := by
    unfold req4
    split <;> rfl
  have e2 : (req2 bs).2.at_ ≤ (req1 bs).at_ + 1 := h2
  have e3 : (req3 bs).2.at_ ≤ (req2 bs).2.at_ + 1 := h3
  omega
theorem req5_at (bs : List Int) : (req5 bs).2.at_ ≤ bs.length := hostL_at bs _ (req4_at bs)
def destA (h : HostV) (p : Int) : Array Value := #[.int .u8 (h.addr.getD 0 0), .int .u8 (h.addr.getD 1 0), .int .u8 (h.addr.getD 2 0), .int .u8 (h.addr.getD 3 0), .string h.name, .int .i64 p]
/-- What Request tells, but for what is wrong: the command, the destination, where it ends. -/
def reqO (bs : List Int) : Int × Array Value × Int := if (req6 bs).2.err = none then ((req2 bs).1, destA (req5 bs).1 ((req6 bs).1.getD 0 0 * 256 + (req6 bs).1.getD 1 0), (req6 bs).2.at_) else (0, #[.int .u8 0, .int .u8 0, .int .u8 0, .int .u8 0, .string ⟨#[]⟩, .int .i64 0], 0)
theorem bits_or8 (a b : Nat) (ha : a < 256) (hb : b < 256) : a * 256 ||| b = a * 256 + b := by
  rw [show a * 256 = a <<< 8 from by rw [Nat.shiftLeft_eq]]
  exact (Nat.shiftLeft_add_eq_or_of_lt (i := 8) hb a).symm
theorem req_res (tmps : Array Value) (w : World) (g : Nat) (cs : Array Value) (hp : tmps.getD 3 undef = .pointer (some ⟨g, 0, none⟩)) (hg : w.heap[g]? = some (.cells cs 29 (0, 0))) (hi : (Tryd.prog.info? 29).map (·.size) = some cs.size) :
    (results Tryd.f9 tmps).run Tryd.prog w = .ok (.tuple #[tmps.getD 2 undef, .agg cs, tmps.getD 4 undef, tmps.getD 5 undef]) w := by
  have hp' : tmps[3]?.getD undef = .pointer (some ⟨g, 0, none⟩) := by simpa using hp
  have h : (Tryd.f9).results = #[.tmp 2, .cell 3 29, .tmp 4, .tmp 5] := rfl
  simp [results, h, hp', asAddr, run_loadVar_row w g 29 29 cs (0, 0) _ hg Tryd.underlying29 rfl hi]
section
variable {σ w w' : World} {Hs : List Hp} {H H1 H2 M N Y R E X HB : Hp}
set_option maxHeartbeats 4000000
set_option maxRecDepth 10000 in
theorem request_any (bv : Value) (bs : List Int) (hbs : ∀ x ∈ bs, 0 ≤ x ∧ x < 256) (m : Int) (w : World) (hw : Sat σ w Hs) (hB : HB ∈ Hs) (hb : kB.IsSl HB bv bs) (hH : H ∈ Hs) (hm : Hp.cell H 1 0 = some (.int .i64 m)) :
    Calls Tryd.prog 9 #[bv] w fun e w' => ∃ v E', e = .returned (.tuple #[.int .i64 (reqO bs).1, .agg (reqO bs).2.1, .int .i64 (reqO bs).2.2, v]) ∧ Sat σ w' (E' :: Hs) ∧ EV E' v (req6 bs).2.err := by
  obtain ⟨A, c, rfl, hc1, hc2, _⟩ := hb.form
  have HBB := Lib.hid hb
  have hw2 := ((hw.alloc (.cells #[.int .u8 0, .int .u8 0, .int .u8 0, .int .u8 0, .string ⟨#[]⟩, .int .i64 0] 29)).alloc (.cells #[.slice A bs.length c, .int .i64 0, .nilIface] 75))
  rw [World.size_alloc] at hw2
  obtain ⟨nd, hnd⟩ : ∃ nd, w.heap.size = nd := ⟨_, rfl⟩
  rw [hnd] at hw2
  have hw3 := hw2.emp.swap
  have hB1 : HB ∈ Hp.one nd (.cells #[.int .u8 0, .int .u8 0, .int .u8 0, .int .u8 0, .string ⟨#[]⟩, .int .i64 0] 29 (0, 0)) :: Hs := List.mem_cons_of_mem _ hB
  have hH1 : H ∈ Hp.one nd (.cells #[.int .u8 0, .int .u8 0, .int .u8 0, .int .u8 0, .string ⟨#[]⟩, .int .i64 0] 29 (0, 0)) :: Hs := List.mem_cons_of_mem _ hH
  have h0 : FvR (Hp.one (nd + 1) (.cells #[.slice A bs.length c, .int .i64 0, .nilIface] 75 (0, 0))) Hp.emp (nd + 1) (.slice A bs.length c) (st0.at_ : Int) st0.err := ⟨⟨.nilIface, rfl, rfl⟩⟩
  have HV := Lib.hid (version_any 5 hbs st0 (Nat.zero_le _) _ hw3 hB1 HBB.out h0)
  have HO1 := Lib.hid (fun R E w' (h : Sat σ w' (R :: E :: Hp.one nd (.cells #[.int .u8 0, .int .u8 0, .int .u8 0, .int .u8 0, .string ⟨#[]⟩, .int .i64 0] 29 (0, 0)) :: Hs)) (hf : FvR R E (nd + 1) (.slice A bs.length c) ((req1 bs).at_ : Int) (req1 bs).err) => one_any hbs (req1 bs) (req1_at bs) w' h hB1 HBB.out hf)
  have HO2 := Lib.hid (fun R E w' (h : Sat σ w' (R :: E :: Hp.one nd (.cells #[.int .u8 0, .int .u8 0, .int .u8 0, .int .u8 0, .string ⟨#[]⟩, .int .i64 0] 29 (0, 0)) :: Hs)) (hf : FvR R E (nd + 1) (.slice A bs.length c) ((req2 bs).2.at_ : Int) (req2 bs).2.err) => one_any hbs (req2 bs).2 (req2_at bs) w' h hB1 HBB.out hf)
  have HHO := Lib.hid (fun R E w' (h : Sat σ w' (R :: E :: Hp.one nd (.cells #[.int .u8 0, .int .u8 0, .int .u8 0, .int .u8 0, .string ⟨#[]⟩, .int .i64 0] 29 (0, 0)) :: Hs)) (hf : FvR R E (nd + 1) (.slice A bs.length c) ((req4 bs).at_ : Int) (req4 bs).err) => host_any hbs (req4 bs) (req4_small bs) (req4_at bs) m w' h hB1 HBB.out hH1 hm hf)
  have HR2 : Hid (oneL bs (req1 bs) = req2 bs) := Lib.hid rfl
  have HR3 : Hid (oneL bs (req2 bs).2 = req3 bs) := Lib.hid rfl
  have HR5 : Hid (hostL bs (req4 bs) = req5 bs) := Lib.hid rfl
  unfold RdP at HO1 HO2 HHO
  rw [HR2.out] at HO1
  rw [HR3.out] at HO2
  rw [HR5.out] at HHO
  clear hb hc1 hw hw2 hw3 h0
  go_enter Tryd.func9, Tryd.ntmps9
  go_wp2_with fail
  refine HV.out.mono ?_
  rintro e w3 ⟨u3, R3, E3, rfl, hw3, h3⟩
  go_wp2_with fail
  refine (HO1.out R3 E3 w3 hw3 h3).mono ?_
  rintro e w4 ⟨R4, E4, rfl, hw4, h4⟩
  clear hw3 h3 HV HO1
  go_wp2_with fail
  refine (HO2.out R4 E4 w4 hw4 h4).mono ?_
  rintro e w5 ⟨R5, E5, rfl, hw5, h5⟩
  clear hw4 h4 HO2
  obtain ⟨ev5, q0, q1, q2, qn, qi⟩ := fvr_cells hw5 h5
  have HF := Lib.hid (failS_any (req3 bs).2 2 72 w5 hw5 h5)
  have H5 := Lib.hid h5
  have HR4 : Hid (req4 bs = if (req3 bs).2.err = none ∧ (req3 bs).1 ≠ 0 then failL (req3 bs).2 2 72 else (req3 bs).2) := Lib.hid rfl
  generalize (req3 bs).1 = x3 at *
  generalize (req3 bs).2 = s3 at *
  clear h5
  have HO2F := Lib.hid trivial
  by_cases he : s3.err = none
  · obtain rfl := qn he
    by_cases hx : x3 = 0
    · have hxb : (x3 != 0) = false := by simp [hx]
      have HE : Hid (req4 bs = s3) := Lib.hid (by rw [HR4.out]; exact if_neg (fun h => h.2 hx))
      clear qn qi he hx
      go_wp2_with fail
      obtain ⟨R6, hR6⟩ : ∃ R6, R5 = R6 := ⟨_, rfl⟩
      obtain ⟨E6, hE6⟩ : ∃ E6, E5 = E6 := ⟨_, rfl⟩
      rw [hR6, hE6] at hw5 H5
      have hw6 := hw5
      have H6 : Hid (FvR R6 E6 (nd + 1) (.slice A bs.length c) ((req4 bs).at_ : Int) (req4 bs).err) := Lib.hid (by rw [HE.out]; exact H5.out)
      clear hw5 hR6 hE6
      clear HF H5 HR4 q0 q1 q2 HE HO2F
      refine (HHO.out R6 E6 _ hw6 H6.out).mono ?_
      rintro e w7 ⟨R7, E7, rfl, hw7, h7⟩
      clear hw6 HHO H6
      have hw8 := hw7.alloc (.cells #[.int .u8 0, .int .u8 0, .int .u8 0, .int .u8 0, .string ⟨#[]⟩] 27)
      have HW8 := Lib.hid hw8
      have H7 := Lib.hid h7
      clear hw7 hw8 h7
      go_wp2_with (with_reducible show wpList _ _ _ [{ dst := none, op := _, type := _, pos := _, after := _, guard := _ }] _ _; go_must (refine wpList_store_row rfl 27 (.tmp 9) (.tmp 33) rfl w7.heap.size (hostA (req5 bs).1) rfl rfl 27 _ HW8.out.heap (by kernel_rfl) rfl (by simp [hostA, Value.oneCell']) ?_))
      have hw9 := HW8.out.setRow (hostA (req5 bs).1)
      clear HW8
      generalize hW9 : World.setRow _ _ _ = w9 at *
      clear hW9
      generalize w7.heap.size = nh at *
      have hw10 := hw9.down2
      have HT := Lib.hid (take_any 2 (by decide) (by decide) (req5 bs).2 (req5_at bs) w9 hw10 (List.mem_cons_of_mem _ hB1) HBB.out H7.out)
      have HR6 : Hid (takeL bs 2 (req5 bs).2 = req6 bs) := Lib.hid rfl
      unfold TakeP at HT
      rw [HR6.out] at HT
      have hlen2 : (req6 bs).1.length = 2 := by rw [← HR6.out]; exact takeL_len bs 2 _
      have hbyte2 : ∀ x ∈ (req6 bs).1, 0 ≤ x ∧ x < 256 := by rw [← HR6.out]; exact takeL_byte hbs 2 _
      have HL2 := Lib.hid hlen2; have HB2 := Lib.hid hbyte2
      clear hw9 hw10 hlen2 hbyte2
      refine HT.out.mono ?_
      rintro e w11 ⟨v11, R11, E11, Z, K, rfl, hw11, h11, hK, hsl⟩
      obtain ⟨ev11, q0, q1, q2, qn, qi⟩ := fvr_cells hw11 h11
      have H11 := Lib.hid h11
      clear HT h11
      by_cases he6 : (req6 bs).2.err = none
      · obtain rfl := qn he6
        have HE6 := Lib.hid he6
        obtain ⟨evx, hRx, hevx⟩ := H11.out.out
        obtain rfl : evx = .nilIface := by rw [he6] at hevx; exact hevx
        subst hRx
        have HEV := Lib.hid hevx
        obtain ⟨a0, a1, a2, a3, nm, hha⟩ : ∃ a0 a1 a2 a3 nm, hostA (req5 bs).1 = #[.int .u8 a0, .int .u8 a1, .int .u8 a2, .int .u8 a3, .string nm] := ⟨_, _, _, _, _, rfl⟩
        rw [hha] at hw11
        simp only [hha]
        have HHA := Lib.hid hha
        clear hha
        have HW11 := Lib.hid hw11
        obtain ⟨p0, p1, hpp⟩ : ∃ p0 p1, (req6 bs).1 = [p0, p1] := by
          match (req6 bs).1, HL2.out with
          | [p0, p1], _ => exact ⟨p0, p1, rfl⟩
        have HPP := Lib.hid hpp
        have hb2 := HB2.out
        rw [hpp] at hsl hb2
        have hp0 := hb2 p0 (by simp)
        have hp1 := hb2 p1 (by simp)
        obtain ⟨A2, c2, rfl, _⟩ := hsl.form
        obtain ⟨b, off, cs, rfl, hcs, hcell⟩ := hsl.get 0 p0 rfl
        obtain rfl : cs = [.int .u8 p0] := hcs
        have e0 := hcell 0 _ rfl
        obtain ⟨b', off', cs, e, hcs, hcell⟩ := hsl.get 1 p1 rfl
        obtain rfl : cs = [.int .u8 p1] := hcs
        injection e with e; injection e with z1 z2 _; subst z1; subst z2
        have e1 := hcell 0 _ rfl
        simp only [show kB.sz = 1 from rfl, Nat.mul_one, Nat.add_zero] at e0 e1
        have HSE : Hid (∀ W Ls, Sat σ W Ls → K ∈ Ls → Hp.one (nd + 1) (.cells #[.slice A bs.length c, .int .i64 ((req6 bs).2.at_ : Int), .nilIface] 75 (0, 0)) ∈ Ls → Hp.one nh (.cells #[.int .u8 a0, .int .u8 a1, .int .u8 a2, .int .u8 a3, .string nm] 27 (0, 0)) ∈ Ls → ((W.cell? ⟨b, off, none⟩ = some (.int .u8 p0) ∧ W.cell? ⟨b, off + 1, none⟩ = some (.int .u8 p1)) ∧ W.cell? ⟨nd + 1, 1, none⟩ = some (.int .i64 ((req6 bs).2.at_ : Int)) ∧ W.rangeAt nh 0 #[Value.int .u8 a0, .int .u8 a1, .int .u8 a2, .int .u8 a3, .string nm].toList)) := Lib.hid (fun W Ls h hk hr hn => ⟨⟨h.cellAt hk e0, h.cellAt hk e1⟩, h.cellAt hr ((Hp.one_cell _ _ _ _).trans rfl), fun j v hv => h.cellAt hn ((Hp.one_cell _ _ _ _).trans (by rw [Nat.zero_add]; simpa using hv))⟩)
        have mc0 : IntKind.i64.wrap p0 = p0 := IntWalk.i64_in _ (by omega)
        have mc1 : IntKind.i64.wrap p1 = p1 := IntWalk.i64_in _ (by omega)
        have ms : IntKind.i64.wrap (p0 * 256) = p0 * 256 := IntWalk.i64_in _ (by omega)
        have mo : bits .or .i64 (p0 * 256) p1 = p0 * 256 + p1 := bits_join .i64 62 (by decide) (fun n h0 h1 => IntWalk.i64_in _ (by omega)) 8 (p0 * 256) p1 (by omega) (by omega) (by omega) (by omega) (by omega) (by omega)
        clear hw11 hevx qn qi H11 hsl hcell e0 e1 hb2 he6
        go_upto_region 11 with fail
        clear q0 q1 q2
        refine wp_region_held_drew (S := fun W => (W.cell? ⟨b, off, none⟩ = some (.int .u8 p0) ∧ W.cell? ⟨b, off + 1, none⟩ = some (.int .u8 p1)) ∧ W.cell? ⟨nd + 1, 1, none⟩ = some (.int .i64 ((req6 bs).2.at_ : Int)) ∧ W.rangeAt nh 0 #[Value.int .u8 a0, .int .u8 a1, .int .u8 a2, .int .u8 a3, .string nm].toList) (by kernel_rfl) (HSE.out _ _ HW11.out.drew (takeK hK (List.mem_cons_of_mem _ (List.mem_cons_of_mem _ hB))) List.mem_cons_self (List.mem_cons_of_mem _ (List.mem_cons_of_mem _ (List.mem_cons_of_mem _ List.mem_cons_self)))) (fun hS0 => ?_)
        (try simp only [Act.put, List.getElem_toArray, List.getElem_cons_succ, List.getElem_cons_zero, List.setIfInBounds_toArray, List.set_cons_zero, List.set_cons_succ, Array.toArray_toList])
        refine wpAnyH_take (i := 0) (v := ?_) rfl (by kernel_rfl) (by kernel_rfl) (by kernel_rfl) (fun _ _ _ h => h) (Or.inl ⟨by kernel_rfl, ?_⟩) hS0 ?_
        rotate_left
        · intro w hSw; clear hSw; go_simp; (try with_reducible rfl)
        (try simp only [Act.put, List.getElem_toArray, List.getElem_cons_succ, List.getElem_cons_zero, List.setIfInBounds_toArray, List.set_cons_zero, List.set_cons_succ, Array.toArray_toList])
        refine wpAnyH_take (i := 1) rfl (by kernel_rfl) (by kernel_rfl) (by kernel_rfl) (fun _ _ _ h => h) (yieldsIf_load_mid (by kernel_rfl) _ _ rfl _ _ rfl (#[Value.int .u8 a0, .int .u8 a1, .int .u8 a2, .int .u8 a3, .string nm].toList) _ (fun w h => h.2.2) Tryd.underlying27 rfl (by kernel_rfl)) hS0 ?_
        (try simp only [Act.put, List.getElem_toArray, List.getElem_cons_succ, List.getElem_cons_zero, List.setIfInBounds_toArray, List.set_cons_zero, List.set_cons_succ, Array.toArray_toList])
        refine wpAnyH_take (i := 2) (v := ?_) rfl (by kernel_rfl) (by kernel_rfl) (by kernel_rfl) (fun _ _ _ h => h) (Or.inl ⟨by kernel_rfl, ?_⟩) hS0 ?_
        rotate_left
        · intro w hSw; clear hSw; go_simp; (try with_reducible rfl)
        (try simp only [Act.put, List.getElem_toArray, List.getElem_cons_succ, List.getElem_cons_zero, List.setIfInBounds_toArray, List.set_cons_zero, List.set_cons_succ, Array.toArray_toList])
        refine wpAnyH_take (i := 3) (v := ?_) rfl (by kernel_rfl) (by kernel_rfl) (by kernel_rfl) (fun _ _ _ h => h) (Or.inl ⟨by kernel_rfl, ?_⟩) hS0 ?_
        rotate_left
        · intro w hSw; clear hSw; go_simp; (try with_reducible rfl)
        (try simp only [Act.put, List.getElem_toArray, List.getElem_cons_succ, List.getElem_cons_zero, List.setIfInBounds_toArray, List.set_cons_zero, List.set_cons_succ, Array.toArray_toList])
        refine wpAnyH_take (i := 4) (v := ?_) rfl (by kernel_rfl) (by kernel_rfl) (by kernel_rfl) (fun _ _ _ h => h) (Or.inl ⟨by kernel_rfl, ?_⟩) hS0 ?_
        rotate_left
        · intro w hSw; obtain ⟨⟨e0, e1⟩, e2, e3⟩ := hSw; clear e1 e2 e3; go_simp; (try with_reducible rfl)
        (try simp only [Act.put, List.getElem_toArray, List.getElem_cons_succ, List.getElem_cons_zero, List.setIfInBounds_toArray, List.set_cons_zero, List.set_cons_succ, Array.toArray_toList])
        refine wpAnyH_take (i := 5) (v := ?_) rfl (by kernel_rfl) (by kernel_rfl) (by kernel_rfl) (fun _ _ _ h => h) (Or.inl ⟨by kernel_rfl, ?_⟩) hS0 ?_
        rotate_left
        · intro w hSw; clear hSw; go_simp; (try with_reducible rfl)
        (try simp only [Act.put, List.getElem_toArray, List.getElem_cons_succ, List.getElem_cons_zero, List.setIfInBounds_toArray, List.set_cons_zero, List.set_cons_succ, Array.toArray_toList])
        refine wpAnyH_take (i := 6) (v := ?_) rfl (by kernel_rfl) (by kernel_rfl) (by kernel_rfl) (fun _ _ _ h => h) (Or.inl ⟨by kernel_rfl, ?_⟩) hS0 ?_
        rotate_left
        · intro w hSw; clear hSw; go_simp; (try with_reducible rfl)
        (try simp only [Act.put, List.getElem_toArray, List.getElem_cons_succ, List.getElem_cons_zero, List.setIfInBounds_toArray, List.set_cons_zero, List.set_cons_succ, Array.toArray_toList])
        refine wpAnyH_take (i := 7) (v := ?_) rfl (by kernel_rfl) (by kernel_rfl) (by kernel_rfl) (fun _ _ _ h => h) (Or.inl ⟨by kernel_rfl, ?_⟩) hS0 ?_
        rotate_left
        · intro w hSw; clear hSw; go_simp; (try with_reducible rfl)
        (try simp only [Act.put, List.getElem_toArray, List.getElem_cons_succ, List.getElem_cons_zero, List.setIfInBounds_toArray, List.set_cons_zero, List.set_cons_succ, Array.toArray_toList])
        refine wpAnyH_take (i := 8) (v := ?_) rfl (by kernel_rfl) (by kernel_rfl) (by kernel_rfl) (fun _ _ _ h => h) (Or.inl ⟨by kernel_rfl, ?_⟩) hS0 ?_
        rotate_left
        · intro w hSw; clear hSw; go_simp; (try with_reducible rfl)
        (try simp only [Act.put, List.getElem_toArray, List.getElem_cons_succ, List.getElem_cons_zero, List.setIfInBounds_toArray, List.set_cons_zero, List.set_cons_succ, Array.toArray_toList])
        refine wpAnyH_take (i := 9) (v := ?_) rfl (by kernel_rfl) (by kernel_rfl) (by kernel_rfl) (fun _ _ _ h => h) (Or.inl ⟨by kernel_rfl, ?_⟩) hS0 ?_
        rotate_left
        · intro w hSw; obtain ⟨⟨e0, e1⟩, e2, e3⟩ := hSw; clear e0 e2 e3; go_simp; (try with_reducible rfl)
        (try simp only [Act.put, List.getElem_toArray, List.getElem_cons_succ, List.getElem_cons_zero, List.setIfInBounds_toArray, List.set_cons_zero, List.set_cons_succ, Array.toArray_toList])
        refine wpAnyH_take (i := 10) (v := ?_) rfl (by kernel_rfl) (by kernel_rfl) (by kernel_rfl) (fun _ _ _ h => h) (Or.inl ⟨by kernel_rfl, ?_⟩) hS0 ?_
        rotate_left
        · intro w hSw; clear hSw; go_simp; (try with_reducible rfl)
        (try simp only [Act.put, List.getElem_toArray, List.getElem_cons_succ, List.getElem_cons_zero, List.setIfInBounds_toArray, List.set_cons_zero, List.set_cons_succ, Array.toArray_toList])
        refine wpAnyH_take (i := 11) (v := ?_) rfl (by kernel_rfl) (by kernel_rfl) (by kernel_rfl) (fun _ _ _ h => h) (Or.inl ⟨by kernel_rfl, ?_⟩) hS0 ?_
        rotate_left
        · intro w hSw; clear hSw; go_simp; (try with_reducible rfl)
        (try simp only [Act.put, List.getElem_toArray, List.getElem_cons_succ, List.getElem_cons_zero, List.setIfInBounds_toArray, List.set_cons_zero, List.set_cons_succ, Array.toArray_toList])
        refine wpAnyH_take (i := 12) (v := ?_) rfl (by kernel_rfl) (by kernel_rfl) (by kernel_rfl) (fun _ _ _ h => h) (Or.inl ⟨by kernel_rfl, ?_⟩) hS0 ?_
        rotate_left
        · intro w hSw; clear hSw; go_simp; (try with_reducible rfl)
        (try simp only [Act.put, List.getElem_toArray, List.getElem_cons_succ, List.getElem_cons_zero, List.setIfInBounds_toArray, List.set_cons_zero, List.set_cons_succ, Array.toArray_toList])
        refine wpAnyH_take (i := 13) (v := ?_) rfl (by kernel_rfl) (by kernel_rfl) (by kernel_rfl) (fun _ _ _ h => h) (Or.inl ⟨by kernel_rfl, ?_⟩) hS0 ?_
        rotate_left
        · intro w hSw; clear hSw; go_simp; (try with_reducible rfl)
        (try simp only [Act.put, List.getElem_toArray, List.getElem_cons_succ, List.getElem_cons_zero, List.setIfInBounds_toArray, List.set_cons_zero, List.set_cons_succ, Array.toArray_toList])
        refine wpAnyH_take (i := 14) (v := ?_) rfl (by kernel_rfl) (by kernel_rfl) (by kernel_rfl) (fun _ _ _ h => h) (Or.inl ⟨by kernel_rfl, ?_⟩) hS0 ?_
        rotate_left
        · intro w hSw; clear hSw; go_simp; (try with_reducible rfl)
        (try simp only [Act.put, List.getElem_toArray, List.getElem_cons_succ, List.getElem_cons_zero, List.setIfInBounds_toArray, List.set_cons_zero, List.set_cons_succ, Array.toArray_toList])
        refine wpAnyH_take (i := 15) (v := ?_) rfl (by kernel_rfl) (by kernel_rfl) (by kernel_rfl) (fun _ _ _ h => h) (Or.inl ⟨by kernel_rfl, ?_⟩) hS0 ?_
        rotate_left
        · intro w hSw; clear hSw; go_simp; (try with_reducible rfl)
        (try simp only [Act.put, List.getElem_toArray, List.getElem_cons_succ, List.getElem_cons_zero, List.setIfInBounds_toArray, List.set_cons_zero, List.set_cons_succ, Array.toArray_toList])
        refine wpAnyH_take (i := 16) (v := ?_) rfl (by kernel_rfl) (by kernel_rfl) (by kernel_rfl) (fun _ _ _ h => h) (Or.inl ⟨by kernel_rfl, ?_⟩) hS0 ?_
        rotate_left
        · intro w hSw; obtain ⟨⟨e0, e1⟩, e2, e3⟩ := hSw; clear e0 e1 e3; go_simp; (try with_reducible rfl)
        (try simp only [Act.put, List.getElem_toArray, List.getElem_cons_succ, List.getElem_cons_zero, List.setIfInBounds_toArray, List.set_cons_zero, List.set_cons_succ, Array.toArray_toList])
        refine wpAnyH_take (i := 17) (v := ?_) rfl (by kernel_rfl) (by kernel_rfl) (by kernel_rfl) (fun _ _ _ h => h) (Or.inl ⟨by kernel_rfl, ?_⟩) hS0 ?_
        rotate_left
        · intro w hSw; clear hSw; go_simp; (try with_reducible rfl)
        (try simp only [Act.put, List.getElem_toArray, List.getElem_cons_succ, List.getElem_cons_zero, List.setIfInBounds_toArray, List.set_cons_zero, List.set_cons_succ, Array.toArray_toList])
        refine wpAnyH_ready (rs := [18]) (by kernel_rfl) (by simp) ?_
        refine AllReadyH.cons rfl (fun K2 hK2 => ?_) AllReadyH.nil
        have hwn := Sat.bring (l₁ := [Hp.one (nd + 1) (.cells #[.slice A bs.length c, .int .i64 ((req6 bs).2.at_ : Int), .nilIface] 75 (0, 0)), E11, Z, Hp.one nh (.cells #[.int .u8 a0, .int .u8 a1, .int .u8 a2, .int .u8 a3, .string nm] 27 (0, 0))]) HW11.out.drew
        refine step_store_row rfl 29 (.tmp 3) (.tmp 58) rfl nd #[.int .u8 a0, .int .u8 a1, .int .u8 a2, .int .u8 a3, .string nm, .int .i64 (p0 * 256 + p1)] rfl rfl 29 _ hwn.heap (by kernel_rfl) rfl (by simp [Value.oneCell']) ?_
        have hw12 := hwn.setRow #[.int .u8 a0, .int .u8 a1, .int .u8 a2, .int .u8 a3, .string nm, .int .i64 (p0 * 256 + p1)]
        refine hK2.out _ _ (HSE.out _ _ hw12 (List.mem_cons_of_mem _ (takeK hK (List.mem_cons_of_mem _ hB))) (List.mem_cons_of_mem _ List.mem_cons_self) (List.mem_cons_of_mem _ (List.mem_cons_of_mem _ (List.mem_cons_of_mem _ (List.mem_cons_of_mem _ List.mem_cons_self))))) (fun hS1 => ?_)
        clear hK2 K2
        (try simp only [Act.put, List.getElem_toArray, List.getElem_cons_succ, List.getElem_cons_zero, List.setIfInBounds_toArray, List.set_cons_zero, List.set_cons_succ, Array.toArray_toList])
        refine wpAnyH_take (i := 19) (v := ?_) rfl (by kernel_rfl) (by kernel_rfl) (by kernel_rfl) (fun _ _ _ h => h) (Or.inl ⟨by kernel_rfl, ?_⟩) hS1 ?_
        rotate_left
        · intro w hSw; clear hSw; go_simp; (try with_reducible rfl)
        (try simp only [Act.put, List.getElem_toArray, List.getElem_cons_succ, List.getElem_cons_zero, List.setIfInBounds_toArray, List.set_cons_zero, List.set_cons_succ, Array.toArray_toList])
        refine wpAnyH_take (i := 20) (v := ?_) rfl (by kernel_rfl) (by kernel_rfl) (by kernel_rfl) (fun _ _ _ h => h) (Or.inl ⟨by kernel_rfl, ?_⟩) hS1 ?_
        rotate_left
        · intro w hSw; clear hSw; go_simp; (try with_reducible rfl)
        (try simp only [Act.put, List.getElem_toArray, List.getElem_cons_succ, List.getElem_cons_zero, List.setIfInBounds_toArray, List.set_cons_zero, List.set_cons_succ, Array.toArray_toList])
        refine wpAnyH_done (by kernel_rfl) ?_ _
        go_wp2
        refine bodyPost_ret (req_res _ _ nd _ rfl hw12.heap (by kernel_rfl)) rfl ?_
        have hd : destA (req5 bs).1 (p0 * 256 + p1) = #[.int .u8 a0, .int .u8 a1, .int .u8 a2, .int .u8 a3, .string nm, .int .i64 (p0 * 256 + p1)] := by
          have h := HHA.out
          unfold hostA at h
          simp at h
          obtain ⟨z1, z2, z3, z4, z5⟩ := h
          unfold destA
          simp [z1, z2, z3, z4, z5]
        have hro : reqO bs = ((req2 bs).1, #[.int .u8 a0, .int .u8 a1, .int .u8 a2, .int .u8 a3, .string nm, .int .i64 (p0 * 256 + p1)], ((req6 bs).2.at_ : Int)) := by
          unfold reqO
          rw [if_pos HE6.out, HPP.out]
          rw [← hd]; rfl
        rw [hro, HE6.out]
        exact ⟨.nilIface, rfl, E11, (hw12.drop.drop.sub (List.Sublist.cons_cons _ ((List.sublist_cons_self _ _).trans (List.sublist_cons_self _ _)))), rfl⟩
      · obtain ⟨tv, uv, rfl⟩ := qi he6
        have HE6 := Lib.hid he6
        clear he6
        obtain ⟨evx, hRx, hevx⟩ := H11.out.out
        have hev2 : evx = .iface tv uv := by
          rw [hRx] at hw11
          have := hw11.one_cell (o := 2) rfl
          rw [q2] at this
          exact (Option.some.inj this).symm
        subst hev2
        subst hRx
        have HEV := Lib.hid hevx
        have HW11 := Lib.hid hw11
        have HSE : Hid (∀ W Ls, Sat σ W Ls → Hp.one (nd + 1) (.cells #[.slice A bs.length c, .int .i64 ((req6 bs).2.at_ : Int), .iface tv uv] 75 (0, 0)) ∈ Ls → W.cell? ⟨nd + 1, 2, none⟩ = some (.iface tv uv)) := Lib.hid (fun W Ls h hm => h.cellAt hm ((Hp.one_cell _ _ _ _).trans rfl))
        clear hw11 hevx qn qi H11
        go_upto_region 10 with fail
        clear q0 q1 q2
        refine wp_region_held_drew (S := fun W => W.cell? ⟨nd + 1, 2, none⟩ = some (.iface tv uv)) (by kernel_rfl) (HSE.out _ _ HW11.out.drew List.mem_cons_self) (fun hS0 => ?_)
        (try simp only [Act.put, List.getElem_toArray, List.getElem_cons_succ, List.getElem_cons_zero, List.setIfInBounds_toArray, List.set_cons_zero, List.set_cons_succ, Array.toArray_toList])
        refine wpAnyH_take (i := 0) (v := ?_) rfl (by kernel_rfl) (by kernel_rfl) (by kernel_rfl) (fun _ _ _ h => h) (Or.inl ⟨by kernel_rfl, ?_⟩) hS0 ?_
        rotate_left
        · intro w hSw; clear hSw; go_simp; (try with_reducible rfl)
        (try simp only [Act.put, List.getElem_toArray, List.getElem_cons_succ, List.getElem_cons_zero, List.setIfInBounds_toArray, List.set_cons_zero, List.set_cons_succ, Array.toArray_toList])
        refine wpAnyH_take (i := 1) (v := ?_) rfl (by kernel_rfl) (by kernel_rfl) (by kernel_rfl) (fun _ _ _ h => h) (Or.inl ⟨by kernel_rfl, ?_⟩) hS0 ?_
        rotate_left
        · intro w hSw; clear hSw; go_simp; (try with_reducible rfl)
        (try simp only [Act.put, List.getElem_toArray, List.getElem_cons_succ, List.getElem_cons_zero, List.setIfInBounds_toArray, List.set_cons_zero, List.set_cons_succ, Array.toArray_toList])
        refine wpAnyH_take (i := 2) (v := ?_) rfl (by kernel_rfl) (by kernel_rfl) (by kernel_rfl) (fun _ _ _ h => h) (Or.inl ⟨by kernel_rfl, ?_⟩) hS0 ?_
        rotate_left
        · intro w hSw; clear hSw; go_simp; (try with_reducible rfl)
        (try simp only [Act.put, List.getElem_toArray, List.getElem_cons_succ, List.getElem_cons_zero, List.setIfInBounds_toArray, List.set_cons_zero, List.set_cons_succ, Array.toArray_toList])
        refine wpAnyH_take (i := 3) (v := ?_) rfl (by kernel_rfl) (by kernel_rfl) (by kernel_rfl) (fun _ _ _ h => h) (Or.inl ⟨by kernel_rfl, ?_⟩) hS0 ?_
        rotate_left
        · intro w hSw; clear hSw; go_simp; (try with_reducible rfl)
        (try simp only [Act.put, List.getElem_toArray, List.getElem_cons_succ, List.getElem_cons_zero, List.setIfInBounds_toArray, List.set_cons_zero, List.set_cons_succ, Array.toArray_toList])
        refine wpAnyH_take (i := 4) (v := ?_) rfl (by kernel_rfl) (by kernel_rfl) (by kernel_rfl) (fun _ _ _ h => h) (Or.inl ⟨by kernel_rfl, ?_⟩) hS0 ?_
        rotate_left
        · intro w hSw; go_simp; (try with_reducible rfl)
        (try simp only [Act.put, List.getElem_toArray, List.getElem_cons_succ, List.getElem_cons_zero, List.setIfInBounds_toArray, List.set_cons_zero, List.set_cons_succ, Array.toArray_toList])
        refine wpAnyH_take (i := 5) (v := ?_) rfl (by kernel_rfl) (by kernel_rfl) (by kernel_rfl) (fun _ _ _ h => h) (Or.inl ⟨by kernel_rfl, ?_⟩) hS0 ?_
        rotate_left
        · intro w hSw; clear hSw; go_simp; (try with_reducible rfl)
        (try simp only [Act.put, List.getElem_toArray, List.getElem_cons_succ, List.getElem_cons_zero, List.setIfInBounds_toArray, List.set_cons_zero, List.set_cons_succ, Array.toArray_toList])
        refine wpAnyH_ready (rs := [6]) (by kernel_rfl) (by simp) ?_
        refine AllReadyH.cons rfl (fun K2 hK2 => ?_) AllReadyH.nil
        have hwn := Sat.bring (l₁ := [Hp.one (nd + 1) (.cells #[.slice A bs.length c, .int .i64 ((req6 bs).2.at_ : Int), .iface tv uv] 75 (0, 0)), E11, Z, Hp.one nh (.cells (hostA (req5 bs).1) 27 (0, 0))]) HW11.out.drew
        refine step_store_row rfl 29 (.tmp 3) (.tmp 41) rfl nd #[.int .u8 0, .int .u8 0, .int .u8 0, .int .u8 0, .string ⟨#[]⟩, .int .i64 0] rfl rfl 29 _ hwn.heap (by kernel_rfl) rfl (by simp [Value.oneCell']) ?_
        have hw12 := hwn.setRow #[.int .u8 0, .int .u8 0, .int .u8 0, .int .u8 0, .string ⟨#[]⟩, .int .i64 0]
        refine hK2.out _ _ (HSE.out _ _ hw12 (List.mem_cons_of_mem _ List.mem_cons_self)) (fun hS1 => ?_)
        clear hK2 K2
        (try simp only [Act.put, List.getElem_toArray, List.getElem_cons_succ, List.getElem_cons_zero, List.setIfInBounds_toArray, List.set_cons_zero, List.set_cons_succ, Array.toArray_toList])
        refine wpAnyH_take (i := 7) (v := ?_) rfl (by kernel_rfl) (by kernel_rfl) (by kernel_rfl) (fun _ _ _ h => h) (Or.inl ⟨by kernel_rfl, ?_⟩) hS1 ?_
        rotate_left
        · intro w hSw; clear hSw; go_simp; (try with_reducible rfl)
        (try simp only [Act.put, List.getElem_toArray, List.getElem_cons_succ, List.getElem_cons_zero, List.setIfInBounds_toArray, List.set_cons_zero, List.set_cons_succ, Array.toArray_toList])
        refine wpAnyH_take (i := 8) (v := ?_) rfl (by kernel_rfl) (by kernel_rfl) (by kernel_rfl) (fun _ _ _ h => h) (Or.inl ⟨by kernel_rfl, ?_⟩) hS1 ?_
        rotate_left
        · intro w hSw; clear hSw; go_simp; (try with_reducible rfl)
        (try simp only [Act.put, List.getElem_toArray, List.getElem_cons_succ, List.getElem_cons_zero, List.setIfInBounds_toArray, List.set_cons_zero, List.set_cons_succ, Array.toArray_toList])
        refine wpAnyH_done (by kernel_rfl) ?_ _
        clear hS0 hS1
        generalize hW12 : World.setRow _ _ _ = w12 at *
        clear hW12 hwn HW11
        go_wp2
        refine bodyPost_ret (req_res _ _ nd _ rfl hw12.heap (by kernel_rfl)) rfl ?_
        have hro : reqO bs = (0, #[.int .u8 0, .int .u8 0, .int .u8 0, .int .u8 0, .string ⟨#[]⟩, .int .i64 0], 0) := by
          unfold reqO
          rw [if_neg HE6.out]
        rw [hro]
        exact ⟨_, E11, rfl, (hw12.drop.drop.sub (List.Sublist.cons_cons _ ((List.sublist_cons_self _ _).trans (List.sublist_cons_self _ _)))), HEV.out⟩
    · have hxb : (x3 != 0) = true := by simpa using hx
      have HE : Hid (req4 bs = failL s3 2 72) := Lib.hid (by rw [HR4.out]; exact if_pos ⟨he, hx⟩)
      clear qn qi he hx
      go_wp2_with (go_at_call 40; refine HF.out.mono ?_; rintro e w6 ⟨u6, R6, E6, rfl, hw6, h6⟩; have H6 : Hid (FvR R6 E6 (nd + 1) (.slice A bs.length c) ((req4 bs).at_ : Int) (req4 bs).err) := Lib.hid (by rw [HE.out]; exact h6); clear h6 hw5)
      clear HF H5 HR4 q0 q1 q2 HE HO2F
      refine (HHO.out R6 E6 _ hw6 H6.out).mono ?_
      rintro e w7 ⟨R7, E7, rfl, hw7, h7⟩
      clear hw6 HHO H6
      have hw8 := hw7.alloc (.cells #[.int .u8 0, .int .u8 0, .int .u8 0, .int .u8 0, .string ⟨#[]⟩] 27)
      have HW8 := Lib.hid hw8
      have H7 := Lib.hid h7
      clear hw7 hw8 h7
      go_wp2_with (with_reducible show wpList _ _ _ [{ dst := none, op := _, type := _, pos := _, after := _, guard := _ }] _ _; go_must (refine wpList_store_row rfl 27 (.tmp 9) (.tmp 33) rfl w7.heap.size (hostA (req5 bs).1) rfl rfl 27 _ HW8.out.heap (by kernel_rfl) rfl (by simp [hostA, Value.oneCell']) ?_))
      have hw9 := HW8.out.setRow (hostA (req5 bs).1)
      clear HW8
      generalize hW9 : World.setRow _ _ _ = w9 at *
      clear hW9
      generalize w7.heap.size = nh at *
      have hw10 := hw9.down2
      have HT := Lib.hid (take_any 2 (by decide) (by decide) (req5 bs).2 (req5_at bs) w9 hw10 (List.mem_cons_of_mem _ hB1) HBB.out H7.out)
      have HR6 : Hid (takeL bs 2 (req5 bs).2 = req6 bs) := Lib.hid rfl
      unfold TakeP at HT
      rw [HR6.out] at HT
      have hlen2 : (req6 bs).1.length = 2 := by rw [← HR6.out]; exact takeL_len bs 2 _
      have hbyte2 : ∀ x ∈ (req6 bs).1, 0 ≤ x ∧ x < 256 := by rw [← HR6.out]; exact takeL_byte hbs 2 _
      have HL2 := Lib.hid hlen2; have HB2 := Lib.hid hbyte2
      clear hw9 hw10 hlen2 hbyte2
      refine HT.out.mono ?_
      rintro e w11 ⟨v11, R11, E11, Z, K, rfl, hw11, h11, hK, hsl⟩
      obtain ⟨ev11, q0, q1, q2, qn, qi⟩ := fvr_cells hw11 h11
      have H11 := Lib.hid h11
      clear HT h11
      by_cases he6 : (req6 bs).2.err = none
      · obtain rfl := qn he6
        have HE6 := Lib.hid he6
        obtain ⟨evx, hRx, hevx⟩ := H11.out.out
        obtain rfl : evx = .nilIface := by rw [he6] at hevx; exact hevx
        subst hRx
        have HEV := Lib.hid hevx
        obtain ⟨a0, a1, a2, a3, nm, hha⟩ : ∃ a0 a1 a2 a3 nm, hostA (req5 bs).1 = #[.int .u8 a0, .int .u8 a1, .int .u8 a2, .int .u8 a3, .string nm] := ⟨_, _, _, _, _, rfl⟩
        rw [hha] at hw11
        simp only [hha]
        have HHA := Lib.hid hha
        clear hha
        have HW11 := Lib.hid hw11
        obtain ⟨p0, p1, hpp⟩ : ∃ p0 p1, (req6 bs).1 = [p0, p1] := by
          match (req6 bs).1, HL2.out with
          | [p0, p1], _ => exact ⟨p0, p1, rfl⟩
        have HPP := Lib.hid hpp
        have hb2 := HB2.out
        rw [hpp] at hsl hb2
        have hp0 := hb2 p0 (by simp)
        have hp1 := hb2 p1 (by simp)
        obtain ⟨A2, c2, rfl, _⟩ := hsl.form
        obtain ⟨b, off, cs, rfl, hcs, hcell⟩ := hsl.get 0 p0 rfl
        obtain rfl : cs = [.int .u8 p0] := hcs
        have e0 := hcell 0 _ rfl
        obtain ⟨b', off', cs, e, hcs, hcell⟩ := hsl.get 1 p1 rfl
        obtain rfl : cs = [.int .u8 p1] := hcs
        injection e with e; injection e with z1 z2 _; subst z1; subst z2
        have e1 := hcell 0 _ rfl
        simp only [show kB.sz = 1 from rfl, Nat.mul_one, Nat.add_zero] at e0 e1
        have HSE : Hid (∀ W Ls, Sat σ W Ls → K ∈ Ls → Hp.one (nd + 1) (.cells #[.slice A bs.length c, .int .i64 ((req6 bs).2.at_ : Int), .nilIface] 75 (0, 0)) ∈ Ls → Hp.one nh (.cells #[.int .u8 a0, .int .u8 a1, .int .u8 a2, .int .u8 a3, .string nm] 27 (0, 0)) ∈ Ls → ((W.cell? ⟨b, off, none⟩ = some (.int .u8 p0) ∧ W.cell? ⟨b, off + 1, none⟩ = some (.int .u8 p1)) ∧ W.cell? ⟨nd + 1, 1, none⟩ = some (.int .i64 ((req6 bs).2.at_ : Int)) ∧ W.rangeAt nh 0 #[Value.int .u8 a0, .int .u8 a1, .int .u8 a2, .int .u8 a3, .string nm].toList)) := Lib.hid (fun W Ls h hk hr hn => ⟨⟨h.cellAt hk e0, h.cellAt hk e1⟩, h.cellAt hr ((Hp.one_cell _ _ _ _).trans rfl), fun j v hv => h.cellAt hn ((Hp.one_cell _ _ _ _).trans (by rw [Nat.zero_add]; simpa using hv))⟩)
        have mc0 : IntKind.i64.wrap p0 = p0 := IntWalk.i64_in _ (by omega)
        have mc1 : IntKind.i64.wrap p1 = p1 := IntWalk.i64_in _ (by omega)
        have ms : IntKind.i64.wrap (p0 * 256) = p0 * 256 := IntWalk.i64_in _ (by omega)
        have mo : bits .or .i64 (p0 * 256) p1 = p0 * 256 + p1 := bits_join .i64 62 (by decide) (fun n h0 h1 => IntWalk.i64_in _ (by omega)) 8 (p0 * 256) p1 (by omega) (by omega) (by omega) (by omega) (by omega) (by omega)
        clear hw11 hevx qn qi H11 hsl hcell e0 e1 hb2 he6
        go_upto_region 11 with fail
        clear q0 q1 q2
        refine wp_region_held_drew (S := fun W => (W.cell? ⟨b, off, none⟩ = some (.int .u8 p0) ∧ W.cell? ⟨b, off + 1, none⟩ = some (.int .u8 p1)) ∧ W.cell? ⟨nd + 1, 1, none⟩ = some (.int .i64 ((req6 bs).2.at_ : Int)) ∧ W.rangeAt nh 0 #[Value.int .u8 a0, .int .u8 a1, .int .u8 a2, .int .u8 a3, .string nm].toList) (by kernel_rfl) (HSE.out _ _ HW11.out.drew (takeK hK (List.mem_cons_of_mem _ (List.mem_cons_of_mem _ hB))) List.mem_cons_self (List.mem_cons_of_mem _ (List.mem_cons_of_mem _ (List.mem_cons_of_mem _ List.mem_cons_self)))) (fun hS0 => ?_)
        (try simp only [Act.put, List.getElem_toArray, List.getElem_cons_succ, List.getElem_cons_zero, List.setIfInBounds_toArray, List.set_cons_zero, List.set_cons_succ, Array.toArray_toList])
        refine wpAnyH_take (i := 0) (v := ?_) rfl (by kernel_rfl) (by kernel_rfl) (by kernel_rfl) (fun _ _ _ h => h) (Or.inl ⟨by kernel_rfl, ?_⟩) hS0 ?_
        rotate_left
        · intro w hSw; clear hSw; go_simp; (try with_reducible rfl)
        (try simp only [Act.put, List.getElem_toArray, List.getElem_cons_succ, List.getElem_cons_zero, List.setIfInBounds_toArray, List.set_cons_zero, List.set_cons_succ, Array.toArray_toList])
        refine wpAnyH_take (i := 1) rfl (by kernel_rfl) (by kernel_rfl) (by kernel_rfl) (fun _ _ _ h => h) (yieldsIf_load_mid (by kernel_rfl) _ _ rfl _ _ rfl (#[Value.int .u8 a0, .int .u8 a1, .int .u8 a2, .int .u8 a3, .string nm].toList) _ (fun w h => h.2.2) Tryd.underlying27 rfl (by kernel_rfl)) hS0 ?_
        (try simp only [Act.put, List.getElem_toArray, List.getElem_cons_succ, List.getElem_cons_zero, List.setIfInBounds_toArray, List.set_cons_zero, List.set_cons_succ, Array.toArray_toList])
        refine wpAnyH_take (i := 2) (v := ?_) rfl (by kernel_rfl) (by kernel_rfl) (by kernel_rfl) (fun _ _ _ h => h) (Or.inl ⟨by kernel_rfl, ?_⟩) hS0 ?_
        rotate_left
        · intro w hSw; clear hSw; go_simp; (try with_reducible rfl)
        (try simp only [Act.put, List.getElem_toArray, List.getElem_cons_succ, List.getElem_cons_zero, List.setIfInBounds_toArray, List.set_cons_zero, List.set_cons_succ, Array.toArray_toList])
        refine wpAnyH_take (i := 3) (v := ?_) rfl (by kernel_rfl) (by kernel_rfl) (by kernel_rfl) (fun _ _ _ h => h) (Or.inl ⟨by kernel_rfl, ?_⟩) hS0 ?_
        rotate_left
        · intro w hSw; clear hSw; go_simp; (try with_reducible rfl)
        (try simp only [Act.put, List.getElem_toArray, List.getElem_cons_succ, List.getElem_cons_zero, List.setIfInBounds_toArray, List.set_cons_zero, List.set_cons_succ, Array.toArray_toList])
        refine wpAnyH_take (i := 4) (v := ?_) rfl (by kernel_rfl) (by kernel_rfl) (by kernel_rfl) (fun _ _ _ h => h) (Or.inl ⟨by kernel_rfl, ?_⟩) hS0 ?_
        rotate_left
        · intro w hSw; obtain ⟨⟨e0, e1⟩, e2, e3⟩ := hSw; clear e1 e2 e3; go_simp; (try with_reducible rfl)
        (try simp only [Act.put, List.getElem_toArray, List.getElem_cons_succ, List.getElem_cons_zero, List.setIfInBounds_toArray, List.set_cons_zero, List.set_cons_succ, Array.toArray_toList])
        refine wpAnyH_take (i := 5) (v := ?_) rfl (by kernel_rfl) (by kernel_rfl) (by kernel_rfl) (fun _ _ _ h => h) (Or.inl ⟨by kernel_rfl, ?_⟩) hS0 ?_
        rotate_left
        · intro w hSw; clear hSw; go_simp; (try with_reducible rfl)
        (try simp only [Act.put, List.getElem_toArray, List.getElem_cons_succ, List.getElem_cons_zero, List.setIfInBounds_toArray, List.set_cons_zero, List.set_cons_succ, Array.toArray_toList])
        refine wpAnyH_take (i := 6) (v := ?_) rfl (by kernel_rfl) (by kernel_rfl) (by kernel_rfl) (fun _ _ _ h => h) (Or.inl ⟨by kernel_rfl, ?_⟩) hS0 ?_
        rotate_left
        · intro w hSw; clear hSw; go_simp; (try with_reducible rfl)
        (try simp only [Act.put, List.getElem_toArray, List.getElem_cons_succ, List.getElem_cons_zero, List.setIfInBounds_toArray, List.set_cons_zero, List.set_cons_succ, Array.toArray_toList])
        refine wpAnyH_take (i := 7) (v := ?_) rfl (by kernel_rfl) (by kernel_rfl) (by kernel_rfl) (fun _ _ _ h => h) (Or.inl ⟨by kernel_rfl, ?_⟩) hS0 ?_
        rotate_left
        · intro w hSw; clear hSw; go_simp; (try with_reducible rfl)
        (try simp only [Act.put, List.getElem_toArray, List.getElem_cons_succ, List.getElem_cons_zero, List.setIfInBounds_toArray, List.set_cons_zero, List.set_cons_succ, Array.toArray_toList])
        refine wpAnyH_take (i := 8) (v := ?_) rfl (by kernel_rfl) (by kernel_rfl) (by kernel_rfl) (fun _ _ _ h => h) (Or.inl ⟨by kernel_rfl, ?_⟩) hS0 ?_
        rotate_left
        · intro w hSw; clear hSw; go_simp; (try with_reducible rfl)
        (try simp only [Act.put, List.getElem_toArray, List.getElem_cons_succ, List.getElem_cons_zero, List.setIfInBounds_toArray, List.set_cons_zero, List.set_cons_succ, Array.toArray_toList])
        refine wpAnyH_take (i := 9) (v := ?_) rfl (by kernel_rfl) (by kernel_rfl) (by kernel_rfl) (fun _ _ _ h => h) (Or.inl ⟨by kernel_rfl, ?_⟩) hS0 ?_
        rotate_left
        · intro w hSw; obtain ⟨⟨e0, e1⟩, e2, e3⟩ := hSw; clear e0 e2 e3; go_simp; (try with_reducible rfl)
        (try simp only [Act.put, List.getElem_toArray, List.getElem_cons_succ, List.getElem_cons_zero, List.setIfInBounds_toArray, List.set_cons_zero, List.set_cons_succ, Array.toArray_toList])
        refine wpAnyH_take (i := 10) (v := ?_) rfl (by kernel_rfl) (by kernel_rfl) (by kernel_rfl) (fun _ _ _ h => h) (Or.inl ⟨by kernel_rfl, ?_⟩) hS0 ?_
        rotate_left
        · intro w hSw; clear hSw; go_simp; (try with_reducible rfl)
        (try simp only [Act.put, List.getElem_toArray, List.getElem_cons_succ, List.getElem_cons_zero, List.setIfInBounds_toArray, List.set_cons_zero, List.set_cons_succ, Array.toArray_toList])
        refine wpAnyH_take (i := 11) (v := ?_) rfl (by kernel_rfl) (by kernel_rfl) (by kernel_rfl) (fun _ _ _ h => h) (Or.inl ⟨by kernel_rfl, ?_⟩) hS0 ?_
        rotate_left
        · intro w hSw; clear hSw; go_simp; (try with_reducible rfl)
        (try simp only [Act.put, List.getElem_toArray, List.getElem_cons_succ, List.getElem_cons_zero, List.setIfInBounds_toArray, List.set_cons_zero, List.set_cons_succ, Array.toArray_toList])
        refine wpAnyH_take (i := 12) (v := ?_) rfl (by kernel_rfl) (by kernel_rfl) (by kernel_rfl) (fun _ _ _ h => h) (Or.inl ⟨by kernel_rfl, ?_⟩) hS0 ?_
        rotate_left
        · intro w hSw; clear hSw; go_simp; (try with_reducible rfl)
        (try simp only [Act.put, List.getElem_toArray, List.getElem_cons_succ, List.getElem_cons_zero, List.setIfInBounds_toArray, List.set_cons_zero, List.set_cons_succ, Array.toArray_toList])
        refine wpAnyH_take (i := 13) (v := ?_) rfl (by kernel_rfl) (by kernel_rfl) (by kernel_rfl) (fun _ _ _ h => h) (Or.inl ⟨by kernel_rfl, ?_⟩) hS0 ?_
        rotate_left
        · intro w hSw; clear hSw; go_simp; (try with_reducible rfl)
        (try simp only [Act.put, List.getElem_toArray, List.getElem_cons_succ, List.getElem_cons_zero, List.setIfInBounds_toArray, List.set_cons_zero, List.set_cons_succ, Array.toArray_toList])
        refine wpAnyH_take (i := 14) (v := ?_) rfl (by kernel_rfl) (by kernel_rfl) (by kernel_rfl) (fun _ _ _ h => h) (Or.inl ⟨by kernel_rfl, ?_⟩) hS0 ?_
        rotate_left
        · intro w hSw; clear hSw; go_simp; (try with_reducible rfl)
        (try simp only [Act.put, List.getElem_toArray, List.getElem_cons_succ, List.getElem_cons_zero, List.setIfInBounds_toArray, List.set_cons_zero, List.set_cons_succ, Array.toArray_toList])
        refine wpAnyH_take (i := 15) (v := ?_) rfl (by kernel_rfl) (by kernel_rfl) (by kernel_rfl) (fun _ _ _ h => h) (Or.inl ⟨by kernel_rfl, ?_⟩) hS0 ?_
        rotate_left
        · intro w hSw; clear hSw; go_simp; (try with_reducible rfl)
        (try simp only [Act.put, List.getElem_toArray, List.getElem_cons_succ, List.getElem_cons_zero, List.setIfInBounds_toArray, List.set_cons_zero, List.set_cons_succ, Array.toArray_toList])
        refine wpAnyH_take (i := 16) (v := ?_) rfl (by kernel_rfl) (by kernel_rfl) (by kernel_rfl) (fun _ _ _ h => h) (Or.inl ⟨by kernel_rfl, ?_⟩) hS0 ?_
        rotate_left
        · intro w hSw; obtain ⟨⟨e0, e1⟩, e2, e3⟩ := hSw; clear e0 e1 e3; go_simp; (try with_reducible rfl)
        (try simp only [Act.put, List.getElem_toArray, List.getElem_cons_succ, List.getElem_cons_zero, List.setIfInBounds_toArray, List.set_cons_zero, List.set_cons_succ, Array.toArray_toList])
        refine wpAnyH_take (i := 17) (v := ?_) rfl (by kernel_rfl) (by kernel_rfl) (by kernel_rfl) (fun _ _ _ h => h) (Or.inl ⟨by kernel_rfl, ?_⟩) hS0 ?_
        rotate_left
        · intro w hSw; clear hSw; go_simp; (try with_reducible rfl)
        (try simp only [Act.put, List.getElem_toArray, List.getElem_cons_succ, List.getElem_cons_zero, List.setIfInBounds_toArray, List.set_cons_zero, List.set_cons_succ, Array.toArray_toList])
        refine wpAnyH_ready (rs := [18]) (by kernel_rfl) (by simp) ?_
        refine AllReadyH.cons rfl (fun K2 hK2 => ?_) AllReadyH.nil
        have hwn := Sat.bring (l₁ := [Hp.one (nd + 1) (.cells #[.slice A bs.length c, .int .i64 ((req6 bs).2.at_ : Int), .nilIface] 75 (0, 0)), E11, Z, Hp.one nh (.cells #[.int .u8 a0, .int .u8 a1, .int .u8 a2, .int .u8 a3, .string nm] 27 (0, 0))]) HW11.out.drew
        refine step_store_row rfl 29 (.tmp 3) (.tmp 58) rfl nd #[.int .u8 a0, .int .u8 a1, .int .u8 a2, .int .u8 a3, .string nm, .int .i64 (p0 * 256 + p1)] rfl rfl 29 _ hwn.heap (by kernel_rfl) rfl (by simp [Value.oneCell']) ?_
        have hw12 := hwn.setRow #[.int .u8 a0, .int .u8 a1, .int .u8 a2, .int .u8 a3, .string nm, .int .i64 (p0 * 256 + p1)]
        refine hK2.out _ _ (HSE.out _ _ hw12 (List.mem_cons_of_mem _ (takeK hK (List.mem_cons_of_mem _ hB))) (List.mem_cons_of_mem _ List.mem_cons_self) (List.mem_cons_of_mem _ (List.mem_cons_of_mem _ (List.mem_cons_of_mem _ (List.mem_cons_of_mem _ List.mem_cons_self))))) (fun hS1 => ?_)
        clear hK2 K2
        (try simp only [Act.put, List.getElem_toArray, List.getElem_cons_succ, List.getElem_cons_zero, List.setIfInBounds_toArray, List.set_cons_zero, List.set_cons_succ, Array.toArray_toList])
        refine wpAnyH_take (i := 19) (v := ?_) rfl (by kernel_rfl) (by kernel_rfl) (by kernel_rfl) (fun _ _ _ h => h) (Or.inl ⟨by kernel_rfl, ?_⟩) hS1 ?_
        rotate_left
        · intro w hSw; clear hSw; go_simp; (try with_reducible rfl)
        (try simp only [Act.put, List.getElem_toArray, List.getElem_cons_succ, List.getElem_cons_zero, List.setIfInBounds_toArray, List.set_cons_zero, List.set_cons_succ, Array.toArray_toList])
        refine wpAnyH_take (i := 20) (v := ?_) rfl (by kernel_rfl) (by kernel_rfl) (by kernel_rfl) (fun _ _ _ h => h) (Or.inl ⟨by kernel_rfl, ?_⟩) hS1 ?_
        rotate_left
        · intro w hSw; clear hSw; go_simp; (try with_reducible rfl)
        (try simp only [Act.put, List.getElem_toArray, List.getElem_cons_succ, List.getElem_cons_zero, List.setIfInBounds_toArray, List.set_cons_zero, List.set_cons_succ, Array.toArray_toList])
        refine wpAnyH_done (by kernel_rfl) ?_ _
        go_wp2
        refine bodyPost_ret (req_res _ _ nd _ rfl hw12.heap (by kernel_rfl)) rfl ?_
        have hd : destA (req5 bs).1 (p0 * 256 + p1) = #[.int .u8 a0, .int .u8 a1, .int .u8 a2, .int .u8 a3, .string nm, .int .i64 (p0 * 256 + p1)] := by
          have h := HHA.out
          unfold hostA at h
          simp at h
          obtain ⟨z1, z2, z3, z4, z5⟩ := h
          unfold destA
          simp [z1, z2, z3, z4, z5]
        have hro : reqO bs = ((req2 bs).1, #[.int .u8 a0, .int .u8 a1, .int .u8 a2, .int .u8 a3, .string nm, .int .i64 (p0 * 256 + p1)], ((req6 bs).2.at_ : Int)) := by
          unfold reqO
          rw [if_pos HE6.out, HPP.out]
          rw [← hd]; rfl
        rw [hro, HE6.out]
        exact ⟨.nilIface, rfl, E11, (hw12.drop.drop.sub (List.Sublist.cons_cons _ ((List.sublist_cons_self _ _).trans (List.sublist_cons_self _ _)))), rfl⟩
      · obtain ⟨tv, uv, rfl⟩ := qi he6
        have HE6 := Lib.hid he6
        clear he6
        obtain ⟨evx, hRx, hevx⟩ := H11.out.out
        have hev2 : evx = .iface tv uv := by
          rw [hRx] at hw11
          have := hw11.one_cell (o := 2) rfl
          rw [q2] at this
          exact (Option.some.inj this).symm
        subst hev2
        subst hRx
        have HEV := Lib.hid hevx
        have HW11 := Lib.hid hw11
        have HSE : Hid (∀ W Ls, Sat σ W Ls → Hp.one (nd + 1) (.cells #[.slice A bs.length c, .int .i64 ((req6 bs).2.at_ : Int), .iface tv uv] 75 (0, 0)) ∈ Ls → W.cell? ⟨nd + 1, 2, none⟩ = some (.iface tv uv)) := Lib.hid (fun W Ls h hm => h.cellAt hm ((Hp.one_cell _ _ _ _).trans rfl))
        clear hw11 hevx qn qi H11
        go_upto_region 10 with fail
        clear q0 q1 q2
        refine wp_region_held_drew (S := fun W => W.cell? ⟨nd + 1, 2, none⟩ = some (.iface tv uv)) (by kernel_rfl) (HSE.out _ _ HW11.out.drew List.mem_cons_self) (fun hS0 => ?_)
        (try simp only [Act.put, List.getElem_toArray, List.getElem_cons_succ, List.getElem_cons_zero, List.setIfInBounds_toArray, List.set_cons_zero, List.set_cons_succ, Array.toArray_toList])
        refine wpAnyH_take (i := 0) (v := ?_) rfl (by kernel_rfl) (by kernel_rfl) (by kernel_rfl) (fun _ _ _ h => h) (Or.inl ⟨by kernel_rfl, ?_⟩) hS0 ?_
        rotate_left
        · intro w hSw; clear hSw; go_simp; (try with_reducible rfl)
        (try simp only [Act.put, List.getElem_toArray, List.getElem_cons_succ, List.getElem_cons_zero, List.setIfInBounds_toArray, List.set_cons_zero, List.set_cons_succ, Array.toArray_toList])
        refine wpAnyH_take (i := 1) (v := ?_) rfl (by kernel_rfl) (by kernel_rfl) (by kernel_rfl) (fun _ _ _ h => h) (Or.inl ⟨by kernel_rfl, ?_⟩) hS0 ?_
        rotate_left
        · intro w hSw; clear hSw; go_simp; (try with_reducible rfl)
        (try simp only [Act.put, List.getElem_toArray, List.getElem_cons_succ, List.getElem_cons_zero, List.setIfInBounds_toArray, List.set_cons_zero, List.set_cons_succ, Array.toArray_toList])
        refine wpAnyH_take (i := 2) (v := ?_) rfl (by kernel_rfl) (by kernel_rfl) (by kernel_rfl) (fun _ _ _ h => h) (Or.inl ⟨by kernel_rfl, ?_⟩) hS0 ?_
        rotate_left
        · intro w hSw; clear hSw; go_simp; (try with_reducible rfl)
        (try simp only [Act.put, List.getElem_toArray, List.getElem_cons_succ, List.getElem_cons_zero, List.setIfInBounds_toArray, List.set_cons_zero, List.set_cons_succ, Array.toArray_toList])
        refine wpAnyH_take (i := 3) (v := ?_) rfl (by kernel_rfl) (by kernel_rfl) (by kernel_rfl) (fun _ _ _ h => h) (Or.inl ⟨by kernel_rfl, ?_⟩) hS0 ?_
        rotate_left
        · intro w hSw; clear hSw; go_simp; (try with_reducible rfl)
        (try simp only [Act.put, List.getElem_toArray, List.getElem_cons_succ, List.getElem_cons_zero, List.setIfInBounds_toArray, List.set_cons_zero, List.set_cons_succ, Array.toArray_toList])
        refine wpAnyH_take (i := 4) (v := ?_) rfl (by kernel_rfl) (by kernel_rfl) (by kernel_rfl) (fun _ _ _ h => h) (Or.inl ⟨by kernel_rfl, ?_⟩) hS0 ?_
        rotate_left
        · intro w hSw; go_simp; (try with_reducible rfl)
        (try simp only [Act.put, List.getElem_toArray, List.getElem_cons_succ, List.getElem_cons_zero, List.setIfInBounds_toArray, List.set_cons_zero, List.set_cons_succ, Array.toArray_toList])
        refine wpAnyH_take (i := 5) (v := ?_) rfl (by kernel_rfl) (by kernel_rfl) (by kernel_rfl) (fun _ _ _ h => h) (Or.inl ⟨by kernel_rfl, ?_⟩) hS0 ?_
        rotate_left
        · intro w hSw; clear hSw; go_simp; (try with_reducible rfl)
        (try simp only [Act.put, List.getElem_toArray, List.getElem_cons_succ, List.getElem_cons_zero, List.setIfInBounds_toArray, List.set_cons_zero, List.set_cons_succ, Array.toArray_toList])
        refine wpAnyH_ready (rs := [6]) (by kernel_rfl) (by simp) ?_
        refine AllReadyH.cons rfl (fun K2 hK2 => ?_) AllReadyH.nil
        have hwn := Sat.bring (l₁ := [Hp.one (nd + 1) (.cells #[.slice A bs.length c, .int .i64 ((req6 bs).2.at_ : Int), .iface tv uv] 75 (0, 0)), E11, Z, Hp.one nh (.cells (hostA (req5 bs).1) 27 (0, 0))]) HW11.out.drew
        refine step_store_row rfl 29 (.tmp 3) (.tmp 41) rfl nd #[.int .u8 0, .int .u8 0, .int .u8 0, .int .u8 0, .string ⟨#[]⟩, .int .i64 0] rfl rfl 29 _ hwn.heap (by kernel_rfl) rfl (by simp [Value.oneCell']) ?_
        have hw12 := hwn.setRow #[.int .u8 0, .int .u8 0, .int .u8 0, .int .u8 0, .string ⟨#[]⟩, .int .i64 0]
        refine hK2.out _ _ (HSE.out _ _ hw12 (List.mem_cons_of_mem _ List.mem_cons_self)) (fun hS1 => ?_)
        clear hK2 K2
        (try simp only [Act.put, List.getElem_toArray, List.getElem_cons_succ, List.getElem_cons_zero, List.setIfInBounds_toArray, List.set_cons_zero, List.set_cons_succ, Array.toArray_toList])
        refine wpAnyH_take (i := 7) (v := ?_) rfl (by kernel_rfl) (by kernel_rfl) (by kernel_rfl) (fun _ _ _ h => h) (Or.inl ⟨by kernel_rfl, ?_⟩) hS1 ?_
        rotate_left
        · intro w hSw; clear hSw; go_simp; (try with_reducible rfl)
        (try simp only [Act.put, List.getElem_toArray, List.getElem_cons_succ, List.getElem_cons_zero, List.setIfInBounds_toArray, List.set_cons_zero, List.set_cons_succ, Array.toArray_toList])
        refine wpAnyH_take (i := 8) (v := ?_) rfl (by kernel_rfl) (by kernel_rfl) (by kernel_rfl) (fun _ _ _ h => h) (Or.inl ⟨by kernel_rfl, ?_⟩) hS1 ?_
        rotate_left
        · intro w hSw; clear hSw; go_simp; (try with_reducible rfl)
        (try simp only [Act.put, List.getElem_toArray, List.getElem_cons_succ, List.getElem_cons_zero, List.setIfInBounds_toArray, List.set_cons_zero, List.set_cons_succ, Array.toArray_toList])
        refine wpAnyH_done (by kernel_rfl) ?_ _
        clear hS0 hS1
        generalize hW12 : World.setRow _ _ _ = w12 at *
        clear hW12 hwn HW11
        go_wp2
        refine bodyPost_ret (req_res _ _ nd _ rfl hw12.heap (by kernel_rfl)) rfl ?_
        have hro : reqO bs = (0, #[.int .u8 0, .int .u8 0, .int .u8 0, .int .u8 0, .string ⟨#[]⟩, .int .i64 0], 0) := by
          unfold reqO
          rw [if_neg HE6.out]
        rw [hro]
        exact ⟨_, E11, rfl, (hw12.drop.drop.sub (List.Sublist.cons_cons _ ((List.sublist_cons_self _ _).trans (List.sublist_cons_self _ _)))), HEV.out⟩
  · obtain ⟨tv0, uv0, rfl⟩ := qi he
    have HE : Hid (req4 bs = s3) := Lib.hid (by rw [HR4.out]; exact if_neg (fun h => he h.1))
    clear qn qi he
    go_wp2_with fail
    obtain ⟨R6, hR6⟩ : ∃ R6, R5 = R6 := ⟨_, rfl⟩
    obtain ⟨E6, hE6⟩ : ∃ E6, E5 = E6 := ⟨_, rfl⟩
    rw [hR6, hE6] at hw5 H5
    have hw6 := hw5
    have H6 : Hid (FvR R6 E6 (nd + 1) (.slice A bs.length c) ((req4 bs).at_ : Int) (req4 bs).err) := Lib.hid (by rw [HE.out]; exact H5.out)
    clear hw5 hR6 hE6
    clear HF H5 HR4 q0 q1 q2 HE HO2F
    refine (HHO.out R6 E6 _ hw6 H6.out).mono ?_
    rintro e w7 ⟨R7, E7, rfl, hw7, h7⟩
    clear hw6 HHO H6
    have hw8 := hw7.alloc (.cells #[.int .u8 0, .int .u8 0, .int .u8 0, .int .u8 0, .string ⟨#[]⟩] 27)
    have HW8 := Lib.hid hw8
    have H7 := Lib.hid h7
    clear hw7 hw8 h7
    go_wp2_with (with_reducible show wpList _ _ _ [{ dst := none, op := _, type := _, pos := _, after := _, guard := _ }] _ _; go_must (refine wpList_store_row rfl 27 (.tmp 9) (.tmp 33) rfl w7.heap.size (hostA (req5 bs).1) rfl rfl 27 _ HW8.out.heap (by kernel_rfl) rfl (by simp [hostA, Value.oneCell']) ?_))
    have hw9 := HW8.out.setRow (hostA (req5 bs).1)
    clear HW8
    generalize hW9 : World.setRow _ _ _ = w9 at *
    clear hW9
    generalize w7.heap.size = nh at *
    have hw10 := hw9.down2
    have HT := Lib.hid (take_any 2 (by decide) (by decide) (req5 bs).2 (req5_at bs) w9 hw10 (List.mem_cons_of_mem _ hB1) HBB.out H7.out)
    have HR6 : Hid (takeL bs 2 (req5 bs).2 = req6 bs) := Lib.hid rfl
    unfold TakeP at HT
    rw [HR6.out] at HT
    have hlen2 : (req6 bs).1.length = 2 := by rw [← HR6.out]; exact takeL_len bs 2 _
    have hbyte2 : ∀ x ∈ (req6 bs).1, 0 ≤ x ∧ x < 256 := by rw [← HR6.out]; exact takeL_byte hbs 2 _
    have HL2 := Lib.hid hlen2; have HB2 := Lib.hid hbyte2
    clear hw9 hw10 hlen2 hbyte2
    refine HT.out.mono ?_
    rintro e w11 ⟨v11, R11, E11, Z, K, rfl, hw11, h11, hK, hsl⟩
    obtain ⟨ev11, q0, q1, q2, qn, qi⟩ := fvr_cells hw11 h11
    have H11 := Lib.hid h11
    clear HT h11
    by_cases he6 : (req6 bs).2.err = none
    · obtain rfl := qn he6
      have HE6 := Lib.hid he6
      obtain ⟨evx, hRx, hevx⟩ := H11.out.out
      obtain rfl : evx = .nilIface := by rw [he6] at hevx; exact hevx
      subst hRx
      have HEV := Lib.hid hevx
      obtain ⟨a0, a1, a2, a3, nm, hha⟩ : ∃ a0 a1 a2 a3 nm, hostA (req5 bs).1 = #[.int .u8 a0, .int .u8 a1, .int .u8 a2, .int .u8 a3, .string nm] := ⟨_, _, _, _, _, rfl⟩
      rw [hha] at hw11
      simp only [hha]
      have HHA := Lib.hid hha
      clear hha
      have HW11 := Lib.hid hw11
      obtain ⟨p0, p1, hpp⟩ : ∃ p0 p1, (req6 bs).1 = [p0, p1] := by
        match (req6 bs).1, HL2.out with
        | [p0, p1], _ => exact ⟨p0, p1, rfl⟩
      have HPP := Lib.hid hpp
      have hb2 := HB2.out
      rw [hpp] at hsl hb2
      have hp0 := hb2 p0 (by simp)
      have hp1 := hb2 p1 (by simp)
      obtain ⟨A2, c2, rfl, _⟩ := hsl.form
      obtain ⟨b, off, cs, rfl, hcs, hcell⟩ := hsl.get 0 p0 rfl
      obtain rfl : cs = [.int .u8 p0] := hcs
      have e0 := hcell 0 _ rfl
      obtain ⟨b', off', cs, e, hcs, hcell⟩ := hsl.get 1 p1 rfl
      obtain rfl : cs = [.int .u8 p1] := hcs
      injection e with e; injection e with z1 z2 _; subst z1; subst z2
      have e1 := hcell 0 _ rfl
      simp only [show kB.sz = 1 from rfl, Nat.mul_one, Nat.add_zero] at e0 e1
      have HSE : Hid (∀ W Ls, Sat σ W Ls → K ∈ Ls → Hp.one (nd + 1) (.cells #[.slice A bs.length c, .int .i64 ((req6 bs).2.at_ : Int), .nilIface] 75 (0, 0)) ∈ Ls → Hp.one nh (.cells #[.int .u8 a0, .int .u8 a1, .int .u8 a2, .int .u8 a3, .string nm] 27 (0, 0)) ∈ Ls → ((W.cell? ⟨b, off, none⟩ = some (.int .u8 p0) ∧ W.cell? ⟨b, off + 1, none⟩ = some (.int .u8 p1)) ∧ W.cell? ⟨nd + 1, 1, none⟩ = some (.int .i64 ((req6 bs).2.at_ : Int)) ∧ W.rangeAt nh 0 #[Value.int .u8 a0, .int .u8 a1, .int .u8 a2, .int .u8 a3, .string nm].toList)) := Lib.hid (fun W Ls h hk hr hn => ⟨⟨h.cellAt hk e0, h.cellAt hk e1⟩, h.cellAt hr ((Hp.one_cell _ _ _ _).trans rfl), fun j v hv => h.cellAt hn ((Hp.one_cell _ _ _ _).trans (by rw [Nat.zero_add]; simpa using hv))⟩)
      have mc0 : IntKind.i64.wrap p0 = p0 := IntWalk.i64_in _ (by omega)
      have mc1 : IntKind.i64.wrap p1 = p1 := IntWalk.i64_in _ (by omega)
      have ms : IntKind.i64.wrap (p0 * 256) = p0 * 256 := IntWalk.i64_in _ (by omega)
      have mo : bits .or .i64 (p0 * 256) p1 = p0 * 256 + p1 := bits_join .i64 62 (by decide) (fun n h0 h1 => IntWalk.i64_in _ (by omega)) 8 (p0 * 256) p1 (by omega) (by omega) (by omega) (by omega) (by omega) (by omega)
      clear hw11 hevx qn qi H11 hsl hcell e0 e1 hb2 he6
      go_upto_region 11 with fail
      clear q0 q1 q2
      refine wp_region_held_drew (S := fun W => (W.cell? ⟨b, off, none⟩ = some (.int .u8 p0) ∧ W.cell? ⟨b, off + 1, none⟩ = some (.int .u8 p1)) ∧ W.cell? ⟨nd + 1, 1, none⟩ = some (.int .i64 ((req6 bs).2.at_ : Int)) ∧ W.rangeAt nh 0 #[Value.int .u8 a0, .int .u8 a1, .int .u8 a2, .int .u8 a3, .string nm].toList) (by kernel_rfl) (HSE.out _ _ HW11.out.drew (takeK hK (List.mem_cons_of_mem _ (List.mem_cons_of_mem _ hB))) List.mem_cons_self (List.mem_cons_of_mem _ (List.mem_cons_of_mem _ (List.mem_cons_of_mem _ List.mem_cons_self)))) (fun hS0 => ?_)
      (try simp only [Act.put, List.getElem_toArray, List.getElem_cons_succ, List.getElem_cons_zero, List.setIfInBounds_toArray, List.set_cons_zero, List.set_cons_succ, Array.toArray_toList])
      refine wpAnyH_take (i := 0) (v := ?_) rfl (by kernel_rfl) (by kernel_rfl) (by kernel_rfl) (fun _ _ _ h => h) (Or.inl ⟨by kernel_rfl, ?_⟩) hS0 ?_
      rotate_left
      · intro w hSw; clear hSw; go_simp; (try with_reducible rfl)
      (try simp only [Act.put, List.getElem_toArray, List.getElem_cons_succ, List.getElem_cons_zero, List.setIfInBounds_toArray, List.set_cons_zero, List.set_cons_succ, Array.toArray_toList])
      refine wpAnyH_take (i := 1) rfl (by kernel_rfl) (by kernel_rfl) (by kernel_rfl) (fun _ _ _ h => h) (yieldsIf_load_mid (by kernel_rfl) _ _ rfl _ _ rfl (#[Value.int .u8 a0, .int .u8 a1, .int .u8 a2, .int .u8 a3, .string nm].toList) _ (fun w h => h.2.2) Tryd.underlying27 rfl (by kernel_rfl)) hS0 ?_
      (try simp only [Act.put, List.getElem_toArray, List.getElem_cons_succ, List.getElem_cons_zero, List.setIfInBounds_toArray, List.set_cons_zero, List.set_cons_succ, Array.toArray_toList])
      refine wpAnyH_take (i := 2) (v := ?_) rfl (by kernel_rfl) (by kernel_rfl) (by kernel_rfl) (fun _ _ _ h => h) (Or.inl ⟨by kernel_rfl, ?_⟩) hS0 ?_
      rotate_left
      · intro w hSw; clear hSw; go_simp; (try with_reducible rfl)
      (try simp only [Act.put, List.getElem_toArray, List.getElem_cons_succ, List.getElem_cons_zero, List.setIfInBounds_toArray, List.set_cons_zero, List.set_cons_succ, Array.toArray_toList])
      refine wpAnyH_take (i := 3) (v := ?_) rfl (by kernel_rfl) (by kernel_rfl) (by kernel_rfl) (fun _ _ _ h => h) (Or.inl ⟨by kernel_rfl, ?_⟩) hS0 ?_
      rotate_left
      · intro w hSw; clear hSw; go_simp; (try with_reducible rfl)
      (try simp only [Act.put, List.getElem_toArray, List.getElem_cons_succ, List.getElem_cons_zero, List.setIfInBounds_toArray, List.set_cons_zero, List.set_cons_succ, Array.toArray_toList])
      refine wpAnyH_take (i := 4) (v := ?_) rfl (by kernel_rfl) (by kernel_rfl) (by kernel_rfl) (fun _ _ _ h => h) (Or.inl ⟨by kernel_rfl, ?_⟩) hS0 ?_
      rotate_left
      · intro w hSw; obtain ⟨⟨e0, e1⟩, e2, e3⟩ := hSw; clear e1 e2 e3; go_simp; (try with_reducible rfl)
      (try simp only [Act.put, List.getElem_toArray, List.getElem_cons_succ, List.getElem_cons_zero, List.setIfInBounds_toArray, List.set_cons_zero, List.set_cons_succ, Array.toArray_toList])
      refine wpAnyH_take (i := 5) (v := ?_) rfl (by kernel_rfl) (by kernel_rfl) (by kernel_rfl) (fun _ _ _ h => h) (Or.inl ⟨by kernel_rfl, ?_⟩) hS0 ?_
      rotate_left
      · intro w hSw; clear hSw; go_simp; (try with_reducible rfl)
      (try simp only [Act.put, List.getElem_toArray, List.getElem_cons_succ, List.getElem_cons_zero, List.setIfInBounds_toArray, List.set_cons_zero, List.set_cons_succ, Array.toArray_toList])
      refine wpAnyH_take (i := 6) (v := ?_) rfl (by kernel_rfl) (by kernel_rfl) (by kernel_rfl) (fun _ _ _ h => h) (Or.inl ⟨by kernel_rfl, ?_⟩) hS0 ?_
      rotate_left
      · intro w hSw; clear hSw; go_simp; (try with_reducible rfl)
      (try simp only [Act.put, List.getElem_toArray, List.getElem_cons_succ, List.getElem_cons_zero, List.setIfInBounds_toArray, List.set_cons_zero, List.set_cons_succ, Array.toArray_toList])
      refine wpAnyH_take (i := 7) (v := ?_) rfl (by kernel_rfl) (by kernel_rfl) (by kernel_rfl) (fun _ _ _ h => h) (Or.inl ⟨by kernel_rfl, ?_⟩) hS0 ?_
      rotate_left
      · intro w hSw; clear hSw; go_simp; (try with_reducible rfl)
      (try simp only [Act.put, List.getElem_toArray, List.getElem_cons_succ, List.getElem_cons_zero, List.setIfInBounds_toArray, List.set_cons_zero, List.set_cons_succ, Array.toArray_toList])
      refine wpAnyH_take (i := 8) (v := ?_) rfl (by kernel_rfl) (by kernel_rfl) (by kernel_rfl) (fun _ _ _ h => h) (Or.inl ⟨by kernel_rfl, ?_⟩) hS0 ?_
      rotate_left
      · intro w hSw; clear hSw; go_simp; (try with_reducible rfl)
      (try simp only [Act.put, List.getElem_toArray, List.getElem_cons_succ, List.getElem_cons_zero, List.setIfInBounds_toArray, List.set_cons_zero, List.set_cons_succ, Array.toArray_toList])
      refine wpAnyH_take (i := 9) (v := ?_) rfl (by kernel_rfl) (by kernel_rfl) (by kernel_rfl) (fun _ _ _ h => h) (Or.inl ⟨by kernel_rfl, ?_⟩) hS0 ?_
      rotate_left
      · intro w hSw; obtain ⟨⟨e0, e1⟩, e2, e3⟩ := hSw; clear e0 e2 e3; go_simp; (try with_reducible rfl)
      (try simp only [Act.put, List.getElem_toArray, List.getElem_cons_succ, List.getElem_cons_zero, List.setIfInBounds_toArray, List.set_cons_zero, List.set_cons_succ, Array.toArray_toList])
      refine wpAnyH_take (i := 10) (v := ?_) rfl (by kernel_rfl) (by kernel_rfl) (by kernel_rfl) (fun _ _ _ h => h) (Or.inl ⟨by kernel_rfl, ?_⟩) hS0 ?_
      rotate_left
      · intro w hSw; clear hSw; go_simp; (try with_reducible rfl)
      (try simp only [Act.put, List.getElem_toArray, List.getElem_cons_succ, List.getElem_cons_zero, List.setIfInBounds_toArray, List.set_cons_zero, List.set_cons_succ, Array.toArray_toList])
      refine wpAnyH_take (i := 11) (v := ?_) rfl (by kernel_rfl) (by kernel_rfl) (by kernel_rfl) (fun _ _ _ h => h) (Or.inl ⟨by kernel_rfl, ?_⟩) hS0 ?_
      rotate_left
      · intro w hSw; clear hSw; go_simp; (try with_reducible rfl)
      (try simp only [Act.put, List.getElem_toArray, List.getElem_cons_succ, List.getElem_cons_zero, List.setIfInBounds_toArray, List.set_cons_zero, List.set_cons_succ, Array.toArray_toList])
      refine wpAnyH_take (i := 12) (v := ?_) rfl (by kernel_rfl) (by kernel_rfl) (by kernel_rfl) (fun _ _ _ h => h) (Or.inl ⟨by kernel_rfl, ?_⟩) hS0 ?_
      rotate_left
      · intro w hSw; clear hSw; go_simp; (try with_reducible rfl)
      (try simp only [Act.put, List.getElem_toArray, List.getElem_cons_succ, List.getElem_cons_zero, List.setIfInBounds_toArray, List.set_cons_zero, List.set_cons_succ, Array.toArray_toList])
      refine wpAnyH_take (i := 13) (v := ?_) rfl (by kernel_rfl) (by kernel_rfl) (by kernel_rfl) (fun _ _ _ h => h) (Or.inl ⟨by kernel_rfl, ?_⟩) hS0 ?_
      rotate_left
      · intro w hSw; clear hSw; go_simp; (try with_reducible rfl)
      (try simp only [Act.put, List.getElem_toArray, List.getElem_cons_succ, List.getElem_cons_zero, List.setIfInBounds_toArray, List.set_cons_zero, List.set_cons_succ, Array.toArray_toList])
      refine wpAnyH_take (i := 14) (v := ?_) rfl (by kernel_rfl) (by kernel_rfl) (by kernel_rfl) (fun _ _ _ h => h) (Or.inl ⟨by kernel_rfl, ?_⟩) hS0 ?_
      rotate_left
      · intro w hSw; clear hSw; go_simp; (try with_reducible rfl)
      (try simp only [Act.put, List.getElem_toArray, List.getElem_cons_succ, List.getElem_cons_zero, List.setIfInBounds_toArray, List.set_cons_zero, List.set_cons_succ, Array.toArray_toList])
      refine wpAnyH_take (i := 15) (v := ?_) rfl (by kernel_rfl) (by kernel_rfl) (by kernel_rfl) (fun _ _ _ h => h) (Or.inl ⟨by kernel_rfl, ?_⟩) hS0 ?_
      rotate_left
      · intro w hSw; clear hSw; go_simp; (try with_reducible rfl)
      (try simp only [Act.put, List.getElem_toArray, List.getElem_cons_succ, List.getElem_cons_zero, List.setIfInBounds_toArray, List.set_cons_zero, List.set_cons_succ, Array.toArray_toList])
      refine wpAnyH_take (i := 16) (v := ?_) rfl (by kernel_rfl) (by kernel_rfl) (by kernel_rfl) (fun _ _ _ h => h) (Or.inl ⟨by kernel_rfl, ?_⟩) hS0 ?_
      rotate_left
      · intro w hSw; obtain ⟨⟨e0, e1⟩, e2, e3⟩ := hSw; clear e0 e1 e3; go_simp; (try with_reducible rfl)
      (try simp only [Act.put, List.getElem_toArray, List.getElem_cons_succ, List.getElem_cons_zero, List.setIfInBounds_toArray, List.set_cons_zero, List.set_cons_succ, Array.toArray_toList])
      refine wpAnyH_take (i := 17) (v := ?_) rfl (by kernel_rfl) (by kernel_rfl) (by kernel_rfl) (fun _ _ _ h => h) (Or.inl ⟨by kernel_rfl, ?_⟩) hS0 ?_
      rotate_left
      · intro w hSw; clear hSw; go_simp; (try with_reducible rfl)
      (try simp only [Act.put, List.getElem_toArray, List.getElem_cons_succ, List.getElem_cons_zero, List.setIfInBounds_toArray, List.set_cons_zero, List.set_cons_succ, Array.toArray_toList])
      refine wpAnyH_ready (rs := [18]) (by kernel_rfl) (by simp) ?_
      refine AllReadyH.cons rfl (fun K2 hK2 => ?_) AllReadyH.nil
      have hwn := Sat.bring (l₁ := [Hp.one (nd + 1) (.cells #[.slice A bs.length c, .int .i64 ((req6 bs).2.at_ : Int), .nilIface] 75 (0, 0)), E11, Z, Hp.one nh (.cells #[.int .u8 a0, .int .u8 a1, .int .u8 a2, .int .u8 a3, .string nm] 27 (0, 0))]) HW11.out.drew
      refine step_store_row rfl 29 (.tmp 3) (.tmp 58) rfl nd #[.int .u8 a0, .int .u8 a1, .int .u8 a2, .int .u8 a3, .string nm, .int .i64 (p0 * 256 + p1)] rfl rfl 29 _ hwn.heap (by kernel_rfl) rfl (by simp [Value.oneCell']) ?_
      have hw12 := hwn.setRow #[.int .u8 a0, .int .u8 a1, .int .u8 a2, .int .u8 a3, .string nm, .int .i64 (p0 * 256 + p1)]
      refine hK2.out _ _ (HSE.out _ _ hw12 (List.mem_cons_of_mem _ (takeK hK (List.mem_cons_of_mem _ hB))) (List.mem_cons_of_mem _ List.mem_cons_self) (List.mem_cons_of_mem _ (List.mem_cons_of_mem _ (List.mem_cons_of_mem _ (List.mem_cons_of_mem _ List.mem_cons_self))))) (fun hS1 => ?_)
      clear hK2 K2
      (try simp only [Act.put, List.getElem_toArray, List.getElem_cons_succ, List.getElem_cons_zero, List.setIfInBounds_toArray, List.set_cons_zero, List.set_cons_succ, Array.toArray_toList])
      refine wpAnyH_take (i := 19) (v := ?_) rfl (by kernel_rfl) (by kernel_rfl) (by kernel_rfl) (fun _ _ _ h => h) (Or.inl ⟨by kernel_rfl, ?_⟩) hS1 ?_
      rotate_left
      · intro w hSw; clear hSw; go_simp; (try with_reducible rfl)
      (try simp only [Act.put, List.getElem_toArray, List.getElem_cons_succ, List.getElem_cons_zero, List.setIfInBounds_toArray, List.set_cons_zero, List.set_cons_succ, Array.toArray_toList])
      refine wpAnyH_take (i := 20) (v := ?_) rfl (by kernel_rfl) (by kernel_rfl) (by kernel_rfl) (fun _ _ _ h => h) (Or.inl ⟨by kernel_rfl, ?_⟩) hS1 ?_
      rotate_left
      · intro w hSw; clear hSw; go_simp; (try with_reducible rfl)
      (try simp only [Act.put, List.getElem_toArray, List.getElem_cons_succ, List.getElem_cons_zero, List.setIfInBounds_toArray, List.set_cons_zero, List.set_cons_succ, Array.toArray_toList])
      refine wpAnyH_done (by kernel_rfl) ?_ _
      go_wp2
      refine bodyPost_ret (req_res _ _ nd _ rfl hw12.heap (by kernel_rfl)) rfl ?_
      have hd : destA (req5 bs).1 (p0 * 256 + p1) = #[.int .u8 a0, .int .u8 a1, .int .u8 a2, .int .u8 a3, .string nm, .int .i64 (p0 * 256 + p1)] := by
        have h := HHA.out
        unfold hostA at h
        simp at h
        obtain ⟨z1, z2, z3, z4, z5⟩ := h
        unfold destA
        simp [z1, z2, z3, z4, z5]
      have hro : reqO bs = ((req2 bs).1, #[.int .u8 a0, .int .u8 a1, .int .u8 a2, .int .u8 a3, .string nm, .int .i64 (p0 * 256 + p1)], ((req6 bs).2.at_ : Int)) := by
        unfold reqO
        rw [if_pos HE6.out, HPP.out]
        rw [← hd]; rfl
      rw [hro, HE6.out]
      exact ⟨.nilIface, rfl, E11, (hw12.drop.drop.sub (List.Sublist.cons_cons _ ((List.sublist_cons_self _ _).trans (List.sublist_cons_self _ _)))), rfl⟩
    · obtain ⟨tv, uv, rfl⟩ := qi he6
      have HE6 := Lib.hid he6
      clear he6
      obtain ⟨evx, hRx, hevx⟩ := H11.out.out
      have hev2 : evx = .iface tv uv := by
        rw [hRx] at hw11
        have := hw11.one_cell (o := 2) rfl
        rw [q2] at this
        exact (Option.some.inj this).symm
      subst hev2
      subst hRx
      have HEV := Lib.hid hevx
      have HW11 := Lib.hid hw11
      have HSE : Hid (∀ W Ls, Sat σ W Ls → Hp.one (nd + 1) (.cells #[.slice A bs.length c, .int .i64 ((req6 bs).2.at_ : Int), .iface tv uv] 75 (0, 0)) ∈ Ls → W.cell? ⟨nd + 1, 2, none⟩ = some (.iface tv uv)) := Lib.hid (fun W Ls h hm => h.cellAt hm ((Hp.one_cell _ _ _ _).trans rfl))
      clear hw11 hevx qn qi H11
      go_upto_region 10 with fail
      clear q0 q1 q2
      refine wp_region_held_drew (S := fun W => W.cell? ⟨nd + 1, 2, none⟩ = some (.iface tv uv)) (by kernel_rfl) (HSE.out _ _ HW11.out.drew List.mem_cons_self) (fun hS0 => ?_)
      (try simp only [Act.put, List.getElem_toArray, List.getElem_cons_succ, List.getElem_cons_zero, List.setIfInBounds_toArray, List.set_cons_zero, List.set_cons_succ, Array.toArray_toList])
      refine wpAnyH_take (i := 0) (v := ?_) rfl (by kernel_rfl) (by kernel_rfl) (by kernel_rfl) (fun _ _ _ h => h) (Or.inl ⟨by kernel_rfl, ?_⟩) hS0 ?_
      rotate_left
      · intro w hSw; clear hSw; go_simp; (try with_reducible rfl)
      (try simp only [Act.put, List.getElem_toArray, List.getElem_cons_succ, List.getElem_cons_zero, List.setIfInBounds_toArray, List.set_cons_zero, List.set_cons_succ, Array.toArray_toList])
      refine wpAnyH_take (i := 1) (v := ?_) rfl (by kernel_rfl) (by kernel_rfl) (by kernel_rfl) (fun _ _ _ h => h) (Or.inl ⟨by kernel_rfl, ?_⟩) hS0 ?_
      rotate_left
      · intro w hSw; clear hSw; go_simp; (try with_reducible rfl)
      (try simp only [Act.put, List.getElem_toArray, List.getElem_cons_succ, List.getElem_cons_zero, List.setIfInBounds_toArray, List.set_cons_zero, List.set_cons_succ, Array.toArray_toList])
      refine wpAnyH_take (i := 2) (v := ?_) rfl (by kernel_rfl) (by kernel_rfl) (by kernel_rfl) (fun _ _ _ h => h) (Or.inl ⟨by kernel_rfl, ?_⟩) hS0 ?_
      rotate_left
      · intro w hSw; clear hSw; go_simp; (try with_reducible rfl)
      (try simp only [Act.put, List.getElem_toArray, List.getElem_cons_succ, List.getElem_cons_zero, List.setIfInBounds_toArray, List.set_cons_zero, List.set_cons_succ, Array.toArray_toList])
      refine wpAnyH_take (i := 3) (v := ?_) rfl (by kernel_rfl) (by kernel_rfl) (by kernel_rfl) (fun _ _ _ h => h) (Or.inl ⟨by kernel_rfl, ?_⟩) hS0 ?_
      rotate_left
      · intro w hSw; clear hSw; go_simp; (try with_reducible rfl)
      (try simp only [Act.put, List.getElem_toArray, List.getElem_cons_succ, List.getElem_cons_zero, List.setIfInBounds_toArray, List.set_cons_zero, List.set_cons_succ, Array.toArray_toList])
      refine wpAnyH_take (i := 4) (v := ?_) rfl (by kernel_rfl) (by kernel_rfl) (by kernel_rfl) (fun _ _ _ h => h) (Or.inl ⟨by kernel_rfl, ?_⟩) hS0 ?_
      rotate_left
      · intro w hSw; go_simp; (try with_reducible rfl)
      (try simp only [Act.put, List.getElem_toArray, List.getElem_cons_succ, List.getElem_cons_zero, List.setIfInBounds_toArray, List.set_cons_zero, List.set_cons_succ, Array.toArray_toList])
      refine wpAnyH_take (i := 5) (v := ?_) rfl (by kernel_rfl) (by kernel_rfl) (by kernel_rfl) (fun _ _ _ h => h) (Or.inl ⟨by kernel_rfl, ?_⟩) hS0 ?_
      rotate_left
      · intro w hSw; clear hSw; go_simp; (try with_reducible rfl)
      (try simp only [Act.put, List.getElem_toArray, List.getElem_cons_succ, List.getElem_cons_zero, List.setIfInBounds_toArray, List.set_cons_zero, List.set_cons_succ, Array.toArray_toList])
      refine wpAnyH_ready (rs := [6]) (by kernel_rfl) (by simp) ?_
      refine AllReadyH.cons rfl (fun K2 hK2 => ?_) AllReadyH.nil
      have hwn := Sat.bring (l₁ := [Hp.one (nd + 1) (.cells #[.slice A bs.length c, .int .i64 ((req6 bs).2.at_ : Int), .iface tv uv] 75 (0, 0)), E11, Z, Hp.one nh (.cells (hostA (req5 bs).1) 27 (0, 0))]) HW11.out.drew
      refine step_store_row rfl 29 (.tmp 3) (.tmp 41) rfl nd #[.int .u8 0, .int .u8 0, .int .u8 0, .int .u8 0, .string ⟨#[]⟩, .int .i64 0] rfl rfl 29 _ hwn.heap (by kernel_rfl) rfl (by simp [Value.oneCell']) ?_
      have hw12 := hwn.setRow #[.int .u8 0, .int .u8 0, .int .u8 0, .int .u8 0, .string ⟨#[]⟩, .int .i64 0]
      refine hK2.out _ _ (HSE.out _ _ hw12 (List.mem_cons_of_mem _ List.mem_cons_self)) (fun hS1 => ?_)
      clear hK2 K2
      (try simp only [Act.put, List.getElem_toArray, List.getElem_cons_succ, List.getElem_cons_zero, List.setIfInBounds_toArray, List.set_cons_zero, List.set_cons_succ, Array.toArray_toList])
      refine wpAnyH_take (i := 7) (v := ?_) rfl (by kernel_rfl) (by kernel_rfl) (by kernel_rfl) (fun _ _ _ h => h) (Or.inl ⟨by kernel_rfl, ?_⟩) hS1 ?_
      rotate_left
      · intro w hSw; clear hSw; go_simp; (try with_reducible rfl)
      (try simp only [Act.put, List.getElem_toArray, List.getElem_cons_succ, List.getElem_cons_zero, List.setIfInBounds_toArray, List.set_cons_zero, List.set_cons_succ, Array.toArray_toList])
      refine wpAnyH_take (i := 8) (v := ?_) rfl (by kernel_rfl) (by kernel_rfl) (by kernel_rfl) (fun _ _ _ h => h) (Or.inl ⟨by kernel_rfl, ?_⟩) hS1 ?_
      rotate_left
      · intro w hSw; clear hSw; go_simp; (try with_reducible rfl)
      (try simp only [Act.put, List.getElem_toArray, List.getElem_cons_succ, List.getElem_cons_zero, List.setIfInBounds_toArray, List.set_cons_zero, List.set_cons_succ, Array.toArray_toList])
      refine wpAnyH_done (by kernel_rfl) ?_ _
      clear hS0 hS1
      generalize hW12 : World.setRow _ _ _ = w12 at *
      clear hW12 hwn HW11
      go_wp2
      refine bodyPost_ret (req_res _ _ nd _ rfl hw12.heap (by kernel_rfl)) rfl ?_
      have hro : reqO bs = (0, #[.int .u8 0, .int .u8 0, .int .u8 0, .int .u8 0, .string ⟨#[]⟩, .int .i64 0], 0) := by
        unfold reqO
        rw [if_neg HE6.out]
      rw [hro]
      exact ⟨_, E11, rfl, (hw12.drop.drop.sub (List.Sublist.cons_cons _ ((List.sublist_cons_self _ _).trans (List.sublist_cons_self _ _)))), HEV.out⟩
end
end Go.Proofs.YtcndkpmeakaapaaDoor
