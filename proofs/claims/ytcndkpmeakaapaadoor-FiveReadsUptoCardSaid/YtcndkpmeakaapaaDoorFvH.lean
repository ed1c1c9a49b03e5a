/- Walks: five.Greeting, Login, Reply. -/
import Derived.Test.YtcndkpmeakaapaaDoorFvG
set_option linter.unusedVariables false
set_option linter.unusedSimpArgs false
namespace Go.Proofs.YtcndkpmeakaapaaDoor
open Go Go.RowKit
def sbL (s : ByteArray) : List Int := (List.range s.size).map (chS s)
theorem sbL_length (s : ByteArray) : (sbL s).length = s.size := by simp [sbL]
theorem sbL_take_succ (s : ByteArray) {k : Nat} (hk : k < s.size) : (sbL s).take (k + 1) = (sbL s).take k ++ [chS s k] := by
  have h : (sbL s)[k]? = some (chS s k) := by
    unfold sbL
    rw [List.getElem?_map, List.getElem?_range hk]; rfl
  rw [List.take_succ_eq_append_getElem (by rw [sbL_length]; exact hk)]
  congr 1
  have h2 := List.getElem?_eq_getElem (l := sbL s) (i := k) (by rw [sbL_length]; exact hk)
  rw [h] at h2
  injection h2 with h2
  rw [← h2]
def gr2 (bs : List Int) : ByteArray × St := textL bs 255 (versL bs 5 st0)
def grO (bs : List Int) : List Int × Int := if (gr2 bs).2.err = none then (sbL (gr2 bs).1, (gr2 bs).2.at_) else ([], 0)
def GrP (σ : World) (Hs : List Hp) (bs : List Int) (e : Ending) (w' : World) : Prop := ∃ v u N E', e = .returned (.tuple #[v, .int .i64 (grO bs).2, u]) ∧ Sat σ w' (N :: E' :: Hs) ∧ EV E' u (gr2 bs).2.err ∧ (Kd.int .i64).IsSl N v (grO bs).1
section
variable {σ w w' : World} {Hs : List Hp} {H H1 H2 M N Y R E X HB : Hp}
set_option maxHeartbeats 4000000
theorem greeting_any (bv : Value) (bs : List Int) (hbs : ∀ x ∈ bs, 0 ≤ x ∧ x < 256) (w : World) (hw : Sat σ w Hs) (hB : HB ∈ Hs) (hb : kB.IsSl HB bv bs) :
    Calls Tryd.prog 16 #[bv] w (GrP σ Hs bs) := by
  obtain ⟨A, c, rfl, hc1, hc2, _⟩ := hb.form
  have hw2 := hw.alloc (.cells #[.slice A bs.length c, .int .i64 0, .nilIface] 75)
  obtain ⟨nd, hnd⟩ : ∃ nd, w.heap.size = nd := ⟨_, rfl⟩
  rw [hnd] at hw2
  have hw3 := hw2.emp.swap
  have h0 : FvR (Hp.one nd (.cells #[.slice A bs.length c, .int .i64 0, .nilIface] 75 (0, 0))) Hp.emp nd (.slice A bs.length c) (st0.at_ : Int) st0.err := ⟨⟨.nilIface, rfl, rfl⟩⟩
  have HV := Lib.hid (version_any 5 hbs st0 (Nat.zero_le _) _ hw3 hB hb h0)
  have HO := Lib.hid (fun R E w' (h : Sat σ w' (R :: E :: Hs)) (hf : FvR R E nd (.slice A bs.length c) ((versL bs 5 st0).at_ : Int) (versL bs 5 st0).err) => text_any 255 hbs (versL bs 5 st0) (versL_at bs 5 st0 (Nat.zero_le _)) w' h hB hb hf)
  have HSZ := text_size hbs 255 (versL bs 5 st0)
  have HR2 : Hid (textL bs 255 (versL bs 5 st0) = gr2 bs) := Lib.hid rfl
  unfold RdP at HO
  rw [HR2.out] at HO HSZ
  have HSO : Hid (grO bs = if (gr2 bs).2.err = none then (sbL (gr2 bs).1, ((gr2 bs).2.at_ : Int)) else ([], 0)) := Lib.hid rfl
  have HSP : Hid (∀ e w', (∃ v u N E', e = .returned (.tuple #[v, .int .i64 (grO bs).2, u]) ∧ Sat σ w' (N :: E' :: Hs) ∧ EV E' u (gr2 bs).2.err ∧ (Kd.int .i64).IsSl N v (grO bs).1) → GrP σ Hs bs e w') := Lib.hid (fun e w' h => h)
  generalize grO bs = o at *
  generalize GrP σ Hs bs = PP at *
  clear hb hc1 hw hw2 hw3 h0
  go_enter Tryd.func16, Tryd.ntmps16
  go_wp2_with fail
  refine HV.out.mono ?_
  rintro e w3 ⟨u3, R3, E3, rfl, hw3, h3⟩
  go_wp2_with fail
  refine (HO.out R3 E3 w3 hw3 h3).mono ?_
  rintro e w4 ⟨R4, E4, rfl, hw4, h4⟩
  clear hw3 h3 HV HO
  obtain ⟨ev, q0, q1, q2, qn, qi⟩ := fvr_cells hw4 h4
  obtain ⟨evx, hRx, hevx⟩ := h4.out
  have hev2 : evx = ev := by
    rw [hRx] at hw4
    have := hw4.one_cell (o := 2) rfl
    rw [q2] at this
    exact (Option.some.inj this).symm
  rw [hev2] at hevx
  have HEV := Lib.hid hevx
  have H4 := Lib.hid h4
  clear hevx hev2 hRx h4
  clear HR2
  generalize gr2 bs = g at *
  obtain ⟨s, s2⟩ := g
  have hsz : s.size ≤ 1000 := HSZ
  clear HSZ
  by_cases he : s2.err = none
  · obtain rfl := qn he
    have HR : Hid (o = (sbL s, (s2.at_ : Int))) := Lib.hid (by rw [HSO.out]; exact if_pos he)
    clear qn qi he q0 q1 HSO
    go_wp2
    go_loopw [27, 7, 8] (fun i n _ wr => ∃ (k : Nat) (A1 : Option Addr) (c1 : Nat) (N : Hp), k ≤ s.size ∧ i = .int .i64 k ∧ n = .slice A1 k c1 ∧ Sat σ wr (N :: R4 :: E4 :: Hs) ∧ Own N 3 1 (.slice A1 k c1) k (((sbL s).take k).map (Value.int .i64))) (fun i _ _ _ => s.size - (intOf i).toNat)
    case atStart => exact ⟨0, none, 0, Hp.emp, by omega, rfl, rfl, hw4.emp, Own.nil _ _ _⟩
    case round =>
      obtain ⟨k, A1, c1', N, hk, rfl, rfl, hwr, ho⟩ := hrel
      clear hw4 q2
      by_cases hlt : k < s.size
      · have hki : (k : Int) < s.size := by omega
        have hk0 : (0 : Int) ≤ k := by omega
        have hch := index_str (P := Tryd.prog) 9 Tryd.underlying9 s k hlt k rfl
        obtain ⟨h0, h1⟩ := chS_range s k
        have HPS := Lib.hid (sbL_take_succ s hlt)
        obtain ⟨ch, hce⟩ : ∃ ch, chS s k = ch := ⟨_, rfl⟩
        rw [hce] at hch h0 h1 HPS
        have m1 : IntKind.i64.wrap ch = ch := IntWalk.i64_in _ (by omega)
        clear hce
        go_wp2_with (at_builtin; go_must (refine wpList_app (hwr.alloc' _) rfl (.tmp 30) (.tmp 35) 48 48 3 (.int .i64 0) 1 8 rfl Tryd.underlying48 (by kernel_rfl) rfl (by decide) _ _ k 1 _ [.int .i64 ch] rfl rfl ho (src_new Tryd.underlying48 _ [.int .i64 ch] _ 1 1 1 (by simp) rfl rfl) (by omega) ?_); intro A2 c2 w2 N2 hw2 ho2 _ _)
        go_roundw
        case measure => simp [intOf]; omega
        case rel => exact ⟨k + 1, A2, c2, N2, by omega, by go_num, rfl, hw2, by rw [HPS.out, List.map_append]; exact ho2⟩
      · obtain rfl : k = s.size := by omega
        obtain ⟨ev5, q0, q1, q2, _, _⟩ := fvr_cells hwr.drop H4.out
        clear q0 q2
        go_wp2
        go_quiet (fail)
        go_wp2
        go_ret3
        exact HSP.out _ _ ⟨_, _, N, E4, by rw [HR.out]; rfl, (hwr.drewN _).drop1, HEV.out, by
          rw [HR.out]
          exact ho.isSl (d := Kd.int .i64) (by rw [List.take_of_length_le (by rw [sbL_length]; exact Nat.le_refl _)]; exact ints_reps _) (sbL_length s).symm (Hp.le_refl _)⟩
  · obtain ⟨tv, uv, rfl⟩ := qi he
    have HE := Lib.hid he
    clear qn qi he
    go_wp2
    go_quiet (fail)
    go_wp2
    go_ret3
    exact HSP.out _ _ ⟨_, _, Hp.emp, E4, by rw [HSO.out, if_neg HE.out]; rfl, ((hw4.drewN _).drop).emp, HEV.out, by rw [HSO.out, if_neg HE.out]; exact Kd.IsSl.nil⟩
end
theorem results_tmp4 {P : Program} {fn : Func} {u1 u2 u3 u4 : Tmp} (h : fn.results = #[.tmp u1, .tmp u2, .tmp u3, .tmp u4]) (tmps : Array Value) (w : World) :
    (results fn tmps).run P w = .ok (.tuple #[tmps.getD u1 undef, tmps.getD u2 undef, tmps.getD u3 undef, tmps.getD u4 undef]) w := by
  simp [results, h]
def lo2 (bs : List Int) : ByteArray × St := textL bs 255 (versL bs 1 st0)
def lo3 (bs : List Int) : ByteArray × St := textL bs 255 (lo2 bs).2
def loO (bs : List Int) : ByteArray × ByteArray × Int := if (lo3 bs).2.err = none then ((lo2 bs).1, (lo3 bs).1, (lo3 bs).2.at_) else (⟨#[]⟩, ⟨#[]⟩, 0)
def LoP (σ : World) (Hs : List Hp) (bs : List Int) (e : Ending) (w' : World) : Prop := ∃ u E', e = .returned (.tuple #[.string (loO bs).1, .string (loO bs).2.1, .int .i64 (loO bs).2.2, u]) ∧ Sat σ w' (E' :: Hs) ∧ EV E' u (lo3 bs).2.err
theorem lo2_at (bs : List Int) : (lo2 bs).2.at_ ≤ bs.length := textL_at bs 255 _ (versL_at bs 1 st0 (Nat.zero_le _))
section
variable {σ w w' : World} {Hs : List Hp} {H H1 H2 M N Y R E X HB : Hp}
set_option maxHeartbeats 4000000
theorem login_any (bv : Value) (bs : List Int) (hbs : ∀ x ∈ bs, 0 ≤ x ∧ x < 256) (w : World) (hw : Sat σ w Hs) (hB : HB ∈ Hs) (hb : kB.IsSl HB bv bs) :
    Calls Tryd.prog 19 #[bv] w (LoP σ Hs bs) := by
  obtain ⟨A, c, rfl, hc1, hc2, _⟩ := hb.form
  have hw2 := hw.alloc (.cells #[.slice A bs.length c, .int .i64 0, .nilIface] 75)
  obtain ⟨nd, hnd⟩ : ∃ nd, w.heap.size = nd := ⟨_, rfl⟩
  rw [hnd] at hw2
  have hw3 := hw2.emp.swap
  have h0 : FvR (Hp.one nd (.cells #[.slice A bs.length c, .int .i64 0, .nilIface] 75 (0, 0))) Hp.emp nd (.slice A bs.length c) (st0.at_ : Int) st0.err := ⟨⟨.nilIface, rfl, rfl⟩⟩
  have HV := Lib.hid (version_any 1 hbs st0 (Nat.zero_le _) _ hw3 hB hb h0)
  have HO := Lib.hid (fun R E w' (h : Sat σ w' (R :: E :: Hs)) (hf : FvR R E nd (.slice A bs.length c) ((versL bs 1 st0).at_ : Int) (versL bs 1 st0).err) => text_any 255 hbs (versL bs 1 st0) (versL_at bs 1 st0 (Nat.zero_le _)) w' h hB hb hf)
  have HO2 := Lib.hid (fun R E w' (h : Sat σ w' (R :: E :: Hs)) (hf : FvR R E nd (.slice A bs.length c) ((lo2 bs).2.at_ : Int) (lo2 bs).2.err) => text_any 255 hbs (lo2 bs).2 (lo2_at bs) w' h hB hb hf)
  have HR2 : Hid (textL bs 255 (versL bs 1 st0) = lo2 bs) := Lib.hid rfl
  have HR3 : Hid (textL bs 255 (lo2 bs).2 = lo3 bs) := Lib.hid rfl
  unfold RdP at HO HO2
  rw [HR2.out] at HO
  rw [HR3.out] at HO2
  have HSO : Hid (loO bs = if (lo3 bs).2.err = none then ((lo2 bs).1, (lo3 bs).1, ((lo3 bs).2.at_ : Int)) else (⟨#[]⟩, ⟨#[]⟩, 0)) := Lib.hid rfl
  have HSP : Hid (∀ e w', (∃ u E', e = .returned (.tuple #[.string (loO bs).1, .string (loO bs).2.1, .int .i64 (loO bs).2.2, u]) ∧ Sat σ w' (E' :: Hs) ∧ EV E' u (lo3 bs).2.err) → LoP σ Hs bs e w') := Lib.hid (fun e w' h => h)
  generalize loO bs = o at *
  generalize LoP σ Hs bs = PP at *
  clear hb hc1 hw hw2 hw3 h0 HR2 HR3
  generalize lo3 bs = g3 at *
  generalize lo2 bs = g2 at *
  obtain ⟨s, s2⟩ := g2
  obtain ⟨t, s3⟩ := g3
  go_enter Tryd.func19, Tryd.ntmps19
  go_wp2_with fail
  refine HV.out.mono ?_
  rintro e w3 ⟨u3, R3, E3, rfl, hw3, h3⟩
  go_wp2_with fail
  refine (HO.out R3 E3 w3 hw3 h3).mono ?_
  rintro e w4 ⟨R4, E4, rfl, hw4, h4⟩
  clear hw3 h3 HV HO
  go_wp2_with fail
  refine (HO2.out R4 E4 w4 hw4 h4).mono ?_
  rintro e w5 ⟨R5, E5, rfl, hw5, h5⟩
  clear hw4 h4 HO2
  obtain ⟨ev, q0, q1, q2, qn, qi⟩ := fvr_cells hw5 h5
  obtain ⟨evx, hRx, hevx⟩ := h5.out
  have hev2 : evx = ev := by
    rw [hRx] at hw5
    have := hw5.one_cell (o := 2) rfl
    rw [q2] at this
    exact (Option.some.inj this).symm
  rw [hev2] at hevx
  have HEV := Lib.hid hevx
  clear hevx hev2 hRx h5
  have qn' : s3.err = none → ev = Value.nilIface := qn
  have qi' : s3.err ≠ none → ∃ t u, ev = Value.iface t u := qi
  clear qn qi
  by_cases he : s3.err = none
  · obtain rfl := qn' he
    have HR : Hid (o = (s, t, (s3.at_ : Int))) := Lib.hid (by rw [HSO.out]; exact if_pos he)
    clear qn' qi' he HSO
    go_wp2
    go_quiet (fail)
    go_wp2
    (try simp only [Exit.inBlock, Exit.then])
    refine bodyPost_ret (results_tmp4 rfl _ _) rfl ?_
    exact HSP.out _ _ ⟨_, E5, by rw [HR.out]; rfl, (hw5.drewN _).drop, HEV.out⟩
  · obtain ⟨tv, uv, rfl⟩ := qi' he
    have HR : Hid (o = (⟨#[]⟩, ⟨#[]⟩, 0)) := Lib.hid (by rw [HSO.out]; exact if_neg he)
    clear qn' qi' he HSO
    go_wp2
    go_quiet (fail)
    go_wp2
    (try simp only [Exit.inBlock, Exit.then])
    refine bodyPost_ret (results_tmp4 rfl _ _) rfl ?_
    exact HSP.out _ _ ⟨_, E5, by rw [HR.out]; rfl, (hw5.drewN _).drop, HEV.out⟩
theorem rep_res (tmps : Array Value) (w : World) (g : Nat) (cs : Array Value) (hp : tmps.getD 3 undef = .pointer (some ⟨g, 0, none⟩)) (hg : w.heap[g]? = some (.cells cs 29 (0, 0))) (hi : (Tryd.prog.info? 29).map (·.size) = some cs.size) :
    (results Tryd.f22 tmps).run Tryd.prog w = .ok (.tuple #[tmps.getD 2 undef, .agg cs, tmps.getD 4 undef, tmps.getD 5 undef]) w := by
  have hp' : tmps[3]?.getD undef = .pointer (some ⟨g, 0, none⟩) := by simpa using hp
  have h : (Tryd.f22).results = #[.tmp 2, .cell 3 29, .tmp 4, .tmp 5] := rfl
  simp [results, h, hp', asAddr, run_loadVar_row w g 29 29 cs (0, 0) _ hg Tryd.underlying29 rfl hi]
theorem reqO_size (bs : List Int) : (reqO bs).2.1.size = 6 := by unfold reqO; split <;> rfl
theorem reqO_one (bs : List Int) : (reqO bs).2.1.all (·.oneCell') = true := by unfold reqO; split <;> simp [destA, Value.oneCell']
set_option maxRecDepth 10000 in
theorem reply_any (bv : Value) (bs : List Int) (hbs : ∀ x ∈ bs, 0 ≤ x ∧ x < 256) (m : Int) (w : World) (hw : Sat σ w Hs) (hB : HB ∈ Hs) (hb : kB.IsSl HB bv bs) (hH : H ∈ Hs) (hm : Hp.cell H 1 0 = some (.int .i64 m)) :
    Calls Tryd.prog 22 #[bv] w fun e w' => ∃ v E', e = .returned (.tuple #[.int .i64 (reqO bs).1, .agg (reqO bs).2.1, .int .i64 (reqO bs).2.2, v]) ∧ Sat σ w' (E' :: Hs) ∧ EV E' v (req6 bs).2.err := by
  obtain ⟨A, c, rfl, hc1, hc2, _⟩ := hb.form
  have hw1 := hw.alloc (.cells #[.int .u8 0, .int .u8 0, .int .u8 0, .int .u8 0, .string ⟨#[]⟩, .int .i64 0] 29)
  have HC := Lib.hid (request_any _ bs hbs m _ hw1 (List.mem_cons_of_mem _ hB) hb (List.mem_cons_of_mem _ hH) hm)
  have hsz := reqO_size bs
  have hon := reqO_one bs
  have HSZ : Hid ((Tryd.prog.info? 29).map (·.size) = some (reqO bs).2.1.size ∧ #[Value.int .u8 0, .int .u8 0, .int .u8 0, .int .u8 0, .string ⟨#[]⟩, .int .i64 0].size = (reqO bs).2.1.size) := Lib.hid (by rw [hsz]; exact ⟨by kernel_rfl, rfl⟩)
  have HON := Lib.hid hon
  clear hb hsz hon hm
  generalize (req6 bs).2.err = er at *
  generalize reqO bs = ro at *
  obtain ⟨r1, r2, r3⟩ := ro
  go_enter Tryd.func22, Tryd.ntmps22
  go_wp2_with (first
    | (go_at_call 9; go_must (refine HC.out.mono ?_); rintro e w2 ⟨v, E', rfl, hw2, h2⟩; have hw3 := hw2.swap; have HW3 := Lib.hid hw3; have H2 := Lib.hid h2; clear hw2 hw3 h2)
    | (with_reducible show wpList _ _ _ [{ dst := none, op := _, type := _, pos := _, after := _, guard := _ }, _, _] _ _; go_must (refine wpList_store_row rfl 29 (.tmp 3) (.tmp 9) rfl w.heap.size r2 rfl rfl 29 _ HW3.out.heap HSZ.out.1 HSZ.out.2 HON.out ?_)))
  have hfin := HW3.out.setRow r2
  (try simp only [Exit.inBlock, Exit.then])
  refine bodyPost_ret (rep_res _ _ w.heap.size r2 rfl hfin.heap HSZ.out.1) rfl ?_
  exact ⟨v, E', rfl, hfin.drop, H2.out⟩
end
end Go.Proofs.YtcndkpmeakaapaaDoor
