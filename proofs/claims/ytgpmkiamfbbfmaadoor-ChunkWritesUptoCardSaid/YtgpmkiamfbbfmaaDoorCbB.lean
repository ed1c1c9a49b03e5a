/- Walk: the library's AppendInt at base 16. -/
import Derived.Test.YtgpmkiamfbbfmaaDoorCbA
import Derived.Test.YtgpmkiamfbbfmaaDoorTz
set_option linter.unusedVariables false
set_option linter.unusedSimpArgs false
namespace Go.Proofs.YtgpmkiamfbbfmaaDoor
open Go Go.RowKit
def digS : ByteArray := ⟨#[48, 49, 50, 51, 52, 53, 54, 55, 56, 57, 97, 98, 99, 100, 101, 102, 103, 104, 105, 106, 107, 108, 109, 110, 111, 112, 113, 114, 115, 116, 117, 118, 119, 120, 121, 122]⟩
theorem digS_at (n : Nat) (h : n < 16) : digS[n]? = some (UInt8.ofNat (if n < 10 then 48 + n else 87 + n)) := by
  have h16 : ∀ m : Fin 16, digS[m.val]? = some (UInt8.ofNat (if m.val < 10 then 48 + m.val else 87 + m.val)) := by decide
  exact h16 ⟨n, h⟩
theorem run_digS (n : Nat) (h : n < 16) (W : World) : (Instr.index 9 (.string digS) (.int .u64 (n : Int))).run Tryd.prog W = .ok (.int .u8 (hexD n)) W := by
  have hd1 : ((if n < 10 then 48 + n else 87 + n : Nat) : Int) = hexD n := by unfold hexD; split <;> simp
  have hlt : (if n < 10 then 48 + n else 87 + n : Nat) < 256 := by split <;> omega
  simp [Instr.index, asIntOf, run_underlying Tryd.underlying9, digS_at n h]
  rw [← hd1]
  omega
section
variable {σ w w' : World} {Hs : List Hp} {H H1 H2 M N Y : Hp}
set_option maxHeartbeats 8000000
theorem digs_set {cs : Array Value} {ds : List Int} {k : Nat} {x : Int} (hk : k < cs.size) (hd : ∀ j y, ds[j]? = some y → cs[k + 1 + j]? = some (.int .u8 y)) : ∀ j y, (x :: ds)[j]? = some y → (cs.setIfInBounds k (.int .u8 x))[k + j]? = some (.int .u8 y) := fun j y h => by
  cases j with
  | zero => simp at h; subst h; simp [hk]
  | succ j =>
    rw [Array.getElem?_setIfInBounds_ne (by omega), show k + (j + 1) = k + 1 + j from by omega]
    exact hd j y (by simpa using h)
theorem digs_sl {cs : Array Value} {ds : List Int} {k na : Nat} {t : TypeId} {fr : Nat × Nat} (hl : ds.length ≤ 1000) (hd : ∀ j y, ds[j]? = some y → cs[k + j]? = some (.int .u8 y)) : kB.IsSl (Hp.one na (.cells cs t fr)) (.slice (some ⟨na, k, none⟩) ds.length ds.length) ds :=
  ⟨_, _, rfl, Nat.le_refl _, by omega, fun _ => ⟨na, k, ints .u8 ds, rfl, reps_ints ds, fun j v hv => by
    unfold Hp.cell Hp.one; rw [if_pos rfl]
    obtain ⟨y, hy, rfl⟩ : ∃ y, ds[j]? = some y ∧ v = .int .u8 y := by
      unfold ints at hv
      rw [List.getElem?_map] at hv
      cases h : ds[j]? with
      | none => rw [h] at hv; cases hv
      | some y => rw [h] at hv; exact ⟨y, rfl, (Option.some.inj hv).symm⟩
    exact hd j y hy⟩⟩
theorem ip2 (w : World) : Calls Tryd.prog 49 #[.int .i64 16] w fun e w' => e = .returned (.bool true) ∧ w' = w := by
  go_enter Tryd.func49, Tryd.ntmps49
  have hb : bits BinOp.and IntKind.i64 16 15 = 0 := by decide +kernel
  go_wp2
  go_ret
  exact ⟨rfl, rfl⟩
theorem ctz16 : Lib.ctz 64 16 = 4 := by decide +kernel
theorem tz16 (w : World) (hT : TabZ w) : Calls Tryd.prog 50 #[.int .u64 16] w fun e w' => e = .returned (.int .i64 4) ∧ w' = w := by
  have HT := Lib.hid hT
  clear hT
  go_enter Tryd.func50, Tryd.ntmps50
  go_wp2_with (go_at_call 54; refine (tz_any 16 w (by decide) (by decide) HT.out).mono ?_; rintro e w1 ⟨rfl, rfl⟩)
  go_ret
  exact ⟨by rw [ctz16]; rfl, rfl⟩
def Tup2P (σ : World) (Hs : List Hp) (l : List Int) (e : Ending) (w' : World) : Prop := ∃ vo N, e = .returned (.tuple #[vo, .string ⟨#[]⟩]) ∧ Sat σ w' (N :: Hs) ∧ Own N 5 1 vo l.length (ints .u8 l)
def BytP (σ : World) (Hs : List Hp) (l : List Int) (e : Ending) (w' : World) : Prop := ∃ vo N, e = .returned vo ∧ Sat σ w' (N :: Hs) ∧ Own N 5 1 vo l.length (ints .u8 l)
set_option maxRecDepth 10000 in
theorem fb_any (v : Value) (o : List Int) (n : Nat) (hn : n ≤ 65536) (w : World) (hw : Sat σ w (N :: Hs)) (ho : Own N 5 1 v o.length (ints .u8 o)) (hH : H ∈ Hs) (hk : H 4 = some (.cells tabV 101 (0, 0))) (hol : o.length ≤ 100000000) :
    Calls Tryd.prog 42 #[v, .int .u64 n, .int .i64 16, .bool false, .bool true] w (Tup2P σ Hs (o ++ hexL n)) := by
  obtain ⟨A0, c0', rfl, _⟩ := ho.slice
  have HO := Lib.hid ho
  have HTZ := Lib.hid (fun w' Hs' (h : Sat σ w' Hs') (hm : H ∈ Hs') => tabz_of h hm hk)
  clear ho hk
  go_enter Tryd.func42, Tryd.ntmps42
  go_wp2_with fail
  have hw2 := hw.alloc (.cells Tryd.zeroCells90 90)
  clear hw
  generalize hW : World.alloc w _ = w2 at *
  generalize w.heap.size = na at *
  clear hW
  go_wp2_with (first
    | (go_at_call 49; refine (ip2 w2).mono ?_; rintro e w1 ⟨rfl, rfl⟩)
    | (go_at_call 50; refine (tz16 w1 (HTZ.out _ _ hw2 (by simp [hH]))).mono ?_; rintro e w1 ⟨rfl, rfl⟩))
  have h5 := hexL_len 4 n (by omega)
  have hz90 : (Tryd.zeroCells90).size = 65 := by kernel_rfl
  go_loopw [1, 13] (fun u i wr => ∃ (x k : Nat) (ds : List Int) (cs : Array Value), u = .int .u64 x ∧ i = .int .i64 k ∧ Sat σ wr (Hp.one na (.cells cs 90 (0, 0)) :: N :: Hs) ∧ Eager (x ≤ n ∧ cs.size = 65 ∧ ds.length + k = 65 ∧ hexL n = hexL x ++ ds ∧ (∀ j y, ds[j]? = some y → cs[k + j]? = some (.int .u8 y)))) (fun _ i _ => (intOf i).toNat)
  case atStart => exact ⟨n, 65, [], _, rfl, rfl, hw2, ⟨Nat.le_refl _, hz90, rfl, (List.append_nil _).symm, fun j y h => by cases h⟩⟩
  case round =>
    obtain ⟨x, k, ds, cs, rfl, rfl, hwr, hst⟩ := hrel
    obtain ⟨hxn, hcs, hk, hx, hd⟩ := hst.out
    have hl := congrArg List.length hx
    rw [List.length_append] at hl
    have hp := hexL_pos x
    clear hw2 hst
    obtain ⟨k1, rfl⟩ : ∃ k1, k = k1 + 1 := ⟨k - 1, by omega⟩
    have mk : IntKind.i64.wrap (((k1 + 1 : Nat) : Int) - 1) = (k1 : Int) := (IntWalk.i64_in _ (by omega)).trans (by omega)
    obtain ⟨z, hz⟩ : ∃ z, cs[k1]? = some z := ⟨_, Array.getElem?_eq_getElem (by omega)⟩
    have c0 := hwr.one_cell hz
    have f0 := heap_free hwr.heap k1
    have q0 : (0 : Int) ≤ k1 := by omega
    have q1 : (k1 : Int) < 65 := by omega
    have HX := Lib.hid hx; have HD := Lib.hid hd; have HCS := Lib.hid hcs
    by_cases h16 : x < 16
    · have hx16 : ¬ (16 : Int) ≤ x := by omega
      have hxi : (x : Int) < 16 := by omega
      have hdg := run_digS x h16
      unfold digS at hdg
      have hds := digs_set (x := hexD x) (by omega) hd
      have hsl := digs_sl (na := na) (t := 90) (fr := (0, 0)) (by rw [List.length_cons]; omega) hds
      rw [hexL_small h16] at hx
      rw [show hexD x :: ds = hexL n from hx.symm] at hsl
      have hlen : (hexL n).length = 65 - k1 := by rw [hx, List.length_append, List.length_singleton]; omega
      rw [hlen] at hsl
      obtain ⟨cells, hcs2, hsrc⟩ := hsl.src (P := Tryd.prog) (t := 22) Tryd.underlying22
      obtain rfl := reps_is hcs2
      rw [hlen] at hsrc
      have HSRC := Lib.hid hsrc; have HLEN := Lib.hid hlen
      have hw3 := hwr.set (o := k1) (.int .u8 (hexD x))
      have HW3 := Lib.hid hw3
      have q2 : k1 ≤ 65 := by omega
      have q3 : (k1 : Int) ≤ 65 := by omega
      clear hx hd hcs hz hds hsl hcs2 hsrc hl hp
      go_wp2_with (at_builtin; go_must (refine wpList_app HW3.out.swap rfl (.tmp 95) (.tmp 97) 22 22 5 (.int .u8 0) 1 1 rfl Tryd.underlying22 (by kernel_rfl) rfl (by decide) _ _ o.length (65 - k1) (ints .u8 o) _ rfl rfl HO.out (HSRC.out _ HW3.out.le) (by omega) ?_); intro A1 c1 w4 N4 hw4 ho4 _ _; clear hwr hw3 c0 f0)
      go_ret2
      have hown : Own N4 5 1 (.slice A1 (o ++ hexL n).length c1) (o ++ hexL n).length (ints .u8 (o ++ hexL n)) := by
        rw [List.length_append, HLEN.out, ints_append]
        exact ho4
      exact ⟨.slice A1 (o ++ hexL n).length c1, N4, by rw [List.length_append, HLEN.out]; rfl, hw4.drop1, hown⟩
    · have hx16 : (16 : Int) ≤ x := by omega
      have hand : bits BinOp.and IntKind.u64 (x : Int) 15 = (x : Int) % 16 := by
        rw [show (15 : Int) = ((15 : Nat) : Int) from rfl, bits_and_u64_nat x 15 (by omega) (by decide), show (15 : Nat) = 2 ^ 4 - 1 from rfl, Nat.and_two_pow_sub_one_eq_mod]
        simp
      have hdg := run_digS (x % 16) (Nat.mod_lt _ (by decide))
      unfold digS at hdg
      rw [show ((x % 16 : Nat) : Int) = (x : Int) % 16 from by simp] at hdg
      clear hx hd hcs hz
      go_wp2
      have hx2 := HX.out
      rw [hexL_step h16, List.append_assoc] at hx2
      exact ⟨⟨x / 16, k1, hexD (x % 16) :: ds, _, by simp, rfl, hwr.set _, ⟨by omega, by rw [Array.size_setIfInBounds]; exact HCS.out, by rw [List.length_cons]; omega, hx2, digs_set (by rw [HCS.out]; omega) HD.out⟩⟩, by simp [intOf]⟩
theorem apu_any (v : Value) (o : List Int) (n : Nat) (hn : n ≤ 65536) (w : World) (hw : Sat σ w (N :: Hs)) (ho : Own N 5 1 v o.length (ints .u8 o)) (hH : H ∈ Hs) (hk : H 4 = some (.cells tabV 101 (0, 0))) (hol : o.length ≤ 100000000) :
    Calls Tryd.prog 31 #[v, .int .u64 n, .int .i64 16] w (BytP σ Hs (o ++ hexL n)) := by
  have HF := Lib.hid (fb_any v o n hn w hw ho hH hk hol)
  unfold BytP
  generalize o ++ hexL n = l at *
  clear hw ho hk
  go_enter Tryd.func31, Tryd.ntmps31
  go_wp2_with fail
  refine HF.out.mono ?_
  rintro e w1 ⟨vo, N1, rfl, h1, h2⟩
  have H2 := Lib.hid h2
  clear h2
  go_wp2
  go_ret
  exact ⟨vo, N1, rfl, h1, H2.out⟩
/-- strconv.AppendInt, at base 16. -/
theorem api_any (v : Value) (o : List Int) (n : Nat) (hn : n ≤ 65536) (w : World) (hw : Sat σ w (N :: Hs)) (ho : Own N 5 1 v o.length (ints .u8 o)) (hH : H ∈ Hs) (hk : H 4 = some (.cells tabV 101 (0, 0))) (hol : o.length ≤ 100000000) :
    Calls Tryd.prog 17 #[v, .int .i64 n, .int .i64 16] w (BytP σ Hs (o ++ hexL n)) := by
  have HF := Lib.hid (apu_any v o n hn w hw ho hH hk hol)
  have mk : IntKind.u64.wrap (n : Int) = n := by rw [IntKind.wrap_u64]; omega
  have h0 : ¬ (n : Int) < 0 := by omega
  unfold BytP at HF ⊢
  generalize o ++ hexL n = l at *
  clear hw ho hk
  go_enter Tryd.func17, Tryd.ntmps17
  go_wp2_with (first | (go_at_call 31; refine HF.out.mono ?_; rintro e w1 ⟨vo, N1, rfl, h1, h2⟩; have H2 := Lib.hid h2; clear h2) | go_in)
  go_ret
  exact ⟨vo, N1, rfl, h1, H2.out⟩
end
end Go.Proofs.YtgpmkiamfbbfmaaDoor
