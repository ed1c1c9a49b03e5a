/- Walk: the reference's Put. -/
import Derived.Test.YtgpmkiamfbbfmaaDoorCwE
set_option linter.unusedVariables false
set_option linter.unusedSimpArgs false
namespace Go.Proofs.YtgpmkiamfbbfmaaDoor
open Go Go.RowKit
section
variable {σ w w' : World} {Hs : List Hp} {H H1 H2 M N Y : Hp}
set_option maxHeartbeats 4000000
theorem bytes_nums (l : List Int) (h : ∀ x ∈ l, 0 ≤ x ∧ x ≤ 255) : Go.byteCells (strOfNums l) = ints .u8 l := by
  unfold Go.byteCells ints
  rw [strOfNums_data, List.map_map]
  apply List.map_congr_left
  intro x hx
  obtain ⟨h0, h1⟩ := h x hx
  show Value.int .u8 _ = _
  congr 1
  show ((UInt8.ofNat x.toNat).toNat : Int) = x
  rw [UInt8.toNat_ofNat']
  omega
theorem src_hex (M : Nat) (W : World) : Src Tryd.prog 1 9 (.string (strOfNums (hexL M) ++ ⟨#[13, 10]⟩)) ((hexL M).length + 2) (ints .u8 (hexL M ++ [13, 10])) W := by
  have e : strOfNums (hexL M) ++ ⟨#[13, 10]⟩ = strOfNums (hexL M ++ [13, 10]) := by
    rw [← str_append]; rfl
  have h := Src.ofString W Tryd.underlying9 (strOfNums (hexL M ++ [13, 10]))
  rw [strOfNums_size, bytes_nums _ (fun x hx => by
    rcases List.mem_append.1 hx with hx | hx
    · have := hexL_byte _ _ (Nat.le_refl _) x hx; omega
    · simp at hx; omega), List.length_append] at h
  rw [e]
  exact h
theorem rput_bad (v : Value) (size : Int) (w : World) (hs : size < 1 ∨ 65536 < size) : Calls Tryd.prog 12 #[v, .int .i64 size] w fun e w' => e = .returned (.tuple #[.slice none 0 0, .int .i64 2]) ∧ w' = w := by
  go_enter Tryd.func12, Tryd.ntmps12
  by_cases h1 : size < 1
  · go_wp2
    go_ret2
    exact ⟨rfl, rfl⟩
  · have h2 : 65536 < size := by omega
    go_wp2
    go_ret2
    exact ⟨rfl, rfl⟩
theorem rhexS (n : Nat) (h0 : 0 < n) (hn : n ≤ 65536) (w : World) (hw : Sat σ w Hs) :
    Calls Tryd.prog 19 #[.int .i64 n] w fun e w' => e = .returned (.string (strOfNums (hexL n))) ∧ Sat σ w' Hs :=
  (rhex_any n h0 hn w).mono fun e w' ⟨h1, h2⟩ => ⟨h1, by rw [h2]; exact hw⟩
set_option maxRecDepth 10000 in
theorem rput_any (A : Option Addr) (c : Nat) (bs : List Int) (size : Nat) (w : World) (hw : Sat σ w Hs) (hH : H ∈ Hs) (hs : kB.IsSl H (.slice A bs.length c) bs) (hA : A = none → c = 0) (h0 : 0 < size) (h1 : size ≤ 65536) (hlen : bs.length ≤ 1048576) :
    Calls Tryd.prog 12 #[.slice A bs.length c, .int .i64 size] w (PutP σ Hs (putL size bs)) := by
  unfold PutP
  have HB := Lib.hid hs
  have HLB := Lib.hid (chunkL_len h0 h1 bs.length bs (Nat.le_refl _))
  have g1 : ¬ (size : Int) < 1 := by omega
  have g2 : ¬ (65536 : Int) < size := by omega
  obtain ⟨_, _, e, hc1, hc2, _⟩ := id hs.form
  injection e with e1 _ e3
  subst e1; subst e3
  clear hs
  go_enter Tryd.func12, Tryd.ntmps12
  go_wp2_with fail
  have hw0 := hw.alloc (.cells #[] 5)
  clear hw
  generalize hW : World.alloc w _ = w0 at *
  generalize w.heap.size = n0 at *
  clear hW
  go_loopw [0, 6, 7] (fun b ov _ wr => ∃ (Ar : Option Addr) (cr : Nat) (rest : List Int) (Ao : Option Addr) (co : Nat) (o : List Int) (N : Hp), b = .slice Ar rest.length cr ∧ ov = .slice Ao o.length co ∧ Sat σ wr (N :: Hs) ∧ Eager (chunkL size bs = o ++ chunkL size rest ∧ Own N 5 1 (.slice Ao o.length co) o.length (ints .u8 o) ∧ kB.IsSl H (.slice Ar rest.length cr) rest ∧ (Ar = none → cr = 0) ∧ rest.length ≤ bs.length)) (fun b _ _ _ => lenOf b)
  case atStart => exact ⟨A, c, bs, some ⟨n0, 0, none⟩, 0, [], _, rfl, rfl, hw0, ⟨rfl, own_lit0 _ _ _, HB.out, hA, Nat.le_refl _⟩⟩
  case round =>
    obtain ⟨Ar, cr, rest, Ao, co, o, N, rfl, rfl, hwr, hst⟩ := hrel
    obtain ⟨hch, ho, hsl, hAr, hrl⟩ := hst.out
    have HO := Lib.hid ho; have HSL := Lib.hid hsl; have HCH := Lib.hid hch
    have hol : o.length ≤ 10485760 := by have h := congrArg List.length hch; rw [List.length_append] at h; have := HLB.out; omega
    clear hw0 hst ho hch
    by_cases hr : rest = []
    · subst hr
      have hfull : chunkL size bs = o := by have := HCH.out; rwa [chunkL_nil, List.append_nil] at this
      go_wp2_with (at_builtin; go_must (refine wpList_app hwr rfl (.tmp 35) (.const (.string ⟨#[48, 13, 10, 13, 10]⟩)) 22 9 5 (.int .u8 0) 1 1 rfl Tryd.underlying22 (by kernel_rfl) rfl (by decide) _ _ o.length 5 (ints .u8 o) _ rfl rfl HO.out (src_last _) (by omega) ?_); intro A2 c2 w2 N2 hw2 ho2 _ _; have HO2 := Lib.hid ho2; clear hwr ho2)
      go_ret2
      have hown := own_app (l := [48, 13, 10, 13, 10]) rfl HO2.out
      unfold putL
      rw [hfull]
      exact ⟨.slice A2 (o.length + 5) c2, N2, rfl, hw2, hown⟩
    · have hl : rest.length ≠ 0 := fun e => hr (List.eq_nil_of_length_eq_zero e)
      obtain ⟨gb, off, c', x, hx, hv, _⟩ := byte_get hsl (k := 0) (by omega)
      injection hv with hv1 hv2 hv3
      subst hv1; clear hx hv2 hv3
      obtain ⟨_, _, e, hrc1, hrc2, _⟩ := id hsl.form
      injection e with e1 _ e3
      subst e3
      clear hsl e1 hAr
      have hli : (0 : Int) < rest.length := by omega
      by_cases hlt : size < rest.length
      · have hlti : (size : Int) < rest.length := by omega
        have hmin : min size rest.length = size := by omega
        have hch := HCH.out
        rw [chunkL_step h0 hr, hmin] at hch
        have HCH2 : Hid (chunkL size bs = (o ++ hexL size ++ [13, 10] ++ rest.take size ++ [13, 10]) ++ chunkL size (rest.drop size)) := Lib.hid (by rw [hch]; simp only [List.append_assoc])
        have hxl : (rest.take size).length = size := by rw [List.length_take]; omega
        have HXL := Lib.hid hxl
        have hs1 := HSL.out.cut 0 size (by omega) (by omega) cr (by omega) (by omega) (some ⟨gb, off, none⟩) (fun _ => by simp [addr_add])
        rw [List.drop_zero, Nat.sub_zero] at hs1
        obtain ⟨cells, hcs, hsrc⟩ := hs1.src (P := Tryd.prog) (t := 22) Tryd.underlying22
        obtain rfl := reps_is hcs
        rw [hxl] at hsrc
        have HSRC := Lib.hid hsrc
        have h5 := hexL_len 4 size (by omega)
        have hmr : (size : Int) ≤ cr := by omega
        have hmini : min (size : Int) (rest.length : Int) = ((size : Nat) : Int) := by omega
        have hm0 : (0 : Int) ≤ (size : Nat) := by omega
        have HHEX := Lib.hid (fun w' Hs' (h : Sat σ w' Hs') => rhexS size (by omega) (by omega) w' h)
        have hmrn : size ≤ cr := by omega
        have hcr0 : ¬ cr = 0 := by omega
        have hcr1 : 0 < cr := by omega
        have hcr2 : (0 : Int) ≤ cr := by omega
        have hcr3 : (0 : Int) < cr := by omega
        have hsz : ¬ (9223372036854775807 < (strOfNums (hexL size)).size + 2) := by rw [strOfNums_size]; omega
        clear hch hxl hs1 hcs hsrc
        go_upto_region 6 with fail
        clear HLB
        go_region_held3 (fun w' => True)
          (exact trivial)
          (first
            | (go_at_call 19; refine (HHEX.out _ _ hwr.drew).mono ?_; rintro e w5 ⟨rfl, hw5⟩)
            | (refine step_app hw5 rfl (.tmp 22) (.tmp 25) 22 9 5 (.int .u8 0) 1 1 rfl Tryd.underlying22 (by kernel_rfl) rfl (by decide) _ _ o.length ((hexL size).length + 2) (ints .u8 o) _ rfl rfl HO.out (src_hex _ _) (by omega) ?_; intro A2 c2 w2 N2 hw2 ho2 _ _; have HO2 := Lib.hid ho2; clear ho2)
            | (refine step_app hw2 rfl (.tmp 26) (.tmp 29) 22 22 5 (.int .u8 0) 1 1 rfl Tryd.underlying22 (by kernel_rfl) rfl (by decide) _ _ (o.length + ((hexL size).length + 2)) size (ints .u8 o ++ ints .u8 (hexL size ++ [13, 10])) _ rfl rfl HO2.out (HSRC.out _ (hw2.has _ (by simp [hH]))) (by omega) ?_; intro A3 c3 w3 N3 hw3 ho3 _ _; have HO3 := Lib.hid ho3; clear ho3)
            | (refine step_app hw3 rfl (.tmp 30) (.const (.string ⟨#[13, 10]⟩)) 22 9 5 (.int .u8 0) 1 1 rfl Tryd.underlying22 (by kernel_rfl) rfl (by decide) _ _ (o.length + ((hexL size).length + 2) + size) 2 (ints .u8 o ++ ints .u8 (hexL size ++ [13, 10]) ++ ints .u8 (rest.take size)) _ rfl rfl HO3.out (src_crlf _) (by omega) ?_; intro A4 c4 w4 N4 hw4 ho4 _ _; have HO4 := Lib.hid ho4; clear ho4))
        by_cases hck : cr - size = 0
        · have hck2 : ¬ size < cr := by omega
          have HS2 : Hid (kB.IsSl H (.slice (some ⟨gb, off, none⟩) (rest.length - size) 0) (rest.drop size)) := Lib.hid (by
            have := HSL.out.cut size rest.length (by omega) (Nat.le_refl _) 0 (by omega) (by omega) (some ⟨gb, off, none⟩) (fun h => absurd h (by omega))
            rwa [List.take_of_length_le (by rw [List.length_drop]; omega)] at this)
          go_wp2
          have hlen : o.length + ((hexL size).length + 2) + size + 2 = (o ++ hexL size ++ [13, 10] ++ rest.take size ++ [13, 10]).length := by
            rw [List.length_append, List.length_append, List.length_append, List.length_append, HXL.out]; simp; omega
          have hown := HO4.out
          rw [hlen, ← ints_append, ← ints_append, ← ints_append, ← List.append_assoc] at hown
          exact ⟨⟨(some ⟨gb, off, none⟩), 0, rest.drop size, A4, c4, o ++ hexL size ++ [13, 10] ++ rest.take size ++ [13, 10], N4, by simp only [List.length_drop, Nat.sub_self], by rw [← hlen], hw4, ⟨HCH2.out, hown, by rw [List.length_drop]; exact HS2.out, (fun h => nomatch h), by rw [List.length_drop]; omega⟩⟩, by simp only [lenOf]; omega⟩
        · have hck2 : size < cr := by omega
          have HS2 : Hid (kB.IsSl H (.slice (some ⟨gb, off + size, none⟩) (rest.length - size) (cr - size)) (rest.drop size)) := Lib.hid (by
            have := HSL.out.cut size rest.length (by omega) (Nat.le_refl _) (cr - size) (by omega) (by omega) (some ⟨gb, off + size, none⟩) (fun _ => by simp [addr_add, kB, Kd.int])
            rwa [List.take_of_length_le (by rw [List.length_drop]; omega)] at this)
          go_wp2
          have hlen : o.length + ((hexL size).length + 2) + size + 2 = (o ++ hexL size ++ [13, 10] ++ rest.take size ++ [13, 10]).length := by
            rw [List.length_append, List.length_append, List.length_append, List.length_append, HXL.out]; simp; omega
          have hown := HO4.out
          rw [hlen, ← ints_append, ← ints_append, ← ints_append, ← List.append_assoc] at hown
          exact ⟨⟨(some ⟨gb, off + size, none⟩), (cr - size), rest.drop size, A4, c4, o ++ hexL size ++ [13, 10] ++ rest.take size ++ [13, 10], N4, by simp only [List.length_drop, Nat.sub_self], by rw [← hlen], hw4, ⟨HCH2.out, hown, by rw [List.length_drop]; exact HS2.out, (fun h => nomatch h), by rw [List.length_drop]; omega⟩⟩, by simp only [lenOf]; omega⟩
      · by_cases heq : size = rest.length
        · have hlti : ¬ (size : Int) < rest.length := by omega
          have hgti : ¬ (rest.length : Int) < size := by omega
          have hmin : min size rest.length = size := by omega
          have heqi : (rest.length : Int) = size := by omega
          have HEQ := Lib.hid heq
          clear heq heqi
          have hch := HCH.out
          rw [chunkL_step h0 hr, hmin] at hch
          have HCH2 : Hid (chunkL size bs = (o ++ hexL size ++ [13, 10] ++ rest.take size ++ [13, 10]) ++ chunkL size (rest.drop size)) := Lib.hid (by rw [hch]; simp only [List.append_assoc])
          have hxl : (rest.take size).length = size := by rw [List.length_take]; omega
          have HXL := Lib.hid hxl
          have hs1 := HSL.out.cut 0 size (by omega) (by omega) cr (by omega) (by omega) (some ⟨gb, off, none⟩) (fun _ => by simp [addr_add])
          rw [List.drop_zero, Nat.sub_zero] at hs1
          obtain ⟨cells, hcs, hsrc⟩ := hs1.src (P := Tryd.prog) (t := 22) Tryd.underlying22
          obtain rfl := reps_is hcs
          rw [hxl] at hsrc
          have HSRC := Lib.hid hsrc
          have h5 := hexL_len 4 size (by omega)
          have hmr : (size : Int) ≤ cr := by omega
          have hmini : min (size : Int) (rest.length : Int) = ((size : Nat) : Int) := by omega
          have hm0 : (0 : Int) ≤ (size : Nat) := by omega
          have HHEX := Lib.hid (fun w' Hs' (h : Sat σ w' Hs') => rhexS size (by omega) (by omega) w' h)
          have hmrn : size ≤ cr := by omega
          have hcr0 : ¬ cr = 0 := by omega
          have hcr1 : 0 < cr := by omega
          have hcr2 : (0 : Int) ≤ cr := by omega
          have hcr3 : (0 : Int) < cr := by omega
          have hsz : ¬ (9223372036854775807 < (strOfNums (hexL size)).size + 2) := by rw [strOfNums_size]; omega
          clear hch hxl hs1 hcs hsrc
          go_upto_region 6 with fail
          clear HLB
          go_region_held3 (fun w' => True)
            (exact trivial)
            (first
              | (go_at_call 19; refine (HHEX.out _ _ hwr.drew).mono ?_; rintro e w5 ⟨rfl, hw5⟩)
              | (refine step_app hw5 rfl (.tmp 22) (.tmp 25) 22 9 5 (.int .u8 0) 1 1 rfl Tryd.underlying22 (by kernel_rfl) rfl (by decide) _ _ o.length ((hexL size).length + 2) (ints .u8 o) _ rfl rfl HO.out (src_hex _ _) (by omega) ?_; intro A2 c2 w2 N2 hw2 ho2 _ _; have HO2 := Lib.hid ho2; clear ho2)
              | (refine step_app hw2 rfl (.tmp 26) (.tmp 29) 22 22 5 (.int .u8 0) 1 1 rfl Tryd.underlying22 (by kernel_rfl) rfl (by decide) _ _ (o.length + ((hexL size).length + 2)) size (ints .u8 o ++ ints .u8 (hexL size ++ [13, 10])) _ rfl rfl HO2.out (HSRC.out _ (hw2.has _ (by simp [hH]))) (by omega) ?_; intro A3 c3 w3 N3 hw3 ho3 _ _; have HO3 := Lib.hid ho3; clear ho3)
              | (refine step_app hw3 rfl (.tmp 30) (.const (.string ⟨#[13, 10]⟩)) 22 9 5 (.int .u8 0) 1 1 rfl Tryd.underlying22 (by kernel_rfl) rfl (by decide) _ _ (o.length + ((hexL size).length + 2) + size) 2 (ints .u8 o ++ ints .u8 (hexL size ++ [13, 10]) ++ ints .u8 (rest.take size)) _ rfl rfl HO3.out (src_crlf _) (by omega) ?_; intro A4 c4 w4 N4 hw4 ho4 _ _; have HO4 := Lib.hid ho4; clear ho4))
          by_cases hck : cr - size = 0
          · have hck2 : ¬ size < cr := by omega
            have HS2 : Hid (kB.IsSl H (.slice (some ⟨gb, off, none⟩) (rest.length - size) 0) (rest.drop size)) := Lib.hid (by
              have := HSL.out.cut size rest.length (by omega) (Nat.le_refl _) 0 (by omega) (by omega) (some ⟨gb, off, none⟩) (fun h => absurd h (by omega))
              rwa [List.take_of_length_le (by rw [List.length_drop]; omega)] at this)
            go_wp2
            have hlen : o.length + ((hexL size).length + 2) + size + 2 = (o ++ hexL size ++ [13, 10] ++ rest.take size ++ [13, 10]).length := by
              rw [List.length_append, List.length_append, List.length_append, List.length_append, HXL.out]; simp; omega
            have hown := HO4.out
            rw [hlen, ← ints_append, ← ints_append, ← ints_append, ← List.append_assoc] at hown
            exact ⟨⟨(some ⟨gb, off, none⟩), 0, rest.drop size, A4, c4, o ++ hexL size ++ [13, 10] ++ rest.take size ++ [13, 10], N4, by simp only [List.length_drop, Nat.sub_self], by rw [← hlen], hw4, ⟨HCH2.out, hown, by rw [List.length_drop]; exact HS2.out, (fun h => nomatch h), by rw [List.length_drop]; omega⟩⟩, by simp only [lenOf]; omega⟩
          · have hck2 : size < cr := by omega
            have HS2 : Hid (kB.IsSl H (.slice (some ⟨gb, off + size, none⟩) (rest.length - size) (cr - size)) (rest.drop size)) := Lib.hid (by
              have := HSL.out.cut size rest.length (by omega) (Nat.le_refl _) (cr - size) (by omega) (by omega) (some ⟨gb, off + size, none⟩) (fun _ => by simp [addr_add, kB, Kd.int])
              rwa [List.take_of_length_le (by rw [List.length_drop]; omega)] at this)
            go_wp2
            have hlen : o.length + ((hexL size).length + 2) + size + 2 = (o ++ hexL size ++ [13, 10] ++ rest.take size ++ [13, 10]).length := by
              rw [List.length_append, List.length_append, List.length_append, List.length_append, HXL.out]; simp; omega
            have hown := HO4.out
            rw [hlen, ← ints_append, ← ints_append, ← ints_append, ← List.append_assoc] at hown
            exact ⟨⟨(some ⟨gb, off + size, none⟩), (cr - size), rest.drop size, A4, c4, o ++ hexL size ++ [13, 10] ++ rest.take size ++ [13, 10], N4, by simp only [List.length_drop, Nat.sub_self], by rw [← hlen], hw4, ⟨HCH2.out, hown, by rw [List.length_drop]; exact HS2.out, (fun h => nomatch h), by rw [List.length_drop]; omega⟩⟩, by simp only [lenOf]; omega⟩
        · have hlti : (rest.length : Int) < size := by omega
          have hmin : min size rest.length = rest.length := by omega
          have hch := HCH.out
          rw [chunkL_step h0 hr, hmin] at hch
          have HCH2 : Hid (chunkL size bs = (o ++ hexL rest.length ++ [13, 10] ++ rest.take rest.length ++ [13, 10]) ++ chunkL size (rest.drop rest.length)) := Lib.hid (by rw [hch]; simp only [List.append_assoc])
          have hxl : (rest.take rest.length).length = rest.length := by rw [List.length_take]; omega
          have HXL := Lib.hid hxl
          have hs1 := HSL.out.cut 0 rest.length (by omega) (by omega) cr (by omega) (by omega) (some ⟨gb, off, none⟩) (fun _ => by simp [addr_add])
          rw [List.drop_zero, Nat.sub_zero] at hs1
          obtain ⟨cells, hcs, hsrc⟩ := hs1.src (P := Tryd.prog) (t := 22) Tryd.underlying22
          obtain rfl := reps_is hcs
          rw [hxl] at hsrc
          have HSRC := Lib.hid hsrc
          have h5 := hexL_len 4 rest.length (by omega)
          have hmr : (rest.length : Int) ≤ cr := by omega
          have hmini : min (size : Int) (rest.length : Int) = ((rest.length : Nat) : Int) := by omega
          have hm0 : (0 : Int) ≤ (rest.length : Nat) := by omega
          have HHEX := Lib.hid (fun w' Hs' (h : Sat σ w' Hs') => rhexS rest.length (by omega) (by omega) w' h)
          have hmrn : rest.length ≤ cr := by omega
          have hcr0 : ¬ cr = 0 := by omega
          have hcr1 : 0 < cr := by omega
          have hcr2 : (0 : Int) ≤ cr := by omega
          have hcr3 : (0 : Int) < cr := by omega
          have hsz : ¬ (9223372036854775807 < (strOfNums (hexL rest.length)).size + 2) := by rw [strOfNums_size]; omega
          clear hch hxl hs1 hcs hsrc
          go_upto_region 6 with fail
          clear HLB
          go_region_held3 (fun w' => True)
            (exact trivial)
            (first
              | (go_at_call 19; refine (HHEX.out _ _ hwr.drew).mono ?_; rintro e w5 ⟨rfl, hw5⟩)
              | (refine step_app hw5 rfl (.tmp 22) (.tmp 25) 22 9 5 (.int .u8 0) 1 1 rfl Tryd.underlying22 (by kernel_rfl) rfl (by decide) _ _ o.length ((hexL rest.length).length + 2) (ints .u8 o) _ rfl rfl HO.out (src_hex _ _) (by omega) ?_; intro A2 c2 w2 N2 hw2 ho2 _ _; have HO2 := Lib.hid ho2; clear ho2)
              | (refine step_app hw2 rfl (.tmp 26) (.tmp 29) 22 22 5 (.int .u8 0) 1 1 rfl Tryd.underlying22 (by kernel_rfl) rfl (by decide) _ _ (o.length + ((hexL rest.length).length + 2)) rest.length (ints .u8 o ++ ints .u8 (hexL rest.length ++ [13, 10])) _ rfl rfl HO2.out (HSRC.out _ (hw2.has _ (by simp [hH]))) (by omega) ?_; intro A3 c3 w3 N3 hw3 ho3 _ _; have HO3 := Lib.hid ho3; clear ho3)
              | (refine step_app hw3 rfl (.tmp 30) (.const (.string ⟨#[13, 10]⟩)) 22 9 5 (.int .u8 0) 1 1 rfl Tryd.underlying22 (by kernel_rfl) rfl (by decide) _ _ (o.length + ((hexL rest.length).length + 2) + rest.length) 2 (ints .u8 o ++ ints .u8 (hexL rest.length ++ [13, 10]) ++ ints .u8 (rest.take rest.length)) _ rfl rfl HO3.out (src_crlf _) (by omega) ?_; intro A4 c4 w4 N4 hw4 ho4 _ _; have HO4 := Lib.hid ho4; clear ho4))
          by_cases hck : cr - rest.length = 0
          · have hck2 : ¬ rest.length < cr := by omega
            have HS2 : Hid (kB.IsSl H (.slice (some ⟨gb, off, none⟩) (rest.length - rest.length) 0) (rest.drop rest.length)) := Lib.hid (by
              have := HSL.out.cut rest.length rest.length (by omega) (Nat.le_refl _) 0 (by omega) (by omega) (some ⟨gb, off, none⟩) (fun h => absurd h (by omega))
              rwa [List.take_of_length_le (by rw [List.length_drop]; omega)] at this)
            go_wp2
            have hlen : o.length + ((hexL rest.length).length + 2) + rest.length + 2 = (o ++ hexL rest.length ++ [13, 10] ++ rest.take rest.length ++ [13, 10]).length := by
              rw [List.length_append, List.length_append, List.length_append, List.length_append, HXL.out]; simp; omega
            have hown := HO4.out
            rw [hlen, ← ints_append, ← ints_append, ← ints_append, ← List.append_assoc] at hown
            exact ⟨⟨(some ⟨gb, off, none⟩), 0, rest.drop rest.length, A4, c4, o ++ hexL rest.length ++ [13, 10] ++ rest.take rest.length ++ [13, 10], N4, by simp only [List.length_drop, Nat.sub_self], by rw [← hlen], hw4, ⟨HCH2.out, hown, by rw [List.length_drop]; exact HS2.out, (fun h => nomatch h), by rw [List.length_drop]; omega⟩⟩, by simp only [lenOf]; omega⟩
          · have hck2 : rest.length < cr := by omega
            have HS2 : Hid (kB.IsSl H (.slice (some ⟨gb, off + rest.length, none⟩) (rest.length - rest.length) (cr - rest.length)) (rest.drop rest.length)) := Lib.hid (by
              have := HSL.out.cut rest.length rest.length (by omega) (Nat.le_refl _) (cr - rest.length) (by omega) (by omega) (some ⟨gb, off + rest.length, none⟩) (fun _ => by simp [addr_add, kB, Kd.int])
              rwa [List.take_of_length_le (by rw [List.length_drop]; omega)] at this)
            go_wp2
            have hlen : o.length + ((hexL rest.length).length + 2) + rest.length + 2 = (o ++ hexL rest.length ++ [13, 10] ++ rest.take rest.length ++ [13, 10]).length := by
              rw [List.length_append, List.length_append, List.length_append, List.length_append, HXL.out]; simp; omega
            have hown := HO4.out
            rw [hlen, ← ints_append, ← ints_append, ← ints_append, ← List.append_assoc] at hown
            exact ⟨⟨(some ⟨gb, off + rest.length, none⟩), (cr - rest.length), rest.drop rest.length, A4, c4, o ++ hexL rest.length ++ [13, 10] ++ rest.take rest.length ++ [13, 10], N4, by simp only [List.length_drop, Nat.sub_self], by rw [← hlen], hw4, ⟨HCH2.out, hown, by rw [List.length_drop]; exact HS2.out, (fun h => nomatch h), by rw [List.length_drop]; omega⟩⟩, by simp only [lenOf]; omega⟩
end
end Go.Proofs.YtgpmkiamfbbfmaaDoor
