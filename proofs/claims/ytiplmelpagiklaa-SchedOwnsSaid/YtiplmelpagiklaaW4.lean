/- Walk: SchedRecurs. -/
import Derived.Test.YtiplmelpagiklaaW3
set_option linter.unusedVariables false
set_option linter.unusedSimpArgs false
namespace Go.Proofs.Ytiplmelpagiklaa
open Go.RowKit
set_option maxHeartbeats 4000000
theorem gap_bad {xs : List Sl} {t : Int} (h : (gapR xs t).2 ≠ 0) : (gapR xs t).1 = 0 := by
  unfold gapR at h ⊢
  split
  · rename_i h1
    rw [if_pos h1] at h
    split
    · rfl
    · rename_i h2; rw [if_neg h2] at h; exact absurd rfl h
  · rfl
theorem gap_ok {xs : List Sl} {t : Int} (h : (gapR xs t).2 = 0) : chk xs = 0 ∧ 0 ≤ t ∧ 0 < (plK xs t xs.length).length ∧ gapR xs t = (gapK (plK xs t xs.length) xs.length ((plK xs t xs.length).length - 1), 0) := by
  unfold gapR at h ⊢
  split at h
  · rename_i h1
    rw [if_pos h1]
    split at h
    · simp at h
    · rename_i h2
      rw [if_neg h2]
      exact ⟨h1, by omega, by omega, rfl⟩
  · rename_i h1; exact absurd h h1
/-- Is one of the next k an own one? -/
def anyK (xs : List Sl) (t : Int) (f k : Nat) : Bool := (List.range k).any fun m => isT xs t ((f + m) % xs.length)
theorem anyK_succ (xs : List Sl) (t : Int) (f k : Nat) : anyK xs t f (k + 1) = (anyK xs t f k || isT xs t ((f + k) % xs.length)) := by
  unfold anyK
  rw [List.range_succ, List.any_append]
  simp
theorem anyK_gap {xs : List Sl} {t : Int} {g : Nat} (f : Nat) (hl : 0 < xs.length) (hp : 0 < (plK xs t xs.length).length) (hg : ∀ j, j < (plK xs t xs.length).length → nxD xs t j ≤ g) : anyK xs t f g = true := by
  obtain ⟨j, n, hj, hd, hn⟩ := isD_le (xs := xs) (t := t) (i := f % xs.length) (Nat.mod_lt _ hl) hp
  have := hg j hj
  unfold anyK
  refine List.any_eq_true.2 ⟨n, List.mem_range.2 (by omega), ?_⟩
  have h := hd.1
  rwa [Nat.mod_add_mod] at h
/-- The widest way so far. -/
structure WidP (xs : List Sl) (t : Int) (i wd : Nat) : Prop where
  ge : ∀ i' n, i' < i → IsD xs t i' n → n ≤ wd
  at_ : wd = 0 ∨ ∃ i', i' < i ∧ IsD xs t i' wd
theorem WidP.step {xs : List Sl} {t : Int} {i wd n : Nat} (h : WidP xs t i wd) (hd : IsD xs t i n) : WidP xs t (i + 1) (max wd n) := by
  refine ⟨fun i' m hi hm => ?_, ?_⟩
  · rcases Nat.lt_or_ge i' i with h1 | h1
    · have := h.ge i' m h1 hm; omega
    · obtain rfl : i' = i := by omega
      have := hm.uniq hd; omega
  · rcases Nat.le_total wd n with h1 | h1
    · exact .inr ⟨i, by omega, by rw [show max wd n = n by omega]; exact hd⟩
    · rw [show max wd n = wd by omega]
      rcases h.at_ with h2 | ⟨i', h2, h3⟩
      · exact .inl h2
      · exact .inr ⟨i', by omega, h3⟩
theorem WidP.end {xs : List Sl} {t : Int} {wd g : Nat} (h : WidP xs t xs.length wd) (hp : 0 < (plK xs t xs.length).length) (hg : ∀ j, j < (plK xs t xs.length).length → nxD xs t j ≤ g) (hj : ∃ j, j < (plK xs t xs.length).length ∧ nxD xs t j = g) (h1 : 1 ≤ g) : wd + 1 = g := by
  have hle : wd + 1 ≤ g := by
    rcases h.at_ with h2 | ⟨i', h2, h3⟩
    · omega
    · obtain ⟨j, n, hj, hd, hn⟩ := isD_le h2 hp
      have := hg j hj
      have := hd.uniq h3
      omega
  obtain ⟨j, hj, he⟩ := hj
  obtain ⟨x, hx⟩ := pl_ex (xs := xs) (t := t) hj
  obtain ⟨-, hxl⟩ := pl_get hx
  obtain ⟨-, -, hd⟩ := nxD_isD hx
  rw [he] at hd
  have : g - 1 ≤ wd := by
    rcases Nat.lt_or_ge (x + 1) xs.length with h2 | h2
    · exact h.ge (x + 1) _ h2 hd
    · refine h.ge 0 _ (by omega) ?_
      have e : x + 1 = xs.length := by omega
      rw [e] at hd
      refine ⟨?_, fun m hm => ?_⟩
      · have := hd.1; rwa [Nat.add_mod_left, ← Nat.zero_add (g - 1)] at this
      · have := hd.2 m hm; rwa [Nat.add_mod_left, ← Nat.zero_add m] at this
  omega
section
variable {σ : World} {Hs : List Hp} {H M N : Hp}
set_option maxRecDepth 10000 in
theorem recurs_law (v : Value) (xs : List Sl) (t f0 : Int) (w : World) (hw : Sat σ w Hs) (hH : H ∈ Hs) (hs : kSl.IsSl H v xs) :
    Calls Try.prog 5 #[v, .int .i64 t, .int .i64 f0] w fun e w' => e = .returned (.bool true) ∧ Sat σ w' Hs := by
  have HGA := Lib.hid (fun w' Hs' (h : Sat σ w' Hs') (hm : H ∈ Hs') => gap_any v xs t w' h hm hs)
  have HRU := Lib.hid (fun (n : Int) w' Hs' (h : Sat σ w' Hs') (hm : H ∈ Hs') => run_any v xs n w' h hm hs)
  have HS := Lib.hid hs
  obtain ⟨A, c, rfl, hc1, hc2, _⟩ := hs.form
  clear hs
  by_cases hE : (gapR xs t).2 = 0
  rotate_left
  · have hq : ((gapR xs t).2 != 0) = true := by rw [bne_iff_ne]; exact hE
    have h0 := gap_bad hE
    rw [h0] at HGA
    clear h0 hE
    go_enter Try.func5, Try.ntmps5
    go_wp2_with fail
    refine (works_any w hw).mono ?_
    rintro e w1 ⟨rfl, hw1⟩
    go_wp2_with fail
    refine (HGA.out w1 Hs hw1 hH).mono ?_
    rintro e w2 ⟨rfl, hw2⟩
    go_wp2
    go_ret
    exact ⟨rfl, hw2⟩
  obtain ⟨hc, ht, hp, hGE⟩ := gap_ok hE
  obtain ⟨hl1, hl2, -, -⟩ := chk_ok hc
  obtain ⟨g, hg0, hg1, hg2, hg3, hg4⟩ := gap_facts hp
  rw [hg0] at hGE
  rw [hGE] at HGA
  have HRI := Lib.hid (fun (i : Nat) (g1 : i ≤ 1099511627776) => run_own t hc g1)
  have HAG := Lib.hid (fun f => anyK_gap f hl2 hp hg3)
  have HWE := Lib.hid (fun wd (h : WidP xs t xs.length wd) => h.end hp hg3 hg4 hg1)
  have HD := Lib.hid (fun i (hi : i < xs.length) => (show ∃ n, n < xs.length ∧ IsD xs t i n by
    obtain ⟨j, n, hj, hd, hn⟩ := isD_le hi hp
    have := hg3 j hj
    exact ⟨n, by omega, hd⟩))
  clear hE hGE hg0 hg3 hg4 hc hp
  have hr := amongI_range f0 1073741824 (by omega)
  obtain ⟨f, hf⟩ : ∃ f : Nat, amongI f0 1073741824 = f := ⟨(amongI f0 1073741824).toNat, by omega⟩
  have hgi : (1 : Int) ≤ g := by omega
  have hd1 : decide ((g : Int) < 1) = false := decide_eq_false (by omega)
  have hd2 : decide ((xs.length : Int) < g) = false := decide_eq_false (by omega)
  have hd3 : decide (xs.length < g) = false := decide_eq_false (by omega)
  have mg : IntKind.i64.wrap ((g : Int) - 1) = (g : Int) - 1 := IntWalk.i64_in _ (by omega)
  go_enter Try.func5, Try.ntmps5
  go_wp2_with fail
  refine (works_any w hw).mono ?_
  rintro e w1 ⟨rfl, hw1⟩
  go_wp2_with fail
  refine (HGA.out w1 Hs hw1 hH).mono ?_
  rintro e w2 ⟨rfl, hw2⟩
  clear hw hw1
  go_wp2_with fail
  refine (among_any f0 1073741824 w2 (by omega) (by omega)).mono ?_
  rintro e w3 ⟨rfl, rfl⟩
  rw [hf] at hr ⊢
  clear hf
  go_wp2
  go_loopw [10, 9, 11, 12] (fun j o _ _ wr => ∃ i : Nat, i ≤ g ∧ j = .int .i64 i ∧ o = .bool (anyK xs t f i) ∧ Sat σ wr Hs) (fun j _ _ _ _ => g - (intOf j).toNat)
  case atStart => exact ⟨0, by omega, rfl, rfl, hw2⟩
  case round =>
    obtain ⟨i, hi, rfl, rfl, hwr⟩ := hrel
    clear hw2
    by_cases hib : i < g
    · have m1 : IntKind.i64.wrap ((f : Int) + (i : Int)) = ((f + i : Nat) : Int) := by rw [← Int.natCast_add]; exact IntWalk.i64_in _ (by omega)
      obtain ⟨y, hy1, hy2⟩ := HRI.out (f + i) (by omega)
      have HY := Lib.hid (HRU.out ((f + i : Nat) : Int))
      rw [hy1] at HY
      have HAS := Lib.hid (anyK_succ xs t f i)
      rw [← hy2] at HAS
      clear hy1 hy2
      generalize f + i = fi at *
      have hii : (i : Int) < g := by omega
      cases ho : anyK xs t f i
      · rw [ho, Bool.false_or] at HAS
        clear ho
        go_wp2_with fail
        refine (HY.out wr Hs hwr hH).mono ?_
        rintro e w6 ⟨rfl, hw6⟩
        go_wp2
        go_roundw
        case measure => simp [intOf]; omega
        case rel => exact ⟨i + 1, by omega, by go_num, by rw [HAS.out], hw6.alloc' _⟩
      · rw [ho, Bool.true_or] at HAS
        clear ho
        go_wp2_with fail
        refine (HY.out wr Hs hwr hH).mono ?_
        rintro e w6 ⟨rfl, hw6⟩
        go_wp2
        go_roundw
        case measure => simp [intOf]; omega
        case rel => exact ⟨i + 1, by omega, by go_num, by rw [HAS.out], hw6.alloc' _⟩
    · obtain rfl : i = g := by omega
      rw [HAG.out f]
      go_wp2
      go_loopw [14, 13, 15] (fun j o _ wi => ∃ k wd : Nat, k ≤ xs.length ∧ wd ≤ 64 ∧ j = .int .i64 k ∧ o = .int .i64 wd ∧ Sat σ wi Hs ∧ Eager (WidP xs t k wd)) (fun j _ _ _ => xs.length - (intOf j).toNat)
      case atStart => exact ⟨0, 0, by omega, by omega, rfl, rfl, hwr, ⟨⟨fun i' n h => by omega, .inl rfl⟩⟩⟩
      case round =>
        obtain ⟨k, wd, hk, hwd, rfl, rfl, hwi, hE⟩ := hrel
        obtain ⟨wo, rfl⟩ : ∃ wo : World, wo = wr := ⟨_, rfl⟩
        by_cases hkl : k < xs.length
        · obtain ⟨d, hdl, hD⟩ := HD.out k hkl
          have hD' := Lib.hid hD
          have HW2 := Lib.hid (hE.out.step hD)
          clear hD
          go_wp2
          go_loopw [15] (fun j wi => ∃ q : Nat, q ≤ d ∧ j = .int .i64 q ∧ Sat σ wi Hs) (fun j _ => d - (intOf j).toNat)
          case atStart => exact ⟨0, by omega, rfl, hwi⟩
          case round =>
            obtain ⟨q, hq, rfl, hwj⟩ := hrel
            clear hwi
            obtain ⟨r, hrd⟩ : ∃ r, (k + q) % xs.length = r := ⟨_, rfl⟩
            have hrl : r < xs.length := by rw [← hrd]; exact Nat.mod_lt _ hl2
            obtain ⟨gb, off, c', x, hx, hv, e0, e1⟩ := sl_get HS.out hrl
            injection hv with hv1 hv2 hv3
            subst hv1; subst hv3; clear hv2
            have c0 := hwj.cellAt hH e0
            have hxt : isT xs t r = decide (x.t = t) := isT_some hx
            have hmod : ((k : Int) + (q : Int)).tmod xs.length = (r : Int) := by rw [← Int.natCast_add, ← hrd]; rfl
            have mkq : IntKind.i64.wrap ((k : Int) + (q : Int)) = (k : Int) + (q : Int) := IntWalk.i64_in _ (by omega)
            have hz : ((xs.length : Int) == 0) = false := beq_eq_false_iff_ne.2 (by omega)
            have hri : (r : Int) < xs.length := by omega
            have hql : (q : Int) < xs.length := by omega
            have mq : IntKind.i64.wrap ((q : Int) + 1) = (q : Int) + 1 := IntWalk.i64_in _ (by omega)
            by_cases hqd : q < d
            · have hn := hD'.out.2 q hqd
              rw [hrd, hxt, decide_eq_false_iff_not] at hn
              have hne : (x.t != t) = true := by rw [bne_iff_ne]; exact hn
              clear hn hxt hx e0 e1 hrd
              go_wp2
              go_roundw
              case measure => simp [intOf]; omega
              case rel => exact ⟨q + 1, by omega, by go_num, hwj⟩
            · obtain rfl : q = d := by omega
              have hn := hD'.out.1
              rw [hrd, hxt, decide_eq_true_eq] at hn
              have hne : (x.t != t) = false := by rw [hn]; simp
              clear hn hxt hx e0 e1 hrd
              by_cases hm : wd < q
              · have hmi : (wd : Int) < q := by omega
                have HW3 := HW2
                rw [show max wd q = q by omega] at HW3
                go_wp2
                exact ⟨⟨k + 1, q, by omega, by omega, by go_num, by first | rfl | (congr 1; omega), hwj, ⟨HW3.out⟩⟩, by simp [intOf]; omega⟩
              · have hmi : ¬ ((wd : Int) < q) := by omega
                have HW3 := HW2
                rw [show max wd q = wd by omega] at HW3
                go_wp2
                all_goals exact ⟨⟨k + 1, wd, by omega, by omega, by go_num, by first | rfl | (congr 1; omega), hwj, ⟨HW3.out⟩⟩, by simp [intOf]; omega⟩
        · obtain rfl : k = xs.length := by omega
          have he := HWE.out wd hE.out
          have hwg : ((wd : Int) == (i : Int) - 1) = true := by rw [beq_iff_eq]; omega
          go_wp2
          go_ret
          exact ⟨rfl, hwi⟩
end
end Go.Proofs.Ytiplmelpagiklaa
