/- Walks of the reference's slab: Get of a full one, Read. -/
import Derived.Test.YtebdgohkhadgpaaDoorRc
set_option linter.unusedVariables false
set_option linter.unusedSimpArgs false
namespace Go.Proofs.YtebdgohkhadgpaaDoor
open Go Go.RowKit
section
variable {σ w w' : World} {Hs : List Hp} {H M N Y : Hp}
set_option maxHeartbeats 4000000
theorem rget_full {g size : Nat} {held : List Bool} {bl : List (Option (Nat × List Int))} (w : World) (hw : Sat σ w Hs) (hY : Y ∈ Hs) (h : RS Y g size held bl) (hf : least held = held.length) :
    Calls Tryd.prog 18 #[.pointer (some ⟨g, 0, none⟩)] w fun e w' => e = .returned (.tuple #[.int .i64 0, .int .i64 4]) ∧ w' = w := by
  obtain ⟨Ab, Ah, cb, ch, h1, _, _⟩ := id h.ex
  have c2 := hw.cellAt hY (Hp.cell_of h1 (o := 2) rfl)
  have HR := Lib.hid (fun h0 => h.heldRow h0)
  have HG := Lib.hid h1
  have hn := h.n
  have HW := Lib.hid hw
  have HT := Lib.hid (fun q (hq : q < held.length) => before_least (held := held) (q := q) (by omega))
  clear h1 h hw hf
  go_enter Tryd.func18, Tryd.ntmps18
  go_wp2
  go_loopw [4] (fun i wr => ∃ k : Nat, k ≤ held.length ∧ i = .int .i64 k ∧ wr = w) (fun i _ => held.length - (intOf i).toNat)
  case atStart => exact ⟨0, by omega, rfl, rfl⟩
  case round =>
    obtain ⟨k, hk, rfl, _⟩ := hrel
    by_cases hlt : k < held.length
    · have hki : (k : Int) < held.length := by omega
      obtain ⟨Ab', cb', hb, ch', cur, k1, k2, k3, _⟩ := HR.out (by omega)
      rw [HG.out] at k1
      injection k1 with k1
      injection k1 with k1
      have e3 : (Value.slice Ah held.length ch) = .slice (some ⟨hb, 0, none⟩) held.length ch' := by
        have := congrArg (fun a : Array Value => a[2]?) k1
        simpa using this
      injection e3 with e3 _ e4
      subst e3; subst e4
      clear k1
      have cq := HW.out.cellAt hY (Hp.cell_of k2 (k3 k _ (HT.out k hlt)))
      clear k2 k3
      go_wp2
      go_roundw
      case measure => simp [intOf]; omega
      case rel => exact ⟨k + 1, by omega, by go_num, trivial⟩
    · obtain rfl : k = held.length := by omega
      go_wp2
      go_ret2
      exact ⟨rfl, rfl⟩
def rdL (bl : List (Option (Nat × List Int))) (b a n : Int) : List Int :=
  match bl[b.toNat]? with
  | some (some x) => (x.2.drop a.toNat).take n.toNat
  | _ => []
theorem byte_sl {b size : Nat} {xs : List Int} (hl : xs.length = size) (hs : size ≤ 65536) (hb : Y b = some (.cells (ints .u8 xs).toArray 5 (0, 0))) : kB.IsSl Y (.slice (some ⟨b, 0, none⟩) size size) xs :=
  ⟨_, _, by rw [hl], by omega, by omega, fun _ => ⟨b, 0, ints .u8 xs, rfl, reps_ints xs, fun j v hv => by unfold Hp.cell; rw [hb]; simpa using hv⟩⟩
theorem rread_any {g size : Nat} {held : List Bool} {bl : List (Option (Nat × List Int))} (b a n : Int) (w : World) (hw : Sat σ w Hs) (hY : Y ∈ Hs) (h : RS Y g size held bl) (HX : ∀ q : Nat, held[q]? = some true → ∃ x, bl[q]? = some (some x)) :
    Calls Tryd.prog 22 #[.pointer (some ⟨g, 0, none⟩), .int .i64 b, .int .i64 a, .int .i64 n] w fun e w' => ∃ v N xs, e = .returned (.tuple #[v, .int .i64 (spanE size held b a n)]) ∧ Sat σ w' (N :: Hs) ∧ kB.IsSl N v xs ∧ xs = (if spanE size held b a n = 0 then rdL bl b a n else []) := by
  have HT := Lib.hid (rthere_any b w hw hY h)
  obtain ⟨Ab, Ah, cb, ch, h1, _, _⟩ := id h.ex
  have c0 := hw.cellAt hY (Hp.cell_of h1 (o := 0) rfl)
  have HH := Lib.hid h
  have hsz := h.sz
  clear h h1
  cases hh : heldB held b
  · rw [hh] at HT
    have e : spanE size held b a n = 5 := by unfold spanE; rw [if_pos hh]
    rw [e]
    go_enter Tryd.func22, Tryd.ntmps22
    go_wp2_with fail
    refine HT.out.mono ?_
    rintro e w1 ⟨rfl, rfl⟩
    go_wp2
    go_ret2
    exact ⟨.slice none 0 0, rfl, _, hw.emp, Kd.IsSl.nil⟩
  · rw [hh] at HT
    obtain ⟨k, rfl, hk, hkt⟩ := heldB_lt hh
    by_cases g1 : a < 0
    · have e : spanE size held k a n = 2 := by unfold spanE; rw [if_neg (by simp [hh]), if_pos (by omega)]
      rw [e]
      go_enter Tryd.func22, Tryd.ntmps22
      go_wp2_with fail
      refine HT.out.mono ?_
      rintro e w1 ⟨rfl, rfl⟩
      go_wp2
      go_ret2
      exact ⟨.slice none 0 0, rfl, _, hw.emp, Kd.IsSl.nil⟩
    by_cases g2 : n < 0
    · have e : spanE size held k a n = 2 := by unfold spanE; rw [if_neg (by simp [hh]), if_pos (by omega)]
      rw [e]
      go_enter Tryd.func22, Tryd.ntmps22
      go_wp2_with fail
      refine HT.out.mono ?_
      rintro e w1 ⟨rfl, rfl⟩
      go_wp2
      go_ret2
      exact ⟨.slice none 0 0, rfl, _, hw.emp, Kd.IsSl.nil⟩
    by_cases g3 : (size : Int) < a
    · have e : spanE size held k a n = 2 := by unfold spanE; rw [if_neg (by simp [hh]), if_pos (by omega)]
      rw [e]
      go_enter Tryd.func22, Tryd.ntmps22
      go_wp2_with fail
      refine HT.out.mono ?_
      rintro e w1 ⟨rfl, rfl⟩
      go_wp2
      go_ret2
      exact ⟨.slice none 0 0, rfl, _, hw.emp, Kd.IsSl.nil⟩
    have e0 : IntKind.i64.wrap ((size : Int) - a) = (size : Int) - a := wrap_small _ (by omega) (by omega)
    by_cases g4 : (size : Int) - a < n
    · have e : spanE size held k a n = 2 := by unfold spanE; rw [if_neg (by simp [hh]), if_pos (by omega)]
      rw [e]
      go_enter Tryd.func22, Tryd.ntmps22
      go_wp2_with fail
      refine HT.out.mono ?_
      rintro e w1 ⟨rfl, rfl⟩
      go_wp2
      go_ret2
      exact ⟨.slice none 0 0, rfl, _, hw.emp, Kd.IsSl.nil⟩
    have e : spanE size held k a n = 0 := by unfold spanE; rw [if_neg (by simp [hh]), if_neg (by omega)]
    rw [e, if_pos rfl]
    obtain ⟨x, hx⟩ := HX k hkt
    obtain ⟨hl, hxb⟩ := HH.out.blk k x.1 x.2 hx
    have hrd : rdL bl k a n = (x.2.drop a.toNat).take n.toNat := by unfold rdL; rw [show ((k : Int)).toNat = k from rfl, hx]
    rw [hrd]
    obtain ⟨bb, cb', Ah', ch', cur, k1, k2, k3, _⟩ := HH.out.blkRow (by omega)
    have c1 := hw.cellAt hY (Hp.cell_of k1 (o := 1) rfl)
    have cc := hw.cellAt hY (Hp.cell_of k2 (k3 k _ hx))
    have hgl := hw.lt hY k1
    have hbl := hw.lt hY k2
    obtain ⟨a, rfl⟩ : ∃ j : Nat, a = j := ⟨a.toNat, by omega⟩
    obtain ⟨n, rfl⟩ : ∃ j : Nat, n = j := ⟨n.toNat, by omega⟩
    have e1 : IntKind.i64.wrap ((a : Int) + n) = (a : Int) + n := wrap_small _ (by omega) (by omega)
    have e2 : (0 : Int) ≤ (a : Int) + n := by omega
    have e3 : (a : Int) ≤ (a : Int) + n := by omega
    have e4 : (a : Int) + n ≤ size := by omega
    have hki : (k : Int) < held.length := by omega
    have hsl := byte_sl hl hsz hxb
    have HCUT := Lib.hid (fun (A' : Option Addr) (hA : a < a + n → A' = some (⟨x.1, a, none⟩ : Addr)) => by
      have := hsl.cut a (a + n) (by omega) (by omega) (size - a) (by omega) (by omega) A' (fun h => by rw [hA h, Option.map_some, addr_add]; simp [kB, Kd.int])
      rw [Nat.add_sub_cancel_left] at this
      exact this)
    have hxl : ((x.2.drop a).take n).length = n := by rw [List.length_take, List.length_drop]; omega
    rw [show ((a : Int)).toNat = a from rfl, show ((n : Int)).toNat = n from rfl] at *
    have HBV : bvV size (some x) = .slice (some ⟨x.1, 0, none⟩) size size := rfl
    rw [HBV] at cc
    have HSRC : Hid (∀ (A' : Option Addr) (m mc : Nat) (hm : m = n) (hmc : mc = size - a) (hA : a < a + n → A' = some (⟨x.1, a, none⟩ : Addr)) (W : World), Hp.le Y (hpOf W) → Src Tryd.prog 1 22 (.slice A' m mc) n (ints .u8 ((x.2.drop a).take n)) W) := Lib.hid (fun A' m mc hm hmc hA => by
      subst hm; subst hmc
      obtain ⟨cells, hcs, hsrc⟩ := (HCUT.out A' hA).src (P := Tryd.prog) (t := 22) Tryd.underlying22
      obtain rfl := reps_is hcs
      rw [hxl] at hsrc
      exact hsrc)
    have HN := Lib.hid hxl
    clear HCUT hxl
    generalize (x.2.drop a).take n = ys at *
    clear hh hkt hx hl hxb hrd k1 k2 k3 HX HBV hsl e
    generalize x.1 = bx at *
    by_cases hsa : a = size
    · have hn0 : n = 0 := by omega
      subst hn0
      subst hsa
      go_enter Tryd.func22, Tryd.ntmps22
      go_wp2_with fail
      refine HT.out.mono ?_
      rintro e w1 ⟨rfl, rfl⟩
      go_wp2_with (at_builtin; go_must (refine wpList_app (hw.alloc _) rfl (.tmp 40) (.tmp 52) 22 22 5 (.int .u8 0) 1 1 rfl Tryd.underlying22 (by kernel_rfl) rfl (by decide) _ _ 0 _ [] (ints .u8 ys) rfl rfl (own_lit0 _ _ _) (HSRC.out _ _ _ (by omega) (by omega) (fun h => absurd h (by omega)) _ ((hw.alloc _).has _ (by simp [hY]))) (by omega) ?_); intro A1 c1 w2 N1 hw2 ho1 _ _)
      all_goals go_ret2
      all_goals (first | exact ⟨.slice A1 _ c1, rfl, N1, hw2, ho1.isSl (d := kB) (by simpa using reps_ints ys) (by have := HN.out; omega) (Hp.le_refl _)⟩ | exact ⟨.slice A1 _ c1, N1, rfl, hw2, ho1.isSl (d := kB) (by simpa using reps_ints ys) (by have := HN.out; omega) (Hp.le_refl _)⟩ | exact ⟨.slice A1 _ c1, N1, _, rfl, hw2, by have := ho1.isSl (d := kB) (xs := ys) (H := N1) (by simpa using reps_ints ys) (by have := HN.out; omega) (Hp.le_refl _); rwa [Nat.zero_add] at this, rfl⟩)
    · have hsa2 : ¬ (size - a = 0) := by omega
      have hsa3 : a < size := by omega
      go_enter Tryd.func22, Tryd.ntmps22
      go_wp2_with fail
      refine HT.out.mono ?_
      rintro e w1 ⟨rfl, rfl⟩
      go_wp2_with (at_builtin; go_must (refine wpList_app (hw.alloc _) rfl (.tmp 40) (.tmp 52) 22 22 5 (.int .u8 0) 1 1 rfl Tryd.underlying22 (by kernel_rfl) rfl (by decide) _ _ 0 _ [] (ints .u8 ys) rfl rfl (own_lit0 _ _ _) (HSRC.out _ _ _ (by omega) (by omega) (fun _ => rfl) _ ((hw.alloc _).has _ (by simp [hY]))) (by omega) ?_); intro A1 c1 w2 N1 hw2 ho1 _ _)
      all_goals go_ret2
      all_goals (first | exact ⟨.slice A1 _ c1, rfl, N1, hw2, ho1.isSl (d := kB) (by simpa using reps_ints ys) (by have := HN.out; omega) (Hp.le_refl _)⟩ | exact ⟨.slice A1 _ c1, N1, rfl, hw2, ho1.isSl (d := kB) (by simpa using reps_ints ys) (by have := HN.out; omega) (Hp.le_refl _)⟩ | exact ⟨.slice A1 _ c1, N1, _, rfl, hw2, by have := ho1.isSl (d := kB) (xs := ys) (H := N1) (by simpa using reps_ints ys) (by have := HN.out; omega) (Hp.le_refl _); rwa [Nat.zero_add] at this, rfl⟩)
end
end Go.Proofs.YtebdgohkhadgpaaDoor
